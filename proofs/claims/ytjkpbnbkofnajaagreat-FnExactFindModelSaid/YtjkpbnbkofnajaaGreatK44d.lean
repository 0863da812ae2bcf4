/-
  Texts of this claim, one behind the other, each built on those ahead of it. No condition.
-/
import Derived.Test.YtjkpbnbkofnajaaGreatK44b
import Derived.Test.YtjkpbnbkofnajaaGreatK44c
import Derived.CallsIn
import Derived.ControlIn
import Derived.OrdersIn
import Derived.TacticsIn
import Derived.RangeFuncCalls
import Derived.RangeFuncBox
import Derived.RangeFuncLeaves
import Derived.RangeFuncKeeps
import Derived.RangeFuncFrom
import Derived.Shelf.Abstract
import Derived.WalkKit
import Derived.OwnWalkIn
import Derived.TacticsInMore
import Derived.LoopNIn
import Derived.LoopIn
import Derived.Lib.BufferMore
set_option maxHeartbeats 16000000
open List renaming drop_eq_getElem_cons → zA, drop_eq_nil_of_le → zC, drop_zero → zD, getElem_mem → zG, getElem?_eq_getElem → zM, length_append → zN, length_nil → zO, length_cons → zP, append_assoc → zQ, mem_append → zS, cons_append → zZ, map_cons → z6, eq_nil_of_length_eq_zero → z7, nil_append → yB, all_eq_true → yC, length_drop → yD, replicate → yE, take_of_length_le → yG, find?_cons → yH, length_map → yI, size_toArray → yJ, map_nil → yL, getElem?_map → yO, length_take → yP, mem_cons → yQ, getElem_of_mem → yT, pairwise_cons → yY, find?_eq_none → yZ, mem_singleton → y2, pairwise_iff_getElem → y4, getElem_map → y7
open Nat renaming lt_or_ge → zB, zero_le → zJ, le_refl → zU, not_lt → yK, zero_add → yX
open Option renaming isSome_some → zE, getD_some → zH, isSome_none → zI, getD_none → zL, map_eq_some_iff → zR
open Bool renaming and_eq_true → zF, false_and → zT, false_or → zV, true_and → zW, true_or → z8, false_eq_true → yF, or_eq_false_iff → yR, or_true → yU, or_self → yV, and_false → y9, or_false → xA
open Option.some renaming inj → zK
open Array renaming getD_eq_getD_getElem? → zX, getElem?_eq_some_iff → yA, getElem?_eq_getElem → yM, replicate → yS
open Int renaming toNat_natCast → zY, lt_or_le → yN, zero_add → yW, tdiv_eq_ediv_of_nonneg → y3, le_refl → y5, toNat_zero → y8
open List.Pairwise renaming nil → y6
set_option maxRecDepth 100000
set_option linter.unusedSimpArgs false
set_option linter.unusedVariables false
set_option linter.unusedSectionVars false
namespace Go.Proofs.YtjkpbnbkofnajaaGreat
open Go.RowKit
def LB:SC:=(.seq (.reg [⟨some 4,none,.mv (.c (.int .i64 0))⟩]) (.seq (.reg [⟨some 5,none,.mv (.c (.int .i64 1))⟩]) (.seq (.seq (.reg [⟨some 6,none,.mv (.t 1)⟩,⟨some 7,none,.mv (.c (.int .i64 0))⟩]) (.block 0 (.loop [1,0,0,0,0,1,1,1,0,0,0,0,0,0] (.seq (.reg [⟨some 8,none,.bin .lss false (.t 7) (.t 6)⟩]) (.seq (.cond (.t 8) .skip (.exit 0)) (.seq (.block 1 (.reg [⟨some 9,none,.mv (.t 5)⟩,⟨some 10,none,.mv (.t 0)⟩,⟨some 11,none,.bin .mul false (.t 9) (.t 10)⟩,⟨some 5,none,.mv (.t 11)⟩])) (.reg [⟨some 12,none,.bin .add false (.t 7) (.c (.int .i64 1))⟩,⟨some 7,none,.mv (.t 12)⟩]))))))) (.seq (.reg [⟨some 13,none,.mv (.t 5)⟩,⟨some 4,none,.mv (.t 13)⟩]) .ret))))
theorem RT:Ad Tryz.prog 26=some ⟨14,LB,[(.tmp 4)]⟩:=by kernel_rfl
theorem F1:modes 26=⟨[],.asis,none,false⟩:=by unfold modes; rfl
def Ih:SC:=(.seq (.reg [⟨some 4,none,.mv (.c (.int .i64 0))⟩]) (.seq (.reg [⟨some 5,none,.mv (.c (.int .i64 1))⟩]) (.seq (.seq (.reg [⟨some 6,none,.mv (.c (.int .i64 0))⟩]) (.block 0 (.loop [1,1,0,0,0,1,1,0,0,0,0,0,0,0,0,0] (.seq (.seq (.reg [⟨some 7,none,.mv (.t 6)⟩,⟨some 8,none,.mv (.t 1)⟩,⟨some 9,none,.bin .lss false (.t 7) (.t 8)⟩]) (.cond (.t 9) .skip (.exit 0))) (.seq (.block 1 (.reg [⟨some 12,none,.mv (.t 5)⟩,⟨some 13,none,.mv (.t 0)⟩,⟨some 14,none,.bin .mul false (.t 12) (.t 13)⟩,⟨some 5,none,.mv (.t 14)⟩])) (.reg [⟨some 10,none,.mv (.t 6)⟩,⟨some 11,none,.bin .add false (.t 10) (.c (.int .i64 1))⟩,⟨some 6,none,.mv (.t 11)⟩])))))) (.seq (.reg [⟨some 15,none,.mv (.t 5)⟩,⟨some 4,none,.mv (.t 15)⟩]) .ret))))
theorem N7:Ad Tryz.prog 38=some ⟨16,Ih,[(.tmp 4)]⟩:=by kernel_rfl
theorem AL:modes 38=⟨[],.asis,none,false⟩:=by unfold modes; rfl
def Dx:SC:=(.seq (.reg [⟨some 2,none,.boxv 58 4 (.t 0)⟩,⟨some 3,none,.boxv 58 4 (.t 1)⟩,⟨some 4,none,.mv (.c (.int .i64 0))⟩]) (.seq (.dreg [[],[0],[],[2],[1,0,3,2],[],[5],[],[7],[6,5,8,7,4,1,0,3,2],[4,1,0,3,2,9,6,5,8,7],[10,4,1,0,3,2,9,6,5,8,7],[11,10,4,1,0,3,2,9,6,5,8,7]] [⟨some 5,none,.faddr 0 (.t 2)⟩,⟨some 6,none,.load false 1 (.t 5)⟩,⟨some 7,none,.faddr 0 (.t 3)⟩,⟨some 8,none,.load false 1 (.t 7)⟩,⟨some 9,none,.call 95 [(.t 6),(.t 8)]⟩,⟨some 10,none,.faddr 1 (.t 2)⟩,⟨some 11,none,.load false 1 (.t 10)⟩,⟨some 12,none,.faddr 1 (.t 3)⟩,⟨some 13,none,.load false 1 (.t 12)⟩,⟨some 14,none,.call 92 [(.t 11),(.t 13)]⟩,⟨some 15,none,.mkrow 3 1 [(.int .i64 0)] 2 [(0,(.t 9)),(1,(.t 14))]⟩,⟨some 16,none,.call 90 [(.t 15)]⟩,⟨some 4,none,.mv (.t 16)⟩]) .ret))
theorem Fg:Ad Tryz.prog 71=some ⟨17,Dx,[(.tmp 4)]⟩:=by kernel_rfl
theorem A9:modes 71=⟨[],.asis,none,false⟩:=by unfold modes; rfl
def Hv:SC:=(.seq (.reg [⟨some 2,none,.mv (.c (.bool false))⟩]) (.seq (.seq (.reg [⟨some 5,none,.mv (.t 0)⟩,⟨some 6,none,.len false (.t 5)⟩,⟨some 7,none,.mv (.c (.int .i64 0))⟩]) (.block 0 (.loop [1,0,0,0,0,1,1,1,0,0,0,0,0,0,0,0,0,0,0,0,0,0,0,0,0,0,0,0,0,0,0,0,0,0,0,0,0,0,0,0] (.seq (.reg [⟨some 8,none,.bin .lss false (.t 7) (.t 6)⟩]) (.seq (.cond (.t 8) .skip (.exit 0)) (.seq (.block 1 (.seq (.reg [⟨some 9,none,.mv (.t 7)⟩,⟨some 10,none,.iaddr 4 (.t 5) (.t 7)⟩,⟨some 11,none,.load true 4 (.t 10)⟩,⟨(some 4),none,(.alloc 58 [(.str ⟨#[]⟩),(.int .i64 0),(.bool false),.nil])⟩,⟨some 3,none,.mv (.t 9)⟩,⟨none,none,(.store 4 (.t 4) (.t 11))⟩]) (.seq (.dreg [[],[0],[1,0],[2,1,0],[3,2,1,0],[4,3,2,1,0],[5,4,3,2,1,0],[6,5,4,3,2,1,0],[7,6,5,4,3,2,1,0],[4,3,2,1,0,8,7,6,5],[9,4,3,2,1,0,8,7,6,5],[10,9,4,3,2,1,0,8,7,6,5],[11,10,9,4,3,2,1,0,8,7,6,5],[12,11,10,9,4,3,2,1,0,8,7,6,5],[13,12,11,10,9,4,3,2,1,0,8,7,6,5],[13,12,11,10,9,4,3,2,1,0,8,7,6,5],[15,13,12,11,10,9,4,3,2,1,0,8,7,6,5],[14,13,12,11,10,9,4,3,2,1,0,8,7,6,5,16,15],[17,14,13,12,11,10,9,4,3,2,1,0,8,7,6,5,16,15],[13,12,11,10,9,4,3,2,1,0,8,7,6,5],[18,17,14,13,12,11,10,9,4,3,2,1,0,8,7,6,5,16,15,19],[20,18,17,14,13,12,11,10,9,4,3,2,1,0,8,7,6,5,16,15,19],[13,12,11,10,9,4,3,2,1,0,8,7,6,5,21,20,18,17,14,16,15,19],[10,9,4,3,2,1,0,8,7,6,5,22,13,12,11,21,20,18,17,14,16,15,19]] [⟨some 12,none,.faddr 0 (.t 4)⟩,⟨some 13,none,.load false 1 (.t 12)⟩,⟨some 14,none,.call 73 [(.t 13)]⟩,⟨some 15,none,.un .not (.t 14)⟩,⟨some 16,none,.mv (.t 15)⟩,⟨(some 17),(some (16,false)),(.faddr 1 (.t 4))⟩,⟨(some 18),(some (16,false)),(.load false 1 (.t 17))⟩,⟨(some 19),(some (16,false)),(.call 46 [(.t 18),(.c (.int .i64 0)),(.c (.int .i64 3))])⟩,⟨(some 20),(some (16,false)),(.un .not (.t 19))⟩,⟨some 21,none,.pick (.t 16) (.c (.bool true)) (.t 20)⟩,⟨some 22,none,.mv (.t 21)⟩,⟨(some 23),(some (22,false)),(.mv (.t 3))⟩,⟨(some 24),(some (22,false)),(.bin .gtr false (.t 23) (.c (.int .i64 0)))⟩,⟨(some 25),(some (22,false)),(.mv (.t 24))⟩,⟨(some 26),(some (25,true)),(.mv (.t 0))⟩,⟨(some 27),(some (25,true)),(.mv (.t 3))⟩,⟨(some 28),(some (25,true)),(.bin .sub false (.t 27) (.c (.int .i64 1)))⟩,⟨(some 29),(some (25,true)),(.iaddr 4 (.t 26) (.t 28))⟩,⟨(some 30),(some (25,true)),(.load true 4 (.t 29))⟩,⟨(some 31),(some (25,true)),(.load true 4 (.t 4))⟩,⟨(some 32),(some (25,true)),(.call 71 [(.t 30),(.t 31)])⟩,⟨(some 33),(some (25,true)),(.bin .geq false (.t 32) (.c (.int .i64 0)))⟩,⟨(some 34),(some (22,false)),(.pick (.t 25) (.t 33) (.c (.bool false)))⟩,⟨some 35,none,.pick (.t 22) (.c (.bool true)) (.t 34)⟩]) (.cond (.t 35) (.seq (.reg [⟨some 2,none,.mv (.c (.bool false))⟩]) .ret) .skip)))) (.reg [⟨some 36,none,.bin .add false (.t 7) (.c (.int .i64 1))⟩,⟨some 7,none,.mv (.t 36)⟩]))))))) (.seq (.reg [⟨some 37,none,.mv (.t 0)⟩,⟨some 38,none,.len false (.t 37)⟩,⟨some 39,none,.bin .leq false (.t 38) (.c (.int .i64 12))⟩,⟨some 2,none,.mv (.t 39)⟩]) .ret)))
theorem M8:Ad Tryz.prog 45=some ⟨40,Hv,[(.tmp 2)]⟩:=by kernel_rfl
theorem D6:modes 45=⟨[],.asis,none,false⟩:=by unfold modes; rfl
def Dy:SC:=(.seq (.reg [⟨some 2,none,.boxv 58 4 (.t 0)⟩,⟨some 4,none,.mv (.c (.int .i64 0))⟩]) (.seq (.seq (.reg [⟨some 5,none,.faddr 2 (.t 2)⟩,⟨some 6,none,.load false 1 (.t 5)⟩]) (.cond (.t 6) (.seq (.reg [⟨some 4,none,.mv (.c (.int .i64 2))⟩]) .ret) .skip)) (.seq (.reg [⟨some 7,none,.mv (.t 1)⟩,⟨some 4,none,.mv (.t 7)⟩]) .ret)))
theorem Fh:Ad Tryz.prog 47=some ⟨8,Dy,[(.tmp 4)]⟩:=by kernel_rfl
theorem BW:modes 47=⟨[],.asis,none,false⟩:=by unfold modes; rfl
def BK:SC:=(.seq (.reg [⟨some 4,none,.mv (.c (.int .i64 0))⟩]) (.seq (.seq (.reg [⟨some 6,none,.mv (.t 0)⟩,⟨some 7,none,.len false (.t 6)⟩,⟨some 8,none,.mv (.c (.int .i64 0))⟩]) (.block 0 (.loop [1,1,0,0,0,0,0,1,1,0,0,0,0,0,0,0,0,0,0] (.seq (.reg [⟨some 9,none,.bin .lss false (.t 8) (.t 7)⟩]) (.seq (.cond (.t 9) .skip (.exit 0)) (.seq (.block 1 (.seq (.reg [⟨some 10,none,.mv (.t 8)⟩,⟨some 5,none,.mv (.t 10)⟩]) (.seq (.reg [⟨some 11,none,.mv (.t 1)⟩,⟨some 12,none,.mv (.t 0)⟩,⟨some 13,none,.mv (.t 5)⟩,⟨some 14,none,.iaddr 4 (.t 12) (.t 13)⟩,⟨some 15,none,.load true 4 (.t 14)⟩,⟨some 16,none,.callv (.t 11) [(.t 15)]⟩]) (.cond (.t 16) (.seq (.reg [⟨some 17,none,.mv (.t 5)⟩,⟨some 4,none,.mv (.t 17)⟩]) .ret) .skip)))) (.reg [⟨some 18,none,.bin .add false (.t 8) (.c (.int .i64 1))⟩,⟨some 8,none,.mv (.t 18)⟩]))))))) (.seq (.reg [⟨some 4,none,.mv (.c (.int .i64 (-(0+1))))⟩]) .ret)))
theorem Dd:Ad Tryz.prog 145=some ⟨19,BK,[(.tmp 4)]⟩:=by kernel_rfl
theorem AX:modes 145=⟨[],.asis,none,false⟩:=by unfold modes; rfl
theorem TD (x lo hi:Int):E 46 [.int .i64 x,.int .i64 lo,.int .i64 hi] []=some (.bool (inI x lo hi),[]):=by
 unfold inI
 cases h:dec (lo≤x) with
 | false =>
  rw [zT]
  refine Ab Kf BB (of_decide_eq_true rfl) ?_
  simp (disch:=omega) only [GM,go_sem,Aa,h]
 | true =>
  rw [zW]
  refine Ab Kf BB (of_decide_eq_true rfl) ?_
  simp (disch:=omega) only [GM,go_sem,Aa,h]
theorem Qc6 (x lo hi:Int):E 15 [.int .i64 x,.int .i64 lo,.int .i64 hi] []=some (.bool (inI x lo hi),[]):=by
 unfold inI
 cases h:dec (lo≤x) with
 | false =>
  rw [zT]
  refine Ab Nt Ff (of_decide_eq_true rfl) ?_
  simp (disch:=omega) only [Jb,go_sem,Aa,h]
 | true =>
  rw [zW]
  refine Ab Nt Ff (of_decide_eq_true rfl) ?_
  simp (disch:=omega) only [Jb,go_sem,Aa,h]
theorem RU (b k:Int) (h1:1≤b) (h3:b≤3) (h0:0≤k) (hk:k≤12):E 26 [.int .i64 b,.int .i64 k] []=some (.int .i64 (pw b k.toNat),[]):=by
 refine Ab RT F1 (of_decide_eq_true rfl) ?_
 simp (disch:=omega) only [LB,go_sem,Aa]
 refine go_loop (α:=Int) (fun i=>⟨slots 14 0 [(0,.int .i64 b),(5,.int .i64 (pw b i.toNat)),(6,.int .i64 k),(7,.int .i64 i)],[]⟩) (fun i=>0≤i∧i≤k) (fun i=>(k-i).toNat) 0 ⟨y5 0,h0⟩ (by simp (disch:=omega) only [go_sem,Aa,y8,pw]) ?_
 rintro i ⟨hi0,hi1⟩
 rcases yN i k with hlt | hge
 ·have hn:(i+1).toNat=i.toNat+1:=by omega
  have hp:=DJ h1 h3 (k:=i.toNat+1) (by omega)
  rw [pw] at hp
  simp (disch:=omega) only [go_sem,Aa]
  refine ⟨i+1,⟨by omega,by omega⟩,by omega,?_⟩
  simp only [hn,pw,and_self]
 ·obtain rfl:i=k:=by omega
  simp (disch:=omega) only [go_sem,Aa]
theorem KH (b k:Int) (h1:1≤b) (h3:b≤3) (h0:0≤k) (hk:k≤12):E 38 [.int .i64 b,.int .i64 k] []=some (.int .i64 (pw b k.toNat),[]):=by
 refine Ab N7 AL (of_decide_eq_true rfl) ?_
 simp (disch:=omega) only [Ih,go_sem,Aa]
 refine go_loop (α:=Int) (fun i=>⟨slots 16 0 [(0,.int .i64 b),(1,.int .i64 k),(5,.int .i64 (pw b i.toNat)),(6,.int .i64 i)],[]⟩) (fun i=>0≤i∧i≤k) (fun i=>(k-i).toNat) 0 ⟨y5 0,h0⟩ (by simp (disch:=omega) only [go_sem,Aa,y8,pw]) ?_
 rintro i ⟨hi0,hi1⟩
 rcases yN i k with hlt | hge
 ·have hn:(i+1).toNat=i.toNat+1:=by omega
  have hp:=DJ h1 h3 (k:=i.toNat+1) (by omega)
  rw [pw] at hp
  simp (disch:=omega) only [go_sem,Aa]
  refine ⟨i+1,⟨by omega,by omega⟩,by omega,?_⟩
  simp only [hn,pw,and_self]
 ·obtain rfl:i=k:=by omega
  simp (disch:=omega) only [go_sem,Aa]
theorem N8 (x y:Tl):E 71 [x.sv,y.sv] []=some (.int .i64 (orZ (F0 x.name y.name) (Hm x.arity y.arity)),[]):=by
 have h1:=KE x.name y.name
 have h2:=HT x.arity y.arity
 have h3:=Wi (F0 x.name y.name) (Hm x.arity y.arity)
 refine Ab Fg A9 (of_decide_eq_true rfl) ?_
 simp (disch:=omega) only [Dx,go_sem,Aa,h1,h2,h3,Bh,Br,D1]
theorem X9 (x y:Tl):Bi x y=dec (orZ (F0 x.name y.name) (Hm x.arity y.arity)<0):=by
 unfold Bi F0
 cases h1:strLt x.name y.name with
 | true =>
  rw [z8,cond_true,orZ,if_neg (by omega)]
  exact (Ay (by omega)).symm
 | false =>
  rw [zV,cond_false]
  cases h2:dec (x.name=y.name) with
  | false =>
   rw [zT,cond_false,orZ,if_neg (by omega)]
   exact (Aw (by omega)).symm
  | true =>
   rw [zW,cond_true,orZ,if_pos rfl,Hm]
   cases h3:dec (x.arity<y.arity) with
   | true=>rw [cond_true]; exact (Ay (by omega)).symm
   | false =>
    rw [cond_false]
    cases dec (y.arity<x.arity) with
    | true=>rw [cond_true]; exact (Aw (by omega)).symm
    | false=>rw [cond_false]; exact (Aw (by omega)).symm
theorem TE (xs:List Tl) (hl:xs.length≤1099511627776):E 45 [.arr (xs.map Tl.d)] []=some (.bool (Dj xs),[]):=by
 refine Ab M8 D6 (of_decide_eq_true rfl) ?_
 simp (disch:=omega) only [Hv,go_sem,Aa]
 refine go_loop (α:=Int) (fun a=>⟨slots 40 0 [(0,.arr (xs.map Tl.d)),(5,.arr (xs.map Tl.d)),(6,.int .i64 xs.length),(7,.int .i64 a)],[]⟩) (fun a=>∃ k:Nat,a=k∧k≤(xs).length∧FS (Tw xs) k=true) (fun a=>(xs).length-(a).toNat) 0 ⟨0,rfl,zJ _,by rw [FS]⟩ (by simp (disch:=omega) only [go_sem,Aa]) ?_
 rintro i ⟨k,hi,hk,hR⟩
 have hni:i.toNat=k:=by omega
 have hni1:(i+1).toNat=k+1:=by omega
 rcases zB k (xs).length with hlt | hge
 ·have hg:=get_at Tl.d hlt
  rw [Tl.d_eq] at hg
  have hs:=K7 xs[k].name
  have hw:=TD xs[k].arity 0 3
  have no:Tw xs k=false→Dj xs=false:=fun h=>by unfold Dj; rw [Ze h hlt,zT]
  cases ha:CN xs[k].name with
  | false =>
   rw [ha] at hs
   rw [no (by cases k with | zero=>rw [EJ hlt,ha,zT] | succ j=>rw [D2 hlt,ha,zT])]
   simp (disch:=omega) only [go_sem,Aa,hni,hg,hs,hw,A6,BB,A9]
  | true =>
   rw [ha] at hs
   cases hb:inI xs[k].arity 0 3 with
   | false =>
    rw [hb] at hw
    rw [no (by cases k with | zero=>rw [EJ hlt,hb,y9] | succ j=>rw [D2 hlt,hb,zT,y9])]
    simp (disch:=omega) only [go_sem,Aa,hni,hg,hs,hw,A6,BB,A9]
   | true =>
    rw [hb] at hw
    cases k with
    | zero =>
     obtain rfl:i=0:=hi
     simp (disch:=omega) only [go_sem,Aa,hni,hg,hs,hw,A6,BB,A9]
     exact ⟨1,⟨1,rfl,hlt,by rw [FS,hR,EJ hlt,ha,hb]; rfl⟩,by omega,by first | trivial | rfl⟩
    | succ j =>
     have hj:j<xs.length:=by omega
     have hg2:=get_at Tl.d hj
     rw [Tl.d_eq] at hg2
     have hni2:(i-1).toNat=j:=by omega
     have hc:=N8 xs[j] xs[j+1]
     have hk2:=X9 xs[j] xs[j+1]
     generalize orZ (F0 xs[j].name xs[j+1].name) (Hm xs[j].arity xs[j+1].arity)=cz at *
     rcases yN cz 0 with hq | hq
     ·simp (disch:=omega) only [go_sem,Aa,hni,hg,hs,hw,A6,BB,A9,hni2,hg2,hc]
      exact ⟨i+1,⟨j+1+1,by omega,hlt,by rw [FS,hR,D2 hlt,ha,hb,hk2,Ay hq]; rfl⟩,by omega,by first | trivial | rfl⟩
     ·rw [no (by rw [D2 hlt,ha,hb,hk2,Aw (by omega)]; rfl)]
      simp (disch:=omega) only [go_sem,Aa,hni,hg,hs,hw,A6,BB,A9,hni2,hg2,hc]
 ·obtain rfl:k=xs.length:=by omega
  simp (disch:=omega) only [go_sem,Aa,hni]
  unfold Dj
  rw [hR,zW,Kw]
  exact decide_eq_decide.2 (by omega)
theorem QW (t:Tl) (sz:Int):E 47 [t.sv,.int .i64 sz] []=some (.int .i64 (kinds sz t),[]):=by
 unfold kinds
 cases h:t.pred with
 | false =>
  refine Ab Fh BW (of_decide_eq_true rfl) ?_
  simp (disch:=omega) only [Dy,go_sem,Aa,h]
  try rfl
 | true =>
  refine Ab Fh BW (of_decide_eq_true rfl) ?_
  simp (disch:=omega) only [Dy,go_sem,Aa,h]
  try rfl
noncomputable def XA (a b:Tl):Int:=orZ (F0 a.name b.name) (Hm a.arity b.arity)
theorem TF (x y:Tl):dec (XA x y<0)=Bi x y:=by
 symm
 unfold XA Bi F0
 cases h1:strLt x.name y.name with
 | true =>
  rw [z8,cond_true,orZ,if_neg (by omega)]
  exact (Ay (by omega)).symm
 | false =>
  rw [zV,cond_false]
  cases h2:dec (x.name=y.name) with
  | false =>
   rw [zT,cond_false,orZ,if_neg (by omega)]
   exact (Aw (by omega)).symm
  | true =>
   rw [zW,cond_true,orZ,if_pos rfl,Hm]
   cases h3:dec (x.arity<y.arity) with
   | true=>rw [cond_true]; exact (Ay (by omega)).symm
   | false =>
    rw [cond_false]
    cases dec (y.arity<x.arity) with
    | true=>rw [cond_true]; exact (Aw (by omega)).symm
    | false=>rw [cond_false]; exact (Aw (by omega)).symm
theorem XB (x y:Tl):dec (XA x y=0)=C0 x y:=by
 unfold XA C0 F0
 cases h1:strLt x.name y.name with
 | true =>
  rw [cond_true,orZ,if_neg (by omega),Aw (OV h1),zT]
  exact Aw (by omega)
 | false =>
  rw [cond_false]
  cases h2:dec (x.name=y.name) with
  | false =>
   rw [cond_false,orZ,if_neg (by omega),zT]
   exact Aw (by omega)
  | true =>
   rw [cond_true,orZ,if_pos rfl,zW,Hm]
   cases h3:dec (x.arity<y.arity) with
   | true =>
    have:=Af.1 h3
    rw [cond_true,Aw (p:=x.arity=y.arity) (by omega)]
    exact Aw (by omega)
   | false =>
    have:=Be.1 h3
    rw [cond_false]
    cases h4:dec (y.arity<x.arity) with
    | true =>
     have:=Af.1 h4
     rw [cond_true,Aw (p:=x.arity=y.arity) (by omega)]
     exact Aw (by omega)
    | false =>
     have:=Be.1 h4
     rw [cond_false,Ay (p:=x.arity=y.arity) (by omega)]
     exact Ay rfl
abbrev upT (ts:List Tl):Prop:=ts.Pairwise fun a b=>Bi a b=true
theorem TG (x:Tl):∀ {ts:List Tl},upT ts→∀ {m:Nat} (h:m<ts.length),(Bi ts[m] x=true ↔ m<A7 ts x)
 | [],_,m,h=>absurd h (by simp)
 | t :: ts,hs,m,h=>by
  obtain ⟨h1,h2⟩:=yY.1 hs
  rw [A7]
  cases hk:Bi t x with
  | true =>
   rw [if_pos rfl]
   cases m with
   | zero=>simp [hk]
   | succ m =>
    rw [List.getElem_cons_succ,TG x h2 (by simpa using h)]
    omega
  | false =>
   rw [if_neg (by simp)]
   cases m with
   | zero=>simp [hk]
   | succ m =>
    rw [List.getElem_cons_succ]
    constructor
    ·intro h3
     rw [L9 (h1 _ (zG (by simpa using h))) h3] at hk
     cases hk
    ·intro h3; omega
noncomputable def HY (ts:List Tl) (x:Tl):Bool:=match ts[A7 ts x]? with
 | none=>false
 | some t=>C0 t x
theorem Pj (x:Tl):∀ {ts:List Tl},upT ts→ts.find? (fun t=>C0 t x)=bif HY ts x then ts[A7 ts x]? else none
 | [],_=>rfl
 | t :: ts,hs=>by
  obtain ⟨h1,h2⟩:=yY.1 hs
  cases hk:Bi t x with
  | true =>
   have hq:C0 t x=false:=by
    cases h:C0 t x with
    | false=>rfl
    | true=>exact (EN hk h).elim
   have e:A7 (t :: ts) x=A7 ts x+1:=by rw [A7,if_pos hk]
   have e2:HY (t :: ts) x=HY ts x:=by unfold HY; rw [e,List.getElem?_cons_succ]
   rw [yH,hq,e2,e,List.getElem?_cons_succ]
   exact Pj x h2
  | false =>
   have e:A7 (t :: ts) x=0:=by rw [A7,if_neg (by rw [hk]; simp)]
   have e2:HY (t :: ts) x=C0 t x:=by unfold HY; rw [e]; rfl
   rw [yH,e2,e]
   cases hq:C0 t x with
   | true=>rfl
   | false =>
    rw [cond_false]
    refine yZ.2 fun y hy hc=>?_
    have hx:=L9 (QT hk hq) (h1 y hy)
    have h3:=Db.1 hc
    exact EN hx (Db.2 ⟨h3.1.symm,h3.2.symm⟩)
theorem RV {ts:List Tl} {x:Tl} (h:HY ts x=true):A7 ts x<ts.length:=by
 rcases zB (A7 ts x) ts.length with h1 | h1
 ·exact h1
 ·unfold HY at h; rw [List.getElem?_eq_none h1] at h; cases h
theorem QX {a:List Tl} {b:Bool} {x:Tl} (hs:upT a) (h:HY a x=true) (hlt:A7 a x<a.length):Dw (a,b) x=(a,b || (dec (3<x.arity) || !((a[A7 a x]).pred == x.pred))):=by
 unfold Dw
 rw [show (a,b).1=a from rfl,Pj x hs,h,cond_true,zM hlt]
theorem QY {a:List Tl} {b:Bool} {x:Tl} (hs:upT a) (h:HY a x=false):Dw (a,b) x=(CX a x,b || dec (3<x.arity)):=by
 unfold Dw
 rw [show (a,b).1=a from rfl,Pj x hs,h,cond_false]
theorem TH {s:List Tl × Bool} (hs:upT s.1) (x:Tl):upT (Dw s x).1:=by
 unfold Dw
 cases hf:s.1.find? (fun t=>C0 t x) with
 | some t=>exact hs
 | none=>exact RS x s.1 hs fun t ht=>by have:=yZ.1 hf t ht; simpa using this
theorem QZ (s:List Tl × Bool) (x:Tl):s.1.length≤(Dw s x).1.length∧(Dw s x).1.length≤s.1.length+1:=by
 unfold Dw
 cases hf:s.1.find? (fun t=>C0 t x) with
 | some t=>exact ⟨zU _,Nat.le_succ _⟩
 | none=>simp only [Ja]; omega
theorem LC:∀ (S:List Tl) {s:List Tl × Bool},upT s.1→upT (AO s S).1
 | [],s,h=>h
 | x :: S,s,h=>LC S (TH h x)
theorem JF:∀ (S:List Tl) (s:List Tl × Bool),s.1.length≤(AO s S).1.length∧(AO s S).1.length≤s.1.length+S.length
 | [],s=>⟨zU _,zU _⟩
 | x :: S,s=>by
  have h1:=QZ s x
  have h2:=JF S (Dw s x)
  have e:AO s (x :: S)=AO (Dw s x) S:=rfl
  rw [e,zP]
  omega
mutual
theorem Tm.NU:∀ (x:Tm) (p:Bool),(x.sgI p).length≤x.nodes
 | .mk n args,p=>by
  have h:=Tm.TI args
  rw [Tm.sgI,zN,Tm.nodes]
  cases (dec (n=⟨#[61]⟩) || AI n) <;> simp only [cond_true,cond_false,zO,zP] <;> omega
theorem Tm.TI:∀ xs:List Tm,(Tm.Hu xs).length≤Tm.AE xs
 | []=>zU _
 | x :: xs=>by
  have h1:=Tm.NU x false
  have h2:=Tm.TI xs
  rw [Tm.Hu,zN,Tm.AE]
  omega
end
theorem Tm.RW {x y:Tm} (h:x.cok=true) (hy:y∈x.args):y.cok=true:=by
 rw [Tm.M0,zF] at h
 have key:∀ xs:List Tm,Tm.RF xs=true→y∈xs→y.cok=true:=by
  intro xs
  induction xs with
  | nil=>intro _ h; cases h
  | cons z zs ih =>
   intro hh hm
   rw [Tm.RF,zF] at hh
   rcases yQ.1 hm with rfl | hm
   ·exact hh.1
   ·exact ih hh.2 hm
 exact key _ h.2 hy
theorem AP:GQ Tryz.prog 71=true:=by kernel_rfl
def AM:SC:=(.seq (.reg [⟨some 4,none,.boxv 58 4 (.t 1)⟩,⟨some 6,none,.mv (.c (.int .i64 0))⟩,⟨some 7,none,.mv (.c (.bool false))⟩]) (.seq (.reg [⟨some 12,none,.mv (.t 0)⟩,⟨some 13,none,.len false (.t 12)⟩,⟨some 8,none,.mv (.t 13)⟩]) (.seq (.reg [⟨some 14,none,.mv (.t 8)⟩,⟨some 9,none,.mv (.c (.int .i64 0))⟩,⟨some 10,none,.mv (.t 14)⟩]) (.seq (.block 0 (.loop [1,0,1,0,1,0,0,0,1,1,1,0,0,0,0,0,0,0,0,0,0,0,0,0,0,0,0,0,0,0,0,0,0,0,0,0,0,0,0,0,0,0,0,0,0,0,0,0,0] (.seq (.seq (.reg [⟨some 15,none,.mv (.t 9)⟩,⟨some 16,none,.mv (.t 10)⟩,⟨some 17,none,.bin .lss false (.t 15) (.t 16)⟩]) (.cond (.t 17) .skip (.exit 0))) (.block 1 (.seq (.reg [⟨some 18,none,.mv (.t 9)⟩,⟨some 19,none,.mv (.t 10)⟩,⟨some 20,none,.bin .add false (.t 18) (.t 19)⟩,⟨some 21,none,.conv .u64 (.t 20)⟩,⟨some 22,none,.bin .shr false (.t 21) (.c (.int .u64 1))⟩,⟨some 23,none,.conv .i64 (.t 22)⟩,⟨some 11,none,.mv (.t 23)⟩]) (.seq (.dreg [[],[],[],[1,2],[3,1,2],[],[0,4,3,1,2,5],[6,0,4,3,1,2,5]] [⟨some 24,none,.mv (.t 2)⟩,⟨some 25,none,.mv (.t 0)⟩,⟨some 26,none,.mv (.t 11)⟩,⟨some 27,none,.iaddr 4 (.t 25) (.t 26)⟩,⟨some 28,none,.load true 4 (.t 27)⟩,⟨some 29,none,.load true 4 (.t 4)⟩,⟨some 30,none,.callv (.t 24) [(.t 28),(.t 29)]⟩,⟨some 31,none,.bin .lss false (.t 30) (.c (.int .i64 0))⟩]) (.cond (.t 31) (.reg [⟨some 32,none,.mv (.t 11)⟩,⟨some 33,none,.bin .add false (.t 32) (.c (.int .i64 1))⟩,⟨some 9,none,.mv (.t 33)⟩]) (.reg [⟨some 34,none,.mv (.t 11)⟩,⟨some 10,none,.mv (.t 34)⟩])))))))) (.seq (.dreg [[],[],[],[1,2],[3,1,2],[4,3,1,2],[4,3,1,2],[4,3,1,2],[6,4,3,1,2,7],[8,6,4,3,1,2,7],[4,3,1,2],[5,4,3,1,2,9,8,6,7,10],[11,5,4,3,1,2,9,8,6,7,10],[4,3,1,2,12,11,5,9,8,6,7,10],[0,11,5,4,3,1,2,9,8,6,7,10],[13,4,3,1,2,12,11,5,9,8,6,7,10,14,0]] [⟨some 35,none,.mv (.t 9)⟩,⟨some 36,none,.mv (.t 9)⟩,⟨some 37,none,.mv (.t 8)⟩,⟨some 38,none,.bin .lss false (.t 36) (.t 37)⟩,⟨some 39,none,.mv (.t 38)⟩,⟨(some 40),(some (39,true)),(.mv (.t 2))⟩,⟨(some 41),(some (39,true)),(.mv (.t 0))⟩,⟨(some 42),(some (39,true)),(.mv (.t 9))⟩,⟨(some 43),(some (39,true)),(.iaddr 4 (.t 41) (.t 42))⟩,⟨(some 44),(some (39,true)),(.load true 4 (.t 43))⟩,⟨(some 45),(some (39,true)),(.load true 4 (.t 4))⟩,⟨(some 46),(some (39,true)),(.callv (.t 40) [(.t 44),(.t 45)])⟩,⟨(some 47),(some (39,true)),(.bin .eql false (.t 46) (.c (.int .i64 0)))⟩,⟨some 48,none,.pick (.t 39) (.t 47) (.c (.bool false))⟩,⟨some 6,none,.mv (.t 35)⟩,⟨some 7,none,.mv (.t 48)⟩]) .ret)))))
theorem BO:Ad Tryz.prog 70=some ⟨49,AM,[(.tmp 6),(.tmp 7)]⟩:=by kernel_rfl
theorem Ah:modes 70=⟨[],.asis,none,false⟩:=by unfold modes; rfl
theorem Pk (t x:Tl):E 71 [.agg [.str t.name,.int .i64 t.arity,.bool t.pred,.arr (t.vals.map fun n=>[D.int n])],.agg [.str x.name,.int .i64 x.arity,.bool x.pred,.arr []]] []=some (.int .i64 (XA t x),[]):=by
 have h1:=KE t.name x.name
 have h2:=HT t.arity x.arity
 have h3:=Wi (F0 t.name x.name) (Hm t.arity x.arity)
 unfold XA
 refine Ab Fg A9 (of_decide_eq_true rfl) ?_
 simp (disch:=omega) only [Dx,go_sem,Aa,h1,h2,h3,Bh,Br,D1]
theorem Tl.getD {ts:List Tl} {m:Nat} (h:m<ts.length):(ts.map Tl.d)[m]?=some [D.str ts[m].name,D.int ts[m].arity,D.bool ts[m].pred,D.arr (ts[m].vals.map fun n=>[D.int n])]:=by
 rw [yO,zM h,Option.map_some,Tl.d_eq]
theorem Tl.QcZ {ts:List Tl} {m:Nat} (h:m<ts.length):(ts.map Tl.o)[m]?=some [OT.str ts[m].name,OT.int ts[m].arity,OT.bool ts[m].pred,OT.ow (ts[m].vals.map fun n=>[OT.int n])]:=by
 rw [yO,zM h,Option.map_some,Tl.o_eq]
theorem QbE (ts:List Tl) (x:Tl) (hl:ts.length≤1099511627776) (hs:upT ts):E 70 [.arr (ts.map Tl.d),.agg [.str x.name,.int .i64 x.arity,.bool x.pred,.arr []],.fn 71 []] []=some (.tup [.int .i64 (A7 ts x:Nat),.bool (HY ts x)],[]):=by
 have hlow:=LA x ts
 obtain ⟨L,hL⟩:∃ L:Int,L=(A7 ts x:Nat):=⟨_,rfl⟩
 rw [←hL]
 refine Ab BO Ah (of_decide_eq_true rfl) ?_
 simp (disch:=omega) only [AM,go_sem,Aa]
 refine go_loop (α:=Int × Int) (fun a=>⟨slots 49 0 [(0,.arr (ts.map Tl.d)),(2,.fn 71 []),(4,.ptr 0 0),(8,.int .i64 ts.length),(9,.int .i64 a.1),(10,.int .i64 a.2)],[.box 58 [.str x.name,.int .i64 x.arity,.bool x.pred,.arr []]]⟩) (fun a=>0≤a.1∧a.1≤L∧L≤a.2∧a.2≤ts.length) (fun a=>(a.2-a.1).toNat) (0,ts.length) ⟨by simp,by dsimp only; omega,by dsimp only; omega,by dsimp only; omega⟩ (by simp (disch:=omega) only [go_sem,Aa]) ?_
 rintro ⟨i,j⟩ ⟨h0,h1,h2,h3⟩
 dsimp only at h0 h1 h2 h3
 rcases yN i j with hij | hij
 ·obtain ⟨m,hm⟩:∃ m:Nat,(i+j) / 2=(m:Int):=⟨((i+j) / 2).toNat,by omega⟩
  have hlt:m<ts.length:=by omega
  have hg:=Tl.getD hlt
  have hc:=Pk ts[m] x
  have hw:IntKind.u64.wrap (i+j)=i+j:=wrap_u64 (by omega) (by omega)
  have hi:=TG x hs hlt
  obtain ⟨M,hM⟩:∃ M:Int,(i+j) / 2=M:=⟨_,rfl⟩
  have hni:M.toNat=m:=by omega
  cases hq:Bi ts[m] x with
  | true =>
   have hi2:=hi.1 hq
   simp (disch:=omega) only [go_sem,Aa,hw,hni,hg,hc,AP,A9,TF,hq,hM]
   exact ⟨(M+1,j),⟨by dsimp only; omega,by dsimp only; omega,by dsimp only; omega,by dsimp only; omega⟩,by dsimp only; omega,by first | trivial | rfl⟩
  | false =>
   have hi2:¬ m<A7 ts x:=by rw [←hi,hq]; simp
   simp (disch:=omega) only [go_sem,Aa,hw,hni,hg,hc,AP,A9,TF,hq,hM]
   exact ⟨(i,M),⟨by dsimp only; omega,by dsimp only; omega,by dsimp only; omega,by dsimp only; omega⟩,by dsimp only; omega,by first | trivial | rfl⟩
 ·obtain rfl:i=L:=by omega
  rcases zB (A7 ts x) ts.length with hlt | hge
  ·have hg:=Tl.getD hlt
   have hni:i.toNat=A7 ts x:=by omega
   have hc:=Pk ts[A7 ts x] x
   have hh:HY ts x=C0 ts[A7 ts x] x:=by unfold HY; rw [zM hlt]
   rw [hh]
   simp (disch:=omega) only [go_sem,Aa,hni,hg,hc,AP,A9,XB]
  ·have hh:HY ts x=false:=by unfold HY; rw [List.getElem?_eq_none hge]
   rw [hh]
   simp (disch:=omega) only [go_sem,Aa]
theorem Ap:modes 72=⟨[true,false,true],.asis,some Tg,false⟩:=by unfold modes; rfl
theorem Zy (a:List Tl) (n:ByteArray) (ar:Int) (p:Bool) (hl:a.length≤1048576):E 72 [.ref 0,.int .i64 (A7 a ⟨n,ar,p,[]⟩:Nat),.ref 1] [.row 58 4 (a.map Tl.o),.row 58 4 [[.str n,.int ar,.bool p,.ow []]]]=some (.ref 2,[.gone,.gone,.row 58 4 ((CX a ⟨n,ar,p,[]⟩).map Tl.o)]):=by
 rw [OI (g:=Tg) (congrArg FM.ext Ap)]
 unfold Tg
 simp only
 have h:=LA ⟨n,ar,p,[]⟩ a
 have e:(⟨n,ar,p,[]⟩:Tl).o=[OT.str n,OT.int ar,OT.bool p,OT.ow []]:=by rw [Tl.o_eq]; rfl
 rw [Ay ⟨by trivial,by trivial,by trivial,by omega,by rw [yI]; omega,by rw [yI]; exact hl⟩,cond_true,zY]
 unfold CX
 rw [List.map_append,z6,List.map_take,List.map_drop,e]
theorem Qc7 (n:ByteArray) (ar:Int) (p:Bool):E 72 [.nil,.int .i64 0,.ref 0] [.row 58 4 [[.str n,.int ar,.bool p,.ow []]]]=some (.ref 1,[.gone,.row 58 4 [[.str n,.int ar,.bool p,.ow []]]]):=by
 rw [OI (g:=Tg) (congrArg FM.ext Ap)]
 unfold Tg
 simp only
 rw [Ay ⟨by trivial,by trivial⟩,cond_true]
theorem Tl.ful:∀ ts:List Tl,OT.A2 (ts.map Tl.o)=true
 | []=>rfl
 | x :: xs=>by
  have h:∀ l:List Int,OT.A2 (l.map fun n=>[OT.int n])=true:=by
   intro l
   induction l with
   | nil=>rfl
   | cons y l ih=>simp [OT.A2,OT.CQ,OT.full,ih]
  rw [z6,Tl.o_eq]; simp [OT.A2,OT.CQ,OT.full,h,Tl.ful xs]
theorem Tl.ers:∀ ts:List Tl,OT.erss (ts.map Tl.o)=ts.map Tl.d
 | []=>rfl
 | x :: xs=>by
  have h:∀ l:List Int,OT.erss (l.map fun n=>[OT.int n])=l.map fun n=>[D.int n]:=by
   intro l
   induction l with
   | nil=>rfl
   | cons y l ih=>simp [OT.erss,OT.ers,OT.er,ih]
  rw [z6,z6,Tl.o_eq,Tl.d_eq]; simp [OT.erss,OT.ers,OT.er,h,Tl.ers xs]
theorem QbF:(false == true)=false:=rfl
theorem QbG:(true == false)=false:=rfl
theorem Wu (x:Tm) (p:Bool) (s0 s:List Tl × Bool) (h:s=AO s0 (Tm.Hu x.args)):AO s0 (x.sgI p)=bif x.eqn || AI x.name then s else Dw s (BR x p):=by
 rw [Tm.GK,JE,← h]
 show AO s (bif x.eqn || AI x.name then [] else [BR x p])=_
 cases (x.eqn || AI x.name) <;> rfl
def De:SC:=(.seq (.reg [⟨some 4,none,.boxv 69 2 (.t 1)⟩]) (.seq (.seq (.reg [⟨some 11,none,.faddr 1 (.t 4)⟩,⟨some 12,none,.load false 1 (.t 11)⟩,⟨some 13,none,.len false (.t 12)⟩,⟨some 14,none,.mv (.c (.int .i64 0))⟩]) (.block 0 (.loop [1,0,1,0,1,0,0,0,0,0,0,0,1,1,1,0,0,0,0,0,0,0,0,0,0,0,0,0,0,0,0,0,0,0,0,0,0,0,0,0,0,0,0,0,0,0,0,0,0,0,0,0,0,0,0,0,0,0,0,0,0,0,0,0,0,0,0,0,0,0,0,0,0,0,0,0,0,0,0,0,0,0,0] (.seq (.reg [⟨some 15,none,.bin .lss false (.t 14) (.t 13)⟩]) (.seq (.cond (.t 15) .skip (.exit 0)) (.seq (.block 1 (.seq (.reg [⟨some 16,none,.iaddr 2 (.t 12) (.t 14)⟩,⟨some 17,none,.load true 2 (.t 16)⟩,⟨(some 7),none,(.alloc 69 [(.str ⟨#[]⟩),.nil])⟩,⟨none,none,(.store 2 (.t 7) (.t 17))⟩]) (.reg [⟨some 18,none,.mv (.t 0)⟩,⟨some 19,none,.load true 2 (.t 7)⟩,⟨some 20,none,.call 44 [(.t 18),(.t 19),(.c (.bool false))]⟩]))) (.reg [⟨some 21,none,.bin .add false (.t 14) (.c (.int .i64 1))⟩,⟨some 14,none,.mv (.t 21)⟩]))))))) (.seq (.seq (.reg [⟨some 22,none,.load true 2 (.t 4)⟩,⟨some 23,none,.call 68 [(.t 22)]⟩,⟨some 24,none,.mv (.t 23)⟩,⟨(some 25),(some (24,false)),(.load true 2 (.t 4))⟩,⟨(some 26),(some (24,false)),(.call 69 [(.t 25)])⟩,⟨some 27,none,.pick (.t 24) (.c (.bool true)) (.t 26)⟩]) (.cond (.t 27) .ret .skip)) (.seq (.reg [⟨some 28,none,.mv (.t 0)⟩,⟨some 29,none,.mv (.t 0)⟩,⟨some 30,none,.nilchk (.t 29)⟩,⟨some 31,none,.faddr 1 (.t 30)⟩,⟨some 32,none,.load false 1 (.t 31)⟩,⟨some 33,none,.mv (.t 32)⟩,⟨(some 34),(some (33,false)),(.faddr 1 (.t 4))⟩,⟨(some 35),(some (33,false)),(.load false 1 (.t 34))⟩,⟨(some 36),(some (33,false)),(.len false (.t 35))⟩,⟨(some 37),(some (33,false)),(.bin .gtr false (.t 36) (.c (.int .i64 3)))⟩,⟨some 38,none,.pick (.t 33) (.c (.bool true)) (.t 37)⟩,⟨some 39,none,.nilchk (.t 28)⟩,⟨some 40,none,.faddr 1 (.t 39)⟩,⟨none,none,(.store 1 (.t 40) (.t 38))⟩]) (.seq (.reg [⟨some 41,none,.faddr 0 (.t 4)⟩,⟨some 42,none,.load false 1 (.t 41)⟩,⟨some 43,none,.faddr 1 (.t 4)⟩,⟨some 44,none,.load false 1 (.t 43)⟩,⟨some 45,none,.len false (.t 44)⟩,⟨some 46,none,.mv (.t 2)⟩,⟨(some 47),none,(.build [(.str ⟨#[]⟩),(.int .i64 0),(.bool false),.nil] [(0,(1,(.t 42))),(1,(1,(.t 45))),(2,(1,(.t 46)))])⟩,⟨(some 8),none,(.alloc 58 [(.str ⟨#[]⟩),(.int .i64 0),(.bool false),.nil])⟩,⟨none,none,(.store 4 (.t 8) (.t 47))⟩]) (.seq (.dreg [[],[0],[1,0],[2,1,0],[],[3,2,1,0,4],[5,3,2,1,0,4],[6,5,3,2,1,0,4],[6,5,3,2,1,0,4],[7,6,5,3,2,1,0,4],[8,6,5,3,2,1,0,4,9,7]] [⟨some 49,none,.mv (.t 0)⟩,⟨some 50,none,.nilchk (.t 49)⟩,⟨some 51,none,.faddr 0 (.t 50)⟩,⟨some 52,none,.load false 1 (.t 51)⟩,⟨some 53,none,.load true 4 (.t 8)⟩,⟨some 54,none,.call 70 [(.t 52),(.t 53),(.c (.fn 71 []))]⟩,⟨some 48,none,.mv (.t 54)⟩,⟨some 55,none,.ext (.t 48) 0⟩,⟨some 56,none,.ext (.t 48) 1⟩,⟨some 9,none,.mv (.t 55)⟩,⟨some 10,none,.mv (.t 56)⟩]) (.seq (.reg [⟨some 57,none,.mv (.t 10)⟩,⟨some 58,none,.un .not (.t 57)⟩]) (.cond (.t 58) (.dreg [[],[],[1],[2,1],[3,2,1],[],[],[6],[4,3,2,1,5,7,6],[0,1,2,3,4,5,6,7,8],[9,0,1,2,3,4,5,6,7,8],[10,9,0,1,2,3,4,5,6,7,8]] [⟨some 59,none,.mv (.t 0)⟩,⟨some 60,none,.mv (.t 0)⟩,⟨some 61,none,.nilchk (.t 60)⟩,⟨some 62,none,.faddr 0 (.t 61)⟩,⟨some 63,none,.load false 1 (.t 62)⟩,⟨some 64,none,.mv (.t 9)⟩,⟨some 65,none,.load true 4 (.t 8)⟩,⟨(some 66),none,(.mkrow 58 4 [(.str ⟨#[]⟩),(.int .i64 0),(.bool false),.nil] 1 [(0,(.t 65))])⟩,⟨some 67,none,.call 72 [(.t 63),(.t 64),(.t 66)]⟩,⟨some 68,none,.nilchk (.t 59)⟩,⟨some 69,none,.faddr 0 (.t 68)⟩,⟨none,none,(.store 1 (.t 69) (.t 67))⟩]) (.seq (.reg [⟨some 70,none,.mv (.t 0)⟩,⟨some 71,none,.nilchk (.t 70)⟩,⟨some 72,none,.faddr 0 (.t 71)⟩,⟨some 73,none,.load false 1 (.t 72)⟩,⟨some 74,none,.mv (.t 9)⟩,⟨some 75,none,.iaddr 4 (.t 73) (.t 74)⟩,⟨some 76,none,.faddr 2 (.t 75)⟩,⟨some 77,none,.load false 1 (.t 76)⟩,⟨some 78,none,.mv (.t 2)⟩,⟨some 79,none,.bin .neq true (.t 77) (.t 78)⟩]) (.cond (.t 79) (.reg [⟨some 80,none,.mv (.t 0)⟩,⟨some 81,none,.nilchk (.t 80)⟩,⟨some 82,none,.faddr 1 (.t 81)⟩,⟨none,none,(.store 1 (.t 82) (.c (.bool true)))⟩]) .skip))))))))))
theorem E9:Ad Tryz.prog 44=some ⟨83,De,[]⟩:=by kernel_rfl
theorem AY:modes 44=⟨[],.asis,none,false⟩:=by unfold modes; rfl
abbrev SgA (x:Tm):Prop:=∀ f p:Bool,x.nodes≤1048576→E 44 [.ptr 0 0,x.sv,.bool p] [.box 80 [.nil,.bool f]]=some (.tup [],(bif dec (0<(AO ([],f) (x.sgI p)).1.length) then [.box 80 [.ref 1,.bool (AO ([],f) (x.sgI p)).2],.row 58 4 ((AO ([],f) (x.sgI p)).1.map Tl.o)] else [.box 80 [.nil,.bool (AO ([],f) (x.sgI p)).2]]))
abbrev SgB (x:Tm):Prop:=∀ (l:List Tl) (f p:Bool),upT l→0<l.length→l.length+x.nodes≤1048576→E 44 [.ptr 0 0,x.sv,.bool p] [.box 80 [.ref 1,.bool f],.row 58 4 (l.map Tl.o)]=some (.tup [],(bif dec (l.length<(AO (l,f) (x.sgI p)).1.length) then [.box 80 [.ref 2,.bool (AO (l,f) (x.sgI p)).2],.gone,.row 58 4 ((AO (l,f) (x.sgI p)).1.map Tl.o)] else [.box 80 [.ref 1,.bool (AO (l,f) (x.sgI p)).2],.row 58 4 ((AO (l,f) (x.sgI p)).1.map Tl.o)]))
theorem Qc8 (x:Tm) (hc:x.cok=true) (ih:∀ y∈x.args,SgB y):SgB x:=by
 intro l f p hup h0 hn
 have hnd:=Tm.A3 x
 have hpl:=Tm.length_le x.args
 have hgl:dec (l.length<l.length)=false:=Aw (by omega)
 have heq:=Es x
 have hvar:=J9 x hc
 have hxs:x.sv=.agg [.str x.name,.arr (x.args.map Tm.d)]:=rfl
 rw [hxs] at heq hvar ⊢
 refine Ab E9 AY (of_decide_eq_true rfl) ?_
 simp (disch:=omega) only [De,go_sem,Aa,hxs]
 refine go_loop (α:=Int × (List Tl) × (Bool)) (fun a=>⟨slots 83 0 [(0,.ptr 0 0),(2,.bool p),(4,.ptr 2 0),(12,.arr (x.args.map Tm.d)),(13,.int .i64 x.args.length),(14,.int .i64 (a.1))],(bif dec (l.length<(a.2.1).length) then [.box 80 [.ref 3,.bool (a.2.2)],.gone,.box 69 [.str x.name,.arr (x.args.map Tm.d)],.row 58 4 ((a.2.1).map Tl.o)] else [.box 80 [.ref 1,.bool (a.2.2)],.row 58 4 ((a.2.1).map Tl.o),.box 69 [.str x.name,.arr (x.args.map Tm.d)]])⟩) (fun a=>∃ k:Nat,a.1=k∧k≤(x.args).length∧AO ((a.2.1),(a.2.2)) (Tm.Hu (x.args.drop k))=AO (l,f) (Tm.Hu x.args)∧upT (a.2.1)∧(a.2.1).length+Tm.AE (x.args.drop k)+1≤1048576∧l.length≤(a.2.1).length) (fun a=>(x.args).length-(a.1).toNat) (0,l,f) ⟨0,rfl,zJ _,by rw [zD],hup,by rw [zD]; dsimp only; omega,zU _⟩ (by simp (disch:=omega) only [go_sem,Aa,hgl]) ?_
 rintro ⟨i,ac,bf⟩ ⟨k,hi,hk,hR⟩
 dsimp only at hi hR
 have hni:i.toNat=k:=by omega
 have hni1:(i+1).toNat=k+1:=by omega
 rcases zB k (x.args).length with hlt | hge
 ·have hg:=get_at Tm.d hlt
  rw [Tm.d_eq] at hg
  obtain ⟨hR1,hR2,hR3,hR4⟩:=hR
  rw [zA hlt,Tm.Hu,JE] at hR1
  rw [zA hlt,Tm.AE] at hR3
  have hc2:=ih x.args[k] (zG hlt) ac bf false hR2 (by omega) (by omega)
  have hys:(x.args[k]).sv=.agg [.str (x.args[k]).name,.arr ((x.args[k]).args.map Tm.d)]:=rfl
  rw [hys] at hc2
  obtain ⟨a2,b2,hr⟩:∃ a2 b2,(a2,b2)=AO (ac,bf) ((x.args[k]).sgI false):=⟨_,_,rfl⟩
  have hl2:=JF ((x.args[k]).sgI false) (ac,bf)
  have hu2:=LC ((x.args[k]).sgI false) (s:=(ac,bf)) hR2
  have hs2:=Tm.NU x.args[k] false
  rw [←hr] at hc2 hR1 hl2 hu2
  dsimp only at hc2 hR1 hl2 hu2
  rcases zB l.length ac.length with q1 | q1 <;> rcases zB ac.length a2.length with q2 | q2
  all_goals
   first
    |rw [Ay q2] at hc2
    |rw [Aw (yK.2 q2)] at hc2
   simp only [cond_true,cond_false] at hc2
   simp (disch:=omega) only [go_sem,Aa,hni,hg,hc2,AY]
   refine ⟨(i+1,a2,b2),⟨k+1,by dsimp only; omega,hlt,hR1,hu2,by dsimp only; omega,by dsimp only; omega⟩,by dsimp only; omega,?_⟩
   first | done | simp (disch:=omega) only [go_sem,Aa]
 ·rw [zC hge,Tm.Hu] at hR
  obtain ⟨hR1,hR2,hR3,hR4⟩:=hR
  have hR1:(ac,bf)=AO (l,f) (Tm.Hu x.args):=hR1
  have hen:=Wu x p (l,f) (ac,bf) hR1
  rw [hen]
  cases he:x.eqn with
  | true =>
   rw [he] at heq
   simp only [z8,cond_true]
   rcases zB l.length ac.length with q1 | q1
   all_goals simp (disch:=omega) only [go_sem,Aa,hni,heq,Ak]
  | false =>
   rw [he] at heq
   cases hv:AI x.name with
   | true =>
    rw [hv] at hvar
    simp only [yU,cond_true]
    rcases zB l.length ac.length with q1 | q1
    all_goals simp (disch:=omega) only [go_sem,Aa,hni,heq,hvar,Ak,AK]
   | false =>
    rw [hv] at hvar
    simp only [yV,cond_false]
    have hful:=Tl.ful ac
    have hers:=Tl.ers ac
    have hbs:E 70 [.arr (ac.map Tl.d),.agg [.str x.name,.int .i64 (x.args.length:Nat),.bool p,.arr []],.fn 71 []] []=some (.tup [.int .i64 (A7 ac (BR x p):Nat),.bool (HY ac (BR x p))],[]):=QbE ac (BR x p) (by omega) hR2
    have hins:E 72 [.ref 0,.int .i64 (A7 ac (BR x p):Nat),.ref 1] [.row 58 4 (ac.map Tl.o),.row 58 4 [[.str x.name,.int x.args.length,.bool p,.ow []]]]=some (.ref 2,[.gone,.gone,.row 58 4 ((CX ac (BR x p)).map Tl.o)]):=Zy ac x.name x.args.length p (by omega)
    have hsa:(BR x p).arity=x.args.length:=rfl
    have hsp:(BR x p).pred=p:=rfl
    generalize hsy:BR x p=sy at *
    cases hh:HY ac sy with
    | true =>
     rw [hh] at hbs
     have hlo:=RV hh
     have hgo:=Tl.QcZ hlo
     have hnl:((A7 ac sy:Nat):Int).toNat=A7 ac sy:=zY _
     rw [QX hR2 hh hlo,hsa,hsp]
     generalize hpr:(ac[A7 ac sy]).pred=pr at *
     rcases zB l.length ac.length with q1 | q1 <;> cases bf <;> cases pr <;> cases p
     all_goals simp (disch:=omega) only [go_sem,Aa,hni,heq,hvar,hbs,hful,hers,Ak,AK,Ah,Ap,AP,hgo,hnl,QbF,QbG]
    | false =>
     rw [hh] at hbs
     have hil:=Ja sy ac
     rw [QY hR2 hh,hsa]
     have hgr:dec (l.length<(CX ac sy).length)=true:=Ay (by omega)
     rcases zB l.length ac.length with q1 | q1 <;> cases bf
     all_goals simp (disch:=omega) only [go_sem,Aa,hni,heq,hvar,hbs,hful,hers,Ak,AK,Ah,Ap,AP,hins,hgr]
theorem Qc9 (x:Tm) (hc:x.cok=true) (ihA:∀ y∈x.args,SgA y) (ih:∀ y∈x.args,SgB y):SgA x:=by
 intro f p hn
 have hnd:=Tm.A3 x
 have hpl:=Tm.length_le x.args
 have hgl:dec (0<([]:List Tl).length)=false:=Aw (by simp)
 have hm0:([]:List Tl).map Tl.o=[]:=rfl
 have hm1:([]:List Tl).map Tl.d=[]:=rfl
 have heq:=Es x
 have hvar:=J9 x hc
 have hxs:x.sv=.agg [.str x.name,.arr (x.args.map Tm.d)]:=rfl
 rw [hxs] at heq hvar ⊢
 refine Ab E9 AY (of_decide_eq_true rfl) ?_
 simp (disch:=omega) only [De,go_sem,Aa,hxs]
 refine go_loop (α:=Int × (List Tl) × (Bool)) (fun a=>⟨slots 83 0 [(0,.ptr 0 0),(2,.bool p),(4,.ptr 1 0),(12,.arr (x.args.map Tm.d)),(13,.int .i64 x.args.length),(14,.int .i64 (a.1))],(bif dec (0<(a.2.1).length) then [.box 80 [.ref 2,.bool (a.2.2)],.box 69 [.str x.name,.arr (x.args.map Tm.d)],.row 58 4 ((a.2.1).map Tl.o)] else [.box 80 [.nil,.bool (a.2.2)],.box 69 [.str x.name,.arr (x.args.map Tm.d)]])⟩) (fun a=>∃ k:Nat,a.1=k∧k≤(x.args).length∧AO ((a.2.1),(a.2.2)) (Tm.Hu (x.args.drop k))=AO ([],f) (Tm.Hu x.args)∧upT (a.2.1)∧(a.2.1).length+Tm.AE (x.args.drop k)+1≤1048576) (fun a=>(x.args).length-(a.1).toNat) (0,[],f) ⟨0,rfl,zJ _,by rw [zD],y6,by rw [zD]; simp only [zO]; omega⟩ (by simp (disch:=omega) only [go_sem,Aa,hgl]) ?_
 rintro ⟨i,ac,bf⟩ ⟨k,hi,hk,hR⟩
 dsimp only at hi hR
 have hni:i.toNat=k:=by omega
 have hni1:(i+1).toNat=k+1:=by omega
 rcases zB k (x.args).length with hlt | hge
 ·have hg:=get_at Tm.d hlt
  rw [Tm.d_eq] at hg
  obtain ⟨hR1,hR2,hR3⟩:=hR
  rw [zA hlt,Tm.Hu,JE] at hR1
  rw [zA hlt,Tm.AE] at hR3
  have hcA:=ihA x.args[k] (zG hlt) bf false (by omega)
  have hcB:=fun h0=>ih x.args[k] (zG hlt) ac bf false hR2 h0 (by omega)
  have hys:(x.args[k]).sv=.agg [.str (x.args[k]).name,.arr ((x.args[k]).args.map Tm.d)]:=rfl
  rw [hys] at hcA hcB
  obtain ⟨a2,b2,hr⟩:∃ a2 b2,(a2,b2)=AO (ac,bf) ((x.args[k]).sgI false):=⟨_,_,rfl⟩
  have hl2:=JF ((x.args[k]).sgI false) (ac,bf)
  have hu2:=LC ((x.args[k]).sgI false) (s:=(ac,bf)) hR2
  have hs2:=Tm.NU x.args[k] false
  rw [←hr] at hcB hR1 hl2 hu2
  dsimp only at hcB hR1 hl2 hu2
  rcases zB 0 ac.length with q1 | q1
  ·have hc2:=hcB q1
   rcases zB ac.length a2.length with q2 | q2
   all_goals
    have q3:0<a2.length:=by omega
    first
     |rw [Ay q2] at hc2
     |rw [Aw (yK.2 q2)] at hc2
    simp only [cond_true,cond_false] at hc2
    simp (disch:=omega) only [go_sem,Aa,hni,hg,hc2,AY]
    refine ⟨(i+1,a2,b2),⟨k+1,by dsimp only; omega,hlt,hR1,hu2,by dsimp only; omega⟩,by dsimp only; omega,?_⟩
    first | done | simp (disch:=omega) only [go_sem,Aa]
  ·obtain rfl:ac=[]:=z7 (by omega)
   have hc2:=hcA
   rw [←hr] at hc2
   dsimp only at hc2
   rcases zB 0 a2.length with q2 | q2
   all_goals
    first
     |rw [Ay q2] at hc2
     |rw [Aw (yK.2 q2)] at hc2
    simp only [cond_true,cond_false] at hc2
    simp (disch:=omega) only [go_sem,Aa,hni,hg,hc2,AY]
    refine ⟨(i+1,a2,b2),⟨k+1,by dsimp only; omega,hlt,hR1,hu2,by dsimp only; omega⟩,by dsimp only; omega,?_⟩
    first | done | simp (disch:=omega) only [go_sem,Aa]
 ·rw [zC hge,Tm.Hu] at hR
  obtain ⟨hR1,hR2,hR3⟩:=hR
  have hR1:(ac,bf)=AO ([],f) (Tm.Hu x.args):=hR1
  have hen:=Wu x p ([],f) (ac,bf) hR1
  rw [hen]
  cases he:x.eqn with
  | true =>
   rw [he] at heq
   simp only [z8,cond_true]
   rcases zB 0 ac.length with q1 | q1
   all_goals simp (disch:=omega) only [go_sem,Aa,hni,heq,Ak]
  | false =>
   rw [he] at heq
   cases hv:AI x.name with
   | true =>
    rw [hv] at hvar
    simp only [yU,cond_true]
    rcases zB 0 ac.length with q1 | q1
    all_goals simp (disch:=omega) only [go_sem,Aa,hni,heq,hvar,Ak,AK]
   | false =>
    rw [hv] at hvar
    simp only [yV,cond_false]
    have hful:=Tl.ful ac
    have hers:=Tl.ers ac
    have hbs:E 70 [.arr (ac.map Tl.d),.agg [.str x.name,.int .i64 (x.args.length:Nat),.bool p,.arr []],.fn 71 []] []=some (.tup [.int .i64 (A7 ac (BR x p):Nat),.bool (HY ac (BR x p))],[]):=QbE ac (BR x p) (by omega) hR2
    have hins:E 72 [.ref 0,.int .i64 (A7 ac (BR x p):Nat),.ref 1] [.row 58 4 (ac.map Tl.o),.row 58 4 [[.str x.name,.int x.args.length,.bool p,.ow []]]]=some (.ref 2,[.gone,.gone,.row 58 4 ((CX ac (BR x p)).map Tl.o)]):=Zy ac x.name x.args.length p (by omega)
    have hsa:(BR x p).arity=x.args.length:=rfl
    have hsp:(BR x p).pred=p:=rfl
    generalize hsy:BR x p=sy at *
    cases hh:HY ac sy with
    | true =>
     rw [hh] at hbs
     have q1:0<ac.length:=by have:=RV hh; omega
     have hlo:=RV hh
     have hgo:=Tl.QcZ hlo
     have hnl:((A7 ac sy:Nat):Int).toNat=A7 ac sy:=zY _
     rw [QX hR2 hh hlo,hsa,hsp]
     generalize hpr:(ac[A7 ac sy]).pred=pr at *
     cases bf <;> cases pr <;> cases p
     all_goals simp (disch:=omega) only [go_sem,Aa,hni,heq,hvar,hbs,hful,hers,Ak,AK,Ah,Ap,AP,hgo,hnl,QbF,QbG]
    | false =>
     rw [hh] at hbs
     have hil:=Ja sy ac
     rw [QY hR2 hh,hsa]
     have hgr:dec (0<(CX ac sy).length)=true:=Ay (by omega)
     rcases zB 0 ac.length with q1 | q1
     ·cases bf
      all_goals simp (disch:=omega) only [go_sem,Aa,hni,heq,hvar,hbs,hful,hers,Ak,AK,Ah,Ap,AP,hins,hgr]
     ·obtain rfl:ac=[]:=z7 (by omega)
      have hl0:A7 [] sy=0:=rfl
      have hin:(CX [] sy).map Tl.o=[[.str x.name,.int x.args.length,.bool p,.ow []]]:=by
       rw [←hsy,TB,z6,yL,Tl.o_eq]; rfl
      have hnn:=Qc7 x.name x.args.length p
      rw [hl0,hm1,Int.natCast_zero] at hbs
      rw [hin]
      cases bf
      all_goals simp (disch:=omega) only [go_sem,Aa,hni,heq,hvar,hbs,hful,hers,Ak,AK,Ah,Ap,AP,hnn,hgr,hm0,hm1,Int.natCast_zero]
theorem RY (x:Tm) (hc:x.cok=true):SgB x:=Qc8 x hc fun y hy=>RY y (Tm.RW hc hy)
termination_by SizeOf.sizeOf x
decreasing_by exact Tm.Ar hy
theorem Wv (x:Tm) (hc:x.cok=true):SgA x:=Qc9 x hc (fun y hy=>Wv y (Tm.RW hc hy)) fun y hy=>RY y (Tm.RW hc hy)
termination_by SizeOf.sizeOf x
decreasing_by exact Tm.Ar hy
noncomputable def KI:List Lt→List Tl
 | []=>[]
 | l :: ls=>l.atom.sgI true++KI ls
noncomputable def Hw:List Cl→List Tl
 | []=>[]
 | c :: cs=>KI c.lits++Hw cs
noncomputable def FX (cs:List Cl):List Tl × Bool:=AO ([],false) (Hw cs)
noncomputable def Ii (cs:List Cl):Option (List Tl):=bif dec (30<cs.length) || cs.any (fun c=>!c.ok) then none else bif (FX cs).2 || dec (12<(FX cs).1.length) then none else some (FX cs).1
theorem Cl.Ww {c:Cl} (h:c.ok=true) {k:Nat} (hk:k<c.lits.length):c.lits[k].atom.atom=true:=by
 unfold Cl.ok at h
 rw [zF] at h
 exact JB h.2 hk hk
def AR:SC:=(.seq (.reg [⟨some 4,none,.mv (.c (.int .i64 0))⟩]) (.seq (.seq (.reg [⟨some 6,none,.mv (.t 0)⟩,⟨some 7,none,.len false (.t 6)⟩,⟨some 8,none,.mv (.c (.int .i64 0))⟩]) (.block 0 (.loop [1,1,0,0,0,0,0,1,1,0,0,0,0,0,0,0,0,0,0] (.seq (.reg [⟨some 9,none,.bin .lss false (.t 8) (.t 7)⟩]) (.seq (.cond (.t 9) .skip (.exit 0)) (.seq (.block 1 (.seq (.reg [⟨some 10,none,.mv (.t 8)⟩,⟨some 5,none,.mv (.t 10)⟩]) (.seq (.reg [⟨some 11,none,.mv (.t 1)⟩,⟨some 12,none,.mv (.t 0)⟩,⟨some 13,none,.mv (.t 5)⟩,⟨some 14,none,.iaddr 1 (.t 12) (.t 13)⟩,⟨some 15,none,.load true 1 (.t 14)⟩,⟨some 16,none,.callv (.t 11) [(.t 15)]⟩]) (.cond (.t 16) (.seq (.reg [⟨some 17,none,.mv (.t 5)⟩,⟨some 4,none,.mv (.t 17)⟩]) .ret) .skip)))) (.reg [⟨some 18,none,.bin .add false (.t 8) (.c (.int .i64 1))⟩,⟨some 8,none,.mv (.t 18)⟩]))))))) (.seq (.reg [⟨some 4,none,.mv (.c (.int .i64 (-(0+1))))⟩]) .ret)))
theorem BD:Ad Tryz.prog 48=some ⟨19,AR,[(.tmp 4)]⟩:=by kernel_rfl
theorem A8:modes 48=⟨[],.asis,none,false⟩:=by unfold modes; rfl
def AJ:SC:=(.seq (.reg [⟨some 4,none,.mv (.c (.bool false))⟩]) (.seq (.reg [⟨some 5,none,.mv (.t 0)⟩,⟨some 6,none,.mv (.t 1)⟩,⟨some 7,none,.call 48 [(.t 5),(.t 6)]⟩,⟨some 8,none,.bin .geq false (.t 7) (.c (.int .i64 0))⟩,⟨some 4,none,.mv (.t 8)⟩]) .ret))
theorem Bx:Ad Tryz.prog 23=some ⟨9,AJ,[(.tmp 4)]⟩:=by kernel_rfl
theorem Ac:modes 23=⟨[],.asis,none,false⟩:=by unfold modes; rfl
theorem PQ (fid:Nat) (p:Cl→Bool) (xs:List Cl) (hl:xs.length≤1099511627776) (hg:GQ Tryz.prog fid=true) (hm:(modes fid).hand=[]) (hE:∀ x∈xs,E fid [x.sv] []=some (.bool (p x),[])):E 48 [.arr (xs.map Cl.d),.fn fid []] []=some (.int .i64 (Cy p xs 0),[]):=by
 refine Ab BD A8 (of_decide_eq_true rfl) ?_
 simp (disch:=omega) only [AR,go_sem,Aa]
 refine go_loop (α:=Int) (fun a=>⟨slots 19 0 [(0,.arr (xs.map Cl.d)),(1,.fn fid []),(7,.int .i64 xs.length),(8,.int .i64 a)],[]⟩) (fun a=>∃ k:Nat,a=k∧k≤(xs).length∧Cy p (xs.drop k) a=Cy p xs 0) (fun a=>(xs).length-(a).toNat) 0 ⟨0,rfl,zJ _,by rw [zD]⟩ (by simp (disch:=omega) only [go_sem,Aa]) ?_
 rintro i ⟨k,hi,hk,hR⟩
 have hni:i.toNat=k:=by omega
 have hni1:(i+1).toNat=k+1:=by omega
 rcases zB k (xs).length with hlt | hge
 ·have hg':=get_at Cl.d hlt
  rw [Cl.d_eq] at hg'
  have hc:=hE xs[k] (zG hlt)
  rw [zA hlt,Cy] at hR
  cases hp:p xs[k] with
  | true =>
   rw [hp] at hc hR
   simp (disch:=omega) only [go_sem,Aa,hni,hg',hc,hg,hm]
   simpa using hR
  | false =>
   rw [hp] at hc hR
   simp (disch:=omega) only [go_sem,Aa,hni,hg',hc,hg,hm]
   exact ⟨i+1,⟨k+1,by omega,hlt,by simpa using hR⟩,by omega,by first | trivial | rfl⟩
 ·rw [zC hge,Cy] at hR
  simp (disch:=omega) only [go_sem,Aa,hni]
  exact hR
theorem Hx (fid:Nat) (p:Cl→Bool) (xs:List Cl) (hl:xs.length≤1099511627776) (hg:GQ Tryz.prog fid=true) (hm:(modes fid).hand=[]) (hE:∀ x∈xs,E fid [x.sv] []=some (.bool (p x),[])):E 23 [.arr (xs.map Cl.d),.fn fid []] []=some (.bool (xs.any p),[]):=by
 have h:=PQ fid p xs hl hg hm hE
 refine Ab Bx Ac (of_decide_eq_true rfl) ?_
 simp (disch:=omega) only [AJ,go_sem,Aa,h,A8]
 rw [Lq]
def Fi:SC:=(.seq (.reg [⟨some 1,none,.boxv 47 1 (.t 0)⟩,⟨some 2,none,.mv (.c (.bool false))⟩]) (.seq (.reg [⟨some 3,none,.load true 1 (.t 1)⟩,⟨some 4,none,.call 43 [(.t 3)]⟩,⟨some 5,none,.un .not (.t 4)⟩,⟨some 2,none,.mv (.t 5)⟩]) .ret))
theorem Jc:Ad Tryz.prog 42=some ⟨6,Fi,[(.tmp 2)]⟩:=by kernel_rfl
theorem Fj:modes 42=⟨[],.asis,none,false⟩:=by unfold modes; rfl
theorem Jd:GQ Tryz.prog 42=true:=by kernel_rfl
def CP:SC:=(.seq (.reg [⟨some 2,none,.mv (.c .nil)⟩,⟨some 3,none,.mv (.c (.bool false))⟩]) (.seq (.seq (.reg [⟨some 9,none,.mv (.t 0)⟩,⟨some 10,none,.len false (.t 9)⟩,⟨some 11,none,.bin .gtr false (.t 10) (.c (.int .i64 30))⟩,⟨some 12,none,.mv (.t 11)⟩,⟨(some 13),(some (12,false)),(.mv (.t 0))⟩,⟨(some 14),(some (12,false)),(.call 23 [(.t 13),(.c (.fn 42 []))])⟩,⟨some 15,none,.pick (.t 12) (.c (.bool true)) (.t 14)⟩]) (.cond (.t 15) (.seq (.reg [⟨some 2,none,.mv (.c .nil)⟩,⟨some 3,none,.mv (.c (.bool false))⟩]) .ret) .skip)) (.seq (.reg [⟨some 16,none,.build [.nil,(.bool false)] []⟩,⟨some 17,none,.boxv 80 2 (.t 16)⟩,⟨some 4,none,.mv (.t 17)⟩]) (.seq (.seq (.reg [⟨some 18,none,.mv (.t 0)⟩,⟨some 19,none,.len false (.t 18)⟩,⟨some 20,none,.mv (.c (.int .i64 0))⟩]) (.block 0 (.loop [0,0,0,0,1,0,0,0,0,0,0,0,0,0,0,0,0,0,1,1,1,0,0,0,0,0,0,0,0,0,0,0,0,0,0,0,0,0,0,0,0,0,0,0,0,0,0,0,0,0,0,0,0] (.seq (.reg [⟨some 21,none,.bin .lss false (.t 20) (.t 19)⟩]) (.seq (.cond (.t 21) .skip (.exit 0)) (.seq (.block 1 (.seq (.reg [⟨some 22,none,.iaddr 1 (.t 18) (.t 20)⟩,⟨some 23,none,.load true 1 (.t 22)⟩,⟨some 6,none,.alloc 47 [.nil]⟩,⟨none,none,(.store 1 (.t 6) (.t 23))⟩]) (.seq (.reg [⟨some 24,none,.faddr 0 (.t 6)⟩,⟨some 25,none,.load false 1 (.t 24)⟩,⟨some 26,none,.len false (.t 25)⟩,⟨some 27,none,.mv (.c (.int .i64 0))⟩]) (.block 2 (.loop [0,0,0,0,1,0,0,0,0,0,0,0,0,0,0,0,0,0,1,1,1,0,0,0,0,1,1,1,0,0,0,0,0,0,0,0,0,0,0,0,0,0,0,0,0,0,0,0,0,0,0,0,0] (.seq (.reg [⟨some 28,none,.bin .lss false (.t 27) (.t 26)⟩]) (.seq (.cond (.t 28) .skip (.exit 2)) (.seq (.block 3 (.seq (.reg [⟨some 29,none,.iaddr 3 (.t 25) (.t 27)⟩,⟨some 30,none,.load true 3 (.t 29)⟩,⟨(some 8),none,(.alloc 71 [(.bool false),(.str ⟨#[]⟩),.nil])⟩,⟨none,none,(.store 3 (.t 8) (.t 30))⟩]) (.reg [⟨some 31,none,.mv (.t 4)⟩,⟨some 32,none,.faddr 1 (.t 8)⟩,⟨some 33,none,.load true 2 (.t 32)⟩,⟨some 34,none,.call 44 [(.t 31),(.t 33),(.c (.bool true))]⟩]))) (.reg [⟨some 35,none,.bin .add false (.t 27) (.c (.int .i64 1))⟩,⟨some 27,none,.mv (.t 35)⟩]))))))))) (.reg [⟨some 36,none,.bin .add false (.t 20) (.c (.int .i64 1))⟩,⟨some 20,none,.mv (.t 36)⟩]))))))) (.seq (.seq (.reg [⟨some 37,none,.mv (.t 4)⟩,⟨some 38,none,.nilchk (.t 37)⟩,⟨some 39,none,.faddr 1 (.t 38)⟩,⟨some 40,none,.load false 1 (.t 39)⟩,⟨some 41,none,.mv (.t 40)⟩,⟨(some 42),(some (41,false)),(.mv (.t 4))⟩,⟨(some 43),(some (41,false)),(.nilchk (.t 42))⟩,⟨(some 44),(some (41,false)),(.faddr 0 (.t 43))⟩,⟨(some 45),(some (41,false)),(.load false 1 (.t 44))⟩,⟨(some 46),(some (41,false)),(.len false (.t 45))⟩,⟨(some 47),(some (41,false)),(.bin .gtr false (.t 46) (.c (.int .i64 12)))⟩,⟨some 48,none,.pick (.t 41) (.c (.bool true)) (.t 47)⟩]) (.cond (.t 48) (.seq (.reg [⟨some 2,none,.mv (.c .nil)⟩,⟨some 3,none,.mv (.c (.bool false))⟩]) .ret) .skip)) (.seq (.reg [⟨some 49,none,.mv (.t 4)⟩,⟨some 50,none,.nilchk (.t 49)⟩,⟨some 51,none,.faddr 0 (.t 50)⟩,⟨some 52,none,.load false 1 (.t 51)⟩,⟨some 2,none,.mv (.t 52)⟩,⟨some 3,none,.mv (.c (.bool true))⟩]) .ret))))))
theorem Eb:Ad Tryz.prog 21=some ⟨53,CP,[(.tmp 2),(.tmp 3)]⟩:=by kernel_rfl
theorem AS:modes 21=⟨[],.own [some (58,4),none],none,false⟩:=by unfold modes; rfl
theorem QcA (c:Cl) (hc:c.tame):E 42 [c.sv] []=some (.bool (!c.ok),[]):=by
 have h1:=N3 c hc
 have hsv:c.sv=.agg [.arr (c.lits.map Lt.d)]:=rfl
 rw [hsv] at h1
 rw [hsv]
 refine Ab Jc Fj (of_decide_eq_true rfl) ?_
 simp (disch:=omega) only [Fi,go_sem,Aa,h1,Fe]
theorem LD (cs:List Cl) (hl:cs.length≤1048576) (hx:∀ x∈cs,x.tame):E 21 [.arr (cs.map Cl.d)] []=some (.tup [.ref 0,.bool (Ii cs).isSome],[.row 58 4 (((Ii cs).getD []).map Tl.o)]):=by
 have hm0:([]:List Tl).map Tl.o=[]:=rfl
 have hgl:dec (0<([]:List Tl).length)=false:=Aw (by simp)
 have hany:=Hx 42 (fun c=>!c.ok) cs (by omega) Jd (by rw [Fj]) fun x h=>QcA x (hx x h)
 unfold Ii
 rcases zB 30 cs.length with h30 | h30
 ·have hq:dec ((30:Int)<(cs.length:Int))=true:=Ay (by omega)
  rw [Ay h30,z8,cond_true]
  refine Ab Eb AS (of_decide_eq_true rfl) ?_
  simp (disch:=omega) only [CP,go_sem,Aa,hq]
  first | done | rfl | exact ⟨rfl,rfl⟩
 have hq:dec ((30:Int)<(cs.length:Int))=false:=Aw (by omega)
 rw [Aw (yK.2 h30),zV]
 cases hall:cs.any fun c=>!c.ok with
 | true =>
  rw [hall] at hany
  rw [cond_true]
  refine Ab Eb AS (of_decide_eq_true rfl) ?_
  simp (disch:=omega) only [CP,go_sem,Aa,hq,hany,Ac]
  first | done | rfl | exact ⟨rfl,rfl⟩
 | false =>
 rw [hall] at hany
 rw [cond_false]
 have hok:∀ c∈cs,c.ok=true:=fun c hc=>by
  have:=List.any_eq_false.1 hall c hc
  simpa using this
 refine Ab Eb AS (of_decide_eq_true rfl) ?_
 simp (disch:=omega) only [CP,go_sem,Aa,hq,hany,Ac]
 refine go_loop (α:=Int × (List Tl) × (Bool)) (fun a=>⟨slots 53 0 [(4,.ptr 0 0),(18,.arr (cs.map Cl.d)),(19,.int .i64 cs.length),(20,.int .i64 (a.1))],(bif dec (0<(a.2.1).length) then [.box 80 [.ref 1,.bool (a.2.2)],.row 58 4 ((a.2.1).map Tl.o)] else [.box 80 [.nil,.bool (a.2.2)]])⟩) (fun a=>∃ k:Nat,a.1=k∧k≤(cs).length∧AO ((a.2.1),(a.2.2)) (Hw (cs.drop k))=AO ([],false) (Hw cs)∧upT (a.2.1)∧(a.2.1).length+240*(cs.length-k)≤7200) (fun a=>(cs).length-(a.1).toNat) (0,[],false) ⟨0,rfl,zJ _,by rw [zD],y6,by simp only [zO]; omega⟩ (by simp (disch:=omega) only [go_sem,Aa,hgl]) ?_
 rintro ⟨i,ac,bf⟩ ⟨k,hi,hk,hR⟩
 dsimp only at hi hR
 have hni:i.toNat=k:=by omega
 have hni1:(i+1).toNat=k+1:=by omega
 rcases zB k (cs).length with hlt | hge
 ·have hg:=get_at Cl.d hlt
  rw [Cl.d_eq] at hg
  obtain ⟨hR1,hR2,hR3⟩:=hR
  rw [zA hlt,Hw] at hR1
  have hck:=hok _ (zG hlt)
  obtain ⟨c,hcd⟩:∃ c,c=cs[k]:=⟨_,rfl⟩
  rw [←hcd] at hg hR1 hck
  have hc8:=Cl.KG hck
  obtain ⟨rest,hrest⟩:∃ r,r=Hw (cs.drop (k+1)):=⟨_,rfl⟩
  obtain ⟨full,hfull⟩:∃ r,r=AO ([],false) (Hw cs):=⟨_,rfl⟩
  obtain ⟨left,hleft⟩:∃ n:Nat,n=240*(cs.length-(k+1)):=⟨_,rfl⟩
  have hleft0:240*(cs.length-k)=240+left:=by omega
  rw [←hrest,← hfull] at hR1
  rw [hleft0] at hR3
  obtain ⟨io,hio⟩:∃ io,io=i:=⟨_,rfl⟩
  subst hio
  obtain ⟨ko,hko⟩:∃ ko,ko=k:=⟨_,rfl⟩
  subst hko
  obtain ⟨a0,ha0⟩:∃ a0,a0=ac:=⟨_,rfl⟩
  subst ha0
  obtain ⟨b0,hb0⟩:∃ b0,b0=bf:=⟨_,rfl⟩
  subst hb0
  have hlto:=hlt
  have hio1:=hni1
  have hR1o:AO (a0,b0) (KI c.lits++rest)=full:=hR1
  clear hR1
  rcases zB 0 a0.length with q0 | q0
  all_goals
   simp (disch:=omega) only [go_sem,Aa,hni,hg]
   refine go_loop (α:=Int × (List Tl) × (Bool)) (fun a=>⟨slots 53 0 [(4,.ptr 0 0),(18,.arr (cs.map Cl.d)),(19,.int .i64 cs.length),(20,.int .i64 io),(25,.arr (c.lits.map Lt.d)),(26,.int .i64 c.lits.length),(27,.int .i64 (a.1))],(bif dec (0<(a.2.1).length) then [.box 80 [.ref 1,.bool (a.2.2)],.row 58 4 ((a.2.1).map Tl.o)] else [.box 80 [.nil,.bool (a.2.2)]])⟩) (fun a=>∃ k:Nat,a.1=k∧k≤(c.lits).length∧AO ((a.2.1),(a.2.2)) (KI (c.lits.drop k)++rest)=full∧upT (a.2.1)∧(a.2.1).length+(30*(c.lits.length-k)+left)≤7200) (fun a=>(c.lits).length-(a.1).toNat) (0,a0,b0) ⟨0,rfl,zJ _,by rw [zD]; exact hR1o,hR2,by dsimp only; omega⟩ (by simp (disch:=omega) only [go_sem,Aa]) ?_
   rintro ⟨i,ac,bf⟩ ⟨k,hi,hk,hR⟩
   dsimp only at hi hR
   have hni:i.toNat=k:=by omega
   have hni1:(i+1).toNat=k+1:=by omega
   rcases zB k (c.lits).length with hlt | hge
   ·have hgt:=get_at Lt.d hlt
    rw [Lt.d_eq] at hgt
    obtain ⟨hR1,hR2',hR3'⟩:=hR
    rw [zA hlt,KI,zQ,JE] at hR1
    have hat:=Cl.Ww hck hlt
    have hcok:=Tm.Hn hat
    have hnod:=Tm.KA (Tm.Hq hat)
    have hys:(c.lits[k]).atom.sv=.agg [.str (c.lits[k]).atom.name,.arr ((c.lits[k]).atom.args.map Tm.d)]:=rfl
    have hcA:=Wv (c.lits[k]).atom hcok bf true (by omega)
    have hcB:=fun h0=>RY (c.lits[k]).atom hcok ac bf true hR2' h0 (by omega)
    rw [hys] at hcA hcB
    obtain ⟨a2,b2,hr⟩:∃ a2 b2,(a2,b2)=AO (ac,bf) ((c.lits[k]).atom.sgI true):=⟨_,_,rfl⟩
    have hl2:=JF ((c.lits[k]).atom.sgI true) (ac,bf)
    have hu2:=LC ((c.lits[k]).atom.sgI true) (s:=(ac,bf)) hR2'
    have hs2:=Tm.NU (c.lits[k]).atom true
    rw [←hr] at hcB hR1 hl2 hu2
    dsimp only at hcB hR1 hl2 hu2
    rcases zB 0 ac.length with q1 | q1
    ·have hc2:=hcB q1
     rcases zB ac.length a2.length with q2 | q2
     all_goals
      have q3:0<a2.length:=by omega
      first
       |rw [Ay q2] at hc2
       |rw [Aw (yK.2 q2)] at hc2
      simp only [cond_true,cond_false] at hc2
      simp (disch:=omega) only [go_sem,Aa,hni,hgt,hc2,AY]
      refine ⟨(i+1,a2,b2),⟨k+1,by dsimp only; omega,hlt,hR1,hu2,by dsimp only; omega⟩,by dsimp only; omega,?_⟩
      first | done | simp (disch:=omega) only [go_sem,Aa]
    ·obtain rfl:ac=[]:=z7 (by omega)
     have hc2:=hcA
     rw [←hr] at hc2
     dsimp only at hc2
     rcases zB 0 a2.length with q2 | q2
     all_goals
      first
       |rw [Ay q2] at hc2
       |rw [Aw (yK.2 q2)] at hc2
      simp only [cond_true,cond_false] at hc2
      simp (disch:=omega) only [go_sem,Aa,hni,hgt,hc2,AY]
      refine ⟨(i+1,a2,b2),⟨k+1,by dsimp only; omega,hlt,hR1,hu2,by dsimp only; omega⟩,by dsimp only; omega,?_⟩
      first | done | simp (disch:=omega) only [go_sem,Aa]
   ·rw [zC hge,KI,yB] at hR
    obtain ⟨hR1,hR2',hR3'⟩:=hR
    rcases zB 0 ac.length with q1 | q1
    all_goals
     simp (disch:=omega) only [go_sem,Aa,hni]
     refine ⟨(io+1,ac,bf),⟨ko+1,by dsimp only; omega,hlto,by dsimp only; rw [←hrest,← hfull]; exact hR1,hR2',by dsimp only; omega⟩,by dsimp only; omega,?_⟩
     first | done | simp (disch:=omega) only [go_sem,Aa]
 ·rw [zC hge,Hw] at hR
  obtain ⟨hR1,hR2,hR3⟩:=hR
  have hR1:(ac,bf)=AO ([],false) (Hw cs):=hR1
  have hsr:FX cs=(ac,bf):=hR1.symm
  rw [hsr]
  dsimp only
  have hfu:=Tl.ful ac
  cases bf with
  | true =>
   rcases zB 0 ac.length with q1 | q1
   all_goals
    rw [z8,cond_true]
    simp (disch:=omega) only [go_sem,Aa,hni,hfu]
    first | done | rfl | exact ⟨rfl,rfl⟩
  | false =>
   rw [zV]
   rcases zB 12 ac.length with q2 | q2
   ·have q1:0<ac.length:=by omega
    have q3:dec ((12:Int)<(ac.length:Int))=true:=Ay (by omega)
    rw [Ay q2,cond_true]
    simp (disch:=omega) only [go_sem,Aa,hni,hfu,q3]
    first | done | rfl | exact ⟨rfl,rfl⟩
   ·have q3:dec ((12:Int)<(ac.length:Int))=false:=Aw (by omega)
    rw [Aw (yK.2 q2),cond_false]
    rcases zB 0 ac.length with q1 | q1
    ·simp (disch:=omega) only [go_sem,Aa,hni,hfu,q3]
     first | done | rfl | exact ⟨rfl,rfl⟩
    ·obtain rfl:ac=[]:=z7 (by omega)
     simp (disch:=omega) only [go_sem,Aa,hni,hfu,hm0]
     first | done | rfl | exact ⟨rfl,rfl⟩
def Cf:SC:=(.seq (.reg [⟨some 4,none,.boxv 26 2 (.t 0)⟩,⟨some 5,none,.boxv 9 1 (.t 1)⟩,⟨some 6,none,.boxv 3 1 (.t 2)⟩,⟨some 7,none,.boxv 4 1 (.t 3)⟩,⟨(some 8),none,(.alloc 58 [(.str ⟨#[]⟩),(.int .i64 0),(.bool false),.nil])⟩,⟨some 9,none,.mv (.c (.bool false))⟩]) (.seq (.reg [⟨some 11,none,.faddr 1 (.t 4)⟩,⟨some 12,none,.load false 1 (.t 11)⟩,⟨some 13,none,.mkfn 146 [(.t 5),(.t 6),(.t 7)]⟩,⟨some 14,none,.call 145 [(.t 12),(.t 13)]⟩,⟨some 10,none,.mv (.t 14)⟩]) (.seq (.seq (.reg [⟨some 15,none,.mv (.t 10)⟩,⟨some 16,none,.bin .lss false (.t 15) (.c (.int .i64 0))⟩]) (.cond (.t 16) (.seq (.reg [⟨(some 17),none,(.build [(.str ⟨#[]⟩),(.int .i64 0),(.bool false),.nil] [])⟩,⟨none,none,(.store 4 (.t 8) (.t 17))⟩,⟨some 9,none,.mv (.c (.bool false))⟩]) .ret) .skip)) (.seq (.reg [⟨some 18,none,.faddr 1 (.t 4)⟩,⟨some 19,none,.load false 1 (.t 18)⟩,⟨some 20,none,.mv (.t 10)⟩,⟨some 21,none,.iaddr 4 (.t 19) (.t 20)⟩,⟨some 22,none,.load true 4 (.t 21)⟩,⟨none,none,(.store 4 (.t 8) (.t 22))⟩,⟨some 9,none,.mv (.c (.bool true))⟩]) .ret))))
theorem Dl:Ad Tryz.prog 131=some ⟨23,Cf,[(.cell 8 true 4),(.tmp 9)]⟩:=by kernel_rfl
theorem B3:modes 131=⟨[],.asis,none,false⟩:=by unfold modes; rfl
def Bt:SC:=(.seq (.reg [⟨some 4,none,.boxv 58 4 (.t 0)⟩,⟨some 5,none,.mv (.c (.bool false))⟩]) (.seq (.reg [⟨some 6,none,.faddr 0 (.t 4)⟩,⟨some 7,none,.load false 1 (.t 6)⟩,⟨some 8,none,.load false 1 (.t 1)⟩,⟨some 9,none,.bin .eql false (.t 7) (.t 8)⟩,⟨some 10,none,.mv (.t 9)⟩,⟨(some 11),(some (10,true)),(.faddr 1 (.t 4))⟩,⟨(some 12),(some (10,true)),(.load false 1 (.t 11))⟩,⟨(some 13),(some (10,true)),(.load false 1 (.t 2))⟩,⟨(some 14),(some (10,true)),(.bin .eql false (.t 12) (.t 13))⟩,⟨some 15,none,.pick (.t 10) (.t 14) (.c (.bool false))⟩,⟨some 16,none,.mv (.t 15)⟩,⟨(some 17),(some (16,true)),(.faddr 2 (.t 4))⟩,⟨(some 18),(some (16,true)),(.load false 1 (.t 17))⟩,⟨(some 19),(some (16,true)),(.load false 1 (.t 3))⟩,⟨(some 20),(some (16,true)),(.bin .eql true (.t 18) (.t 19))⟩,⟨some 21,none,.pick (.t 16) (.t 20) (.c (.bool false))⟩,⟨some 5,none,.mv (.t 21)⟩]) .ret))
theorem BX:Ad Tryz.prog 146=some ⟨22,Bt,[(.tmp 5)]⟩:=by kernel_rfl
theorem AQ:modes 146=⟨[],.asis,none,false⟩:=by unfold modes; rfl
theorem CL:GQ Tryz.prog 146=true:=by kernel_rfl
def Cb:SC:=(.seq (.reg [⟨some 4,none,.boxv 26 2 (.t 0)⟩,⟨some 5,none,.boxv 69 2 (.t 1)⟩,⟨some 8,none,.mv (.c (.int .i64 0))⟩,⟨some 9,none,.mv (.c (.bool false))⟩]) (.seq (.reg [⟨some 18,none,.load true 2 (.t 4)⟩,⟨some 19,none,.faddr 0 (.t 5)⟩,⟨some 20,none,.load false 1 (.t 19)⟩,⟨some 21,none,.faddr 1 (.t 5)⟩,⟨some 22,none,.load false 1 (.t 21)⟩,⟨some 23,none,.len false (.t 22)⟩,⟨some 24,none,.mv (.t 3)⟩,⟨some 25,none,.call 131 [(.t 18),(.t 20),(.t 23),(.t 24)]⟩,⟨some 17,none,.mv (.t 25)⟩,⟨some 26,none,.ext (.t 17) 0⟩,⟨some 27,none,.ext (.t 17) 1⟩,⟨(some 10),none,(.alloc 58 [(.str ⟨#[]⟩),(.int .i64 0),(.bool false),.nil])⟩,⟨none,none,(.store 4 (.t 10) (.t 26))⟩,⟨some 11,none,.mv (.t 27)⟩]) (.seq (.seq (.reg [⟨some 28,none,.mv (.t 11)⟩,⟨some 29,none,.un .not (.t 28)⟩]) (.cond (.t 29) (.seq (.reg [⟨some 8,none,.mv (.c (.int .i64 0))⟩,⟨some 9,none,.mv (.c (.bool false))⟩]) .ret) .skip)) (.seq (.reg [⟨some 12,none,.mv (.c (.int .i64 0))⟩]) (.seq (.seq (.reg [⟨some 30,none,.faddr 1 (.t 5)⟩,⟨some 31,none,.load false 1 (.t 30)⟩,⟨some 32,none,.len false (.t 31)⟩,⟨some 33,none,.mv (.c (.int .i64 0))⟩]) (.block 0 (.loop [0,0,1,0,1,0,0,0,0,0,1,0,1,0,0,0,0,0,0,0,0,0,0,0,0,0,0,0,0,0,0,1,1,1,0,0,0,0,0,0,0,0,0,0,0,0,0,0,0,0,0,0,0,0,0,0,0,0] (.seq (.reg [⟨some 34,none,.bin .lss false (.t 33) (.t 32)⟩]) (.seq (.cond (.t 34) .skip (.exit 0)) (.seq (.block 1 (.seq (.reg [⟨some 35,none,.iaddr 2 (.t 31) (.t 33)⟩,⟨some 36,none,.load true 2 (.t 35)⟩,⟨(some 14),none,(.alloc 69 [(.str ⟨#[]⟩),.nil])⟩,⟨none,none,(.store 2 (.t 14) (.t 36))⟩]) (.seq (.reg [⟨some 38,none,.load true 2 (.t 4)⟩,⟨some 39,none,.load true 2 (.t 14)⟩,⟨some 40,none,.mv (.t 2)⟩,⟨some 41,none,.call 104 [(.t 38),(.t 39),(.t 40)]⟩,⟨some 37,none,.mv (.t 41)⟩,⟨some 42,none,.ext (.t 37) 0⟩,⟨some 43,none,.ext (.t 37) 1⟩,⟨some 15,none,.mv (.t 42)⟩,⟨some 16,none,.mv (.t 43)⟩]) (.seq (.seq (.reg [⟨some 44,none,.mv (.t 16)⟩,⟨some 45,none,.un .not (.t 44)⟩]) (.cond (.t 45) (.seq (.reg [⟨some 8,none,.mv (.c (.int .i64 0))⟩,⟨some 9,none,.mv (.c (.bool false))⟩]) .ret) .skip)) (.reg [⟨some 46,none,.mv (.t 12)⟩,⟨some 47,none,.faddr 0 (.t 4)⟩,⟨some 48,none,.load false 1 (.t 47)⟩,⟨some 49,none,.bin .mul false (.t 46) (.t 48)⟩,⟨some 50,none,.mv (.t 15)⟩,⟨some 51,none,.bin .add false (.t 49) (.t 50)⟩,⟨some 12,none,.mv (.t 51)⟩]))))) (.reg [⟨some 52,none,.bin .add false (.t 33) (.c (.int .i64 1))⟩,⟨some 33,none,.mv (.t 52)⟩]))))))) (.seq (.reg [⟨some 53,none,.faddr 3 (.t 10)⟩,⟨some 54,none,.load false 1 (.t 53)⟩,⟨some 55,none,.mv (.t 12)⟩,⟨some 56,none,.iaddr 1 (.t 54) (.t 55)⟩,⟨some 57,none,.load false 1 (.t 56)⟩,⟨some 8,none,.mv (.t 57)⟩,⟨some 9,none,.mv (.c (.bool true))⟩]) .ret))))))
theorem CY:Ad Tryz.prog 105=some ⟨58,Cb,[(.tmp 8),(.tmp 9)]⟩:=by kernel_rfl
theorem Bw:modes 105=⟨[],.asis,none,false⟩:=by unfold modes; rfl
def B4:SC:=(.seq (.reg [⟨some 3,none,.boxv 26 2 (.t 0)⟩,⟨some 4,none,.boxv 69 2 (.t 1)⟩,⟨some 6,none,.mv (.c (.int .i64 0))⟩,⟨some 7,none,.mv (.c (.bool false))⟩]) (.seq (.seq (.reg [⟨some 10,none,.load true 2 (.t 4)⟩,⟨some 11,none,.call 69 [(.t 10)]⟩]) (.cond (.t 11) (.seq (.reg [⟨some 13,none,.mv (.t 2)⟩,⟨some 14,none,.faddr 0 (.t 4)⟩,⟨some 15,none,.load false 1 (.t 14)⟩,⟨some 16,none,.mget true true false [(.int .i64 0)] (.t 13) (.t 15)⟩,⟨some 12,none,.mv (.t 16)⟩,⟨some 17,none,.ext (.t 12) 0⟩,⟨some 18,none,.ext (.t 12) 1⟩,⟨some 8,none,.mv (.t 17)⟩,⟨some 9,none,.mv (.t 18)⟩]) (.seq (.reg [⟨some 19,none,.mv (.t 8)⟩,⟨some 20,none,.mv (.t 9)⟩,⟨some 6,none,.mv (.t 19)⟩,⟨some 7,none,.mv (.t 20)⟩]) .ret)) .skip)) (.seq (.reg [⟨some 21,none,.load true 2 (.t 3)⟩,⟨some 22,none,.load true 2 (.t 4)⟩,⟨some 23,none,.mv (.t 2)⟩,⟨some 24,none,.call 105 [(.t 21),(.t 22),(.t 23),(.c (.bool false))]⟩,⟨some 25,none,.ext (.t 24) 0⟩,⟨some 26,none,.ext (.t 24) 1⟩,⟨some 6,none,.mv (.t 25)⟩,⟨some 7,none,.mv (.t 26)⟩]) .ret)))
theorem Cg:Ad Tryz.prog 104=some ⟨27,B4,[(.tmp 6),(.tmp 7)]⟩:=by kernel_rfl
theorem As:modes 104=⟨[],.asis,none,false⟩:=by unfold modes; rfl
def Je:SC:=(.seq (.reg [⟨some 6,none,.mv (.c (.int .i64 0))⟩]) (.seq (.seq (.reg [⟨some 7,none,.mv (.c (.int .i64 0))⟩]) (.block 0 (.loop [1,1,1,0,0,0,0,1,0,0,0,0,0,0,0,0,0,0,0,0,0,0,0,0,0,0,0,0,0,0,0] (.seq (.seq (.reg [⟨some 8,none,.mv (.t 7)⟩,⟨some 9,none,.mv (.t 0)⟩,⟨some 10,none,.len false (.t 9)⟩,⟨some 11,none,.bin .lss false (.t 8) (.t 10)⟩]) (.cond (.t 11) .skip (.exit 0))) (.seq (.block 1 (.seq (.reg [⟨some 14,none,.mv (.t 0)⟩,⟨some 15,none,.mv (.t 7)⟩,⟨some 16,none,.iaddr 4 (.t 14) (.t 15)⟩,⟨some 17,none,.faddr 0 (.t 16)⟩,⟨some 18,none,.load false 1 (.t 17)⟩,⟨some 19,none,.mv (.t 1)⟩,⟨some 20,none,.bin .eql false (.t 18) (.t 19)⟩,⟨some 21,none,.mv (.t 20)⟩,⟨(some 22),(some (21,true)),(.mv (.t 0))⟩,⟨(some 23),(some (21,true)),(.mv (.t 7))⟩,⟨(some 24),(some (21,true)),(.iaddr 4 (.t 22) (.t 23))⟩,⟨(some 25),(some (21,true)),(.faddr 1 (.t 24))⟩,⟨(some 26),(some (21,true)),(.load false 1 (.t 25))⟩,⟨(some 27),(some (21,true)),(.mv (.t 2))⟩,⟨(some 28),(some (21,true)),(.bin .eql false (.t 26) (.t 27))⟩,⟨some 29,none,.pick (.t 21) (.t 28) (.c (.bool false))⟩]) (.cond (.t 29) (.seq (.reg [⟨some 30,none,.mv (.t 7)⟩,⟨some 6,none,.mv (.t 30)⟩]) .ret) .skip))) (.reg [⟨some 12,none,.mv (.t 7)⟩,⟨some 13,none,.bin .add false (.t 12) (.c (.int .i64 1))⟩,⟨some 7,none,.mv (.t 13)⟩])))))) (.seq (.reg [⟨some 6,none,.mv (.c (.int .i64 (-(0+1))))⟩]) .ret)))
theorem Pl:Ad Tryz.prog 63=some ⟨31,Je,[(.tmp 6)]⟩:=by kernel_rfl
theorem A4:modes 63=⟨[],.asis,none,false⟩:=by unfold modes; rfl
def DT:SC:=(.seq (.reg [⟨some 4,none,.boxv 26 2 (.t 0)⟩,⟨some 6,none,.boxv 69 2 (.t 2)⟩,⟨some 8,none,.mv (.c (.int .i64 0))⟩,⟨some 9,none,.mv (.c (.bool false))⟩]) (.seq (.seq (.reg [⟨some 16,none,.faddr 0 (.t 6)⟩,⟨some 17,none,.load false 1 (.t 16)⟩,⟨some 18,none,.call 62 [(.t 17)]⟩]) (.cond (.t 18) (.seq (.seq (.reg [⟨some 10,none,.mv (.c (.int .i64 0))⟩]) (.block 0 (.loop [0,1,0,0,0,0,1,0,0,0,1,0,0,0,0,0,0,0,0,0,0,0,0,0,0,0,0,0,0,0,0,0,0,0,0,0,0,0,0,0,0,0,0,0,0,0,0,0,0,0,0,0,0,0,0,0,0,0,0,0,0,0,0,0,0,0,0,0,0,0,0,0,0,0,0,0,0,0,0,0,0,0,0,0,0,0,0,0,0,0,0,0,0,0,0,0,0,0,0,0,0,0,0,0,0,0,0,0] (.seq (.seq (.reg [⟨some 19,none,.mv (.t 10)⟩,⟨some 20,none,.mv (.t 1)⟩,⟨some 21,none,.len false (.t 20)⟩,⟨some 22,none,.bin .lss false (.t 19) (.t 21)⟩]) (.cond (.t 22) .skip (.exit 0))) (.seq (.block 1 (.seq (.dreg [[],[],[0,1],[2,0,1],[3,2,0,1],[],[5],[4,3,2,0,1,6,5]] [⟨some 25,none,.mv (.t 1)⟩,⟨some 26,none,.mv (.t 10)⟩,⟨some 27,none,.iaddr 2 (.t 25) (.t 26)⟩,⟨some 28,none,.faddr 0 (.t 27)⟩,⟨some 29,none,.load false 1 (.t 28)⟩,⟨some 30,none,.faddr 0 (.t 6)⟩,⟨some 31,none,.load false 1 (.t 30)⟩,⟨some 32,none,.bin .eql false (.t 29) (.t 31)⟩]) (.cond (.t 32) (.seq (.reg [⟨some 33,none,.mv (.t 1)⟩,⟨some 34,none,.mv (.t 10)⟩,⟨some 35,none,.iaddr 2 (.t 33) (.t 34)⟩,⟨some 36,none,.faddr 1 (.t 35)⟩,⟨some 37,none,.load false 1 (.t 36)⟩,⟨some 8,none,.mv (.t 37)⟩,⟨some 9,none,.mv (.c (.bool true))⟩]) .ret) .skip))) (.reg [⟨some 23,none,.mv (.t 10)⟩,⟨some 24,none,.bin .add false (.t 23) (.c (.int .i64 1))⟩,⟨some 10,none,.mv (.t 24)⟩])))))) (.seq (.reg [⟨some 8,none,.mv (.c (.int .i64 0))⟩,⟨some 9,none,.mv (.c (.bool false))⟩]) .ret)) .skip)) (.seq (.reg [⟨some 11,none,.mv (.c (.int .i64 0))⟩]) (.seq (.seq (.reg [⟨some 12,none,.mv (.c (.int .i64 0))⟩]) (.block 2 (.loop [0,1,0,1,1,0,1,0,0,0,0,1,1,0,0,0,0,0,0,0,0,0,0,0,0,0,0,0,0,0,0,0,0,0,0,0,0,0,0,0,0,0,0,0,0,0,0,0,0,0,0,0,0,0,0,0,0,0,0,0,0,0,0,0,0,0,0,0,0,0,0,0,0,0,0,0,0,0,0,0,0,0,0,0,0,0,0,0,0,0,0,0,0,0,0,0,0,0,0,0,0,0,0,0,0,0,0,0] (.seq (.seq (.reg [⟨some 38,none,.mv (.t 12)⟩,⟨some 39,none,.faddr 1 (.t 6)⟩,⟨some 40,none,.load false 1 (.t 39)⟩,⟨some 41,none,.len false (.t 40)⟩,⟨some 42,none,.bin .lss false (.t 38) (.t 41)⟩]) (.cond (.t 42) .skip (.exit 2))) (.seq (.block 3 (.seq (.dreg [[],[],[],[2],[],[3,2,4],[5,3,2,4],[0,1,6,5,3,2,4],[7,0,1,6,5,3,2,4],[8,7,0,1,6,5,3,2,4],[8,7,0,1,6,5,3,2,4],[9,8,7,0,1,6,5,3,2,4],[10,8,7,0,1,6,5,3,2,4,11,9]] [⟨some 46,none,.load true 2 (.t 4)⟩,⟨some 47,none,.mv (.t 1)⟩,⟨some 48,none,.faddr 1 (.t 6)⟩,⟨some 49,none,.load false 1 (.t 48)⟩,⟨some 50,none,.mv (.t 12)⟩,⟨some 51,none,.iaddr 2 (.t 49) (.t 50)⟩,⟨some 52,none,.load true 2 (.t 51)⟩,⟨some 53,none,.call 40 [(.t 46),(.t 47),(.t 52),(.c (.bool false))]⟩,⟨some 45,none,.mv (.t 53)⟩,⟨some 54,none,.ext (.t 45) 0⟩,⟨some 55,none,.ext (.t 45) 1⟩,⟨some 13,none,.mv (.t 54)⟩,⟨some 14,none,.mv (.t 55)⟩]) (.seq (.seq (.reg [⟨some 56,none,.mv (.t 14)⟩,⟨some 57,none,.un .not (.t 56)⟩]) (.cond (.t 57) (.seq (.reg [⟨some 8,none,.mv (.c (.int .i64 0))⟩,⟨some 9,none,.mv (.c (.bool false))⟩]) .ret) .skip)) (.reg [⟨some 58,none,.mv (.t 11)⟩,⟨some 59,none,.faddr 0 (.t 4)⟩,⟨some 60,none,.load false 1 (.t 59)⟩,⟨some 61,none,.bin .mul false (.t 58) (.t 60)⟩,⟨some 62,none,.mv (.t 13)⟩,⟨some 63,none,.bin .add false (.t 61) (.t 62)⟩,⟨some 11,none,.mv (.t 63)⟩])))) (.reg [⟨some 43,none,.mv (.t 12)⟩,⟨some 44,none,.bin .add false (.t 43) (.c (.int .i64 1))⟩,⟨some 12,none,.mv (.t 44)⟩])))))) (.seq (.seq (.reg [⟨some 64,none,.mv (.t 3)⟩,⟨some 65,none,.mv (.t 64)⟩,⟨(some 66),(some (65,true)),(.faddr 0 (.t 6))⟩,⟨(some 67),(some (65,true)),(.load false 1 (.t 66))⟩,⟨(some 68),(some (65,true)),(.bin .eql false (.t 67) (.c (.str ⟨#[61]⟩)))⟩,⟨some 69,none,.pick (.t 65) (.t 68) (.c (.bool false))⟩]) (.cond (.t 69) (.seq (.seq (.dreg [[],[],[1],[0,2,1],[],[],[5],[4,6,5],[3,0,2,1,7,4,6,5]] [⟨some 70,none,.mv (.t 11)⟩,⟨some 71,none,.faddr 0 (.t 4)⟩,⟨some 72,none,.load false 1 (.t 71)⟩,⟨some 73,none,.bin .rem false (.t 70) (.t 72)⟩,⟨some 74,none,.mv (.t 11)⟩,⟨some 75,none,.faddr 0 (.t 4)⟩,⟨some 76,none,.load false 1 (.t 75)⟩,⟨some 77,none,.bin .quo false (.t 74) (.t 76)⟩,⟨some 78,none,.bin .eql false (.t 73) (.t 77)⟩]) (.cond (.t 78) (.seq (.reg [⟨some 8,none,.mv (.c (.int .i64 1))⟩,⟨some 9,none,.mv (.c (.bool true))⟩]) .ret) .skip)) (.seq (.reg [⟨some 8,none,.mv (.c (.int .i64 0))⟩,⟨some 9,none,.mv (.c (.bool true))⟩]) .ret)) .skip)) (.seq (.reg [⟨some 79,none,.faddr 1 (.t 4)⟩,⟨some 80,none,.load false 1 (.t 79)⟩,⟨some 81,none,.faddr 0 (.t 6)⟩,⟨some 82,none,.load false 1 (.t 81)⟩,⟨some 83,none,.faddr 1 (.t 6)⟩,⟨some 84,none,.load false 1 (.t 83)⟩,⟨some 85,none,.len false (.t 84)⟩,⟨some 86,none,.call 63 [(.t 80),(.t 82),(.t 85)]⟩,⟨some 15,none,.mv (.t 86)⟩]) (.seq (.seq (.reg [⟨some 87,none,.mv (.t 15)⟩,⟨some 88,none,.bin .lss false (.t 87) (.c (.int .i64 0))⟩,⟨some 89,none,.mv (.t 88)⟩,⟨(some 90),(some (89,false)),(.faddr 1 (.t 4))⟩,⟨(some 91),(some (89,false)),(.load false 1 (.t 90))⟩,⟨(some 92),(some (89,false)),(.mv (.t 15))⟩,⟨(some 93),(some (89,false)),(.iaddr 4 (.t 91) (.t 92))⟩,⟨(some 94),(some (89,false)),(.faddr 2 (.t 93))⟩,⟨(some 95),(some (89,false)),(.load false 1 (.t 94))⟩,⟨(some 96),(some (89,false)),(.mv (.t 3))⟩,⟨(some 97),(some (89,false)),(.bin .neq true (.t 95) (.t 96))⟩,⟨some 98,none,.pick (.t 89) (.c (.bool true)) (.t 97)⟩]) (.cond (.t 98) (.seq (.reg [⟨some 8,none,.mv (.c (.int .i64 0))⟩,⟨some 9,none,.mv (.c (.bool false))⟩]) .ret) .skip)) (.seq (.reg [⟨some 99,none,.faddr 1 (.t 4)⟩,⟨some 100,none,.load false 1 (.t 99)⟩,⟨some 101,none,.mv (.t 15)⟩,⟨some 102,none,.iaddr 4 (.t 100) (.t 101)⟩,⟨some 103,none,.faddr 3 (.t 102)⟩,⟨some 104,none,.load false 1 (.t 103)⟩,⟨some 105,none,.mv (.t 11)⟩,⟨some 106,none,.iaddr 1 (.t 104) (.t 105)⟩,⟨some 107,none,.load false 1 (.t 106)⟩,⟨some 8,none,.mv (.t 107)⟩,⟨some 9,none,.mv (.c (.bool true))⟩]) .ret))))))))
theorem Fp:Ad Tryz.prog 40=some ⟨108,DT,[(.tmp 8),(.tmp 9)]⟩:=by kernel_rfl
theorem Bk:modes 40=⟨[],.asis,none,false⟩:=by unfold modes; rfl
theorem JG {α:Type} (p:α→Bool):∀ (xs:List α) (i:Int),(xs.find? p=none∧Cy p xs i=-1)∨∃ k t,∃ h:k<xs.length,xs.find? p=some t∧Cy p xs i=i+(k:Nat)∧xs[k]=t
 | [],i=>.inl ⟨rfl,rfl⟩
 | x :: xs,i=>by
  rw [Cy,yH]
  cases hp:p x with
  | true=>exact .inr ⟨0,x,by simp,rfl,by simp,rfl⟩
  | false =>
   simp only [yF,if_false]
   rcases JG p xs (i+1) with h | ⟨k,t,h,h1,h2,h3⟩
   ·exact .inl h
   ·exact .inr ⟨k+1,t,by simpa using h,h1,by rw [h2]; omega,by simpa using h3⟩
theorem Qbj (n:ByteArray) (z:Int) (b:Bool) (t:Tl):E 146 [t.sv,.ptr 0 0,.ptr 1 0,.ptr 2 0] [.box 9 [.str n],.box 3 [.int .i64 z],.box 4 [.bool b]]=some (.bool (dec (t.name=n)&&(dec (t.arity=z)&&(t.pred == b))),[.box 9 [.str n],.box 3 [.int .i64 z],.box 4 [.bool b]]):=by
 cases h1:dec (t.name=n) with
 | false =>
  rw [zT]
  refine Ab BX AQ (of_decide_eq_true rfl) ?_
  simp (disch:=omega) only [Bt,go_sem,Aa,h1]
 | true =>
  rw [zW]
  cases h2:dec (t.arity=z) with
  | false =>
   rw [zT]
   refine Ab BX AQ (of_decide_eq_true rfl) ?_
   simp (disch:=omega) only [Bt,go_sem,Aa,h1,h2]
  | true =>
   rw [zW]
   refine Ab BX AQ (of_decide_eq_true rfl) ?_
   simp (disch:=omega) only [Bt,go_sem,Aa,h1,h2]
theorem XC (n:ByteArray) (z:Int) (b:Bool) (xs:List Tl) (hl:xs.length≤1099511627776):E 145 [.arr (xs.map Tl.d),.fn 146 [.ptr 0 0,.ptr 1 0,.ptr 2 0]] [.box 9 [.str n],.box 3 [.int .i64 z],.box 4 [.bool b]]=some (.int .i64 (Cy (fun t=>dec (t.name=n)&&(dec (t.arity=z)&&(t.pred == b))) xs 0),[.box 9 [.str n],.box 3 [.int .i64 z],.box 4 [.bool b]]):=by
 have hE:=Qbj n z b
 generalize hpp:(fun t:Tl=>dec (t.name=n)&&(dec (t.arity=z)&&(t.pred == b)))=p at *
 have hpe:∀ t:Tl,(dec (t.name=n)&&(dec (t.arity=z)&&(t.pred == b)))=p t:=fun t=>by rw [←hpp]
 refine Ab Dd AX (of_decide_eq_true rfl) ?_
 simp (disch:=omega) only [BK,go_sem,Aa]
 refine go_loop (α:=Int) (fun a=>⟨slots 19 0 [(0,.arr (xs.map Tl.d)),(1,.fn 146 [.ptr 0 0,.ptr 1 0,.ptr 2 0]),(7,.int .i64 xs.length),(8,.int .i64 a)],[.box 9 [.str n],.box 3 [.int .i64 z],.box 4 [.bool b]]⟩) (fun a=>∃ k:Nat,a=k∧k≤(xs).length∧Cy p (xs.drop k) a=Cy p xs 0) (fun a=>(xs).length-(a).toNat) 0 ⟨0,rfl,zJ _,by rw [zD]⟩ (by simp (disch:=omega) only [go_sem,Aa]) ?_
 rintro i ⟨k,hi,hk,hR⟩
 have hni:i.toNat=k:=by omega
 have hni1:(i+1).toNat=k+1:=by omega
 rcases zB k (xs).length with hlt | hge
 ·have hg':=get_at Tl.d hlt
  rw [Tl.d_eq] at hg'
  have hc:=hE xs[k]
  rw [hpe] at hc
  rw [zA hlt,Cy] at hR
  cases hp:p xs[k] with
  | true =>
   rw [hp] at hc hR
   simp (disch:=omega) only [go_sem,Aa,hni,hg',hc,CL,AQ]
   simpa using hR
  | false =>
   rw [hp] at hc hR
   simp (disch:=omega) only [go_sem,Aa,hni,hg',hc,CL,AQ]
   exact ⟨i+1,⟨k+1,by omega,hlt,by simpa using hR⟩,by omega,by first | trivial | rfl⟩
 ·rw [zC hge,Cy] at hR
  simp (disch:=omega) only [go_sem,Aa,hni]
  exact hR
noncomputable def Zz:Option Tl→SV
 | some t=>t.sv
 | none=>.agg [.str ⟨#[]⟩,.int .i64 0,.bool false,.nil]
theorem Qbk (m:Ip) (hl:m.tables.length≤1099511627776) (n:ByteArray) (z:Int) (b:Bool):E 131 [m.sv,.str n,.int .i64 z,.bool b] []=some (.tup [Zz (JM m.tables n z b),.bool (JM m.tables n z b).isSome],[]):=by
 have h1:=XC n z b m.tables hl
 unfold JM
 rcases JG (fun t:Tl=>dec (t.name=n)&&(dec (t.arity=z)&&(t.pred == b))) m.tables 0 with ⟨h2,h3⟩ | ⟨k,t,hk,h2,h3,h4⟩
 ·rw [h2]
  rw [h3] at h1
  refine Ab Dl B3 (of_decide_eq_true rfl) ?_
  simp (disch:=omega) only [Cf,go_sem,Aa,h1,AX]
  exact ⟨rfl,rfl⟩
 ·rw [h2]
  rw [h3,yW] at h1
  have hg:=get_at Tl.d hk
  rw [h4,Tl.d_eq] at hg
  obtain ⟨i,hi⟩:∃ i:Int,i=(k:Int):=⟨_,rfl⟩
  rw [←hi] at h1
  have hni:i.toNat=k:=by omega
  refine Ab Dl B3 (of_decide_eq_true rfl) ?_
  simp (disch:=omega) only [Cf,go_sem,Aa,h1,hni,hg,AX]
  exact ⟨rfl,rfl⟩
abbrev Qbl (o:Option Int):SV:=.tup [.int .i64 (o.getD 0),.bool o.isSome]
theorem TJ {a b c:Tl} (h1:Bi a b=true) (h2:Bi b c=true):Bi a c=true:=by
 unfold Bi at *
 rw [Bool.or_eq_true,zF,Af,Af] at *
 rcases h1 with h1 | ⟨h1,h1'⟩
 ·rcases h2 with h2 | ⟨h2,h2'⟩
  ·exact .inl (IU h1 h2)
  ·rw [←h2]; exact .inl h1
 ·rcases h2 with h2 | ⟨h2,h2'⟩
  ·rw [h1]; exact .inl h2
  ·exact .inr ⟨h1.trans h2,by omega⟩
theorem Ra {ts:List Tl} (h:Dj ts=true):ts.Pairwise fun x y=>Bi x y=true:=by
 unfold Dj at h
 rw [zF] at h
 have st:∀ j (hj:j+1<ts.length),Bi ts[j] ts[j+1]=true:=fun j hj=>by
  have:=OP h.1 hj
  rw [D2 hj,zF,zF] at this
  exact this.2.2
 have key:∀ i d (hi:i+d+1<ts.length),Bi (ts[i]'(by omega)) ts[i+d+1]=true:=by
  intro i d
  induction d with
  | zero=>intro hi; exact st i hi
  | succ d ih=>intro hi; exact TJ (ih (by omega)) (st (i+d+1) hi)
 rw [y4]
 intro i j hi hj hij
 obtain ⟨d,rfl⟩:∃ d,j=i+d+1:=⟨j-i-1,by omega⟩
 exact key i d hj
theorem Z0 {a b:Tl} (h:Bi a b=true) (h1:a.name=b.name) (h2:a.arity=b.arity):False:=by
 unfold Bi at h
 rw [Bool.or_eq_true,zF,Af,Af] at h
 rcases h with h | ⟨_,h⟩
 ·exact OV h h1
 ·omega
theorem KJ {n:ByteArray} {z:Int} {p:Bool}:∀ {ts:List Tl},ts.Pairwise (fun x y=>Bi x y=true)→JM ts n z p=match ts.find? (fun t=>dec (t.name=n)&&dec (t.arity=z)) with
  | some t=>bif t.pred == p then some t else none
  | none=>none
 | [],_=>rfl
 | t :: ts,h=>by
  obtain ⟨h1,h2⟩:=yY.1 h
  have ih:=KJ (n:=n) (z:=z) (p:=p) h2
  unfold JM at ih ⊢
  rw [yH,yH]
  cases ha:dec (t.name=n) with
  | false=>simp only [zT]; exact ih
  | true =>
   cases hb:dec (t.arity=z) with
   | false=>simp only [zT,y9]; exact ih
   | true =>
    simp only [zW]
    cases hc:t.pred == p with
    | true=>rfl
    | false =>
     simp only [cond_false]
     rw [yZ]
     intro u hu hb2
     rw [zF,zF,Af,Af] at hb2
     exact Z0 (h1 u hu) ((Af.1 ha).trans hb2.1.symm) ((Af.1 hb).trans hb2.2.1.symm)
abbrev VaC (m:Ip) (e:Env) (x:Tm):Prop:=E 104 [m.sv,x.sv,.mp true (JL e)] []=some (Qbl (x.val m e),[])
abbrev LvC (m:Ip) (a:List Ag) (x:Tm):Prop:=E 40 [m.sv,.arr (a.map Ag.d),x.sv,.bool false] []=some (Qbl (x.val m (asg a)),[])
theorem at_next {s at_ v P:Int} (h1:1≤s) (h0:0≤at_) (hP:at_<P) (v0:0≤v) (v1:v<s):0≤at_*s+v∧at_*s+v<P*s∧0≤at_*s∧at_*s<P*s:=by
 have k1:=Int.mul_nonneg h0 (show 0≤s by omega)
 have k2:(at_+1)*s≤P*s:=Int.mul_le_mul_of_nonneg_right (by omega) (by omega)
 rw [Int.add_mul,Int.one_mul] at k2
 omega
theorem Rb (m:Ip) (hm:m.ok=true) (hml:m.tables.length≤1099511627776) (hvl:∀ t∈m.tables,t.vals.length≤1099511627776) (e:Env) (he:InE m.size e) (x:Tm) (hxl:x.args.length≤1099511627776) (p:Bool) (ih:∀ y∈x.args,VaC m e y):E 105 [m.sv,x.sv,.mp true (JL e),.bool p] []=some (Qbl (CA m.tables x.name x.args.length p (Tm.DL m e x.args 0)),[]):=by
 have h1:=Qbk m hml x.name x.args.length p
 unfold CA
 obtain ⟨⟨s1,s3⟩,hT,_⟩:=Ip.DK hm
 cases ht:JM m.tables x.name x.args.length p with
 | none =>
  rw [ht] at h1
  have hts:Zz none=.agg [.str ⟨#[]⟩,.int .i64 0,.bool false,.nil]:=rfl
  refine Ab CY Bw (of_decide_eq_true rfl) ?_
  simp (disch:=omega) only [Cb,go_sem,Aa,h1,hts,zI,B3]
  try exact ⟨rfl,rfl⟩
 | some t =>
  rw [ht] at h1
  have hts:Zz (some t)=.agg [.str t.name,.int .i64 t.arity,.bool t.pred,.arr (t.vals.map fun n=>[D.int n])]:=rfl
  obtain ⟨t1,t2,t3,t4⟩:=Hp ht
  have ha3:=(Dt hT t1).2
  rw [t3] at ha3
  have hvt:=hvl t t1
  have hsome:(some t).isSome=true:=rfl
  refine Ab CY Bw (of_decide_eq_true rfl) ?_
  simp (disch:=omega) only [Cb,go_sem,Aa,h1,hts,hsome,B3]
  refine go_loop (α:=Int × (Int)) (fun a=>⟨slots 58 0 [(2,.mp true (JL e)),(4,.ptr 0 0),(10,.ptr 1 0),(12,.int .i64 (a.2)),(31,.arr (x.args.map Tm.d)),(32,.int .i64 x.args.length),(33,.int .i64 (a.1))],[.box 26 [.int .i64 m.size,.arr (m.tables.map Tl.d)],.box 58 [.str t.name,.int .i64 t.arity,.bool t.pred,.arr (t.vals.map fun n=>[D.int n])]]⟩) (fun a=>∃ k:Nat,a.1=k∧k≤(x.args).length∧0≤(a.2)∧(a.2)<pw m.size k∧Tm.DL m e (x.args.drop k) (a.2)=Tm.DL m e x.args 0) (fun a=>(x.args).length-(a.1).toNat) (0,0) ⟨0,rfl,zJ _,⟨y5 0,by rw [pw]; omega,by rw [zD]⟩⟩ (by simp (disch:=omega) only [go_sem,Aa]) ?_
  rintro ⟨i,at_⟩ ⟨k,hi,hk,hR⟩
  dsimp only at hi hR
  have hni:i.toNat=k:=by omega
  have hni1:(i+1).toNat=k+1:=by omega
  rcases zB k (x.args).length with hlt | hge
  ·have hg:=get_at Tm.d hlt
   rw [Tm.d_eq] at hg
   obtain ⟨r0,r1,r2⟩:=hR
   have hc:=ih x.args[k] (zG hlt)
   rw [zA hlt,Tm.DL] at r2
   have hps:=DJ s1 s3 (k:=k+1) (by omega)
   cases hv:x.args[k].val m e with
   | none =>
    rw [hv] at r2
    unfold VaC at hc
    rw [hv] at hc
    rw [←r2]
    simp (disch:=omega) only [go_sem,Aa,hni,hg,hc,zL,zI,zH,zE,As]
    try exact ⟨rfl,rfl⟩
   | some v =>
    rw [hv] at r2
    unfold VaC at hc
    rw [hv] at hc
    obtain ⟨v0,v1⟩:=Tm.M2 hm he _ v hv
    obtain ⟨q0,q1,q2,q3⟩:=at_next s1 r0 r1 v0 v1
    rw [pw] at hps
    simp (disch:=omega) only [go_sem,Aa,hni,hg,hc,zL,zI,zH,zE,As]
    refine ⟨(i+1,at_*m.size+v),⟨k+1,by dsimp only; omega,hlt,q0,(by rw [pw]; exact q1),r2⟩,by dsimp only; omega,?_⟩
    first | trivial | rfl | exact ⟨rfl,rfl⟩
  ·obtain rfl:k=x.args.length:=by omega
   obtain ⟨r0,r1,r2⟩:=hR
   rw [zC hge,Tm.DL] at r2
   rw [←r2]
   obtain ⟨g1,g2,_,_⟩:=NS hm ht r0 r1
   have hgv:=get_at (fun n=>[D.int n]) g1
   have hgd:(some (t.vals.getD at_.toNat 0)).getD 0=t.vals[at_.toNat]:=g2
   simp (disch:=omega) only [go_sem,Aa,hni,hgv,hgd,zE]
   try exact ⟨hgd.symm,rfl⟩
theorem Z1 (m:Ip) (hm:m.ok=true) (hml:m.tables.length≤1099511627776) (hvl:∀ t∈m.tables,t.vals.length≤1099511627776) (e:Env) (he:InE m.size e) (x:Tm) (hx:x.names=true) (hxl:x.args.length≤1099511627776) (ih:∀ y∈x.args,VaC m e y):VaC m e x:=by
 have h1:=J9 x (Tm.J8 x hx)
 have h2:=Rb m hm hml hvl e he x hxl false ih
 unfold VaC
 rw [Tm.RK]
 cases hb:AI x.name with
 | true =>
  rw [hb] at h1
  rw [cond_true]
  cases hq:e x.name with
  | none =>
   have hme:JL e (.str x.name)=none:=by rw [L1,hq]
   refine Ab Cg As (of_decide_eq_true rfl) ?_
   simp (disch:=omega) only [B4,go_sem,Aa,h1,hme,AK]
   try first | rfl | exact ⟨rfl,rfl⟩
  | some v =>
   have hme:JL e (.str x.name)=some (false,[.int v]):=by rw [L1,hq]
   refine Ab Cg As (of_decide_eq_true rfl) ?_
   simp (disch:=omega) only [B4,go_sem,Aa,h1,hme,AK]
   try first | rfl | exact ⟨rfl,rfl⟩
 | false =>
  rw [hb] at h1
  rw [cond_false]
  generalize CA m.tables x.name x.args.length false (Tm.DL m e x.args 0)=r at *
  refine Ab Cg As (of_decide_eq_true rfl) ?_
  simp (disch:=omega) only [B4,go_sem,Aa,h1,h2,AK,Bw]
theorem NV (m:Ip) (hm:m.ok=true) (hml:m.tables.length≤1099511627776) (hvl:∀ t∈m.tables,t.vals.length≤1099511627776) (e:Env) (he:InE m.size e) (x:Tm) (hx:x.names=true) (hn:x.nodes≤1048576):VaC m e x :=
 Z1 m hm hml hvl e he x hx (by have:=Tm.length_le x.args; have:=Tm.A3 x; omega) fun y hy=>NV m hm hml hvl e he y (Tm.Eg hx hy) (by have:=Tm.Cv hy; have:=Tm.A3 x; omega)
termination_by SizeOf.sizeOf x
decreasing_by exact Tm.Ar hy
theorem M9 (xs:List Tl) (hl:xs.length≤1099511627776) (n:ByteArray) (z:Int):E 63 [.arr (xs.map Tl.d),.str n,.int .i64 z] []=some (.int .i64 (Cy (fun t=>dec (t.name=n)&&dec (t.arity=z)) xs 0),[]):=by
 generalize hpp:(fun t:Tl=>dec (t.name=n)&&dec (t.arity=z))=p
 have hpe:∀ t:Tl,p t=(dec (t.name=n)&&dec (t.arity=z)):=fun t=>by rw [←hpp]
 refine Ab Pl A4 (of_decide_eq_true rfl) ?_
 simp (disch:=omega) only [Je,go_sem,Aa]
 refine go_loop (α:=Int) (fun a=>⟨slots 31 0 [(0,.arr (xs.map Tl.d)),(1,.str n),(2,.int .i64 z),(7,.int .i64 a)],[]⟩) (fun a=>∃ k:Nat,a=k∧k≤(xs).length∧Cy p (xs.drop k) a=Cy p xs 0) (fun a=>(xs).length-(a).toNat) 0 ⟨0,rfl,zJ _,by rw [zD]⟩ (by simp (disch:=omega) only [go_sem,Aa]) ?_
 rintro i ⟨k,hi,hk,hR⟩
 have hni:i.toNat=k:=by omega
 have hni1:(i+1).toNat=k+1:=by omega
 rcases zB k (xs).length with hlt | hge
 ·have hg:=get_at Tl.d hlt
  rw [Tl.d_eq] at hg
  rw [zA hlt,Cy,hpe] at hR
  cases h1:dec (xs[k].name=n) with
  | false =>
   rw [h1] at hR
   simp (disch:=omega) only [go_sem,Aa,hni,hg,h1]
   exact ⟨i+1,⟨k+1,by omega,hlt,by simpa using hR⟩,by omega,by first | trivial | rfl⟩
  | true =>
   rw [h1] at hR
   cases h2:dec (xs[k].arity=z) with
   | false =>
    rw [h2] at hR
    simp (disch:=omega) only [go_sem,Aa,hni,hg,h1,h2]
    exact ⟨i+1,⟨k+1,by omega,hlt,by simpa using hR⟩,by omega,by first | trivial | rfl⟩
   | true =>
    rw [h2] at hR
    simp (disch:=omega) only [go_sem,Aa,hni,hg,h1,h2]
    simpa using hR
 ·rw [zC hge,Cy] at hR
  simp (disch:=omega) only [go_sem,Aa,hni]
  exact hR
theorem TK (m:Ip) (hm:m.ok=true) (hml:m.tables.length≤1099511627776) (hvl:∀ t∈m.tables,t.vals.length≤1099511627776) (as_:List Ag) (hal:as_.length≤1099511627776) (he:InE m.size (asg as_)) (x:Tm) (hxl:x.args.length≤29) (ih:∀ y∈x.args,LvC m as_ y):LvC m as_ x:=by
 have h1:=Gp x.name
 obtain ⟨⟨s1,s3⟩,hT,_⟩:=Ip.DK hm
 unfold LvC
 rw [Tm.RK]
 cases hb:AI x.name with
 | true =>
  rw [hb] at h1
  rw [cond_true]
  refine Ab Fp Bk (of_decide_eq_true rfl) ?_
  simp (disch:=omega) only [DT,go_sem,Aa,h1,Ao]
  refine go_loop (α:=Int) (fun a=>⟨slots 108 0 [(1,.arr (as_.map Ag.d)),(6,.ptr 0 0),(10,.int .i64 a)],[.box 69 [.str x.name,.arr (x.args.map Tm.d)]]⟩) (fun a=>∃ k:Nat,a=k∧k≤(as_).length∧asg (as_.drop k) x.name=asg as_ x.name) (fun a=>(as_).length-(a).toNat) 0 ⟨0,rfl,zJ _,by rw [zD]⟩ (by simp (disch:=omega) only [go_sem,Aa]) ?_
  rintro i ⟨k,hi,hk,hR⟩
  have hni:i.toNat=k:=by omega
  have hni1:(i+1).toNat=k+1:=by omega
  rcases zB k (as_).length with hlt | hge
  ·have hg:=get_at Ag.d hlt
   rw [Ag.d_eq] at hg
   rw [zA hlt,asg] at hR
   cases hd:dec (as_[k].var=x.name) with
   | true =>
    rw [hd,cond_true] at hR
    rw [←hR]
    simp (disch:=omega) only [go_sem,Aa,hni,hg,hd]
    try first | rfl | exact ⟨rfl,rfl⟩
   | false =>
    rw [hd,cond_false] at hR
    simp (disch:=omega) only [go_sem,Aa,hni,hg,hd]
    exact ⟨i+1,⟨k+1,by omega,hlt,hR⟩,by omega,by first | trivial | rfl⟩
  ·rw [zC hge,asg] at hR
   rw [←hR]
   simp (disch:=omega) only [go_sem,Aa,hni]
   try first | rfl | exact ⟨rfl,rfl⟩
 | false =>
  rw [hb] at h1
  rw [cond_false]
  have hf:=M9 m.tables hml x.name x.args.length
  refine Ab Fp Bk (of_decide_eq_true rfl) ?_
  simp (disch:=omega) only [DT,go_sem,Aa,h1,Ao]
  refine go_loop (α:=Int × (Int)) (fun a=>⟨slots 108 0 [(1,.arr (as_.map Ag.d)),(3,.bool false),(4,.ptr 0 0),(6,.ptr 1 0),(11,.int .i64 (a.2)),(12,.int .i64 (a.1))],[.box 26 [.int .i64 m.size,.arr (m.tables.map Tl.d)],.box 69 [.str x.name,.arr (x.args.map Tm.d)]]⟩) (fun a=>∃ k:Nat,a.1=k∧k≤(x.args).length∧0≤(a.2)∧(a.2)<pw m.size k∧Tm.DL m (asg as_) (x.args.drop k) (a.2)=Tm.DL m (asg as_) x.args 0) (fun a=>(x.args).length-(a.1).toNat) (0,0) ⟨0,rfl,zJ _,⟨y5 0,by rw [pw]; omega,by rw [zD]⟩⟩ (by simp (disch:=omega) only [go_sem,Aa]) ?_
  rintro ⟨i,at_⟩ ⟨k,hi,hk,hR⟩
  dsimp only at hi hR
  have hni:i.toNat=k:=by omega
  have hni1:(i+1).toNat=k+1:=by omega
  rcases zB k (x.args).length with hlt | hge
  ·have hg:=get_at Tm.d hlt
   rw [Tm.d_eq] at hg
   obtain ⟨r0,r1,r2⟩:=hR
   have hc:=ih x.args[k] (zG hlt)
   rw [zA hlt,Tm.DL] at r2
   have hps:=Vh s1 s3 (k:=k+1) (by omega)
   cases hv:x.args[k].val m (asg as_) with
   | none =>
    rw [hv] at r2
    unfold LvC at hc
    rw [hv] at hc
    rw [←r2]
    have hrn:CA m.tables x.name x.args.length false none=none:=by unfold CA; split <;> first | rfl | (rename_i h; cases h)
    rw [hrn]
    simp (disch:=omega) only [go_sem,Aa,hni,hg,hc,zL,zI,zH,zE,Bk]
    try first | rfl | exact ⟨rfl,rfl⟩
   | some v =>
    rw [hv] at r2
    unfold LvC at hc
    rw [hv] at hc
    obtain ⟨v0,v1⟩:=Tm.M2 hm he _ v hv
    obtain ⟨q0,q1,q2,q3⟩:=at_next s1 r0 r1 v0 v1
    rw [pw] at hps
    simp (disch:=omega) only [go_sem,Aa,hni,hg,hc,zL,zI,zH,zE,Bk]
    refine ⟨(i+1,at_*m.size+v),⟨k+1,by dsimp only; omega,hlt,q0,(by rw [pw]; exact q1),r2⟩,by dsimp only; omega,?_⟩
    first | trivial | rfl | exact ⟨rfl,rfl⟩
  ·obtain rfl:k=x.args.length:=by omega
   obtain ⟨r0,r1,r2⟩:=hR
   rw [zC hge,Tm.DL] at r2
   rw [←r2]
   have hTF:=KJ (n:=x.name) (z:=x.args.length) (p:=false) (Ra hT)
   rcases JG (fun t:Tl=>dec (t.name=x.name)&&dec (t.arity=(x.args.length:Int))) m.tables 0 with ⟨h2,h3⟩ | ⟨j,t,hj,h2,h3,h4⟩
   ·rw [h2] at hTF
    rw [h3] at hf
    have hrn:CA m.tables x.name x.args.length false (some at_)=none:=by unfold CA; rw [hTF]
    rw [hrn]
    simp (disch:=omega) only [go_sem,Aa,hni,hf,A4]
    try first | rfl | exact ⟨rfl,rfl⟩
   ·rw [h2] at hTF
    rw [h3,yW] at hf
    have hg:=get_at Tl.d hj
    rw [h4,Tl.d_eq] at hg
    obtain ⟨jj,hjj⟩:∃ jj:Int,jj=(j:Int):=⟨_,rfl⟩
    rw [←hjj] at hf
    have hnj:jj.toNat=j:=by omega
    simp only at hTF
    have hbt:(true == false)=false:=rfl
    have hbf:(false == false)=true:=rfl
    cases hpr:t.pred with
    | true =>
     rw [hpr] at hTF
     have hrn:CA m.tables x.name x.args.length false (some at_)=none:=by unfold CA; rw [hTF]; rfl
     rw [hrn]
     simp (disch:=omega) only [go_sem,Aa,hni,hf,hnj,hg,hpr,hbt,A4]
     try first | rfl | exact ⟨rfl,rfl⟩
    | false =>
     rw [hpr] at hTF
     have hTF:JM m.tables x.name x.args.length false=some t:=hTF
     have hrn:CA m.tables x.name x.args.length false (some at_)=some (t.vals.getD at_.toNat 0):=by unfold CA; rw [hTF]
     obtain ⟨g1,g2,_,_⟩:=NS hm hTF r0 r1
     have hgv:=get_at (fun n=>[D.int n]) g1
     have hvt:=hvl t (Hp hTF).1
     rw [hrn,g2]
     simp (disch:=omega) only [go_sem,Aa,hni,hf,hnj,hg,hgv,hpr,hbf,zH,zE,A4]
     try first | rfl | exact ⟨rfl,rfl⟩
theorem Pm (m:Ip) (hm:m.ok=true) (hml:m.tables.length≤1099511627776) (hvl:∀ t∈m.tables,t.vals.length≤1099511627776) (as_:List Ag) (hal:as_.length≤1099511627776) (he:InE m.size (asg as_)) (x:Tm) (hn:x.nodes≤30):LvC m as_ x :=
 TK m hm hml hvl as_ hal he x (by have:=Tm.length_le x.args; have:=Tm.A3 x; omega) fun y hy=>Pm m hm hml hvl as_ hal he y (by have:=Tm.Cv hy; have:=Tm.A3 x; omega)
termination_by SizeOf.sizeOf x
decreasing_by exact Tm.Ar hy
noncomputable def JO (a:List Tl) (x:Tl):Bool:=(match a.find? (fun t=>C0 t x) with
 | some t=>!(t.pred == x.pred)
 | none=>false) || dec (3 < x.arity)
noncomputable def KK (a:List Tl) (x:Tl):List Tl:=match a.find? (fun t=>C0 t x) with
 | some _=>a
 | none=>CX a x
noncomputable def Ax:List Tl→List Tl→List Tl × Bool
 | a,[]=>(a,true)
 | a,x :: S=>bif JO a x then (a,false) else Ax (KK a x) S
theorem LE (a:List Tl) (b:Bool) (x:Tl):Dw (a,b) x=(KK a x,b || JO a x):=by
 unfold Dw KK JO
 show (match a.find? (fun t=>C0 t x) with
  | some t=>(a,b || (dec (3 < x.arity) || !(t.pred == x.pred)))
  | none=>(CX a x,b || dec (3 < x.arity)))=_
 cases a.find? (fun t=>C0 t x) with
 | some t=>simp only [Bool.or_comm (dec (3 < x.arity))]
 | none=>simp only [zV]
theorem Pn:∀ (S:List Tl) (a:List Tl),(AO (a,true) S).2=true
 | [],a=>rfl
 | x :: S,a=>by
  have e:AO (a,true) (x :: S)=AO (Dw (a,true) x) S:=rfl
  rw [e,LE,z8]
  exact Pn S _
theorem Rc:∀ (S:List Tl) (a:List Tl),(Ax a S).2=!(AO (a,false) S).2∧((Ax a S).2=true→(Ax a S).1=(AO (a,false) S).1)
 | [],a=>⟨rfl,fun _=>rfl⟩
 | x :: S,a=>by
  have e:AO (a,false) (x :: S)=AO (Dw (a,false) x) S:=rfl
  rw [e,LE,zV,Ax]
  cases JO a x with
  | true=>rw [cond_true,Pn]; exact ⟨rfl,fun h=>by cases h⟩
  | false=>rw [cond_false]; exact Rc S _
theorem Cc:∀ (S:List Tl) (a:List Tl) (S':List Tl),Ax a (S++S')=bif (Ax a S).2 then Ax (Ax a S).1 S' else Ax a S
 | [],a,S'=>rfl
 | x :: S,a,S'=>by
  rw [zZ,Ax,Ax]
  cases JO a x with
  | true=>rfl
  | false=>rw [cond_false,cond_false]; exact Cc S _ S'
theorem RZ {a:List Tl} (hs:upT a) (x:Tl):upT (KK a x):=by
 have:=TH (s:=(a,false)) hs x
 rw [LE] at this
 exact this
theorem Z2 (a:List Tl) (x:Tl):(KK a x).length≤a.length+1:=by
 have:=(QZ (a,false) x).2
 rw [LE] at this
 exact this
theorem CC:∀ (S:List Tl) {a:List Tl},upT a→upT (Ax a S).1
 | [],a,h=>h
 | x :: S,a,h=>by
  rw [Ax]
  cases JO a x with
  | true=>exact h
  | false=>exact CC S (RZ h x)
theorem Cp:∀ (S:List Tl) (a:List Tl),(Ax a S).1.length≤a.length+S.length
 | [],a=>zU _
 | x :: S,a=>by
  rw [Ax]
  cases JO a x with
  | true=>simp
  | false =>
   have h1:=Z2 a x
   have h2:=Cp S (KK a x)
   rw [cond_false,zP]
   omega
mutual
theorem Tm.E0:∀ (x:Tm) (p:Bool),(x.sgR p).length≤x.nodes
 | .mk n args,p=>by
  have h:=Tm.TL args
  rw [Tm.sgR,Tm.nodes]
  cases AI n with
  | true=>simp
  | false =>
   rw [cond_false,zN]
   cases (p&&dec (n=⟨#[61]⟩)) <;> simp only [cond_true,cond_false,zO,zP] <;> omega
theorem Tm.TL:∀ xs:List Tm,(Tm.Cs xs).length≤Tm.AE xs
 | []=>zU _
 | x :: xs=>by
  have h1:=Tm.E0 x false
  have h2:=Tm.TL xs
  rw [Tm.Cs,zN,Tm.AE]
  omega
end
theorem Po {α:Type} (p:α→Bool):∀ (xs:List α) (i:Int),(xs.find? p=none∧Cy p xs i=-1)∨∃ (k:Nat) (h:k<xs.length),xs.find? p=some xs[k]∧Cy p xs i=i+k
 | [],i=>.inl ⟨rfl,by rw [Cy]⟩
 | x :: xs,i=>by
  rw [yH,Cy]
  cases hp:p x with
  | true=>exact .inr ⟨0,by simp,rfl,by simp⟩
  | false =>
   rw [if_neg (by simp)]
   rcases Po p xs (i+1) with ⟨h1,h2⟩ | ⟨k,h,h1,h2⟩
   ·exact .inl ⟨h1,h2⟩
   ·exact .inr ⟨k+1,by simpa using h,h1,by rw [h2]; omega⟩
theorem Rd {xs:List Tl} {x:Tl} {k:Nat} (h:k+A7 (xs.drop k) x=A7 xs x) (hk:k<xs.length):(Bi xs[k] x=true∧k+1+A7 (xs.drop (k+1)) x=A7 xs x)∨(Bi xs[k] x=false∧k=A7 xs x):=by
 rw [zA hk,A7] at h
 cases hq:Bi xs[k] x with
 | true=>rw [hq,if_pos rfl] at h; exact .inl ⟨rfl,by omega⟩
 | false=>rw [hq,if_neg (by simp)] at h; exact .inr ⟨rfl,by omega⟩
theorem Tl.ot_take (xs:List Tl) (k:Nat):((xs.map Tl.d).take k).map (fun x=>x.map D.ot)=(xs.take k).map fun b=>b.d.map D.ot:=by
 rw [←List.map_take,List.map_map]; rfl
theorem Tl.ot_drop (xs:List Tl) (k:Nat):((xs.map Tl.d).drop k).map (fun x=>x.map D.ot)=(xs.drop k).map fun b=>b.d.map D.ot:=by
 rw [←List.map_drop,List.map_map]; rfl
theorem Tl.al4 (xs:List Tl):((xs.map fun b=>b.d.map D.ot).all fun l=>l.length == 4)=true:=by
 rw [List.all_map,yC]
 intro x _
 show ((x.d.map D.ot).length == 4)=true
 rw [Tl.d_eq]; rfl
theorem Tl.Qbm (xs:List Tl):((xs.map Tl.d).all fun l=>l.length == 4)=true:=by
 rw [List.all_map,yC]
 intro x _
 show (x.d.length == 4)=true
 rw [Tl.d_eq]; rfl
theorem Tl.dfu:∀ xs:List Tl,OT.A2 (xs.map fun b=>b.d.map D.ot)=true
 | []=>rfl
 | x :: xs=>by rw [z6,Tl.d_eq]; simp [OT.A2,OT.CQ,OT.full,D.ot,Tl.dfu xs]
theorem Tl.der:∀ xs:List Tl,OT.erss (xs.map fun b=>b.d.map D.ot)=xs.map Tl.d
 | []=>rfl
 | x :: xs=>by rw [z6,z6,Tl.d_eq]; simp [OT.erss,OT.ers,OT.er,D.ot,Tl.der xs]
theorem KL:∀ a b:List (List OT),OT.A2 (a++b)=(OT.A2 a&&OT.A2 b)
 | [],b=>by simp [OT.A2]
 | x :: a,b=>by rw [zZ,OT.A2,OT.A2,KL a b,Bool.and_assoc]
theorem Pp:∀ a b:List (List OT),OT.erss (a++b)=OT.erss a++OT.erss b
 | [],b=>by simp [OT.erss]
 | x :: a,b=>by rw [zZ,OT.erss,OT.erss,Pp a b,zZ]
def AV:SC:=(.seq (.reg [⟨some 4,none,.boxv 69 2 (.t 1)⟩,⟨some 6,none,.mv (.c .nil)⟩,⟨some 7,none,.mv (.c (.bool false))⟩]) (.seq (.seq (.reg [⟨some 13,none,.faddr 0 (.t 4)⟩,⟨some 14,none,.load false 1 (.t 13)⟩,⟨some 15,none,.call 62 [(.t 14)]⟩]) (.cond (.t 15) (.seq (.reg [⟨some 16,none,.mv (.t 0)⟩,⟨some 6,none,.mv (.t 16)⟩,⟨some 7,none,.mv (.c (.bool true))⟩]) .ret) .skip)) (.seq (.reg [⟨some 8,none,.mv (.c (.bool true))⟩]) (.seq (.seq (.reg [⟨some 17,none,.mv (.t 2)⟩,⟨some 18,none,.un .not (.t 17)⟩,⟨some 19,none,.mv (.t 18)⟩,⟨(some 20),(some (19,false)),(.faddr 0 (.t 4))⟩,⟨(some 21),(some (19,false)),(.load false 1 (.t 20))⟩,⟨(some 22),(some (19,false)),(.bin .neq false (.t 21) (.c (.str ⟨#[61]⟩)))⟩,⟨some 23,none,.pick (.t 19) (.c (.bool true)) (.t 22)⟩]) (.cond (.t 23) (.seq (.reg [⟨some 24,none,.mv (.t 0)⟩,⟨some 25,none,.faddr 0 (.t 4)⟩,⟨some 26,none,.load false 1 (.t 25)⟩,⟨some 27,none,.faddr 1 (.t 4)⟩,⟨some 28,none,.load false 1 (.t 27)⟩,⟨some 29,none,.len false (.t 28)⟩,⟨some 30,none,.call 63 [(.t 24),(.t 26),(.t 29)]⟩,⟨some 9,none,.mv (.t 30)⟩]) (.seq (.seq (.reg [⟨some 31,none,.mv (.t 9)⟩,⟨some 32,none,.bin .geq false (.t 31) (.c (.int .i64 0))⟩,⟨some 33,none,.mv (.t 32)⟩,⟨(some 34),(some (33,true)),(.mv (.t 0))⟩,⟨(some 35),(some (33,true)),(.mv (.t 9))⟩,⟨(some 36),(some (33,true)),(.iaddr 4 (.t 34) (.t 35))⟩,⟨(some 37),(some (33,true)),(.faddr 2 (.t 36))⟩,⟨(some 38),(some (33,true)),(.load false 1 (.t 37))⟩,⟨(some 39),(some (33,true)),(.mv (.t 2))⟩,⟨(some 40),(some (33,true)),(.bin .neq true (.t 38) (.t 39))⟩,⟨some 41,none,.pick (.t 33) (.t 40) (.c (.bool false))⟩,⟨some 42,none,.mv (.t 41)⟩,⟨(some 43),(some (42,false)),(.faddr 1 (.t 4))⟩,⟨(some 44),(some (42,false)),(.load false 1 (.t 43))⟩,⟨(some 45),(some (42,false)),(.len false (.t 44))⟩,⟨(some 46),(some (42,false)),(.bin .gtr false (.t 45) (.c (.int .i64 3)))⟩,⟨some 47,none,.pick (.t 42) (.c (.bool true)) (.t 46)⟩]) (.cond (.t 47) (.seq (.reg [⟨some 48,none,.mv (.t 0)⟩,⟨some 6,none,.mv (.t 48)⟩,⟨some 7,none,.mv (.c (.bool false))⟩]) .ret) .skip)) (.seq (.reg [⟨some 49,none,.mv (.t 9)⟩,⟨some 50,none,.bin .lss false (.t 49) (.c (.int .i64 0))⟩]) (.cond (.t 50) (.seq (.reg [⟨some 10,none,.mv (.c (.int .i64 0))⟩]) (.seq (.block 0 (.loop [1,0,1,0,1,0,0,0,0,0,1,0,0,0,0,0,0,0,0,0,0,0,0,0,0,0,0,0,0,0,0,0,0,0,0,0,0,0,0,0,0,0,0,0,0,0,0,0,0,0,0,0,0,0,0,0,0,0,0,0,0,0,0,0,0,0,0,0,0,0,0,0,0,0,0,0,0,0,0,0,0,0,0,0,0,0,0,0,0,0,0,0,0,0,0,0,0,0,0,0,0,0,0,0,0,0,0,0,0,0,0,0,0,0,0,0,0,0,0,0,0,0,0,0,0,0,0,0] (.seq (.seq (.dreg [[],[],[1],[0,2,1],[3,0,2,1],[4,3,0,2,1],[4,3,0,2,1],[5,4,3,0,2,1,6],[7,5,4,3,0,2,1,6],[8,7,5,4,3,0,2,1,6],[4,3,0,2,1],[10,4,3,0,2,1],[9,8,7,5,4,3,0,2,1,6,11,10],[12,9,8,7,5,4,3,0,2,1,6,11,10],[13,12,9,8,7,5,4,3,0,2,1,6,11,10],[13,12,9,8,7,5,4,3,0,2,1,6,11,10],[14,13,12,9,8,7,5,4,3,0,2,1,6,11,10,15],[16,14,13,12,9,8,7,5,4,3,0,2,1,6,11,10,15],[17,16,14,13,12,9,8,7,5,4,3,0,2,1,6,11,10,15],[13,12,9,8,7,5,4,3,0,2,1,6,11,10],[19,13,12,9,8,7,5,4,3,0,2,1,6,11,10],[18,17,16,14,13,12,9,8,7,5,4,3,0,2,1,6,11,10,15,20,19],[21,18,17,16,14,13,12,9,8,7,5,4,3,0,2,1,6,11,10,15,20,19],[22,21,18,17,16,14,13,12,9,8,7,5,4,3,0,2,1,6,11,10,15,20,19],[22,21,18,17,16,14,13,12,9,8,7,5,4,3,0,2,1,6,11,10,15,20,19],[23,22,21,18,17,16,14,13,12,9,8,7,5,4,3,0,2,1,6,11,10,15,20,19,24],[25,23,22,21,18,17,16,14,13,12,9,8,7,5,4,3,0,2,1,6,11,10,15,20,19,24],[26,25,23,22,21,18,17,16,14,13,12,9,8,7,5,4,3,0,2,1,6,11,10,15,20,19,24],[22,21,18,17,16,14,13,12,9,8,7,5,4,3,0,2,1,6,11,10,15,20,19],[28,22,21,18,17,16,14,13,12,9,8,7,5,4,3,0,2,1,6,11,10,15,20,19],[29,28,22,21,18,17,16,14,13,12,9,8,7,5,4,3,0,2,1,6,11,10,15,20,19],[27,26,25,23,22,21,18,17,16,14,13,12,9,8,7,5,4,3,0,2,1,6,11,10,15,20,19,24,30,29,28],[22,21,18,17,16,14,13,12,9,8,7,5,4,3,0,2,1,6,11,10,15,20,19,31,27,26,25,23,24,30,29,28],[13,12,9,8,7,5,4,3,0,2,1,6,11,10,32,22,21,18,17,16,14,15,20,19,31,27,26,25,23,24,30,29,28],[4,3,0,2,1,33,13,12,9,8,7,5,6,11,10,32,22,21,18,17,16,14,15,20,19,31,27,26,25,23,24,30,29,28]] [⟨some 51,none,.mv (.t 10)⟩,⟨some 52,none,.mv (.t 0)⟩,⟨some 53,none,.len false (.t 52)⟩,⟨some 54,none,.bin .lss false (.t 51) (.t 53)⟩,⟨some 55,none,.mv (.t 54)⟩,⟨(some 56),(some (55,true)),(.mv (.t 0))⟩,⟨(some 57),(some (55,true)),(.mv (.t 10))⟩,⟨(some 58),(some (55,true)),(.iaddr 4 (.t 56) (.t 57))⟩,⟨(some 59),(some (55,true)),(.faddr 0 (.t 58))⟩,⟨(some 60),(some (55,true)),(.load false 1 (.t 59))⟩,⟨(some 61),(some (55,true)),(.faddr 0 (.t 4))⟩,⟨(some 62),(some (55,true)),(.load false 1 (.t 61))⟩,⟨(some 63),(some (55,true)),(.bin .lss false (.t 60) (.t 62))⟩,⟨(some 64),(some (55,true)),(.mv (.t 63))⟩,⟨(some 65),(some (64,false)),(.mv (.t 0))⟩,⟨(some 66),(some (64,false)),(.mv (.t 10))⟩,⟨(some 67),(some (64,false)),(.iaddr 4 (.t 65) (.t 66))⟩,⟨(some 68),(some (64,false)),(.faddr 0 (.t 67))⟩,⟨(some 69),(some (64,false)),(.load false 1 (.t 68))⟩,⟨(some 70),(some (64,false)),(.faddr 0 (.t 4))⟩,⟨(some 71),(some (64,false)),(.load false 1 (.t 70))⟩,⟨(some 72),(some (64,false)),(.bin .eql false (.t 69) (.t 71))⟩,⟨(some 73),(some (64,false)),(.mv (.t 72))⟩,⟨(some 74),(some (73,true)),(.mv (.t 0))⟩,⟨(some 75),(some (73,true)),(.mv (.t 10))⟩,⟨(some 76),(some (73,true)),(.iaddr 4 (.t 74) (.t 75))⟩,⟨(some 77),(some (73,true)),(.faddr 1 (.t 76))⟩,⟨(some 78),(some (73,true)),(.load false 1 (.t 77))⟩,⟨(some 79),(some (73,true)),(.faddr 1 (.t 4))⟩,⟨(some 80),(some (73,true)),(.load false 1 (.t 79))⟩,⟨(some 81),(some (73,true)),(.len false (.t 80))⟩,⟨(some 82),(some (73,true)),(.bin .lss false (.t 78) (.t 81))⟩,⟨(some 83),(some (64,false)),(.pick (.t 73) (.t 82) (.c (.bool false)))⟩,⟨(some 84),(some (55,true)),(.pick (.t 64) (.c (.bool true)) (.t 83))⟩,⟨some 85,none,.pick (.t 55) (.t 84) (.c (.bool false))⟩]) (.cond (.t 85) .skip (.exit 0))) (.block 1 (.reg [⟨some 86,none,.mv (.t 10)⟩,⟨some 87,none,.bin .add false (.t 86) (.c (.int .i64 1))⟩,⟨some 10,none,.mv (.t 87)⟩]))))) (.seq (.reg [⟨some 88,none,.faddr 0 (.t 4)⟩,⟨some 89,none,.load false 1 (.t 88)⟩,⟨some 90,none,.faddr 1 (.t 4)⟩,⟨some 91,none,.load false 1 (.t 90)⟩,⟨some 92,none,.len false (.t 91)⟩,⟨some 93,none,.mv (.t 2)⟩,⟨(some 94),none,(.build [(.str ⟨#[]⟩),(.int .i64 0),(.bool false),.nil] [(0,(1,(.t 89))),(1,(1,(.t 92))),(2,(1,(.t 93)))])⟩,⟨(some 11),none,(.alloc 58 [(.str ⟨#[]⟩),(.int .i64 0),(.bool false),.nil])⟩,⟨none,none,(.store 4 (.t 11) (.t 94))⟩]) (.dreg [[],[],[],[1,2],[0,3,1,2],[],[5],[4,0,3,1,2,6,5],[],[],[8,9],[7,4,0,3,1,2,6,5,10,8,9],[11,7,4,0,3,1,2,6,5,10,8,9]] [⟨(some 95),none,(.mkrow 58 4 [(.str ⟨#[]⟩),(.int .i64 0),(.bool false),.nil] 0 [])⟩,⟨some 96,none,.mv (.t 0)⟩,⟨some 97,none,.mv (.t 10)⟩,⟨some 98,none,.slice false 4 (.t 96) none (some (.t 97))⟩,⟨(some 99),none,(.append 58 4 56 [(.str ⟨#[]⟩),(.int .i64 0),(.bool false),.nil] (.t 95) (.t 98))⟩,⟨some 100,none,.load true 4 (.t 11)⟩,⟨(some 101),none,(.mkrow 58 4 [(.str ⟨#[]⟩),(.int .i64 0),(.bool false),.nil] 1 [(0,(.t 100))])⟩,⟨(some 102),none,(.append 58 4 56 [(.str ⟨#[]⟩),(.int .i64 0),(.bool false),.nil] (.t 99) (.t 101))⟩,⟨some 103,none,.mv (.t 0)⟩,⟨some 104,none,.mv (.t 10)⟩,⟨some 105,none,.slice false 4 (.t 103) (some (.t 104)) none⟩,⟨(some 106),none,(.append 58 4 56 [(.str ⟨#[]⟩),(.int .i64 0),(.bool false),.nil] (.t 102) (.t 105))⟩,⟨some 0,none,.mv (.t 106)⟩])))) .skip)))) .skip)) (.seq (.seq (.reg [⟨some 12,none,.mv (.c (.int .i64 0))⟩]) (.block 2 (.loop [1,0,0,0,1,0,0,0,0,0,0,0,1,0,0,0,0,0,0,0,0,0,0,0,0,0,0,0,0,0,0,0,0,0,0,0,0,0,0,0,0,0,0,0,0,0,0,0,0,0,0,0,0,0,0,0,0,0,0,0,0,0,0,0,0,0,0,0,0,0,0,0,0,0,0,0,0,0,0,0,0,0,0,0,0,0,0,0,0,0,0,0,0,0,0,0,0,0,0,0,0,0,0,0,0,0,0,0,0,0,0,0,0,0,0,0,0,0,0,0,0,0,0,0,0,0,0,0] (.seq (.seq (.reg [⟨some 107,none,.mv (.t 12)⟩,⟨some 108,none,.faddr 1 (.t 4)⟩,⟨some 109,none,.load false 1 (.t 108)⟩,⟨some 110,none,.len false (.t 109)⟩,⟨some 111,none,.bin .lss false (.t 107) (.t 110)⟩]) (.cond (.t 111) .skip (.exit 2))) (.seq (.block 3 (.seq (.reg [⟨some 115,none,.mv (.t 0)⟩,⟨some 116,none,.faddr 1 (.t 4)⟩,⟨some 117,none,.load false 1 (.t 116)⟩,⟨some 118,none,.mv (.t 12)⟩,⟨some 119,none,.iaddr 2 (.t 117) (.t 118)⟩,⟨some 120,none,.load true 2 (.t 119)⟩,⟨some 121,none,.call 37 [(.t 115),(.t 120),(.c (.bool false))]⟩,⟨some 114,none,.mv (.t 121)⟩,⟨some 122,none,.ext (.t 114) 0⟩,⟨some 123,none,.ext (.t 114) 1⟩,⟨some 0,none,.mv (.t 122)⟩,⟨some 8,none,.mv (.t 123)⟩]) (.seq (.reg [⟨some 124,none,.mv (.t 8)⟩,⟨some 125,none,.un .not (.t 124)⟩]) (.cond (.t 125) (.seq (.reg [⟨some 126,none,.mv (.t 0)⟩,⟨some 6,none,.mv (.t 126)⟩,⟨some 7,none,.mv (.c (.bool false))⟩]) .ret) .skip)))) (.reg [⟨some 112,none,.mv (.t 12)⟩,⟨some 113,none,.bin .add false (.t 112) (.c (.int .i64 1))⟩,⟨some 12,none,.mv (.t 113)⟩])))))) (.seq (.reg [⟨some 127,none,.mv (.t 0)⟩,⟨some 6,none,.mv (.t 127)⟩,⟨some 7,none,.mv (.c (.bool true))⟩]) .ret))))))
theorem Bl:Ad Tryz.prog 37=some ⟨128,AV,[(.tmp 6),(.tmp 7)]⟩:=by kernel_rfl
theorem Aj:modes 37=⟨[],.frl [7],none,false⟩:=by unfold modes; rfl
theorem Pq (ts:List Tl) (x:Tl) (hl:ts.length≤1099511627776):E 63 [.arr (ts.map Tl.d),.str x.name,.int .i64 x.arity] []=some (.int .i64 (Cy (fun t=>C0 t x) ts 0),[]):=M9 ts hl x.name x.arity
theorem MA:(false == true)=false:=rfl
theorem MB:(true == false)=false:=rfl
theorem LF (a b:Tl):Bi a b=(strLt a.name b.name || (dec (a.name=b.name)&&dec (a.arity<b.arity))):=rfl
theorem Sa (n:ByteArray) (ar:Int) (p:Bool):([[OT.str n,OT.int ar,OT.bool p,OT.ow []]].all fun l=>l.length == 4)=true:=rfl
theorem Sc (a:List Tl) (x:Tl) (hx:x.vals=[]) (M:List (List OT)) (hM:M=((a.take (A7 a x)).map fun b=>b.d.map D.ot)++([[OT.str x.name,OT.int x.arity,OT.bool x.pred,OT.ow []]]++(a.drop (A7 a x)).map fun b=>b.d.map D.ot)):OT.A2 M=true∧OT.erss M=(CX a x).map Tl.d:=by
 subst hM
 refine ⟨?_,?_⟩
 ·rw [KL,KL,Tl.dfu,Tl.dfu]; simp [OT.A2,OT.CQ,OT.full]
 ·rw [Pp,Pp,Tl.der,Tl.der]
  unfold CX
  rw [List.map_append,z6,Tl.d_eq x,hx]
  simp [OT.erss,OT.ers,OT.er]
theorem TM (x:Tm) (p:Bool) (a:List Tl):Ax a (x.sgR p)=bif AI x.name then (a,true) else bif p&&dec (x.name=⟨#[61]⟩) then Ax a (Tm.Cs x.args) else bif JO a (BR x p) then (a,false) else Ax (KK a (BR x p)) (Tm.Cs x.args):=by
 rw [Tm.Vr]
 cases AI x.name with
 | true=>rfl
 | false =>
  rw [cond_false,cond_false]
  cases (p&&dec (x.name=⟨#[61]⟩)) with
  | true=>rfl
  | false=>rfl
abbrev QcB (x:Tm):Prop:=∀ (tb:List Tl) (p:Bool),upT tb→tb.length+x.nodes≤1048576→E 37 [.arr (tb.map Tl.d),x.sv,.bool p] []=some (.tup [.arr ((Ax tb (x.sgR p)).1.map Tl.d),.bool (Ax tb (x.sgR p)).2],[])
theorem XD (x:Tm) (ih:∀ y∈x.args,QcB y):QcB x:=by
 intro tb p hup hn
 have hnd:=Tm.A3 x
 have hpl:=Tm.length_le x.args
 have hxs:x.sv=.agg [.str x.name,.arr (x.args.map Tm.d)]:=rfl
 have hv:=Gp x.name
 rw [hxs,TM]
 cases hvb:AI x.name with
 | true =>
  rw [hvb] at hv
  rw [cond_true]
  refine Ab Bl Aj (of_decide_eq_true rfl) ?_
  simp (disch:=omega) only [AV,go_sem,Aa,hv,Ao]
  first | done | rfl | exact ⟨rfl,rfl⟩
 | false =>
 rw [hvb] at hv
 rw [cond_false]
 cases hpe:p&&dec (x.name=⟨#[61]⟩) with
 | true =>
  rw [zF] at hpe
  obtain ⟨rfl,heqn⟩:=hpe
  have hupU:=hup
  rw [cond_true]
  refine Ab Bl Aj (of_decide_eq_true rfl) ?_
  simp (disch:=omega) only [AV,go_sem,Aa,hv,Ao,heqn]
  have hfull:∃ full,full=Ax tb (Tm.Cs x.args):=⟨_,rfl⟩
  obtain ⟨full,hfull⟩:=hfull
  rw [←hfull]
  refine go_loop (α:=Int × (List Tl)) (fun a=>⟨slots 128 0 [(0,.arr ((a.2).map Tl.d)),(4,.ptr 0 0),(12,.int .i64 (a.1))],[.box 69 [.str x.name,.arr (x.args.map Tm.d)]]⟩) (fun a=>∃ k:Nat,a.1=k∧k≤(x.args).length∧Ax (a.2) (Tm.Cs (x.args.drop k))=full∧upT (a.2)∧(a.2).length+Tm.AE (x.args.drop k)≤1048576) (fun a=>(x.args).length-(a.1).toNat) (0,tb) ⟨0,rfl,zJ _,by rw [zD,hfull],hupU,by rw [zD]; dsimp only; omega⟩ (by simp (disch:=omega) only [go_sem,Aa]) ?_
  rintro ⟨i,ac⟩ ⟨k,hi,hk,hR⟩
  dsimp only at hi hR
  have hni:i.toNat=k:=by omega
  have hni1:(i+1).toNat=k+1:=by omega
  rcases zB k (x.args).length with hlt | hge
  ·have hg:=get_at Tm.d hlt
   rw [Tm.d_eq] at hg
   obtain ⟨hR1,hR2,hR3⟩:=hR
   rw [zA hlt,Tm.Cs,Cc] at hR1
   rw [zA hlt,Tm.AE] at hR3
   have hc2:=ih x.args[k] (zG hlt) ac false hR2 (by omega)
   have hys:(x.args[k]).sv=.agg [.str (x.args[k]).name,.arr ((x.args[k]).args.map Tm.d)]:=rfl
   rw [hys] at hc2
   have hu2:=CC ((x.args[k]).sgR false) hR2
   have hl2:=Cp ((x.args[k]).sgR false) ac
   have hs2:=Tm.E0 x.args[k] false
   obtain ⟨a2,ok,hr⟩:∃ a2 ok,Ax ac ((x.args[k]).sgR false)=(a2,ok):=⟨_,_,rfl⟩
   rw [hr] at hc2 hR1 hu2 hl2
   dsimp only at hc2 hR1 hu2 hl2
   cases ok with
   | true =>
    rw [cond_true] at hR1
    simp (disch:=omega) only [go_sem,Aa,hni,hg,hc2,Aj]
    refine ⟨(i+1,a2),⟨k+1,by dsimp only; omega,hlt,hR1,hu2,by dsimp only; omega⟩,by dsimp only; omega,?_⟩
    first | done | simp (disch:=omega) only [go_sem,Aa,hni1]
   | false =>
    rw [cond_false] at hR1
    rw [←hR1]
    simp (disch:=omega) only [go_sem,Aa,hni,hg,hc2,Aj]
    first | done | rfl | exact ⟨rfl,rfl⟩
  ·rw [zC hge,Tm.Cs] at hR
   obtain ⟨hR1,hR2,hR3⟩:=hR
   have hR1:(ac,true)=full:=hR1
   rw [←hR1]
   simp (disch:=omega) only [go_sem,Aa,hni]
   first | done | rfl | exact ⟨rfl,rfl⟩
 | false =>
  rw [cond_false]
  cases p with
  | false =>
   have heqn:=trivial
   have hsn:(BR x false).name=x.name:=rfl
   have hsa:(BR x false).arity=(x.args.length:Int):=rfl
   have hsp:(BR x false).pred=false:=rfl
   have hsv:(BR x false).vals=[]:=rfl
   have hfind:=Pq tb (BR x false) (by omega)
   rw [hsn,hsa] at hfind
   generalize BR x false=sy at *
   have hlo:=LA sy tb
   rcases Po (fun t=>C0 t sy) tb 0 with ⟨hf1,hf2⟩ | ⟨m,hm,hf1,hf2⟩
   ·rw [hf2] at hfind
    have hck:JO tb sy=dec ((3:Int)<(x.args.length:Int)):=by unfold JO; rw [hf1,hsa,zV]
    have hpk:KK tb sy=CX tb sy:=by unfold KK; rw [hf1]
    rw [hck,hpk]
    have hupU:=RZ hup sy
    rw [hpk] at hupU
    have hil:=Ja sy tb
    cases h3:dec ((3:Int)<(x.args.length:Int)) with
    | true =>
     rw [cond_true]
     refine Ab Bl Aj (of_decide_eq_true rfl) ?_
     simp (disch:=omega) only [AV,go_sem,Aa,hv,Ao,heqn,hfind,A4,h3]
     first | done | rfl | exact ⟨rfl,rfl⟩
    | false =>
     rw [cond_false]
     refine Ab Bl Aj (of_decide_eq_true rfl) ?_
     simp (disch:=omega) only [AV,go_sem,Aa,hv,Ao,heqn,hfind,A4,h3]
     refine go_loop (α:=Int) (fun a=>⟨slots 128 0 [(0,.arr (tb.map Tl.d)),(2,.bool false),(4,.ptr 0 0),(10,.int .i64 a)],[.box 69 [.str x.name,.arr (x.args.map Tm.d)]]⟩) (fun a=>∃ k:Nat,a=k∧k≤(tb).length∧k+A7 (tb.drop k) sy=A7 tb sy) (fun a=>(tb).length-(a).toNat) 0 ⟨0,rfl,zJ _,by rw [zD,yX]⟩ (by simp (disch:=omega) only [go_sem,Aa]) ?_
     rintro i ⟨k,hi,hk,hR⟩
     have hni:i.toNat=k:=by omega
     have hni1:(i+1).toNat=k+1:=by omega
     rcases zB k (tb).length with hlt | hge
     ·have hg:=Tl.getD hlt
      rcases Rd hR hlt with ⟨q,hR'⟩ | ⟨q,hk'⟩
      ·rw [LF,hsn,hsa] at q
       cases s1:strLt tb[k].name x.name with
       | true =>
        have s2:=trivial
        have s3:=trivial
        simp (disch:=omega) only [go_sem,Aa,hni,hg,s1,s2,s3]
        exact ⟨i+1,⟨k+1,by omega,hlt,hR'⟩,by omega,by first | trivial | rfl⟩
       | false =>
        rw [s1,zV,zF] at q
        obtain ⟨s2,s3⟩:=q
        simp (disch:=omega) only [go_sem,Aa,hni,hg,s1,s2,s3]
        exact ⟨i+1,⟨k+1,by omega,hlt,hR'⟩,by omega,by first | trivial | rfl⟩
      ·subst hk'
       rw [LF,hsn,hsa,yR] at q
       obtain ⟨s1,q⟩:=q
       have e1:=Tl.ot_take tb (A7 tb sy)
       have e2:=Tl.ot_drop tb (A7 tb sy)
       have e3:=Tl.al4 (tb.take (A7 tb sy))
       have e4:=Tl.al4 (tb.drop (A7 tb sy))
       have e5:=Tl.Qbm tb
       have e6:(tb.map Tl.d).take tb.length=tb.map Tl.d:=yG (by simp)
       have e7:(tb.take (A7 tb sy)).length=A7 tb sy:=by rw [yP]; omega
       have e8:(tb.drop (A7 tb sy)).length=tb.length-A7 tb sy:=yD
       have e9:=Sa x.name (x.args.length:Int) false
       obtain ⟨hMf,hMe⟩:=Sc tb sy hsv ((tb.take (A7 tb sy)).map (fun b=>b.d.map D.ot)++([OT.str x.name,OT.int (x.args.length:Int),OT.bool false,OT.ow []] :: (tb.drop (A7 tb sy)).map fun b=>b.d.map D.ot)) (by rw [hsn,hsa,hsp]; rfl)
       cases s2:dec (tb[A7 tb sy].name=x.name) with
       | false =>
        have s3:=trivial
        simp (disch:=omega) only [go_sem,Aa,hni,hg,s1,s2,s3,e1,e2,e3,e4,e5,e6,e7,e8,e9,zN,zQ]
        have hfull:∃ full,full=Ax (CX tb sy) (Tm.Cs x.args):=⟨_,rfl⟩
        obtain ⟨full,hfull⟩:=hfull
        rw [←hfull]
        refine go_loop (α:=Int × (List Tl)) (fun a=>⟨slots 128 0 [(0,.arr ((a.2).map Tl.d)),(4,.ptr 0 0),(12,.int .i64 (a.1))],[.box 69 [.str x.name,.arr (x.args.map Tm.d)]]⟩) (fun a=>∃ k:Nat,a.1=k∧k≤(x.args).length∧Ax (a.2) (Tm.Cs (x.args.drop k))=full∧upT (a.2)∧(a.2).length+Tm.AE (x.args.drop k)≤1048576) (fun a=>(x.args).length-(a.1).toNat) (0,(CX tb sy)) ⟨0,rfl,zJ _,by rw [zD,hfull],hupU,by rw [zD]; dsimp only; omega⟩ (by simp (disch:=omega) only [go_sem,Aa,hMf,hMe,e1,e2,e3,e4,e5,e6,e7,e8,e9,zN,zQ,zP,zO]) ?_
        rintro ⟨i,ac⟩ ⟨k,hi,hk,hR⟩
        dsimp only at hi hR
        have hni:i.toNat=k:=by omega
        have hni1:(i+1).toNat=k+1:=by omega
        rcases zB k (x.args).length with hlt | hge
        ·have hg:=get_at Tm.d hlt
         rw [Tm.d_eq] at hg
         obtain ⟨hR1,hR2,hR3⟩:=hR
         rw [zA hlt,Tm.Cs,Cc] at hR1
         rw [zA hlt,Tm.AE] at hR3
         have hc2:=ih x.args[k] (zG hlt) ac false hR2 (by omega)
         have hys:(x.args[k]).sv=.agg [.str (x.args[k]).name,.arr ((x.args[k]).args.map Tm.d)]:=rfl
         rw [hys] at hc2
         have hu2:=CC ((x.args[k]).sgR false) hR2
         have hl2:=Cp ((x.args[k]).sgR false) ac
         have hs2:=Tm.E0 x.args[k] false
         obtain ⟨a2,ok,hr⟩:∃ a2 ok,Ax ac ((x.args[k]).sgR false)=(a2,ok):=⟨_,_,rfl⟩
         rw [hr] at hc2 hR1 hu2 hl2
         dsimp only at hc2 hR1 hu2 hl2
         cases ok with
         | true =>
          rw [cond_true] at hR1
          simp (disch:=omega) only [go_sem,Aa,hni,hg,hc2,Aj]
          refine ⟨(i+1,a2),⟨k+1,by dsimp only; omega,hlt,hR1,hu2,by dsimp only; omega⟩,by dsimp only; omega,?_⟩
          first | done | simp (disch:=omega) only [go_sem,Aa,hni1]
         | false =>
          rw [cond_false] at hR1
          rw [←hR1]
          simp (disch:=omega) only [go_sem,Aa,hni,hg,hc2,Aj]
          first | done | rfl | exact ⟨rfl,rfl⟩
        ·rw [zC hge,Tm.Cs] at hR
         obtain ⟨hR1,hR2,hR3⟩:=hR
         have hR1:(ac,true)=full:=hR1
         rw [←hR1]
         simp (disch:=omega) only [go_sem,Aa,hni]
         first | done | rfl | exact ⟨rfl,rfl⟩
       | true =>
        rw [s2,zW] at q
        have s3:=q
        simp (disch:=omega) only [go_sem,Aa,hni,hg,s1,s2,s3,e1,e2,e3,e4,e5,e6,e7,e8,e9,zN,zQ]
        have hfull:∃ full,full=Ax (CX tb sy) (Tm.Cs x.args):=⟨_,rfl⟩
        obtain ⟨full,hfull⟩:=hfull
        rw [←hfull]
        refine go_loop (α:=Int × (List Tl)) (fun a=>⟨slots 128 0 [(0,.arr ((a.2).map Tl.d)),(4,.ptr 0 0),(12,.int .i64 (a.1))],[.box 69 [.str x.name,.arr (x.args.map Tm.d)]]⟩) (fun a=>∃ k:Nat,a.1=k∧k≤(x.args).length∧Ax (a.2) (Tm.Cs (x.args.drop k))=full∧upT (a.2)∧(a.2).length+Tm.AE (x.args.drop k)≤1048576) (fun a=>(x.args).length-(a.1).toNat) (0,(CX tb sy)) ⟨0,rfl,zJ _,by rw [zD,hfull],hupU,by rw [zD]; dsimp only; omega⟩ (by simp (disch:=omega) only [go_sem,Aa,hMf,hMe,e1,e2,e3,e4,e5,e6,e7,e8,e9,zN,zQ,zP,zO]) ?_
        rintro ⟨i,ac⟩ ⟨k,hi,hk,hR⟩
        dsimp only at hi hR
        have hni:i.toNat=k:=by omega
        have hni1:(i+1).toNat=k+1:=by omega
        rcases zB k (x.args).length with hlt | hge
        ·have hg:=get_at Tm.d hlt
         rw [Tm.d_eq] at hg
         obtain ⟨hR1,hR2,hR3⟩:=hR
         rw [zA hlt,Tm.Cs,Cc] at hR1
         rw [zA hlt,Tm.AE] at hR3
         have hc2:=ih x.args[k] (zG hlt) ac false hR2 (by omega)
         have hys:(x.args[k]).sv=.agg [.str (x.args[k]).name,.arr ((x.args[k]).args.map Tm.d)]:=rfl
         rw [hys] at hc2
         have hu2:=CC ((x.args[k]).sgR false) hR2
         have hl2:=Cp ((x.args[k]).sgR false) ac
         have hs2:=Tm.E0 x.args[k] false
         obtain ⟨a2,ok,hr⟩:∃ a2 ok,Ax ac ((x.args[k]).sgR false)=(a2,ok):=⟨_,_,rfl⟩
         rw [hr] at hc2 hR1 hu2 hl2
         dsimp only at hc2 hR1 hu2 hl2
         cases ok with
         | true =>
          rw [cond_true] at hR1
          simp (disch:=omega) only [go_sem,Aa,hni,hg,hc2,Aj]
          refine ⟨(i+1,a2),⟨k+1,by dsimp only; omega,hlt,hR1,hu2,by dsimp only; omega⟩,by dsimp only; omega,?_⟩
          first | done | simp (disch:=omega) only [go_sem,Aa,hni1]
         | false =>
          rw [cond_false] at hR1
          rw [←hR1]
          simp (disch:=omega) only [go_sem,Aa,hni,hg,hc2,Aj]
          first | done | rfl | exact ⟨rfl,rfl⟩
        ·rw [zC hge,Tm.Cs] at hR
         obtain ⟨hR1,hR2,hR3⟩:=hR
         have hR1:(ac,true)=full:=hR1
         rw [←hR1]
         simp (disch:=omega) only [go_sem,Aa,hni]
         first | done | rfl | exact ⟨rfl,rfl⟩
     ·have hk2:tb.length=A7 tb sy:=by
       obtain rfl:k=tb.length:=by omega
       rw [←hR,zC (zU _)]; simp [A7]
      obtain rfl:k=A7 tb sy:=by omega
      have e1:=Tl.ot_take tb (A7 tb sy)
      have e2:=Tl.ot_drop tb (A7 tb sy)
      have e3:=Tl.al4 (tb.take (A7 tb sy))
      have e4:=Tl.al4 (tb.drop (A7 tb sy))
      have e5:=Tl.Qbm tb
      have e6:(tb.map Tl.d).take tb.length=tb.map Tl.d:=yG (by simp)
      have e7:(tb.take (A7 tb sy)).length=A7 tb sy:=by rw [yP]; omega
      have e8:(tb.drop (A7 tb sy)).length=tb.length-A7 tb sy:=yD
      have e9:=Sa x.name (x.args.length:Int) false
      obtain ⟨hMf,hMe⟩:=Sc tb sy hsv ((tb.take (A7 tb sy)).map (fun b=>b.d.map D.ot)++([OT.str x.name,OT.int (x.args.length:Int),OT.bool false,OT.ow []] :: (tb.drop (A7 tb sy)).map fun b=>b.d.map D.ot)) (by rw [hsn,hsa,hsp]; rfl)
      simp (disch:=omega) only [go_sem,Aa,hni,e1,e2,e3,e4,e5,e6,e7,e8,e9,zN,zQ]
      have hfull:∃ full,full=Ax (CX tb sy) (Tm.Cs x.args):=⟨_,rfl⟩
      obtain ⟨full,hfull⟩:=hfull
      rw [←hfull]
      refine go_loop (α:=Int × (List Tl)) (fun a=>⟨slots 128 0 [(0,.arr ((a.2).map Tl.d)),(4,.ptr 0 0),(12,.int .i64 (a.1))],[.box 69 [.str x.name,.arr (x.args.map Tm.d)]]⟩) (fun a=>∃ k:Nat,a.1=k∧k≤(x.args).length∧Ax (a.2) (Tm.Cs (x.args.drop k))=full∧upT (a.2)∧(a.2).length+Tm.AE (x.args.drop k)≤1048576) (fun a=>(x.args).length-(a.1).toNat) (0,(CX tb sy)) ⟨0,rfl,zJ _,by rw [zD,hfull],hupU,by rw [zD]; dsimp only; omega⟩ (by simp (disch:=omega) only [go_sem,Aa,hMf,hMe,e1,e2,e3,e4,e5,e6,e7,e8,e9,zN,zQ,zP,zO]) ?_
      rintro ⟨i,ac⟩ ⟨k,hi,hk,hR⟩
      dsimp only at hi hR
      have hni:i.toNat=k:=by omega
      have hni1:(i+1).toNat=k+1:=by omega
      rcases zB k (x.args).length with hlt | hge
      ·have hg:=get_at Tm.d hlt
       rw [Tm.d_eq] at hg
       obtain ⟨hR1,hR2,hR3⟩:=hR
       rw [zA hlt,Tm.Cs,Cc] at hR1
       rw [zA hlt,Tm.AE] at hR3
       have hc2:=ih x.args[k] (zG hlt) ac false hR2 (by omega)
       have hys:(x.args[k]).sv=.agg [.str (x.args[k]).name,.arr ((x.args[k]).args.map Tm.d)]:=rfl
       rw [hys] at hc2
       have hu2:=CC ((x.args[k]).sgR false) hR2
       have hl2:=Cp ((x.args[k]).sgR false) ac
       have hs2:=Tm.E0 x.args[k] false
       obtain ⟨a2,ok,hr⟩:∃ a2 ok,Ax ac ((x.args[k]).sgR false)=(a2,ok):=⟨_,_,rfl⟩
       rw [hr] at hc2 hR1 hu2 hl2
       dsimp only at hc2 hR1 hu2 hl2
       cases ok with
       | true =>
        rw [cond_true] at hR1
        simp (disch:=omega) only [go_sem,Aa,hni,hg,hc2,Aj]
        refine ⟨(i+1,a2),⟨k+1,by dsimp only; omega,hlt,hR1,hu2,by dsimp only; omega⟩,by dsimp only; omega,?_⟩
        first | done | simp (disch:=omega) only [go_sem,Aa,hni1]
       | false =>
        rw [cond_false] at hR1
        rw [←hR1]
        simp (disch:=omega) only [go_sem,Aa,hni,hg,hc2,Aj]
        first | done | rfl | exact ⟨rfl,rfl⟩
      ·rw [zC hge,Tm.Cs] at hR
       obtain ⟨hR1,hR2,hR3⟩:=hR
       have hR1:(ac,true)=full:=hR1
       rw [←hR1]
       simp (disch:=omega) only [go_sem,Aa,hni]
       first | done | rfl | exact ⟨rfl,rfl⟩
   ·rw [hf2,yW] at hfind
    have hgm:=Tl.getD hm
    have hnm:((m:Nat):Int).toNat=m:=zY m
    have hck:JO tb sy=(!(tb[m].pred == false) || dec ((3:Int)<(x.args.length:Int))):=by unfold JO; rw [hf1,hsa,hsp]
    have hpk:KK tb sy=tb:=by unfold KK; rw [hf1]
    have hupU:=hup
    rw [hck,hpk]
    generalize tb[m].pred=pr at *
    cases h3:dec ((3:Int)<(x.args.length:Int)) with
    | true =>
     rw [yU,cond_true]
     cases pr
     all_goals
      refine Ab Bl Aj (of_decide_eq_true rfl) ?_
      simp (disch:=omega) only [AV,go_sem,Aa,hv,Ao,heqn,hfind,A4,h3,hgm,hnm,MA,MB]
      first | done | rfl | exact ⟨rfl,rfl⟩
    | false =>
     rw [xA]
     cases pr with
     | true =>
      rw [show (!(true == false))=true from rfl,cond_true]
      refine Ab Bl Aj (of_decide_eq_true rfl) ?_
      simp (disch:=omega) only [AV,go_sem,Aa,hv,Ao,heqn,hfind,A4,h3,hgm,hnm,MA,MB]
      first | done | rfl | exact ⟨rfl,rfl⟩
     | false =>
      rw [show (!(false == false))=false from rfl,cond_false]
      refine Ab Bl Aj (of_decide_eq_true rfl) ?_
      simp (disch:=omega) only [AV,go_sem,Aa,hv,Ao,heqn,hfind,A4,h3,hgm,hnm,MA,MB]
      have hfull:∃ full,full=Ax tb (Tm.Cs x.args):=⟨_,rfl⟩
      obtain ⟨full,hfull⟩:=hfull
      rw [←hfull]
      refine go_loop (α:=Int × (List Tl)) (fun a=>⟨slots 128 0 [(0,.arr ((a.2).map Tl.d)),(4,.ptr 0 0),(12,.int .i64 (a.1))],[.box 69 [.str x.name,.arr (x.args.map Tm.d)]]⟩) (fun a=>∃ k:Nat,a.1=k∧k≤(x.args).length∧Ax (a.2) (Tm.Cs (x.args.drop k))=full∧upT (a.2)∧(a.2).length+Tm.AE (x.args.drop k)≤1048576) (fun a=>(x.args).length-(a.1).toNat) (0,tb) ⟨0,rfl,zJ _,by rw [zD,hfull],hupU,by rw [zD]; dsimp only; omega⟩ (by simp (disch:=omega) only [go_sem,Aa]) ?_
      rintro ⟨i,ac⟩ ⟨k,hi,hk,hR⟩
      dsimp only at hi hR
      have hni:i.toNat=k:=by omega
      have hni1:(i+1).toNat=k+1:=by omega
      rcases zB k (x.args).length with hlt | hge
      ·have hg:=get_at Tm.d hlt
       rw [Tm.d_eq] at hg
       obtain ⟨hR1,hR2,hR3⟩:=hR
       rw [zA hlt,Tm.Cs,Cc] at hR1
       rw [zA hlt,Tm.AE] at hR3
       have hc2:=ih x.args[k] (zG hlt) ac false hR2 (by omega)
       have hys:(x.args[k]).sv=.agg [.str (x.args[k]).name,.arr ((x.args[k]).args.map Tm.d)]:=rfl
       rw [hys] at hc2
       have hu2:=CC ((x.args[k]).sgR false) hR2
       have hl2:=Cp ((x.args[k]).sgR false) ac
       have hs2:=Tm.E0 x.args[k] false
       obtain ⟨a2,ok,hr⟩:∃ a2 ok,Ax ac ((x.args[k]).sgR false)=(a2,ok):=⟨_,_,rfl⟩
       rw [hr] at hc2 hR1 hu2 hl2
       dsimp only at hc2 hR1 hu2 hl2
       cases ok with
       | true =>
        rw [cond_true] at hR1
        simp (disch:=omega) only [go_sem,Aa,hni,hg,hc2,Aj]
        refine ⟨(i+1,a2),⟨k+1,by dsimp only; omega,hlt,hR1,hu2,by dsimp only; omega⟩,by dsimp only; omega,?_⟩
        first | done | simp (disch:=omega) only [go_sem,Aa,hni1]
       | false =>
        rw [cond_false] at hR1
        rw [←hR1]
        simp (disch:=omega) only [go_sem,Aa,hni,hg,hc2,Aj]
        first | done | rfl | exact ⟨rfl,rfl⟩
      ·rw [zC hge,Tm.Cs] at hR
       obtain ⟨hR1,hR2,hR3⟩:=hR
       have hR1:(ac,true)=full:=hR1
       rw [←hR1]
       simp (disch:=omega) only [go_sem,Aa,hni]
       first | done | rfl | exact ⟨rfl,rfl⟩
  | true =>
   have heqn:dec (x.name=⟨#[61]⟩)=false:=by simpa using hpe
   have hsn:(BR x true).name=x.name:=rfl
   have hsa:(BR x true).arity=(x.args.length:Int):=rfl
   have hsp:(BR x true).pred=true:=rfl
   have hsv:(BR x true).vals=[]:=rfl
   have hfind:=Pq tb (BR x true) (by omega)
   rw [hsn,hsa] at hfind
   generalize BR x true=sy at *
   have hlo:=LA sy tb
   rcases Po (fun t=>C0 t sy) tb 0 with ⟨hf1,hf2⟩ | ⟨m,hm,hf1,hf2⟩
   ·rw [hf2] at hfind
    have hck:JO tb sy=dec ((3:Int)<(x.args.length:Int)):=by unfold JO; rw [hf1,hsa,zV]
    have hpk:KK tb sy=CX tb sy:=by unfold KK; rw [hf1]
    rw [hck,hpk]
    have hupU:=RZ hup sy
    rw [hpk] at hupU
    have hil:=Ja sy tb
    cases h3:dec ((3:Int)<(x.args.length:Int)) with
    | true =>
     rw [cond_true]
     refine Ab Bl Aj (of_decide_eq_true rfl) ?_
     simp (disch:=omega) only [AV,go_sem,Aa,hv,Ao,heqn,hfind,A4,h3]
     first | done | rfl | exact ⟨rfl,rfl⟩
    | false =>
     rw [cond_false]
     refine Ab Bl Aj (of_decide_eq_true rfl) ?_
     simp (disch:=omega) only [AV,go_sem,Aa,hv,Ao,heqn,hfind,A4,h3]
     refine go_loop (α:=Int) (fun a=>⟨slots 128 0 [(0,.arr (tb.map Tl.d)),(2,.bool true),(4,.ptr 0 0),(10,.int .i64 a)],[.box 69 [.str x.name,.arr (x.args.map Tm.d)]]⟩) (fun a=>∃ k:Nat,a=k∧k≤(tb).length∧k+A7 (tb.drop k) sy=A7 tb sy) (fun a=>(tb).length-(a).toNat) 0 ⟨0,rfl,zJ _,by rw [zD,yX]⟩ (by simp (disch:=omega) only [go_sem,Aa]) ?_
     rintro i ⟨k,hi,hk,hR⟩
     have hni:i.toNat=k:=by omega
     have hni1:(i+1).toNat=k+1:=by omega
     rcases zB k (tb).length with hlt | hge
     ·have hg:=Tl.getD hlt
      rcases Rd hR hlt with ⟨q,hR'⟩ | ⟨q,hk'⟩
      ·rw [LF,hsn,hsa] at q
       cases s1:strLt tb[k].name x.name with
       | true =>
        have s2:=trivial
        have s3:=trivial
        simp (disch:=omega) only [go_sem,Aa,hni,hg,s1,s2,s3]
        exact ⟨i+1,⟨k+1,by omega,hlt,hR'⟩,by omega,by first | trivial | rfl⟩
       | false =>
        rw [s1,zV,zF] at q
        obtain ⟨s2,s3⟩:=q
        simp (disch:=omega) only [go_sem,Aa,hni,hg,s1,s2,s3]
        exact ⟨i+1,⟨k+1,by omega,hlt,hR'⟩,by omega,by first | trivial | rfl⟩
      ·subst hk'
       rw [LF,hsn,hsa,yR] at q
       obtain ⟨s1,q⟩:=q
       have e1:=Tl.ot_take tb (A7 tb sy)
       have e2:=Tl.ot_drop tb (A7 tb sy)
       have e3:=Tl.al4 (tb.take (A7 tb sy))
       have e4:=Tl.al4 (tb.drop (A7 tb sy))
       have e5:=Tl.Qbm tb
       have e6:(tb.map Tl.d).take tb.length=tb.map Tl.d:=yG (by simp)
       have e7:(tb.take (A7 tb sy)).length=A7 tb sy:=by rw [yP]; omega
       have e8:(tb.drop (A7 tb sy)).length=tb.length-A7 tb sy:=yD
       have e9:=Sa x.name (x.args.length:Int) true
       obtain ⟨hMf,hMe⟩:=Sc tb sy hsv ((tb.take (A7 tb sy)).map (fun b=>b.d.map D.ot)++([OT.str x.name,OT.int (x.args.length:Int),OT.bool true,OT.ow []] :: (tb.drop (A7 tb sy)).map fun b=>b.d.map D.ot)) (by rw [hsn,hsa,hsp]; rfl)
       cases s2:dec (tb[A7 tb sy].name=x.name) with
       | false =>
        have s3:=trivial
        simp (disch:=omega) only [go_sem,Aa,hni,hg,s1,s2,s3,e1,e2,e3,e4,e5,e6,e7,e8,e9,zN,zQ]
        have hfull:∃ full,full=Ax (CX tb sy) (Tm.Cs x.args):=⟨_,rfl⟩
        obtain ⟨full,hfull⟩:=hfull
        rw [←hfull]
        refine go_loop (α:=Int × (List Tl)) (fun a=>⟨slots 128 0 [(0,.arr ((a.2).map Tl.d)),(4,.ptr 0 0),(12,.int .i64 (a.1))],[.box 69 [.str x.name,.arr (x.args.map Tm.d)]]⟩) (fun a=>∃ k:Nat,a.1=k∧k≤(x.args).length∧Ax (a.2) (Tm.Cs (x.args.drop k))=full∧upT (a.2)∧(a.2).length+Tm.AE (x.args.drop k)≤1048576) (fun a=>(x.args).length-(a.1).toNat) (0,(CX tb sy)) ⟨0,rfl,zJ _,by rw [zD,hfull],hupU,by rw [zD]; dsimp only; omega⟩ (by simp (disch:=omega) only [go_sem,Aa,hMf,hMe,e1,e2,e3,e4,e5,e6,e7,e8,e9,zN,zQ,zP,zO]) ?_
        rintro ⟨i,ac⟩ ⟨k,hi,hk,hR⟩
        dsimp only at hi hR
        have hni:i.toNat=k:=by omega
        have hni1:(i+1).toNat=k+1:=by omega
        rcases zB k (x.args).length with hlt | hge
        ·have hg:=get_at Tm.d hlt
         rw [Tm.d_eq] at hg
         obtain ⟨hR1,hR2,hR3⟩:=hR
         rw [zA hlt,Tm.Cs,Cc] at hR1
         rw [zA hlt,Tm.AE] at hR3
         have hc2:=ih x.args[k] (zG hlt) ac false hR2 (by omega)
         have hys:(x.args[k]).sv=.agg [.str (x.args[k]).name,.arr ((x.args[k]).args.map Tm.d)]:=rfl
         rw [hys] at hc2
         have hu2:=CC ((x.args[k]).sgR false) hR2
         have hl2:=Cp ((x.args[k]).sgR false) ac
         have hs2:=Tm.E0 x.args[k] false
         obtain ⟨a2,ok,hr⟩:∃ a2 ok,Ax ac ((x.args[k]).sgR false)=(a2,ok):=⟨_,_,rfl⟩
         rw [hr] at hc2 hR1 hu2 hl2
         dsimp only at hc2 hR1 hu2 hl2
         cases ok with
         | true =>
          rw [cond_true] at hR1
          simp (disch:=omega) only [go_sem,Aa,hni,hg,hc2,Aj]
          refine ⟨(i+1,a2),⟨k+1,by dsimp only; omega,hlt,hR1,hu2,by dsimp only; omega⟩,by dsimp only; omega,?_⟩
          first | done | simp (disch:=omega) only [go_sem,Aa,hni1]
         | false =>
          rw [cond_false] at hR1
          rw [←hR1]
          simp (disch:=omega) only [go_sem,Aa,hni,hg,hc2,Aj]
          first | done | rfl | exact ⟨rfl,rfl⟩
        ·rw [zC hge,Tm.Cs] at hR
         obtain ⟨hR1,hR2,hR3⟩:=hR
         have hR1:(ac,true)=full:=hR1
         rw [←hR1]
         simp (disch:=omega) only [go_sem,Aa,hni]
         first | done | rfl | exact ⟨rfl,rfl⟩
       | true =>
        rw [s2,zW] at q
        have s3:=q
        simp (disch:=omega) only [go_sem,Aa,hni,hg,s1,s2,s3,e1,e2,e3,e4,e5,e6,e7,e8,e9,zN,zQ]
        have hfull:∃ full,full=Ax (CX tb sy) (Tm.Cs x.args):=⟨_,rfl⟩
        obtain ⟨full,hfull⟩:=hfull
        rw [←hfull]
        refine go_loop (α:=Int × (List Tl)) (fun a=>⟨slots 128 0 [(0,.arr ((a.2).map Tl.d)),(4,.ptr 0 0),(12,.int .i64 (a.1))],[.box 69 [.str x.name,.arr (x.args.map Tm.d)]]⟩) (fun a=>∃ k:Nat,a.1=k∧k≤(x.args).length∧Ax (a.2) (Tm.Cs (x.args.drop k))=full∧upT (a.2)∧(a.2).length+Tm.AE (x.args.drop k)≤1048576) (fun a=>(x.args).length-(a.1).toNat) (0,(CX tb sy)) ⟨0,rfl,zJ _,by rw [zD,hfull],hupU,by rw [zD]; dsimp only; omega⟩ (by simp (disch:=omega) only [go_sem,Aa,hMf,hMe,e1,e2,e3,e4,e5,e6,e7,e8,e9,zN,zQ,zP,zO]) ?_
        rintro ⟨i,ac⟩ ⟨k,hi,hk,hR⟩
        dsimp only at hi hR
        have hni:i.toNat=k:=by omega
        have hni1:(i+1).toNat=k+1:=by omega
        rcases zB k (x.args).length with hlt | hge
        ·have hg:=get_at Tm.d hlt
         rw [Tm.d_eq] at hg
         obtain ⟨hR1,hR2,hR3⟩:=hR
         rw [zA hlt,Tm.Cs,Cc] at hR1
         rw [zA hlt,Tm.AE] at hR3
         have hc2:=ih x.args[k] (zG hlt) ac false hR2 (by omega)
         have hys:(x.args[k]).sv=.agg [.str (x.args[k]).name,.arr ((x.args[k]).args.map Tm.d)]:=rfl
         rw [hys] at hc2
         have hu2:=CC ((x.args[k]).sgR false) hR2
         have hl2:=Cp ((x.args[k]).sgR false) ac
         have hs2:=Tm.E0 x.args[k] false
         obtain ⟨a2,ok,hr⟩:∃ a2 ok,Ax ac ((x.args[k]).sgR false)=(a2,ok):=⟨_,_,rfl⟩
         rw [hr] at hc2 hR1 hu2 hl2
         dsimp only at hc2 hR1 hu2 hl2
         cases ok with
         | true =>
          rw [cond_true] at hR1
          simp (disch:=omega) only [go_sem,Aa,hni,hg,hc2,Aj]
          refine ⟨(i+1,a2),⟨k+1,by dsimp only; omega,hlt,hR1,hu2,by dsimp only; omega⟩,by dsimp only; omega,?_⟩
          first | done | simp (disch:=omega) only [go_sem,Aa,hni1]
         | false =>
          rw [cond_false] at hR1
          rw [←hR1]
          simp (disch:=omega) only [go_sem,Aa,hni,hg,hc2,Aj]
          first | done | rfl | exact ⟨rfl,rfl⟩
        ·rw [zC hge,Tm.Cs] at hR
         obtain ⟨hR1,hR2,hR3⟩:=hR
         have hR1:(ac,true)=full:=hR1
         rw [←hR1]
         simp (disch:=omega) only [go_sem,Aa,hni]
         first | done | rfl | exact ⟨rfl,rfl⟩
     ·have hk2:tb.length=A7 tb sy:=by
       obtain rfl:k=tb.length:=by omega
       rw [←hR,zC (zU _)]; simp [A7]
      obtain rfl:k=A7 tb sy:=by omega
      have e1:=Tl.ot_take tb (A7 tb sy)
      have e2:=Tl.ot_drop tb (A7 tb sy)
      have e3:=Tl.al4 (tb.take (A7 tb sy))
      have e4:=Tl.al4 (tb.drop (A7 tb sy))
      have e5:=Tl.Qbm tb
      have e6:(tb.map Tl.d).take tb.length=tb.map Tl.d:=yG (by simp)
      have e7:(tb.take (A7 tb sy)).length=A7 tb sy:=by rw [yP]; omega
      have e8:(tb.drop (A7 tb sy)).length=tb.length-A7 tb sy:=yD
      have e9:=Sa x.name (x.args.length:Int) true
      obtain ⟨hMf,hMe⟩:=Sc tb sy hsv ((tb.take (A7 tb sy)).map (fun b=>b.d.map D.ot)++([OT.str x.name,OT.int (x.args.length:Int),OT.bool true,OT.ow []] :: (tb.drop (A7 tb sy)).map fun b=>b.d.map D.ot)) (by rw [hsn,hsa,hsp]; rfl)
      simp (disch:=omega) only [go_sem,Aa,hni,e1,e2,e3,e4,e5,e6,e7,e8,e9,zN,zQ]
      have hfull:∃ full,full=Ax (CX tb sy) (Tm.Cs x.args):=⟨_,rfl⟩
      obtain ⟨full,hfull⟩:=hfull
      rw [←hfull]
      refine go_loop (α:=Int × (List Tl)) (fun a=>⟨slots 128 0 [(0,.arr ((a.2).map Tl.d)),(4,.ptr 0 0),(12,.int .i64 (a.1))],[.box 69 [.str x.name,.arr (x.args.map Tm.d)]]⟩) (fun a=>∃ k:Nat,a.1=k∧k≤(x.args).length∧Ax (a.2) (Tm.Cs (x.args.drop k))=full∧upT (a.2)∧(a.2).length+Tm.AE (x.args.drop k)≤1048576) (fun a=>(x.args).length-(a.1).toNat) (0,(CX tb sy)) ⟨0,rfl,zJ _,by rw [zD,hfull],hupU,by rw [zD]; dsimp only; omega⟩ (by simp (disch:=omega) only [go_sem,Aa,hMf,hMe,e1,e2,e3,e4,e5,e6,e7,e8,e9,zN,zQ,zP,zO]) ?_
      rintro ⟨i,ac⟩ ⟨k,hi,hk,hR⟩
      dsimp only at hi hR
      have hni:i.toNat=k:=by omega
      have hni1:(i+1).toNat=k+1:=by omega
      rcases zB k (x.args).length with hlt | hge
      ·have hg:=get_at Tm.d hlt
       rw [Tm.d_eq] at hg
       obtain ⟨hR1,hR2,hR3⟩:=hR
       rw [zA hlt,Tm.Cs,Cc] at hR1
       rw [zA hlt,Tm.AE] at hR3
       have hc2:=ih x.args[k] (zG hlt) ac false hR2 (by omega)
       have hys:(x.args[k]).sv=.agg [.str (x.args[k]).name,.arr ((x.args[k]).args.map Tm.d)]:=rfl
       rw [hys] at hc2
       have hu2:=CC ((x.args[k]).sgR false) hR2
       have hl2:=Cp ((x.args[k]).sgR false) ac
       have hs2:=Tm.E0 x.args[k] false
       obtain ⟨a2,ok,hr⟩:∃ a2 ok,Ax ac ((x.args[k]).sgR false)=(a2,ok):=⟨_,_,rfl⟩
       rw [hr] at hc2 hR1 hu2 hl2
       dsimp only at hc2 hR1 hu2 hl2
       cases ok with
       | true =>
        rw [cond_true] at hR1
        simp (disch:=omega) only [go_sem,Aa,hni,hg,hc2,Aj]
        refine ⟨(i+1,a2),⟨k+1,by dsimp only; omega,hlt,hR1,hu2,by dsimp only; omega⟩,by dsimp only; omega,?_⟩
        first | done | simp (disch:=omega) only [go_sem,Aa,hni1]
       | false =>
        rw [cond_false] at hR1
        rw [←hR1]
        simp (disch:=omega) only [go_sem,Aa,hni,hg,hc2,Aj]
        first | done | rfl | exact ⟨rfl,rfl⟩
      ·rw [zC hge,Tm.Cs] at hR
       obtain ⟨hR1,hR2,hR3⟩:=hR
       have hR1:(ac,true)=full:=hR1
       rw [←hR1]
       simp (disch:=omega) only [go_sem,Aa,hni]
       first | done | rfl | exact ⟨rfl,rfl⟩
   ·rw [hf2,yW] at hfind
    have hgm:=Tl.getD hm
    have hnm:((m:Nat):Int).toNat=m:=zY m
    have hck:JO tb sy=(!(tb[m].pred == true) || dec ((3:Int)<(x.args.length:Int))):=by unfold JO; rw [hf1,hsa,hsp]
    have hpk:KK tb sy=tb:=by unfold KK; rw [hf1]
    have hupU:=hup
    rw [hck,hpk]
    generalize tb[m].pred=pr at *
    cases h3:dec ((3:Int)<(x.args.length:Int)) with
    | true =>
     rw [yU,cond_true]
     cases pr
     all_goals
      refine Ab Bl Aj (of_decide_eq_true rfl) ?_
      simp (disch:=omega) only [AV,go_sem,Aa,hv,Ao,heqn,hfind,A4,h3,hgm,hnm,MA,MB]
      first | done | rfl | exact ⟨rfl,rfl⟩
    | false =>
     rw [xA]
     cases pr with
     | false =>
      rw [show (!(false == true))=true from rfl,cond_true]
      refine Ab Bl Aj (of_decide_eq_true rfl) ?_
      simp (disch:=omega) only [AV,go_sem,Aa,hv,Ao,heqn,hfind,A4,h3,hgm,hnm,MA,MB]
      first | done | rfl | exact ⟨rfl,rfl⟩
     | true =>
      rw [show (!(true == true))=false from rfl,cond_false]
      refine Ab Bl Aj (of_decide_eq_true rfl) ?_
      simp (disch:=omega) only [AV,go_sem,Aa,hv,Ao,heqn,hfind,A4,h3,hgm,hnm,MA,MB]
      have hfull:∃ full,full=Ax tb (Tm.Cs x.args):=⟨_,rfl⟩
      obtain ⟨full,hfull⟩:=hfull
      rw [←hfull]
      refine go_loop (α:=Int × (List Tl)) (fun a=>⟨slots 128 0 [(0,.arr ((a.2).map Tl.d)),(4,.ptr 0 0),(12,.int .i64 (a.1))],[.box 69 [.str x.name,.arr (x.args.map Tm.d)]]⟩) (fun a=>∃ k:Nat,a.1=k∧k≤(x.args).length∧Ax (a.2) (Tm.Cs (x.args.drop k))=full∧upT (a.2)∧(a.2).length+Tm.AE (x.args.drop k)≤1048576) (fun a=>(x.args).length-(a.1).toNat) (0,tb) ⟨0,rfl,zJ _,by rw [zD,hfull],hupU,by rw [zD]; dsimp only; omega⟩ (by simp (disch:=omega) only [go_sem,Aa]) ?_
      rintro ⟨i,ac⟩ ⟨k,hi,hk,hR⟩
      dsimp only at hi hR
      have hni:i.toNat=k:=by omega
      have hni1:(i+1).toNat=k+1:=by omega
      rcases zB k (x.args).length with hlt | hge
      ·have hg:=get_at Tm.d hlt
       rw [Tm.d_eq] at hg
       obtain ⟨hR1,hR2,hR3⟩:=hR
       rw [zA hlt,Tm.Cs,Cc] at hR1
       rw [zA hlt,Tm.AE] at hR3
       have hc2:=ih x.args[k] (zG hlt) ac false hR2 (by omega)
       have hys:(x.args[k]).sv=.agg [.str (x.args[k]).name,.arr ((x.args[k]).args.map Tm.d)]:=rfl
       rw [hys] at hc2
       have hu2:=CC ((x.args[k]).sgR false) hR2
       have hl2:=Cp ((x.args[k]).sgR false) ac
       have hs2:=Tm.E0 x.args[k] false
       obtain ⟨a2,ok,hr⟩:∃ a2 ok,Ax ac ((x.args[k]).sgR false)=(a2,ok):=⟨_,_,rfl⟩
       rw [hr] at hc2 hR1 hu2 hl2
       dsimp only at hc2 hR1 hu2 hl2
       cases ok with
       | true =>
        rw [cond_true] at hR1
        simp (disch:=omega) only [go_sem,Aa,hni,hg,hc2,Aj]
        refine ⟨(i+1,a2),⟨k+1,by dsimp only; omega,hlt,hR1,hu2,by dsimp only; omega⟩,by dsimp only; omega,?_⟩
        first | done | simp (disch:=omega) only [go_sem,Aa,hni1]
       | false =>
        rw [cond_false] at hR1
        rw [←hR1]
        simp (disch:=omega) only [go_sem,Aa,hni,hg,hc2,Aj]
        first | done | rfl | exact ⟨rfl,rfl⟩
      ·rw [zC hge,Tm.Cs] at hR
       obtain ⟨hR1,hR2,hR3⟩:=hR
       have hR1:(ac,true)=full:=hR1
       rw [←hR1]
       simp (disch:=omega) only [go_sem,Aa,hni]
       first | done | rfl | exact ⟨rfl,rfl⟩
theorem Pr (x:Tm):QcB x:=XD x fun y hy=>Pr y
termination_by SizeOf.sizeOf x
decreasing_by exact Tm.Ar hy
noncomputable def Ps:List Lt→List Tl
 | []=>[]
 | l :: ls=>l.atom.sgR true++Ps ls
noncomputable def TN:List Cl→List Tl
 | []=>[]
 | c :: cs=>Ps c.lits++TN cs
noncomputable def TO:List Tl→List Cl→Option (List Tl)
 | a,[]=>some a
 | a,c :: cs=>bif c.ok then (bif (Ax a (Ps c.lits)).2 then TO (Ax a (Ps c.lits)).1 cs else none) else none
noncomputable def Z3 (cs:List Cl):Option (List Tl):=bif dec (30 < cs.length) then none else match TO [] cs with
 | some a=>bif dec (12 < a.length) then none else some a
 | none=>none
theorem Wx:∀ (cs:List Cl) (a:List Tl),TO a cs=bif cs.all (fun c=>c.ok) then (bif (Ax a (TN cs)).2 then some (Ax a (TN cs)).1 else none) else none
 | [],a=>rfl
 | c :: cs,a=>by
  rw [TO,List.all_cons,TN,Cc]
  cases c.ok with
  | false=>rfl
  | true =>
   rw [cond_true,zW]
   cases h:(Ax a (Ps c.lits)).2 with
   | true=>rw [cond_true,cond_true]; exact Wx cs _
   | false =>
    rw [cond_false,cond_false,h,cond_false]
    cases cs.all (fun c=>c.ok) <;> rfl
theorem Tm.TP:∀ (x:Tm) (p:Bool),∀ t∈x.sgI p,t.vals=[]
 | x,p,t,h=>by
  rw [Tm.GK,zS,Tm.DN] at h
  rcases h with ⟨z,hz,h⟩ | h
  ·exact Tm.TP z false t h
  ·revert h
   cases (dec (x.name=⟨#[61]⟩) || AI x.name) with
   | true=>intro h; cases h
   | false=>intro h; rw [cond_false,y2] at h; rw [h]; rfl
termination_by x=>SizeOf.sizeOf x
decreasing_by exact Tm.Ar hz
theorem Re:∀ (ls:List Lt),∀ t∈KI ls,t.vals=[]
 | [],t,h=>by cases h
 | l :: ls,t,h=>by
  rw [KI,zS] at h
  rcases h with h | h
  ·exact Tm.TP _ _ t h
  ·exact Re ls t h
theorem Hy:∀ (cs:List Cl),∀ t∈Hw cs,t.vals=[]
 | [],t,h=>by cases h
 | c :: cs,t,h=>by
  rw [Hw,zS] at h
  rcases h with h | h
  ·exact Re _ t h
  ·exact Hy cs t h
theorem Wy (y:Tl):∀ (ls:List Lt),(∀ l∈ls,l.atom.atom=true)→(y∈KI ls ↔ y∈Ps ls)
 | [],_=>Iff.rfl
 | l :: ls,h=>by
  rw [KI,Ps,zS,zS,Qbi l.atom (Tm.Hq (h l (by simp))) y,Wy y ls fun m hm=>h m (by simp [hm])]
theorem Wz (y:Tl):∀ (cs:List Cl),(∀ c∈cs,c.ok=true)→(y∈Hw cs ↔ y∈TN cs)
 | [],_=>Iff.rfl
 | c :: cs,h=>by
  have hc:∀ l∈c.lits,l.atom.atom=true:=fun l hl=>by
   obtain ⟨k,hk,rfl⟩:=yT hl
   exact Cl.Ww (h c (by simp)) hk
  rw [Hw,TN,zS,zS,Wy y c.lits hc,Wz y cs fun m hm=>h m (by simp [hm])]
theorem Qbn (cs:List Cl):Z3 cs=Ii cs:=by
 unfold Z3 Ii FX
 cases dec (30<cs.length) with
 | true=>rfl
 | false =>
  rw [cond_false,zV,Wx]
  have hna:(cs.any fun c=>!c.ok)=!(cs.all fun c=>c.ok):=by rw [List.not_all_eq_any_not]
  rw [hna]
  cases hall:cs.all fun c=>c.ok with
  | false=>rfl
  | true =>
   rw [cond_true,Bool.not_true,cond_false]
   rw [yC] at hall
   have hp:=Qbh (Hy cs) (S':=TN cs) fun y=>Wz y cs hall
   obtain ⟨h1,h2⟩:=Rc (TN cs) []
   cases hf:(AO ([],false) (Hw cs)).2 with
   | true =>
    rw [←hp.1,hf] at h1
    rw [h1]; rfl
   | false =>
    rw [←hp.1,hf] at h1
    have e:=h2 h1
    rw [h1,Bool.not_false,cond_true,e,← hp.2 hf,zV]
def Ec:SC:=(.seq (.reg [⟨some 2,none,.mv (.c .nil)⟩,⟨some 3,none,.mv (.c (.bool false))⟩]) (.seq (.reg [⟨(some 8),none,(.mkrow 58 4 [(.str ⟨#[]⟩),(.int .i64 0),(.bool false),.nil] 0 [])⟩,⟨some 4,none,.mv (.t 8)⟩]) (.seq (.seq (.reg [⟨some 9,none,.mv (.t 0)⟩,⟨some 10,none,.len false (.t 9)⟩,⟨some 11,none,.bin .gtr false (.t 10) (.c (.int .i64 30))⟩]) (.cond (.t 11) (.seq (.reg [⟨some 12,none,.mv (.t 4)⟩,⟨some 2,none,.mv (.t 12)⟩,⟨some 3,none,.mv (.c (.bool false))⟩]) .ret) .skip)) (.seq (.reg [⟨some 5,none,.mv (.c (.bool true))⟩]) (.seq (.seq (.reg [⟨some 6,none,.mv (.c (.int .i64 0))⟩]) (.block 0 (.loop [1,0,0,0,1,0,1,0,0,0,0,0,0,0,0,0,0,0,0,0,0,0,0,0,0,0,0,0,0,0,0,0,0,0,0,0,0,0,0,0,0,0,0,0,0,0,0,0,0,0,0,0,0,0,0,0,0,0] (.seq (.seq (.reg [⟨some 13,none,.mv (.t 6)⟩,⟨some 14,none,.mv (.t 0)⟩,⟨some 15,none,.len false (.t 14)⟩,⟨some 16,none,.bin .lss false (.t 13) (.t 15)⟩]) (.cond (.t 16) .skip (.exit 0))) (.seq (.block 1 (.seq (.seq (.reg [⟨some 19,none,.mv (.t 0)⟩,⟨some 20,none,.mv (.t 6)⟩,⟨some 21,none,.iaddr 1 (.t 19) (.t 20)⟩,⟨some 22,none,.load true 1 (.t 21)⟩,⟨some 23,none,.call 36 [(.t 22)]⟩,⟨some 24,none,.un .not (.t 23)⟩]) (.cond (.t 24) (.seq (.reg [⟨(some 25),none,(.mkrow 58 4 [(.str ⟨#[]⟩),(.int .i64 0),(.bool false),.nil] 0 [])⟩,⟨some 2,none,.mv (.t 25)⟩,⟨some 3,none,.mv (.c (.bool false))⟩]) .ret) .skip)) (.seq (.reg [⟨some 7,none,.mv (.c (.int .i64 0))⟩]) (.block 2 (.loop [1,0,0,0,1,0,1,1,0,0,0,0,0,0,0,0,0,0,0,0,0,0,0,0,0,0,0,0,0,0,0,0,0,0,0,0,0,0,0,0,0,0,0,0,0,0,0,0,0,0,0,0,0,0,0,0,0,0] (.seq (.seq (.reg [⟨some 26,none,.mv (.t 7)⟩,⟨some 27,none,.mv (.t 0)⟩,⟨some 28,none,.mv (.t 6)⟩,⟨some 29,none,.iaddr 1 (.t 27) (.t 28)⟩,⟨some 30,none,.faddr 0 (.t 29)⟩,⟨some 31,none,.load false 1 (.t 30)⟩,⟨some 32,none,.len false (.t 31)⟩,⟨some 33,none,.bin .lss false (.t 26) (.t 32)⟩]) (.cond (.t 33) .skip (.exit 2))) (.seq (.block 3 (.seq (.reg [⟨some 37,none,.mv (.t 4)⟩,⟨some 38,none,.mv (.t 0)⟩,⟨some 39,none,.mv (.t 6)⟩,⟨some 40,none,.iaddr 1 (.t 38) (.t 39)⟩,⟨some 41,none,.faddr 0 (.t 40)⟩,⟨some 42,none,.load false 1 (.t 41)⟩,⟨some 43,none,.mv (.t 7)⟩,⟨some 44,none,.iaddr 3 (.t 42) (.t 43)⟩,⟨some 45,none,.faddr 1 (.t 44)⟩,⟨some 46,none,.load true 2 (.t 45)⟩,⟨some 47,none,.call 37 [(.t 37),(.t 46),(.c (.bool true))]⟩,⟨some 36,none,.mv (.t 47)⟩,⟨some 48,none,.ext (.t 36) 0⟩,⟨some 49,none,.ext (.t 36) 1⟩,⟨some 4,none,.mv (.t 48)⟩,⟨some 5,none,.mv (.t 49)⟩]) (.seq (.reg [⟨some 50,none,.mv (.t 5)⟩,⟨some 51,none,.un .not (.t 50)⟩]) (.cond (.t 51) (.seq (.reg [⟨(some 52),none,(.mkrow 58 4 [(.str ⟨#[]⟩),(.int .i64 0),(.bool false),.nil] 0 [])⟩,⟨some 2,none,.mv (.t 52)⟩,⟨some 3,none,.mv (.c (.bool false))⟩]) .ret) .skip)))) (.reg [⟨some 34,none,.mv (.t 7)⟩,⟨some 35,none,.bin .add false (.t 34) (.c (.int .i64 1))⟩,⟨some 7,none,.mv (.t 35)⟩])))))))) (.reg [⟨some 17,none,.mv (.t 6)⟩,⟨some 18,none,.bin .add false (.t 17) (.c (.int .i64 1))⟩,⟨some 6,none,.mv (.t 18)⟩])))))) (.seq (.seq (.reg [⟨some 53,none,.mv (.t 4)⟩,⟨some 54,none,.len false (.t 53)⟩,⟨some 55,none,.bin .gtr false (.t 54) (.c (.int .i64 12))⟩]) (.cond (.t 55) (.seq (.reg [⟨(some 56),none,(.mkrow 58 4 [(.str ⟨#[]⟩),(.int .i64 0),(.bool false),.nil] 0 [])⟩,⟨some 2,none,.mv (.t 56)⟩,⟨some 3,none,.mv (.c (.bool false))⟩]) .ret) .skip)) (.seq (.reg [⟨some 57,none,.mv (.t 4)⟩,⟨some 2,none,.mv (.t 57)⟩,⟨some 3,none,.mv (.c (.bool true))⟩]) .ret)))))))
theorem FY:Ad Tryz.prog 14=some ⟨58,Ec,[(.tmp 2),(.tmp 3)]⟩:=by kernel_rfl
theorem Cq:modes 14=⟨[],.frl [11],none,false⟩:=by unfold modes; rfl
theorem LG (cs:List Cl) (hl:cs.length≤1048576) (hx:∀ x∈cs,x.tame):E 14 [.arr (cs.map Cl.d)] []=some (.tup [.arr (((Z3 cs).getD []).map Tl.d),.bool (Z3 cs).isSome],[]):=by
 have hm0:([]:List Tl).map Tl.d=[]:=rfl
 unfold Z3
 rcases zB 30 cs.length with h30 | h30
 ·have hq:dec ((30:Int)<(cs.length:Int))=true:=Ay (by omega)
  rw [Ay h30,cond_true]
  refine Ab FY Cq (of_decide_eq_true rfl) ?_
  simp (disch:=omega) only [Ec,go_sem,Aa,hq]
  first | done | rfl | exact ⟨rfl,rfl⟩
 have hq:dec ((30:Int)<(cs.length:Int))=false:=Aw (by omega)
 rw [Aw (yK.2 h30),cond_false]
 obtain ⟨full,hfull⟩:∃ full,full=TO [] cs:=⟨_,rfl⟩
 rw [←hfull]
 refine Ab FY Cq (of_decide_eq_true rfl) ?_
 simp (disch:=omega) only [Ec,go_sem,Aa,hq]
 refine go_loop (α:=Int × (List Tl)) (fun a=>⟨slots 58 0 [(0,.arr (cs.map Cl.d)),(4,.arr ((a.2).map Tl.d)),(6,.int .i64 (a.1))],[]⟩) (fun a=>∃ k:Nat,a.1=k∧k≤(cs).length∧TO (a.2) (cs.drop k)=full∧upT (a.2)∧(a.2).length+240*(cs.length-k)≤7200) (fun a=>(cs).length-(a.1).toNat) (0,[]) ⟨0,rfl,zJ _,by rw [zD]; exact hfull.symm,y6,by simp only [zO]; omega⟩ (by simp (disch:=omega) only [go_sem,Aa,hm0]) ?_
 rintro ⟨i,ac⟩ ⟨k,hi,hk,hR⟩
 dsimp only at hi hR
 have hni:i.toNat=k:=by omega
 have hni1:(i+1).toNat=k+1:=by omega
 rcases zB k (cs).length with hlt | hge
 ·have hg:=get_at Cl.d hlt
  rw [Cl.d_eq] at hg
  obtain ⟨hR1,hR2,hR3⟩:=hR
  rw [zA hlt,TO] at hR1
  have hgd:=T8 cs[k] (hx _ (zG hlt))
  have hsv:(cs[k]).sv=.agg [.arr ((cs[k]).lits.map Lt.d)]:=rfl
  rw [hsv] at hgd
  obtain ⟨c,hcd⟩:∃ c,c=cs[k]:=⟨_,rfl⟩
  rw [←hcd] at hg hR1 hgd
  cases hck:c.ok with
  | false =>
   rw [hck] at hR1 hgd
   rw [cond_false] at hR1
   rw [←hR1]
   simp (disch:=omega) only [go_sem,Aa,hni,hg,hgd,Da]
   first | done | rfl | exact ⟨rfl,rfl⟩
  | true =>
  rw [hck] at hR1 hgd
  rw [cond_true] at hR1
  have hc8:=Cl.KG hck
  obtain ⟨left,hleft⟩:∃ n:Nat,n=240*(cs.length-(k+1)):=⟨_,rfl⟩
  have hleft0:240*(cs.length-k)=240+left:=by omega
  rw [hleft0] at hR3
  obtain ⟨io,hio⟩:∃ io,io=i:=⟨_,rfl⟩
  subst hio
  obtain ⟨ko,hko⟩:∃ ko,ko=k:=⟨_,rfl⟩
  subst hko
  obtain ⟨a0,ha0⟩:∃ a0,a0=ac:=⟨_,rfl⟩
  subst ha0
  have hlto:=hlt
  have hnio:=hni
  have hio1:=hni1
  have hgo:=hg
  have hR1o:=hR1
  obtain ⟨run,hrun⟩:∃ r,r=Ax a0 (Ps c.lits):=⟨_,rfl⟩
  rw [←hrun] at hR1o
  clear hR1
  simp (disch:=omega) only [go_sem,Aa,hni,hg,hgd,Da]
  refine go_loop (α:=Int × (List Tl)) (fun a=>⟨slots 58 0 [(0,.arr (cs.map Cl.d)),(4,.arr ((a.2).map Tl.d)),(6,.int .i64 io),(7,.int .i64 (a.1))],[]⟩) (fun a=>∃ k:Nat,a.1=k∧k≤(c.lits).length∧Ax (a.2) (Ps (c.lits.drop k))=run∧upT (a.2)∧(a.2).length+(30*(c.lits.length-k)+left)≤7200) (fun a=>(c.lits).length-(a.1).toNat) (0,a0) ⟨0,rfl,zJ _,by rw [zD]; exact hrun.symm,hR2,by dsimp only; omega⟩ (by simp (disch:=omega) only [go_sem,Aa]) ?_
  rintro ⟨i,ac⟩ ⟨k,hi,hk,hR⟩
  dsimp only at hi hR
  have hni:i.toNat=k:=by omega
  have hni1:(i+1).toNat=k+1:=by omega
  rcases zB k (c.lits).length with hlt | hge
  ·have hgt:=get_at Lt.d hlt
   rw [Lt.d_eq] at hgt
   obtain ⟨hR1,hR2',hR3'⟩:=hR
   rw [zA hlt,Ps,Cc] at hR1
   have hat:=Cl.Ww hck hlt
   have hnod:=Tm.KA (Tm.Hq hat)
   have hys:(c.lits[k]).atom.sv=.agg [.str (c.lits[k]).atom.name,.arr ((c.lits[k]).atom.args.map Tm.d)]:=rfl
   have hc2:=Pr (c.lits[k]).atom ac true hR2' (by omega)
   rw [hys] at hc2
   have hu2:=CC ((c.lits[k]).atom.sgR true) hR2'
   have hl2:=Cp ((c.lits[k]).atom.sgR true) ac
   have hs2:=Tm.E0 (c.lits[k]).atom true
   obtain ⟨a2,ok,hr⟩:∃ a2 ok,Ax ac ((c.lits[k]).atom.sgR true)=(a2,ok):=⟨_,_,rfl⟩
   rw [hr] at hc2 hR1 hu2 hl2
   dsimp only at hc2 hR1 hu2 hl2
   cases ok with
   | true =>
    rw [cond_true] at hR1
    simp (disch:=omega) only [go_sem,Aa,hni,hnio,hgo,hgt,hc2,Aj]
    refine ⟨(i+1,a2),⟨k+1,by dsimp only; omega,hlt,hR1,hu2,by dsimp only; omega⟩,by dsimp only; omega,?_⟩
    first | done | simp (disch:=omega) only [go_sem,Aa]
   | false =>
    rw [cond_false] at hR1
    rw [←hR1] at hR1o
    dsimp only at hR1o
    rw [cond_false] at hR1o
    rw [←hR1o]
    simp (disch:=omega) only [go_sem,Aa,hni,hnio,hgo,hgt,hc2,Aj]
    first | done | rfl | exact ⟨rfl,rfl⟩
  ·rw [zC hge,Ps] at hR
   obtain ⟨hR1,hR2',hR3'⟩:=hR
   have hR1:(ac,true)=run:=hR1
   rw [←hR1] at hR1o
   dsimp only at hR1o
   rw [cond_true] at hR1o
   simp (disch:=omega) only [go_sem,Aa,hni,hnio,hgo]
   refine ⟨(io+1,ac),⟨ko+1,by dsimp only; omega,hlto,hR1o,hR2',by dsimp only; omega⟩,by dsimp only; omega,?_⟩
   first | done | simp (disch:=omega) only [go_sem,Aa]
 ·rw [zC hge,TO] at hR
  obtain ⟨hR1,hR2,hR3⟩:=hR
  rw [←hR1]
  dsimp only
  rcases zB 12 ac.length with q2 | q2
  ·have q3:dec ((12:Int)<(ac.length:Int))=true:=Ay (by omega)
   rw [Ay q2,cond_true]
   simp (disch:=omega) only [go_sem,Aa,hni,q3]
   first | done | rfl | exact ⟨rfl,rfl⟩
  ·have q3:dec ((12:Int)<(ac.length:Int))=false:=Aw (by omega)
   rw [Aw (yK.2 q2),cond_false]
   simp (disch:=omega) only [go_sem,Aa,hni,q3]
   first | done | rfl | exact ⟨rfl,rfl⟩
theorem W4:∀ (x:Tm) (p:Bool),x.names=true→∀ y∈x.sgI p,CN y.name=true∧0≤y.arity
 | x,p,hx,y,hy=>by
  rw [Tm.GK,zS,Tm.DN] at hy
  rcases hy with ⟨z,hz,hy⟩ | hy
  ·exact W4 z false (Tm.Eg hx hz) y hy
  ·cases hv:AI x.name with
   | true=>rw [hv,yU,cond_true] at hy; cases hy
   | false =>
    rw [Tm.FL,hv] at hx
    simp only [yF,if_false,zF] at hx
    rw [hv,xA] at hy
    cases hd:dec (x.name=⟨#[61]⟩) with
    | true=>rw [hd,cond_true] at hy; cases hy
    | false =>
     rw [hd,cond_false,y2] at hy
     rw [hy]
     exact ⟨hx.1.1,Int.natCast_nonneg _⟩
termination_by x=>SizeOf.sizeOf x
decreasing_by exact Tm.Ar hz
theorem TQ {x:Tm} (h:x.atom=true) (he:x.eqn=false):CN x.name=true∧AI x.name=false:=by
 unfold Tm.atom at h
 rw [he] at h
 simp only [yF,if_false,zF] at h
 refine ⟨h.1,?_⟩
 cases hv:AI x.name with
 | false=>rfl
 | true=>rw [QL hv] at h; exact absurd h.1 (by simp)
theorem Z4 (x:Tm) (hx:x.atom=true):∀ y∈x.sgI true,CN y.name=true∧0≤y.arity:=fun y hy=>by
 rw [Tm.GK,zS,Tm.DN] at hy
 rcases hy with ⟨z,hz,hy⟩ | hy
 ·exact W4 z false ((Tm.Eh hx).2 z hz) y hy
 ·cases he:x.eqn with
  | true =>
   unfold Tm.eqn at he
   rw [he,z8,cond_true] at hy
   cases hy
  | false =>
   obtain ⟨h1,h2⟩:=TQ hx he
   unfold Tm.eqn at he
   rw [he,h2,yV,cond_false,y2] at hy
   rw [hy]
   exact ⟨h1,Int.natCast_nonneg _⟩
theorem TR {y:Tl}:∀ {ls:List Lt},y∈KI ls ↔ ∃ l∈ls,y∈l.atom.sgI true
 | []=>by simp [KI]
 | l :: ls=>by rw [KI,zS,TR]; simp
theorem Pt {y:Tl}:∀ {cs:List Cl},y∈Hw cs ↔ ∃ c∈cs,∃ l∈c.lits,y∈l.atom.sgI true
 | []=>by simp [Hw]
 | c :: cs=>by rw [Hw,zS,Pt,TR]; simp
theorem Gy {cs:List Cl} {ts:List Tl} (h:Ii cs=some ts):cs.length≤30∧(∀ c∈cs,c.ok=true)∧ts.length≤12∧(FX cs).2=false∧ts=(FX cs).1:=by
 unfold Ii at h
 cases h1:dec (30<cs.length) || cs.any (fun c=>!c.ok) with
 | true=>rw [h1] at h; cases h
 | false =>
  rw [h1,cond_false] at h
  cases h2:(FX cs).2 || dec (12<(FX cs).1.length) with
  | true=>rw [h2] at h; cases h
  | false =>
   rw [h2,cond_false] at h
   obtain rfl:=zK h
   rw [yR] at h1 h2
   have h3:=Be.1 h1.1
   have h4:=Be.1 h2.2
   refine ⟨by omega,fun c hc=>?_,by omega,h2.1,rfl⟩
   have:=h1.2
   rw [List.any_eq_false] at this
   simpa using this c hc
theorem Pu {cs:List Cl} {ts:List Tl} (h:Ii cs=some ts):Dj ts=true∧(∀ t∈ts,t.vals=[])∧∀ c∈cs,∀ l∈c.lits,∀ y∈l.atom.sgI true,y∈ts:=by
 obtain ⟨h1,h2,h3,h4,rfl⟩:=Gy h
 have hi:SgInv (Hw cs) (FX cs):=Ws (Hy cs)
 have hf:=hi.fl.1 h4
 have hat:∀ c∈cs,∀ l∈c.lits,l.atom.atom=true:=fun c hc l hl=>by
  obtain ⟨k,hk,rfl⟩:=yT hl
  exact Cl.Gx (h2 c hc) hk
 have hs:∀ t∈(FX cs).1,CN t.name=true∧inI t.arity 0 3=true:=fun t ht=>by
  have hm:=hi.sub t ht
  have h5:=(hf t hm).1
  obtain ⟨c,hc,l,hl,hy⟩:=Pt.1 hm
  have h6:=Z4 l.atom (hat c hc l hl) t hy
  exact ⟨h6.1,Eu.2 ⟨h6.2,h5⟩⟩
 refine ⟨?_,fun t ht=>Hy cs t (hi.sub t ht),fun c hc l hl y hy=>(hf y (Pt.2 ⟨c,hc,l,hl,hy⟩)).2⟩
 unfold Dj
 rw [zF,decide_eq_true_eq]
 refine ⟨Tv fun j hj=>?_,h3⟩
 cases j with
 | zero =>
  rw [EJ hj]
  have:=hs _ (zG hj)
  rw [this.1,this.2]; rfl
 | succ j =>
  rw [D2 hj]
  have:=hs _ (zG hj)
  have hu:=hi.up
  rw [y4] at hu
  rw [this.1,this.2,hu j (j+1) (by omega) hj (by omega)]; rfl
def HasK (ts:List Tl) (y:Tl):Prop:=∃ t∈ts,t.name=y.name∧t.arity=y.arity∧t.pred=y.pred
theorem HasK.tab {ts:List Tl} {y:Tl} (h:HasK ts y):(JM ts y.name y.arity y.pred).isSome=true:=by
 obtain ⟨t,ht,h1,h2,h3⟩:=h
 unfold JM
 rw [List.find?_isSome]
 exact ⟨t,ht,by rw [Ay h1,Ay h2,h3]; simp⟩
theorem Rf {ts:List Tl} {n:ByteArray} {k:Int} {p:Bool} {a:Option Int} (h:(JM ts n k p).isSome=true) (ha:a.isSome=true):(CA ts n k p a).isSome=true:=by
 unfold CA
 cases h1:JM ts n k p with
 | none=>rw [h1] at h; cases h
 | some t=>cases a with
  | none=>cases ha
  | some i=>rfl
theorem Pv {m:Ip} {e:Env}:∀ {xs:List Tm} {i:Int},(∀ x∈xs,(x.val m e).isSome=true)→(Tm.DL m e xs i).isSome=true
 | [],i,_=>by rw [Tm.DL]; rfl
 | x :: xs,i,h=>by
  rw [Tm.DL]
  cases h1:x.val m e with
  | none=>have:=h x (by simp); rw [h1] at this; cases this
  | some v=>exact Pv fun y hy=>h y (by simp [hy])
theorem Sd {v:ByteArray}:∀ {xs:List Tm} {x:Tm},x∈xs→v∈x.vs→v∈Tm.vsL xs
 | y :: xs,x,hx,hv=>by
  rw [Tm.vsL,zS]
  rcases yQ.1 hx with rfl | hx
  ·exact .inl hv
  ·exact .inr (Sd hx hv)
theorem W5 (m:Ip) (e:Env):∀ x:Tm,x.names=true→(∀ y∈x.sgI false,HasK m.tables y)→(∀ v∈x.vs,(e v).isSome=true)→(x.val m e).isSome=true
 | x,hx,hy,hv=>by
  rw [Tm.RK]
  rw [Tm.T0] at hv
  cases hn:AI x.name with
  | true =>
   rw [hn,cond_true] at hv
   rw [cond_true]
   exact hv x.name (by simp)
  | false =>
   rw [hn,cond_false] at hv
   rw [cond_false]
   have hne:=Pi hx
   rw [Tm.GK,hn,hne,yV,cond_false] at hy
   exact Rf (hy (BR x false) (by simp)).tab (Pv fun z hz=>W5 m e z (Tm.Eg hx hz) (fun y hyz=>hy y (by rw [zS]; exact .inl (Tm.DN.2 ⟨z,hz,hyz⟩))) fun v hvz=>hv v (Sd hz hvz))
termination_by x=>SizeOf.sizeOf x
decreasing_by exact Tm.Ar hz
theorem Qbo (m:Ip) (e:Env) (x:Tm) (hx:x.atom=true) (hy:∀ y∈x.sgI true,HasK m.tables y) (hv:∀ v∈x.vs,(e v).isSome=true):(x.tru m e).isSome=true:=by
 rw [Tm.GK] at hy
 have hvs:AI x.name=false→∀ z∈x.args,∀ v∈z.vs,(e v).isSome=true:=fun hn z hz v hvz=>hv v (by rw [Tm.T0,hn,cond_false]; exact Sd hz hvz)
 have hva:AI x.name=false→(Tm.DL m e x.args 0).isSome=true:=fun hn=>Pv fun z hz=>W5 m e z ((Tm.Eh hx).2 z hz) (fun y hyz=>hy y (by rw [zS]; exact .inl (Tm.DN.2 ⟨z,hz,hyz⟩))) (hvs hn z hz)
 unfold Tm.tru
 cases he:x.eqn with
 | true =>
  have hn:AI x.name=false:=by
   unfold Tm.eqn at he
   rw [Af.1 he]; exact QV
  have:=hva hn
  simp only [if_true]
  cases h1:Tm.DL m e x.args 0 with
  | none=>rw [h1] at this; cases this
  | some i=>rfl
 | false =>
  obtain ⟨h1,h2⟩:=TQ hx he
  simp only [yF,if_false]
  unfold Tm.eqn at he
  rw [he,h2,yV,cond_false] at hy
  exact Rf (hy (BR x true) (by simp)).tab (hva h2)
theorem W6 (sz n:Int) {v:ByteArray}:∀ {l:List ByteArray},v∈l→(asg (BN sz l n).1 v).isSome=true
 | w :: r,h=>by
  rw [BN]
  dsimp only
  rw [asg]
  cases hd:dec (w=v) with
  | true=>rfl
  | false =>
   rcases yQ.1 h with rfl | h
   ·exact absurd rfl (Be.1 hd)
   ·exact W6 sz n h
theorem TS (m:Ip) (e:Env):∀ (ls:List Lt) (b:Bool),(∀ l∈ls,(l.atom.tru m e).isSome=true)→(HW m e ls b).isSome=true
 | [],b,_=>rfl
 | l :: r,b,h=>by
  rw [HW]
  cases h1:l.atom.tru m e with
  | none=>have:=h l (by simp); rw [h1] at this; cases this
  | some n=>exact TS m e r _ fun x hx=>h x (by simp [hx])
theorem TT {v:ByteArray}:∀ {ls:List Lt} {l:Lt},l∈ls→v∈l.atom.vs→v∈Lt.vsL ls
 | y :: ls,l,hl,hv=>by
  rw [Lt.vsL,zS]
  rcases yQ.1 hl with rfl | hl
  ·exact .inl hv
  ·exact .inr (TT hl hv)
theorem TU (m:Ip) (c:Cl) (h:∀ n,(HW m (asg (BN m.size c.vars n).1) c.lits false).isSome=true):∀ (k:Nat) (n:Int),(HX m c k n).isSome=true
 | 0,n=>rfl
 | k+1,n=>by
  rw [HX]
  have:=h n
  cases h1:HW m (asg (BN m.size c.vars n).1) c.lits false with
  | none=>rw [h1] at this; cases this
  | some b=>cases b with
   | true=>exact TU m c h k (n+1)
   | false=>rfl
theorem Qbp {m:Ip} {c:Cl} (hc:c.ok=true) (h:∀ l∈c.lits,∀ y∈l.atom.sgI true,HasK m.tables y):(C3 m c).isSome=true :=
 TU m c (fun n=>TS m _ c.lits false fun l hl=>Qbo m _ l.atom (Cl.Zr hc l hl) (h l hl) fun v hv=>W6 m.size n (by
  unfold Cl.vars
  exact Pd.2 (.inr (TT hl hv)))) _ 0
theorem Qbq {m:Ip} {c:Cl} (h:(C3 m c).isSome=true):dec (Pg (C3 m c)=0)=!N6 (C3 m c):=by
 cases h1:C3 m c with
 | none=>rw [h1] at h; cases h
 | some a=>cases a with
  | none=>exact Ay rfl
  | some a=>exact Aw (by simp [Pg])
def ipN (sz:Int) (ts:List Tl) (n:Int):Ip:=⟨sz,(BE sz ts n).1⟩
theorem Z5 {sz:Int} {ts:List Tl} {n:Int} {y:Tl} (hy:y∈ts):HasK (BE sz ts n).1 y:=by
 obtain ⟨k,hk,rfl⟩:=yT hy
 have hk':k<(BE sz ts n).1.length:=by rw [FT]; exact hk
 exact ⟨_,zG hk',IS sz ts n k hk hk'⟩
theorem XE {sz:Int} {ts:List Tl} {n:Int} (h:Dj ts=true):Dj (BE sz ts n).1=true:=by
 unfold Dj at h ⊢
 rw [FT]
 rw [zF] at h ⊢
 refine ⟨Tv fun j hj=>?_,h.2⟩
 have h1:=OP h.1 hj
 have hj':j<(BE sz ts n).1.length:=by rw [FT]; exact hj
 obtain ⟨e1,e2,_⟩:=IS sz ts n j hj hj'
 cases j with
 | zero=>rw [EJ hj] at h1; rw [EJ hj',e1,e2]; exact h1
 | succ j =>
  obtain ⟨f1,f2,_⟩:=IS sz ts n j (by omega) (by omega)
  rw [D2 hj] at h1
  rw [D2 hj',e1,e2]
  unfold Bi at h1 ⊢
  rw [f1,f2,e1,e2]; exact h1
theorem Se {sz:Int} (h1:1≤sz) (h3:sz≤3) {ts:List Tl} (h:Dj ts=true) (n:Int):(ipN sz ts n).ok=true:=by
 unfold Ip.ok ipN
 rw [zF,zF]
 exact ⟨Eu.2 ⟨h1,h3⟩,XE h,Ty h1 h3 ts n fun t ht=>Dt h ht⟩
noncomputable def XF (m:Ip) (cs:List Cl):Bool:=cs.any fun c=>N6 (C3 m c)
noncomputable def Fu (sz:Int) (ts:List Tl) (cs:List Cl):Nat→Int→Option Ip
 | 0,_=>none
 | k+1,n=>bif XF (ipN sz ts n) cs then Fu sz ts cs k (n+1) else some (ipN sz ts n)
noncomputable def fmT (cs:List Cl) (sz:Int):Option (Option Ip):=match Ii cs with
 | none=>none
 | some ts=>bif inI sz 1 3 then (match Ho sz ts 1 with
  | none=>none
  | some k=>bif cs.any (fun c=>!c.narrow) then none else some (Fu sz ts cs k.toNat 0)) else none
def fmI:Option (Option Ip)→Ip
 | some (some m)=>m
 | _=>⟨0,[]⟩
def fmF:Option (Option Ip)→Bool
 | some (some _)=>true
 | _=>false
def AF:SC:=(.seq (.reg [⟨some 3,none,.boxv 26 2 (.t 0)⟩,⟨some 4,none,.boxv 69 2 (.t 1)⟩,⟨some 6,none,.mv (.c (.bool false))⟩,⟨some 7,none,.mv (.c (.bool false))⟩]) (.seq (.seq (.reg [⟨some 14,none,.load true 2 (.t 4)⟩,⟨some 15,none,.call 68 [(.t 14)]⟩]) (.cond (.t 15) (.seq (.dreg [[],[],[1],[2,1],[3,2,1],[],[0,4,3,2,1,5],[6,0,4,3,2,1,5],[7,6,0,4,3,2,1,5],[7,6,0,4,3,2,1,5],[8,7,6,0,4,3,2,1,5],[9,7,6,0,4,3,2,1,5,10,8]] [⟨some 17,none,.load true 2 (.t 3)⟩,⟨some 18,none,.faddr 1 (.t 4)⟩,⟨some 19,none,.load false 1 (.t 18)⟩,⟨some 20,none,.iaddr 2 (.t 19) (.c (.int .i64 0))⟩,⟨some 21,none,.load true 2 (.t 20)⟩,⟨some 22,none,.mv (.t 2)⟩,⟨some 23,none,.call 104 [(.t 17),(.t 21),(.t 22)]⟩,⟨some 16,none,.mv (.t 23)⟩,⟨some 24,none,.ext (.t 16) 0⟩,⟨some 25,none,.ext (.t 16) 1⟩,⟨some 8,none,.mv (.t 24)⟩,⟨some 9,none,.mv (.t 25)⟩]) (.seq (.dreg [[],[],[1],[2,1],[3,2,1],[],[0,4,3,2,1,5],[6,0,4,3,2,1,5],[7,6,0,4,3,2,1,5],[7,6,0,4,3,2,1,5],[8,7,6,0,4,3,2,1,5],[9,7,6,0,4,3,2,1,5,10,8]] [⟨some 27,none,.load true 2 (.t 3)⟩,⟨some 28,none,.faddr 1 (.t 4)⟩,⟨some 29,none,.load false 1 (.t 28)⟩,⟨some 30,none,.iaddr 2 (.t 29) (.c (.int .i64 1))⟩,⟨some 31,none,.load true 2 (.t 30)⟩,⟨some 32,none,.mv (.t 2)⟩,⟨some 33,none,.call 104 [(.t 27),(.t 31),(.t 32)]⟩,⟨some 26,none,.mv (.t 33)⟩,⟨some 34,none,.ext (.t 26) 0⟩,⟨some 35,none,.ext (.t 26) 1⟩,⟨some 10,none,.mv (.t 34)⟩,⟨some 11,none,.mv (.t 35)⟩]) (.seq (.reg [⟨some 36,none,.mv (.t 8)⟩,⟨some 37,none,.mv (.t 10)⟩,⟨some 38,none,.bin .eql false (.t 36) (.t 37)⟩,⟨some 39,none,.mv (.t 9)⟩,⟨some 40,none,.mv (.t 39)⟩,⟨(some 41),(some (40,true)),(.mv (.t 11))⟩,⟨some 42,none,.pick (.t 40) (.t 41) (.c (.bool false))⟩,⟨some 6,none,.mv (.t 38)⟩,⟨some 7,none,.mv (.t 42)⟩]) .ret))) .skip)) (.seq (.reg [⟨some 44,none,.load true 2 (.t 3)⟩,⟨some 45,none,.load true 2 (.t 4)⟩,⟨some 46,none,.mv (.t 2)⟩,⟨some 47,none,.call 105 [(.t 44),(.t 45),(.t 46),(.c (.bool true))]⟩,⟨some 43,none,.mv (.t 47)⟩,⟨some 48,none,.ext (.t 43) 0⟩,⟨some 49,none,.ext (.t 43) 1⟩,⟨some 12,none,.mv (.t 48)⟩,⟨some 13,none,.mv (.t 49)⟩]) (.seq (.reg [⟨some 50,none,.mv (.t 12)⟩,⟨some 51,none,.bin .eql false (.t 50) (.c (.int .i64 1))⟩,⟨some 52,none,.mv (.t 13)⟩,⟨some 6,none,.mv (.t 51)⟩,⟨some 7,none,.mv (.t 52)⟩]) .ret))))
theorem AZ:Ad Tryz.prog 76=some ⟨53,AF,[(.tmp 6),(.tmp 7)]⟩:=by kernel_rfl
theorem Az:modes 76=⟨[],.asis,none,false⟩:=by unfold modes; rfl
theorem Tm.Z6 {x:Tm} (hx:x.atom=true) (he:x.eqn=true):x.args.length=2:=by
 unfold Tm.atom at hx
 rw [he,if_pos rfl,zF,zF] at hx
 simpa using hx.1.1
theorem Z7 {α:Type} {xs:List α} (h:xs.length=2):xs=[xs[0],xs[1]]:=by
 match xs,h with
 | [a,b],_=>rfl
theorem Tm.Qbr {m:Ip} (hm:m.ok=true) {e:Env} (he:InE m.size e) {x:Tm} (hx:x.eqn=true) (hl:x.args.length=2):x.tru m e=match x.args[0].val m e,x.args[1].val m e with
  | some u,some v=>some (bif dec (u=v) then 1 else 0)
  | _,_=>none:=by
 have key:=Zo hm he x.args[0] x.args[1]
 rw [←Z7 hl] at key
 unfold Tm.tru
 rw [hx,if_pos rfl]
 exact key
theorem Qbs (m:Ip) (hm:m.ok=true) (ht:m.tame) (e:Env) (he:InE m.size e) (x:Tm) (hx:x.atom=true):∃ b,E 76 [m.sv,x.sv,.mp true (JL e)] []=some (.tup [.bool b,.bool (x.tru m e).isSome],[])∧∀ n,x.tru m e=some n→b=dec (n=1):=by
 have h1:=Es x
 have hnn:=Tm.FU hx
 have hll:=Tm.length_le x.args
 have hnq:=Tm.A3 x
 cases hq:x.eqn with
 | true =>
  rw [hq] at h1
  have hl:=Tm.Z6 hx hq
  have hg0:=get_at Tm.d (xs:=x.args) (k:=0) (by omega)
  have hg1:=get_at Tm.d (xs:=x.args) (k:=1) (by omega)
  rw [Tm.d_eq] at hg0 hg1
  have hc0:=NV m hm ht.1 (fun t h=>ht.2 t h) e he x.args[0] ((Tm.Eh hx).2 _ (zG _)) (by have:=Tm.DH x.args 0 (by omega); omega)
  have hc1:=NV m hm ht.1 (fun t h=>ht.2 t h) e he x.args[1] ((Tm.Eh hx).2 _ (zG _)) (by have:=Tm.DH x.args 1 (by omega); omega)
  rw [Tm.Qbr hm he hq hl]
  unfold VaC at hc0 hc1
  cases hv0:x.args[0].val m e with
  | none =>
   rw [hv0] at hc0
   cases hv1:x.args[1].val m e with
   | none =>
    rw [hv1] at hc1
    refine ⟨true,?_,fun n hn=>by cases hn⟩
    refine Ab AZ Az (of_decide_eq_true rfl) ?_
    simp (disch:=omega) only [AF,go_sem,Aa,h1,hg0,hg1,hc0,hc1,Ak,As,zL,zI,zH,zE]
   | some v =>
    rw [hv1] at hc1
    refine ⟨dec (0=v),?_,fun n hn=>by cases hn⟩
    refine Ab AZ Az (of_decide_eq_true rfl) ?_
    simp (disch:=omega) only [AF,go_sem,Aa,h1,hg0,hg1,hc0,hc1,Ak,As,zL,zI,zH,zE]
  | some u =>
   rw [hv0] at hc0
   cases hv1:x.args[1].val m e with
   | none =>
    rw [hv1] at hc1
    refine ⟨dec (u=0),?_,fun n hn=>by cases hn⟩
    refine Ab AZ Az (of_decide_eq_true rfl) ?_
    simp (disch:=omega) only [AF,go_sem,Aa,h1,hg0,hg1,hc0,hc1,Ak,As,zL,zI,zH,zE]
   | some v =>
    rw [hv1] at hc1
    refine ⟨dec (u=v),?_,fun n hn=>?_⟩
    ·refine Ab AZ Az (of_decide_eq_true rfl) ?_
     simp (disch:=omega) only [AF,go_sem,Aa,h1,hg0,hg1,hc0,hc1,Ak,As,zL,zI,zH,zE]
    ·obtain rfl:=zK hn
     cases dec (u=v) with
     | true=>exact (Ay rfl).symm
     | false=>exact (Aw (by simp)).symm
 | false =>
  rw [hq] at h1
  have hc:=Rb m hm ht.1 (fun t h=>ht.2 t h) e he x (by omega) true fun y hy=>NV m hm ht.1 (fun t h=>ht.2 t h) e he y ((Tm.Eh hx).2 _ hy) (by have:=Tm.Cv hy; omega)
  have htr:x.tru m e=CA m.tables x.name x.args.length true (Tm.DL m e x.args 0):=by unfold Tm.tru; rw [hq,if_neg (by simp)]
  rw [htr]
  generalize CA m.tables x.name x.args.length true (Tm.DL m e x.args 0)=r at *
  refine ⟨dec (r.getD 0=1),?_,fun n hn=>by rw [hn]; rfl⟩
  refine Ab AZ Az (of_decide_eq_true rfl) ?_
  simp (disch:=omega) only [AF,go_sem,Aa,h1,hc,Ak,Bw]
def C6:SC:=(.seq (.reg [⟨some 3,none,.boxv 26 2 (.t 0)⟩,⟨some 4,none,.boxv 47 1 (.t 1)⟩,⟨some 6,none,.mv (.c (.bool false))⟩,⟨some 7,none,.mv (.c (.bool false))⟩]) (.seq (.reg [⟨some 8,none,.mv (.c (.bool false))⟩]) (.seq (.seq (.reg [⟨some 13,none,.faddr 0 (.t 4)⟩,⟨some 14,none,.load false 1 (.t 13)⟩,⟨some 15,none,.len false (.t 14)⟩,⟨some 16,none,.mv (.c (.int .i64 0))⟩]) (.block 0 (.loop [0,0,1,1,0,0,0,0,1,0,0,0,0,0,1,1,1,0,0,0,0,0,0,0,0,0,0,0,0,0,0,0,0,0,0,0,0,0,0] (.seq (.reg [⟨some 17,none,.bin .lss false (.t 16) (.t 15)⟩]) (.seq (.cond (.t 17) .skip (.exit 0)) (.seq (.block 1 (.seq (.reg [⟨some 18,none,.iaddr 3 (.t 14) (.t 16)⟩,⟨some 19,none,.load true 3 (.t 18)⟩,⟨(some 10),none,(.alloc 71 [(.bool false),(.str ⟨#[]⟩),.nil])⟩,⟨none,none,(.store 3 (.t 10) (.t 19))⟩]) (.seq (.reg [⟨some 21,none,.load true 2 (.t 3)⟩,⟨some 22,none,.faddr 1 (.t 10)⟩,⟨some 23,none,.load true 2 (.t 22)⟩,⟨some 24,none,.mv (.t 2)⟩,⟨some 25,none,.call 76 [(.t 21),(.t 23),(.t 24)]⟩,⟨some 20,none,.mv (.t 25)⟩,⟨some 26,none,.ext (.t 20) 0⟩,⟨some 27,none,.ext (.t 20) 1⟩,⟨some 11,none,.mv (.t 26)⟩,⟨some 12,none,.mv (.t 27)⟩]) (.seq (.seq (.reg [⟨some 28,none,.mv (.t 12)⟩,⟨some 29,none,.un .not (.t 28)⟩]) (.cond (.t 29) (.seq (.reg [⟨some 6,none,.mv (.c (.bool false))⟩,⟨some 7,none,.mv (.c (.bool false))⟩]) .ret) .skip)) (.reg [⟨some 30,none,.mv (.t 8)⟩,⟨some 31,none,.mv (.t 30)⟩,⟨(some 32),(some (31,false)),(.mv (.t 11))⟩,⟨(some 33),(some (31,false)),(.faddr 0 (.t 10))⟩,⟨(some 34),(some (31,false)),(.load false 1 (.t 33))⟩,⟨(some 35),(some (31,false)),(.bin .eql true (.t 32) (.t 34))⟩,⟨some 36,none,.pick (.t 31) (.c (.bool true)) (.t 35)⟩,⟨some 8,none,.mv (.t 36)⟩]))))) (.reg [⟨some 37,none,.bin .add false (.t 16) (.c (.int .i64 1))⟩,⟨some 16,none,.mv (.t 37)⟩]))))))) (.seq (.reg [⟨some 38,none,.mv (.t 8)⟩,⟨some 6,none,.mv (.t 38)⟩,⟨some 7,none,.mv (.c (.bool true))⟩]) .ret))))
theorem E6:Ad Tryz.prog 51=some ⟨39,C6,[(.tmp 6),(.tmp 7)]⟩:=by kernel_rfl
theorem Bf:modes 51=⟨[],.asis,none,false⟩:=by unfold modes; rfl
def Cd:SC:=(.seq (.reg [⟨some 2,none,.boxv 26 2 (.t 0)⟩,⟨some 3,none,.boxv 47 1 (.t 1)⟩,⟨some 4,none,.mv (.c .nil)⟩,⟨some 5,none,.mv (.c (.bool false))⟩,⟨some 6,none,.mv (.c (.bool false))⟩]) (.seq (.reg [⟨some 15,none,.load true 1 (.t 3)⟩,⟨some 16,none,.call 50 [(.t 15)]⟩,⟨some 7,none,.mv (.t 16)⟩]) (.seq (.seq (.reg [⟨some 17,none,.faddr 0 (.t 2)⟩,⟨some 18,none,.load false 1 (.t 17)⟩,⟨some 19,none,.mv (.t 7)⟩,⟨some 20,none,.len false (.t 19)⟩,⟨some 21,none,.call 26 [(.t 18),(.t 20)]⟩,⟨some 22,none,.mv (.c (.int .i64 0))⟩]) (.block 0 (.loop [0,0,1,1,0,0,0,1,0,0,0,0,0,0,0,0,0,0,0,0,0,1,1,0,0,0,0,0,0,0,0,0,0,0,0,0,0,0,0,0,0,0,0,0,0,0,0,0,0,0,0,0,0,0,0,0,0,0,0,0,0,0,0,0,0,0,0,0,0,0,0,0,0,0,0] (.seq (.reg [⟨some 23,none,.bin .lss false (.t 22) (.t 21)⟩]) (.seq (.cond (.t 23) .skip (.exit 0)) (.seq (.block 1 (.seq (.reg [⟨some 24,none,.mv (.t 22)⟩,⟨some 8,none,.mv (.t 24)⟩]) (.seq (.reg [⟨some 25,none,.mv (.t 7)⟩,⟨some 26,none,.len false (.t 25)⟩,⟨(some 27),none,(.mkslice 75 2 24 [(.str ⟨#[]⟩),(.int .i64 0)] (.t 26))⟩,⟨some 9,none,.mv (.t 27)⟩]) (.seq (.reg [⟨some 28,none,.mkmap true none⟩,⟨some 10,none,.mv (.t 28)⟩]) (.seq (.reg [⟨some 29,none,.mv (.t 8)⟩,⟨some 11,none,.mv (.t 29)⟩]) (.seq (.seq (.reg [⟨some 30,none,.mv (.t 7)⟩,⟨some 31,none,.len false (.t 30)⟩,⟨some 32,none,.bin .sub false (.t 31) (.c (.int .i64 1))⟩,⟨some 12,none,.mv (.t 32)⟩]) (.block 2 (.loop [0,0,1,1,0,0,0,1,0,1,1,1,1,0,0,0,0,0,0,0,0,1,1,0,0,0,0,0,0,0,0,0,0,0,0,0,0,0,0,0,0,0,0,0,0,0,0,0,0,0,0,0,0,0,0,0,0,0,0,0,0,0,0,0,0,0,0,0,0,0,0,0,0,0,0] (.seq (.seq (.reg [⟨some 33,none,.mv (.t 12)⟩,⟨some 34,none,.bin .geq false (.t 33) (.c (.int .i64 0))⟩]) (.cond (.t 34) .skip (.exit 2))) (.seq (.block 3 (.seq (.dreg [[],[],[],[],[2,3],[4,2,3],[],[],[7],[6,8,7],[5,4,2,3,9,6,8,7],[0,1,2,3,4,5,6,7,8,9,10],[11,0,1,2,3,4,5,6,7,8,9,10]] [⟨some 37,none,.mv (.t 9)⟩,⟨some 38,none,.mv (.t 12)⟩,⟨some 39,none,.mv (.t 7)⟩,⟨some 40,none,.mv (.t 12)⟩,⟨some 41,none,.iaddr 1 (.t 39) (.t 40)⟩,⟨some 42,none,.load false 1 (.t 41)⟩,⟨some 43,none,.mv (.t 11)⟩,⟨some 44,none,.faddr 0 (.t 2)⟩,⟨some 45,none,.load false 1 (.t 44)⟩,⟨some 46,none,.bin .rem false (.t 43) (.t 45)⟩,⟨(some 47),none,(.build [(.str ⟨#[]⟩),(.int .i64 0)] [(0,(1,(.t 42))),(1,(1,(.t 46)))])⟩,⟨some 48,none,.iaddr 2 (.t 37) (.t 38)⟩,⟨none,none,(.store 2 (.t 48) (.t 47))⟩]) (.seq (.dreg [[],[],[],[1,2],[3,1,2],[],[],[6],[5,7,6],[0,4,3,1,2,8,5,7,6]] [⟨some 49,none,.mv (.t 10)⟩,⟨some 50,none,.mv (.t 7)⟩,⟨some 51,none,.mv (.t 12)⟩,⟨some 52,none,.iaddr 1 (.t 50) (.t 51)⟩,⟨some 53,none,.load false 1 (.t 52)⟩,⟨some 54,none,.mv (.t 11)⟩,⟨some 55,none,.faddr 0 (.t 2)⟩,⟨some 56,none,.load false 1 (.t 55)⟩,⟨some 57,none,.bin .rem false (.t 54) (.t 56)⟩,⟨none,none,(.mset true (.t 49) (.t 53) (.t 57))⟩]) (.reg [⟨some 58,none,.mv (.t 11)⟩,⟨some 59,none,.faddr 0 (.t 2)⟩,⟨some 60,none,.load false 1 (.t 59)⟩,⟨some 61,none,.bin .quo false (.t 58) (.t 60)⟩,⟨some 11,none,.mv (.t 61)⟩])))) (.reg [⟨some 35,none,.mv (.t 12)⟩,⟨some 36,none,.bin .sub false (.t 35) (.c (.int .i64 1))⟩,⟨some 12,none,.mv (.t 36)⟩])))))) (.seq (.reg [⟨some 63,none,.load true 2 (.t 2)⟩,⟨some 64,none,.load true 1 (.t 3)⟩,⟨some 65,none,.mv (.t 10)⟩,⟨some 66,none,.call 51 [(.t 63),(.t 64),(.t 65)]⟩,⟨some 62,none,.mv (.t 66)⟩,⟨some 67,none,.ext (.t 62) 0⟩,⟨some 68,none,.ext (.t 62) 1⟩,⟨some 13,none,.mv (.t 67)⟩,⟨some 14,none,.mv (.t 68)⟩]) (.seq (.seq (.reg [⟨some 69,none,.mv (.t 14)⟩,⟨some 70,none,.un .not (.t 69)⟩]) (.cond (.t 70) (.seq (.reg [⟨some 4,none,.mv (.c .nil)⟩,⟨some 5,none,.mv (.c (.bool false))⟩,⟨some 6,none,.mv (.c (.bool false))⟩]) .ret) .skip)) (.seq (.reg [⟨some 71,none,.mv (.t 13)⟩,⟨some 72,none,.un .not (.t 71)⟩]) (.cond (.t 72) (.seq (.reg [⟨some 73,none,.mv (.t 9)⟩,⟨some 4,none,.mv (.t 73)⟩,⟨some 5,none,.mv (.c (.bool true))⟩,⟨some 6,none,.mv (.c (.bool true))⟩]) .ret) .skip)))))))))) (.reg [⟨some 74,none,.bin .add false (.t 22) (.c (.int .i64 1))⟩,⟨some 22,none,.mv (.t 74)⟩]))))))) (.seq (.reg [⟨some 4,none,.mv (.c .nil)⟩,⟨some 5,none,.mv (.c (.bool false))⟩,⟨some 6,none,.mv (.c (.bool true))⟩]) .ret))))
theorem DC:Ad Tryz.prog 28=some ⟨75,Cd,[(.tmp 4),(.tmp 5),(.tmp 6)]⟩:=by kernel_rfl
theorem Ce:modes 28=⟨[],.own [some (75,2),none,none],none,false⟩:=by unfold modes; rfl
abbrev Qda (o:Option Bool):SV:=.tup [.bool (o.getD false),.bool o.isSome]
theorem TV (m:Ip) (hm:m.ok=true) (ht:m.tame) (c:Cl) (hc:c.ok=true) (e:Env) (he:InE m.size e):E 51 [m.sv,c.sv,.mp true (JL e)] []=some (Qda (HW m e c.lits false),[]):=by
 have hl:=Cl.KG hc
 refine Ab E6 Bf (of_decide_eq_true rfl) ?_
 simp (disch:=omega) only [C6,go_sem,Aa]
 refine go_loop (α:=Int × (Bool)) (fun a=>⟨slots 39 0 [(2,.mp true (JL e)),(3,.ptr 0 0),(8,.bool (a.2)),(14,.arr (c.lits.map Lt.d)),(15,.int .i64 c.lits.length),(16,.int .i64 (a.1))],[.box 26 [.int .i64 m.size,.arr (m.tables.map Tl.d)]]⟩) (fun a=>∃ k:Nat,a.1=k∧k≤(c.lits).length∧HW m e (c.lits.drop k) (a.2)=HW m e c.lits false) (fun a=>(c.lits).length-(a.1).toNat) (0,false) ⟨0,rfl,zJ _,by rw [zD]⟩ (by simp (disch:=omega) only [go_sem,Aa]) ?_
 rintro ⟨i,b⟩ ⟨k,hi,hk,hR⟩
 dsimp only at hi hR
 have hni:i.toNat=k:=by omega
 have hni1:(i+1).toNat=k+1:=by omega
 rcases zB k (c.lits).length with hlt | hge
 ·have hg:=get_at Lt.d hlt
  rw [Lt.d_eq] at hg
  have has:c.lits[k].atom.sv=.agg [.str c.lits[k].atom.name,.arr (c.lits[k].atom.args.map Tm.d)]:=rfl
  rw [zA hlt,HW] at hR
  obtain ⟨q,hct,hq⟩:=Qbs m hm ht e he c.lits[k].atom (Cl.Gx hc hlt)
  cases hv:c.lits[k].atom.tru m e with
  | none =>
   rw [hv] at hct hR
   simp only at hR
   rw [←hR]
   simp (disch:=omega) only [go_sem,Aa,hni,hg,has,hct,Az,zL,zI,zH,zE]
   try first | rfl | exact ⟨rfl,rfl⟩
  | some n =>
   rw [hv] at hct hR
   simp only at hR
   have hq:=hq n hv
   rw [←hq] at hR
   cases b with
   | true =>
    rw [z8] at hR
    simp (disch:=omega) only [go_sem,Aa,hni,hg,has,hct,Az,zL,zI,zH,zE]
    exact ⟨(i+1,true),⟨k+1,by dsimp only; omega,hlt,hR⟩,by dsimp only; omega,by first | trivial | rfl | exact ⟨rfl,rfl⟩⟩
   | false =>
    rw [zV] at hR
    simp (disch:=omega) only [go_sem,Aa,hni,hg,has,hct,Az,zL,zI,zH,zE]
    exact ⟨(i+1,q == c.lits[k].pos),⟨k+1,by dsimp only; omega,hlt,hR⟩,by dsimp only; omega,by first | trivial | rfl | exact ⟨rfl,rfl⟩⟩
 ·rw [zC hge,HW] at hR
  rw [←hR]
  simp (disch:=omega) only [go_sem,Aa,hni,zH,zE]
  try first | rfl | exact ⟨rfl,rfl⟩
theorem MC (m:Ip) (hm:m.ok=true) (ht:m.tame) (c:Cl) (hc:c.ok=true) (hn6:c.narrow=true):E 28 [m.sv,c.sv] []=some (.tup [.ref 0,.bool (N6 (C3 m c)),.bool (C3 m c).isSome],[.row 75 2 ((M4 (C3 m c)).map Ag.o)]):=by
 obtain ⟨⟨s1,s3⟩,_,_⟩:=Ip.DK hm
 have hv:=L7 c hc
 have hcv:E4 [] (Lt.vsL c.lits)=c.vars:=rfl
 rw [hcv] at hv
 have h6:c.vars.length≤6:=by
  have h:=Af.1 hn6
  rw [hcv] at h
  omega
 have hp:=RU m.size c.vars.length s1 s3 (by omega) (by omega)
 have hcs:(c.vars.length:Int).toNat=c.vars.length:=by omega
 rw [hcs] at hp
 have hP:=Zx s1 s3 h6
 obtain ⟨P,hPe⟩:∃ P,P=pw m.size c.vars.length:=⟨_,rfl⟩
 have hall:C3 m c=HX m c P.toNat 0:=by rw [hPe]; rfl
 rw [hall]
 rw [←hPe] at hp hP
 refine Ab DC Ce (of_decide_eq_true rfl) ?_
 simp (disch:=omega) only [Cd,go_sem,Aa,hv,hp,Ez,F1]
 refine go_loop (α:=Int) (fun n=>⟨slots 75 0 [(2,.ptr 0 0),(3,.ptr 1 0),(7,.ref 2),(21,.int .i64 P),(22,.int .i64 n)],[.box 26 [.int .i64 m.size,.arr (m.tables.map Tl.d)],.box 47 [.arr (c.lits.map Lt.d)],.row 9 1 (c.vars.map fun s=>[OT.str s])]⟩) (fun n=>∃ k:Nat,n=k∧k≤P.toNat∧HX m c (P.toNat-k) n=HX m c P.toNat 0) (fun n=>P.toNat-n.toNat) 0 ⟨0,rfl,zJ _,rfl⟩ (by simp (disch:=omega) only [go_sem,Aa]) ?_
 rintro n ⟨k,hn,hk,hR⟩
 rcases yN n P with hlt | hge
 ·have hkP:k<P.toNat:=by omega
  have hL:((c.vars.length:Int)-1+1).toNat=c.vars.length:=by omega
  have hz0:(c.vars.drop c.vars.length)=[]:=List.drop_length
  have hdg:BN m.size [] n=([],n):=rfl
  have hnone:JL (asg [])=nomap:=Xy
  have hnew:=Zw c.vars.length
  simp (disch:=omega) only [go_sem,Aa]
  refine go_loop (α:=Int × Int) (fun a=>⟨slots 75 0 [(2,.ptr 0 0),(3,.ptr 1 0),(7,.ref 2),(9,.ref 3),(10,.ref 4),(11,.int .i64 a.2),(12,.int .i64 a.1),(21,.int .i64 P),(22,.int .i64 n)],[.box 26 [.int .i64 m.size,.arr (m.tables.map Tl.d)],.box 47 [.arr (c.lits.map Lt.d)],.row 9 1 (c.vars.map fun s=>[OT.str s]),.row 75 2 (M5 (a.1+1).toNat ((BN m.size (c.vars.drop (a.1+1).toNat) n).1.map Ag.o)),.mp true (JL (asg (BN m.size (c.vars.drop (a.1+1).toNat) n).1))]⟩) (fun a=>∃ j:Nat,a.1=(j:Int)-1∧j≤c.vars.length∧a.2=(BN m.size (c.vars.drop j) n).2) (fun a=>(a.1+1).toNat) ((c.vars.length:Int)-1,n) ⟨c.vars.length,rfl,zU _,by rw [hz0,hdg]⟩ (by simp (disch:=omega) only [go_sem,Aa,hL,hz0,hdg,hnone,hnew,yL,zY]) ?_
  rintro ⟨i,rest⟩ ⟨j0,hi,hj,hr⟩
  dsimp only at hi hr
  obtain ⟨r0,r1⟩:=JD s1 (show 0≤n by omega) (c.vars.drop j0)
  rw [←hr] at r0 r1
  rcases Nat.eq_zero_or_pos j0 with h0 | h0
  ·subst h0
   obtain rfl:i=-1:=by omega
   have e1:((-1:Int)+1).toNat=0:=rfl
   have hsa:=TV m hm ht c hc (asg (BN m.size c.vars n).1) (Vj fun x hx=>RR s1 (by omega) _ x hx)
   cases hs:HW m (asg (BN m.size c.vars n).1) c.lits false with
   | none =>
    rw [hs] at hsa
    rw [Wq hkP hs] at hR
    rw [←hR]
    simp (disch:=omega) only [go_sem,Aa,e1,hsa,zD,M6,Bf,zL,zI,zH,zE,M4,N6]
    try first | rfl | exact ⟨rfl,rfl⟩
   | some b =>
    rw [hs] at hsa
    cases b with
    | false =>
     rw [TA hkP hs] at hR
     rw [←hR]
     simp (disch:=omega) only [go_sem,Aa,e1,hsa,zD,M6,Bf,zL,zI,zH,zE,M4,N6]
     try first | rfl | exact ⟨rfl,rfl⟩
    | true =>
     rw [Wp hkP hs] at hR
     simp (disch:=omega) only [go_sem,Aa,e1,hsa,zD,M6,Bf,zL,zI,zH,zE,M4,N6]
     exact ⟨n+1,⟨k+1,by omega,by omega,hR⟩,by omega,by first | trivial | rfl | exact ⟨rfl,rfl⟩⟩
  ·obtain ⟨j,rfl⟩:∃ j,j0=j+1:=⟨j0-1,by omega⟩
   have hjl:j<c.vars.length:=by omega
   have hni:i.toNat=j:=by omega
   have hk1:(i+1).toNat=j+1:=by omega
   have hk2:(i-1+1).toNat=j:=by omega
   have hgn:(c.vars.map fun s=>[OT.str s])[j]?=some [OT.str c.vars[j]]:=by rw [yO,zM hjl]; rfl
   have hdj:BN m.size (c.vars.drop j) n=(⟨c.vars[j],rest.tmod m.size⟩ :: (BN m.size (c.vars.drop (j+1)) n).1,rest.tdiv m.size):=by rw [zA hjl,BN,← hr]
   have hd1:(BN m.size (c.vars.drop j) n).1=⟨c.vars[j],rest.tmod m.size⟩ :: (BN m.size (c.vars.drop (j+1)) n).1:=by rw [hdj]
   have hd2:(BN m.size (c.vars.drop j) n).2=rest.tdiv m.size:=by rw [hdj]
   have hdl:=L8 m.size n (c.vars.drop (j+1))
   rw [yD] at hdl
   have hrl:=Zt (j+1) ((BN m.size (c.vars.drop (j+1)) n).1.map Ag.o)
   rw [yI,hdl] at hrl
   have hset:(M5 (j+1) ((BN m.size (c.vars.drop (j+1)) n).1.map Ag.o)).set j [OT.str c.vars[j],OT.int (rest.tmod m.size)]=M5 j ((BN m.size (c.vars.drop j) n).1.map Ag.o):=by rw [Zu,hd1]; rfl
   have hgo:=Zv ((BN m.size (c.vars.drop (j+1)) n).1.map Ag.o) j
   have hmp:Ny (JL (asg (BN m.size (c.vars.drop (j+1)) n).1)) (.str c.vars[j]) (false,[.int (rest.tmod m.size)])=JL (asg (BN m.size (c.vars.drop j) n).1):=by rw [Zh,hd1,Zs]
   have hmd:=RQ r0 s1
   have hdv:=tdiv_le r0 s1
   simp (disch:=omega) only [go_sem,Aa,hni,hk1,hgn,hgo,hrl,hset,hmp,List.length_set]
   refine ⟨(i-1,rest.tdiv m.size),⟨j,by dsimp only; omega,by omega,hd2.symm⟩,by dsimp only; omega,?_⟩
   first | trivial | rfl | simp (disch:=omega) only [go_sem,Aa,hk2]
 ·obtain rfl:k=P.toNat:=by omega
  rw [Nat.sub_self,HX] at hR
  rw [←hR]
  simp (disch:=omega) only [go_sem,Aa,M4,N6,zE]
  try first | rfl | exact ⟨rfl,rfl⟩
theorem XG (m:Ip) (hm:m.ok=true) (ht:m.tame) (as_:List Ag) (hal:as_.length≤1099511627776) (he:InE m.size (asg as_)) (x:Tm) (hx:x.atom=true):E 40 [m.sv,.arr (as_.map Ag.d),x.sv,.bool true] []=some (Qbl (x.tru m (asg as_)),[]):=by
 have hnn:=Tm.FU hx
 have hnq:=Tm.A3 x
 have hxl:x.args.length≤29:=by have:=Tm.length_le x.args; omega
 have ih:∀ y∈x.args,LvC m as_ y:=fun y hy=>Pm m hm ht.1 (fun t h=>ht.2 t h) as_ hal he y (by have:=Tm.Cv hy; omega)
 have hml:=ht.1
 have hvl:=ht.2
 have hnv:AI x.name=false:=by
  cases hv:AI x.name with
  | false=>rfl
  | true =>
   have ha:=hx
   unfold Tm.atom at ha
   cases hq:x.eqn with
   | true=>exact absurd hv (by rw [Tm.Wh hq]; decide)
   | false =>
    rw [hq,if_neg (by simp),zF] at ha
    rw [QL hv] at ha; cases ha.1
 have h1:=Gp x.name
 rw [hnv] at h1
 obtain ⟨⟨s1,s3⟩,hT,_⟩:=Ip.DK hm
 have hf:=M9 m.tables hml x.name x.args.length
 refine Ab Fp Bk (of_decide_eq_true rfl) ?_
 simp (disch:=omega) only [DT,go_sem,Aa,h1,Ao]
 refine go_loop (α:=Int × (Int)) (fun a=>⟨slots 108 0 [(1,.arr (as_.map Ag.d)),(3,.bool true),(4,.ptr 0 0),(6,.ptr 1 0),(11,.int .i64 (a.2)),(12,.int .i64 (a.1))],[.box 26 [.int .i64 m.size,.arr (m.tables.map Tl.d)],.box 69 [.str x.name,.arr (x.args.map Tm.d)]]⟩) (fun a=>∃ k:Nat,a.1=k∧k≤(x.args).length∧0≤(a.2)∧(a.2)<pw m.size k∧Tm.DL m (asg as_) (x.args.drop k) (a.2)=Tm.DL m (asg as_) x.args 0) (fun a=>(x.args).length-(a.1).toNat) (0,0) ⟨0,rfl,zJ _,⟨y5 0,by rw [pw]; omega,by rw [zD]⟩⟩ (by simp (disch:=omega) only [go_sem,Aa]) ?_
 rintro ⟨i,at_⟩ ⟨k,hi,hk,hR⟩
 dsimp only at hi hR
 have hni:i.toNat=k:=by omega
 have hni1:(i+1).toNat=k+1:=by omega
 rcases zB k (x.args).length with hlt | hge
 ·have hg:=get_at Tm.d hlt
  rw [Tm.d_eq] at hg
  obtain ⟨r0,r1,r2⟩:=hR
  have hc:=ih x.args[k] (zG hlt)
  rw [zA hlt,Tm.DL] at r2
  have hps:=Vh s1 s3 (k:=k+1) (by omega)
  cases hv:x.args[k].val m (asg as_) with
  | none =>
   rw [hv] at r2
   unfold LvC at hc
   rw [hv] at hc
   have hrn:x.tru m (asg as_)=none:=by
    unfold Tm.tru
    rw [←r2]
    cases x.eqn with
    | true=>rfl
    | false =>
     simp only [yF,if_false]
     unfold CA
     split <;> first | rfl | (rename_i h; cases h)
   rw [hrn]
   simp (disch:=omega) only [go_sem,Aa,hni,hg,hc,zL,zI,zH,zE,Bk]
   try first | rfl | exact ⟨rfl,rfl⟩
  | some v =>
   rw [hv] at r2
   unfold LvC at hc
   rw [hv] at hc
   obtain ⟨v0,v1⟩:=Tm.M2 hm he _ v hv
   obtain ⟨q0,q1,q2,q3⟩:=at_next s1 r0 r1 v0 v1
   rw [pw] at hps
   simp (disch:=omega) only [go_sem,Aa,hni,hg,hc,zL,zI,zH,zE,Bk]
   refine ⟨(i+1,at_*m.size+v),⟨k+1,by dsimp only; omega,hlt,q0,(by rw [pw]; exact q1),r2⟩,by dsimp only; omega,?_⟩
   first | trivial | rfl | exact ⟨rfl,rfl⟩
 ·obtain rfl:k=x.args.length:=by omega
  obtain ⟨r0,r1,r2⟩:=hR
  rw [zC hge,Tm.DL] at r2
  have hps:=Vh s1 s3 (k:=x.args.length) (by omega)
  have hdv0:0≤at_.tdiv m.size:=by rw [y3 r0]; exact Int.ediv_nonneg r0 (by omega)
  have hdv1:at_.tdiv m.size≤at_:=by rw [y3 r0]; exact Int.ediv_le_self _ r0
  cases hq:x.eqn with
  | true =>
   have hrn:x.tru m (asg as_)=some (bif dec (at_.tmod m.size=at_.tdiv m.size) then 1 else 0):=by unfold Tm.tru; rw [hq,if_pos rfl,← r2]
   rw [hrn]
   unfold Tm.eqn at hq
   cases hd:dec (at_.tmod m.size=at_.tdiv m.size) with
   | true =>
    simp (disch:=omega) only [go_sem,Aa,hni,hq,hd,zH,zE]
    try first | rfl | exact ⟨rfl,rfl⟩
   | false =>
    simp (disch:=omega) only [go_sem,Aa,hni,hq,hd,zH,zE]
    try first | rfl | exact ⟨rfl,rfl⟩
  | false =>
   have hrn0:x.tru m (asg as_)=CA m.tables x.name x.args.length true (some at_):=by unfold Tm.tru; rw [hq,if_neg (by simp),← r2]
   rw [hrn0]
   unfold Tm.eqn at hq
   have hTF:=KJ (n:=x.name) (z:=x.args.length) (p:=true) (Ra hT)
   rcases JG (fun t:Tl=>dec (t.name=x.name)&&dec (t.arity=(x.args.length:Int))) m.tables 0 with ⟨h2,h3⟩ | ⟨j,t,hj,h2,h3,h4⟩
   ·rw [h2] at hTF
    rw [h3] at hf
    have hrn:CA m.tables x.name x.args.length true (some at_)=none:=by unfold CA; rw [hTF]
    rw [hrn]
    simp (disch:=omega) only [go_sem,Aa,hni,hq,hf,A4]
    try first | rfl | exact ⟨rfl,rfl⟩
   ·rw [h2] at hTF
    rw [h3,yW] at hf
    have hg:=get_at Tl.d hj
    rw [h4,Tl.d_eq] at hg
    obtain ⟨jj,hjj⟩:∃ jj:Int,jj=(j:Int):=⟨_,rfl⟩
    rw [←hjj] at hf
    have hnj:jj.toNat=j:=by omega
    simp only at hTF
    have hbt:(false == true)=false:=rfl
    have hbf:(true == true)=true:=rfl
    cases hpr:t.pred with
    | false =>
     rw [hpr] at hTF
     have hrn:CA m.tables x.name x.args.length true (some at_)=none:=by unfold CA; rw [hTF]; rfl
     rw [hrn]
     simp (disch:=omega) only [go_sem,Aa,hni,hq,hf,hnj,hg,hpr,hbt,A4]
     try first | rfl | exact ⟨rfl,rfl⟩
    | true =>
     rw [hpr] at hTF
     have hTF:JM m.tables x.name x.args.length true=some t:=hTF
     have hrn:CA m.tables x.name x.args.length true (some at_)=some (t.vals.getD at_.toNat 0):=by unfold CA; rw [hTF]
     obtain ⟨g1,g2,_,_⟩:=NS hm hTF r0 r1
     have hgv:=get_at (fun n=>[D.int n]) g1
     have hvt:=hvl t (Hp hTF).1
     rw [hrn,g2]
     simp (disch:=omega) only [go_sem,Aa,hni,hq,hf,hnj,hg,hgv,hpr,hbf,zH,zE,A4]
     try first | rfl | exact ⟨rfl,rfl⟩
def Gz:SC:=(.seq (.reg [⟨some 2,none,.boxv 26 2 (.t 0)⟩,⟨some 3,none,.boxv 47 1 (.t 1)⟩,⟨some 4,none,.mv (.c .nil)⟩,⟨some 5,none,.mv (.c (.int .i64 0))⟩]) (.seq (.reg [⟨some 15,none,.load true 1 (.t 3)⟩,⟨some 16,none,.call 39 [(.t 15)]⟩,⟨some 6,none,.mv (.t 16)⟩]) (.seq (.seq (.reg [⟨some 7,none,.mv (.c (.int .i64 0))⟩]) (.block 0 (.loop [0,0,1,1,0,0,1,1,0,0,0,0,0,0,0,0,0,0,0,0,0,0,0,0,0,0,0,0,0,0,0,0,0,0,0,0,0,0,0,0,0,0,0,0,0,0,0,0,0,0,0,0,0,0,0,0,0,0,0,0,0,0,0,0,0,0,0,0,0,0,0,0,0,0,0,0,0,0,0,0,0,0,0,0,0,0,0,0,0] (.seq (.seq (.reg [⟨some 17,none,.mv (.t 7)⟩,⟨some 18,none,.faddr 0 (.t 2)⟩,⟨some 19,none,.load false 1 (.t 18)⟩,⟨some 20,none,.mv (.t 6)⟩,⟨some 21,none,.len false (.t 20)⟩,⟨some 22,none,.call 38 [(.t 19),(.t 21)]⟩,⟨some 23,none,.bin .lss false (.t 17) (.t 22)⟩]) (.cond (.t 23) .skip (.exit 0))) (.seq (.block 1 (.seq (.reg [⟨(some 26),none,(.mkrow 75 2 [(.str ⟨#[]⟩),(.int .i64 0)] 0 [])⟩,⟨some 8,none,.mv (.t 26)⟩]) (.seq (.reg [⟨some 27,none,.mv (.t 7)⟩,⟨some 9,none,.mv (.t 27)⟩]) (.seq (.seq (.reg [⟨some 28,none,.mv (.t 6)⟩,⟨some 29,none,.len false (.t 28)⟩,⟨some 30,none,.bin .sub false (.t 29) (.c (.int .i64 1))⟩,⟨some 10,none,.mv (.t 30)⟩]) (.block 2 (.loop [0,0,1,1,0,0,1,1,1,1,1,0,0,0,0,0,0,0,0,0,0,0,0,0,0,0,0,0,0,0,0,0,0,0,0,0,0,0,0,0,0,0,0,0,0,0,0,0,0,0,0,0,0,0,0,0,0,0,0,0,0,0,0,0,0,0,0,0,0,0,0,0,0,0,0,0,0,0,0,0,0,0,0,0,0,0,0,0,0] (.seq (.seq (.reg [⟨some 31,none,.mv (.t 10)⟩,⟨some 32,none,.bin .geq false (.t 31) (.c (.int .i64 0))⟩]) (.cond (.t 32) .skip (.exit 2))) (.seq (.block 3 (.seq (.dreg [[],[],[0,1],[2,0,1],[],[],[5],[4,6,5],[3,2,0,1,7,4,6,5],[8,3,2,0,1,7,4,6,5],[],[9,8,3,2,0,1,7,4,6,5,10],[11,9,8,3,2,0,1,7,4,6,5,10]] [⟨some 35,none,.mv (.t 6)⟩,⟨some 36,none,.mv (.t 10)⟩,⟨some 37,none,.iaddr 1 (.t 35) (.t 36)⟩,⟨some 38,none,.load false 1 (.t 37)⟩,⟨some 39,none,.mv (.t 9)⟩,⟨some 40,none,.faddr 0 (.t 2)⟩,⟨some 41,none,.load false 1 (.t 40)⟩,⟨some 42,none,.bin .rem false (.t 39) (.t 41)⟩,⟨(some 43),none,(.build [(.str ⟨#[]⟩),(.int .i64 0)] [(0,(1,(.t 38))),(1,(1,(.t 42)))])⟩,⟨(some 44),none,(.mkrow 75 2 [(.str ⟨#[]⟩),(.int .i64 0)] 1 [(0,(.t 43))])⟩,⟨some 45,none,.mv (.t 8)⟩,⟨(some 46),none,(.append 75 2 24 [(.str ⟨#[]⟩),(.int .i64 0)] (.t 44) (.t 45))⟩,⟨some 8,none,.mv (.t 46)⟩]) (.reg [⟨some 47,none,.mv (.t 9)⟩,⟨some 48,none,.faddr 0 (.t 2)⟩,⟨some 49,none,.load false 1 (.t 48)⟩,⟨some 50,none,.bin .quo false (.t 47) (.t 49)⟩,⟨some 9,none,.mv (.t 50)⟩]))) (.reg [⟨some 33,none,.mv (.t 10)⟩,⟨some 34,none,.bin .sub false (.t 33) (.c (.int .i64 1))⟩,⟨some 10,none,.mv (.t 34)⟩])))))) (.seq (.reg [⟨some 11,none,.mv (.c (.bool false))⟩]) (.seq (.seq (.reg [⟨some 12,none,.mv (.c (.int .i64 0))⟩]) (.block 4 (.loop [0,0,1,1,0,0,1,1,1,0,0,1,1,0,0,0,0,0,0,0,0,0,0,0,0,0,0,0,0,0,0,0,0,0,0,0,0,0,0,0,0,0,0,0,0,0,0,0,0,0,0,0,0,0,0,0,0,0,0,0,0,0,0,0,0,0,0,0,0,0,0,0,0,0,0,0,0,0,0,0,0,0,0,0,0,0,0,0,0] (.seq (.seq (.reg [⟨some 51,none,.mv (.t 12)⟩,⟨some 52,none,.faddr 0 (.t 3)⟩,⟨some 53,none,.load false 1 (.t 52)⟩,⟨some 54,none,.len false (.t 53)⟩,⟨some 55,none,.bin .lss false (.t 51) (.t 54)⟩]) (.cond (.t 55) .skip (.exit 4))) (.seq (.block 5 (.seq (.dreg [[],[],[],[2],[],[3,2,4],[5,3,2,4],[6,5,3,2,4],[0,1,7,6,5,3,2,4],[8,0,1,7,6,5,3,2,4],[9,8,0,1,7,6,5,3,2,4],[9,8,0,1,7,6,5,3,2,4],[10,9,8,0,1,7,6,5,3,2,4],[11,9,8,0,1,7,6,5,3,2,4,12,10]] [⟨some 59,none,.load true 2 (.t 2)⟩,⟨some 60,none,.mv (.t 8)⟩,⟨some 61,none,.faddr 0 (.t 3)⟩,⟨some 62,none,.load false 1 (.t 61)⟩,⟨some 63,none,.mv (.t 12)⟩,⟨some 64,none,.iaddr 3 (.t 62) (.t 63)⟩,⟨some 65,none,.faddr 1 (.t 64)⟩,⟨some 66,none,.load true 2 (.t 65)⟩,⟨some 67,none,.call 40 [(.t 59),(.t 60),(.t 66),(.c (.bool true))]⟩,⟨some 58,none,.mv (.t 67)⟩,⟨some 68,none,.ext (.t 58) 0⟩,⟨some 69,none,.ext (.t 58) 1⟩,⟨some 13,none,.mv (.t 68)⟩,⟨some 14,none,.mv (.t 69)⟩]) (.seq (.seq (.reg [⟨some 70,none,.mv (.t 14)⟩,⟨some 71,none,.un .not (.t 70)⟩]) (.cond (.t 71) (.seq (.reg [⟨(some 72),none,(.mkrow 75 2 [(.str ⟨#[]⟩),(.int .i64 0)] 0 [])⟩,⟨some 4,none,.mv (.t 72)⟩,⟨some 5,none,.mv (.c (.int .i64 (-(0+1))))⟩]) .ret) .skip)) (.reg [⟨some 73,none,.mv (.t 11)⟩,⟨some 74,none,.mv (.t 73)⟩,⟨(some 75),(some (74,false)),(.mv (.t 13))⟩,⟨(some 76),(some (74,false)),(.bin .eql false (.t 75) (.c (.int .i64 1)))⟩,⟨(some 77),(some (74,false)),(.faddr 0 (.t 3))⟩,⟨(some 78),(some (74,false)),(.load false 1 (.t 77))⟩,⟨(some 79),(some (74,false)),(.mv (.t 12))⟩,⟨(some 80),(some (74,false)),(.iaddr 3 (.t 78) (.t 79))⟩,⟨(some 81),(some (74,false)),(.faddr 0 (.t 80))⟩,⟨(some 82),(some (74,false)),(.load false 1 (.t 81))⟩,⟨(some 83),(some (74,false)),(.bin .eql true (.t 76) (.t 82))⟩,⟨some 84,none,.pick (.t 74) (.c (.bool true)) (.t 83)⟩,⟨some 11,none,.mv (.t 84)⟩])))) (.reg [⟨some 56,none,.mv (.t 12)⟩,⟨some 57,none,.bin .add false (.t 56) (.c (.int .i64 1))⟩,⟨some 12,none,.mv (.t 57)⟩])))))) (.seq (.reg [⟨some 85,none,.mv (.t 11)⟩,⟨some 86,none,.un .not (.t 85)⟩]) (.cond (.t 86) (.seq (.reg [⟨some 87,none,.mv (.t 8)⟩,⟨some 4,none,.mv (.t 87)⟩,⟨some 5,none,.mv (.c (.int .i64 1))⟩]) .ret) .skip)))))))) (.reg [⟨some 24,none,.mv (.t 7)⟩,⟨some 25,none,.bin .add false (.t 24) (.c (.int .i64 1))⟩,⟨some 7,none,.mv (.t 25)⟩])))))) (.seq (.reg [⟨(some 88),none,(.mkrow 75 2 [(.str ⟨#[]⟩),(.int .i64 0)] 0 [])⟩,⟨some 4,none,.mv (.t 88)⟩,⟨some 5,none,.mv (.c (.int .i64 0))⟩]) .ret))))
theorem LH:Ad Tryz.prog 19=some ⟨89,Gz,[(.tmp 4),(.tmp 5)]⟩:=by kernel_rfl
theorem E1:modes 19=⟨[],.frz,none,false⟩:=by unfold modes; rfl
theorem Sf (m:Ip) (hm:m.ok=true) (ht:m.tame) (c:Cl) (hc:c.ok=true) (hn6:c.narrow=true):E 19 [m.sv,c.sv] []=some (.tup [.arr ((M4 (C3 m c)).map Ag.d),.int .i64 (Pg (C3 m c))],[]):=by
 obtain ⟨⟨s1,s3⟩,_,_⟩:=Ip.DK hm
 have hv:=Pf c hc
 have hcl8:=Cl.KG hc
 have hcv:E4 [] (Lt.vsL c.lits)=c.vars:=rfl
 rw [hcv] at hv
 have h6:c.vars.length≤6:=by
  have h:=Af.1 hn6
  rw [hcv] at h
  omega
 have hp:=KH m.size c.vars.length s1 s3 (by omega) (by omega)
 have hcs:(c.vars.length:Int).toNat=c.vars.length:=by omega
 rw [hcs] at hp
 have hP:=Zx s1 s3 h6
 obtain ⟨P,hPe⟩:∃ P,P=pw m.size c.vars.length:=⟨_,rfl⟩
 have hall:C3 m c=HX m c P.toNat 0:=by rw [hPe]; rfl
 rw [hall]
 rw [←hPe] at hp hP
 refine Ab LH E1 (of_decide_eq_true rfl) ?_
 simp (disch:=omega) only [Gz,go_sem,Aa,hv,Fo]
 refine go_loop (α:=Int) (fun n=>⟨slots 89 0 [(2,.ptr 0 0),(3,.ptr 1 0),(6,.arr (c.vars.map fun s=>[D.str s])),(7,.int .i64 n)],[.box 26 [.int .i64 m.size,.arr (m.tables.map Tl.d)],.box 47 [.arr (c.lits.map Lt.d)]]⟩) (fun n=>∃ k:Nat,n=k∧k≤P.toNat∧HX m c (P.toNat-k) n=HX m c P.toNat 0) (fun n=>P.toNat-n.toNat) 0 ⟨0,rfl,zJ _,rfl⟩ (by simp (disch:=omega) only [go_sem,Aa]) ?_
 rintro n ⟨k,hn,hk,hR⟩
 rcases yN n P with hlt | hge
 ·have hkP:k<P.toNat:=by omega
  have hL:((c.vars.length:Int)-1+1).toNat=c.vars.length:=by omega
  have hz0:(c.vars.drop c.vars.length)=[]:=List.drop_length
  have hdg:BN m.size [] n=([],n):=rfl
  simp (disch:=omega) only [go_sem,Aa,hp,AL]
  refine go_loop (α:=Int × Int) (fun a=>⟨slots 89 0 [(2,.ptr 0 0),(3,.ptr 1 0),(6,.arr (c.vars.map fun s=>[D.str s])),(7,.int .i64 n),(8,.ref 2),(9,.int .i64 a.2),(10,.int .i64 a.1)],[.box 26 [.int .i64 m.size,.arr (m.tables.map Tl.d)],.box 47 [.arr (c.lits.map Lt.d)],.row 75 2 ((BN m.size (c.vars.drop (a.1+1).toNat) n).1.map Ag.o)]⟩) (fun a=>∃ j:Nat,a.1=(j:Int)-1∧j≤c.vars.length∧a.2=(BN m.size (c.vars.drop j) n).2) (fun a=>(a.1+1).toNat) ((c.vars.length:Int)-1,n) ⟨c.vars.length,rfl,zU _,by rw [hz0,hdg]⟩ (by simp (disch:=omega) only [go_sem,Aa,hL,hz0,hdg,yL,zY]) ?_
  rintro ⟨i,rest⟩ ⟨j0,hi,hj,hr⟩
  dsimp only at hi hr
  obtain ⟨r0,r1⟩:=JD s1 (show 0≤n by omega) (c.vars.drop j0)
  rw [←hr] at r0 r1
  rcases Nat.eq_zero_or_pos j0 with h0 | h0
  ·subst h0
   obtain rfl:i=-1:=by omega
   have e1:((-1:Int)+1).toNat=0:=rfl
   have hin:InE m.size (asg (BN m.size c.vars n).1):=Vj fun x hx=>RR s1 (by omega) _ x hx
   have hdl:=L8 m.size n c.vars
   obtain ⟨as_,has_⟩:∃ as_,as_=(BN m.size c.vars n).1:=⟨_,rfl⟩
   have hdz2:(BN m.size c.vars n).1=as_:=has_.symm
   have hdz:(BN m.size (c.vars.drop 0) n).1=as_:=by rw [has_]; rfl
   have go':=Wp (m:=m) (c:=c) (n:=n) hkP
   have hit':=TA (m:=m) (c:=c) (n:=n) hkP
   have no':=Wq (m:=m) (c:=c) (n:=n) hkP
   rw [←has_] at hin hdl go' hit' no'
   simp (disch:=omega) only [go_sem,Aa,e1,hdz,hdz2]
   refine go_loop (α:=Int × Bool) (fun a=>⟨slots 89 0 [(2,.ptr 0 0),(3,.ptr 1 0),(6,.arr (c.vars.map fun s=>[D.str s])),(7,.int .i64 n),(8,.ref 2),(11,.bool a.2),(12,.int .i64 a.1)],[.box 26 [.int .i64 m.size,.arr (m.tables.map Tl.d)],.box 47 [.arr (c.lits.map Lt.d)],.row 75 2 (as_.map Ag.o)]⟩) (fun a=>∃ q:Nat,a.1=q∧q≤c.lits.length∧HW m (asg as_) (c.lits.drop q) a.2=HW m (asg as_) c.lits false) (fun a=>c.lits.length-a.1.toNat) (0,false) ⟨0,rfl,zJ _,by rw [zD]⟩ (by simp (disch:=omega) only [go_sem,Aa,e1,hdz,hdz2,y8]) ?_
   rintro ⟨z,b⟩ ⟨q,hz,hq,hS⟩
   dsimp only at hz hS
   have hnz:z.toNat=q:=by omega
   rcases zB q c.lits.length with hlt2 | hge2
   ·have hg:=get_at Lt.d hlt2
    rw [Lt.d_eq] at hg
    have has:c.lits[q].atom.sv=.agg [.str c.lits[q].atom.name,.arr (c.lits[q].atom.args.map Tm.d)]:=rfl
    have hct:=XG m hm ht as_ (by omega) hin c.lits[q].atom (Cl.Gx hc hlt2)
    rw [zA hlt2,HW] at hS
    cases hv2:c.lits[q].atom.tru m (asg as_) with
    | none =>
     rw [hv2] at hct hS
     simp only at hS
     rw [no' hS.symm] at hR
     rw [←hR]
     simp (disch:=omega) only [go_sem,Aa,hnz,hg,has,hct,hdl,Ag.erss,Ag.noss,Bk,zL,zI,zH,zE,M4,Pg,yL,OT.erss,OT.B7]
     try first | rfl | exact ⟨rfl,rfl⟩
    | some v =>
     rw [hv2] at hct hS
     simp only at hS
     cases b with
     | true =>
      rw [z8] at hS
      simp (disch:=omega) only [go_sem,Aa,hnz,hg,has,hct,hdl,Ag.erss,Ag.noss,Bk,zL,zI,zH,zE,M4,Pg,yL,OT.erss,OT.B7]
      exact ⟨(z+1,true),⟨q+1,by dsimp only; omega,hlt2,hS⟩,by dsimp only; omega,by first | trivial | rfl | exact ⟨rfl,rfl⟩⟩
     | false =>
      rw [zV] at hS
      simp (disch:=omega) only [go_sem,Aa,hnz,hg,has,hct,hdl,Ag.erss,Ag.noss,Bk,zL,zI,zH,zE,M4,Pg,yL,OT.erss,OT.B7]
      exact ⟨(z+1,dec (v=1) == c.lits[q].pos),⟨q+1,by dsimp only; omega,hlt2,hS⟩,by dsimp only; omega,by first | trivial | rfl | exact ⟨rfl,rfl⟩⟩
   ·rw [zC hge2,HW] at hS
    cases b with
    | false =>
     rw [hit' hS.symm] at hR
     rw [←hR]
     simp (disch:=omega) only [go_sem,Aa,hnz,Ag.erss,Ag.noss,M4,Pg]
     try first | rfl | exact ⟨rfl,rfl⟩
    | true =>
     rw [go' hS.symm] at hR
     simp (disch:=omega) only [go_sem,Aa,hnz,Ag.erss,Ag.noss,M4,Pg]
     exact ⟨n+1,⟨k+1,by omega,by omega,hR⟩,by omega,by first | trivial | rfl | exact ⟨rfl,rfl⟩⟩
  ·obtain ⟨j,rfl⟩:∃ j,j0=j+1:=⟨j0-1,by omega⟩
   have hjl:j<c.vars.length:=by omega
   have hni:i.toNat=j:=by omega
   have hk1:(i+1).toNat=j+1:=by omega
   have hk2:(i-1+1).toNat=j:=by omega
   have hgn:=get_at (fun s=>[D.str s]) hjl
   have hdj:BN m.size (c.vars.drop j) n=(⟨c.vars[j],rest.tmod m.size⟩ :: (BN m.size (c.vars.drop (j+1)) n).1,rest.tdiv m.size):=by rw [zA hjl,BN,← hr]
   have hd1:(BN m.size (c.vars.drop j) n).1=⟨c.vars[j],rest.tmod m.size⟩ :: (BN m.size (c.vars.drop (j+1)) n).1:=by rw [hdj]
   have hd2:(BN m.size (c.vars.drop j) n).2=rest.tdiv m.size:=by rw [hdj]
   have hdl:=L8 m.size n (c.vars.drop (j+1))
   rw [yD] at hdl
   have hrl:((BN m.size (c.vars.drop (j+1)) n).1.map Ag.o).length=c.vars.length-(j+1):=by rw [yI,hdl]
   have hset:[OT.str c.vars[j],OT.int (rest.tmod m.size)] :: ((BN m.size (c.vars.drop (j+1)) n).1.map Ag.o)=(BN m.size (c.vars.drop j) n).1.map Ag.o:=by rw [hd1]; rfl
   have hmd:=RQ r0 s1
   have hdv:=tdiv_le r0 s1
   have hal:((BN m.size (c.vars.drop (j+1)) n).1.map Ag.o).all (fun l=>l.length == 2)=true:=by rw [List.all_map,yC]; intro x _; rfl
   simp (disch:=omega) only [go_sem,Aa,hni,hk1,hgn,hrl,hset,hal]
   refine ⟨(i-1,rest.tdiv m.size),⟨j,by dsimp only; omega,by omega,hd2.symm⟩,by dsimp only; omega,?_⟩
   first | trivial | rfl | simp (disch:=omega) only [go_sem,Aa,hk2]
 ·obtain rfl:k=P.toNat:=by omega
  rw [Nat.sub_self,HX] at hR
  rw [←hR]
  simp (disch:=omega) only [go_sem,Aa,hp,AL,M4,Pg,yL,OT.erss,OT.B7]
  try first | rfl | exact ⟨rfl,rfl⟩
variable [Flag]
def wf (ro:Option Nat):Fence:={ Fence.wide with round:=ro }
theorem Vs {ro:Option Nat} {n:Nat} {P:Program} {f:FuncId} {args:Array Value} {w:World} {R:Ending→World→Prop} (h:Calls P f args w R):CallsIn (wf ro) n P f args w R:=by
 have h1:CallsIn Fence.wide n P f args w R:=callsIn_wide.2 h
 exact h1
theorem XH {ro:Option Nat} {n:Nat} {P:Program} {f:String} {args:Array Value} {w:World} {R:Value→World→Prop} (h:Rows P f args w R):RowsIn (wf ro) n P f args w R:=by
 intro c cs _
 obtain ⟨v,w',r,s⟩:=h c cs
 have h1:=stepsIn_wide.2 s
 exact ⟨v,w',r,h1⟩
def RepD (ds:List Deferred) (c:Ctx) (s:Fst) (a:Act) (w:World):Prop:=a.defers=ds∧Rep c s { a with defers:=[] } w
section
variable {P:Program} {c:Ctx} {ops:Array Oper} {Q:Exit→Act→World→Prop} {ro:Option Nat} {n:Nat} {ds:List Deferred}
theorem Qbt (a:Act) (d:Option Tmp) (v:Value):{ (({ a with defers:=[] }:Act).put d v) with defers:=a.defers }=a.put d v:=by
 cases d <;> rfl
theorem OpS.inn {o:Oper} {s:Fst} {x:SV} {upd:List (Nat × Ob)} (hd:∀ q,o.op≠.defer q) (h:OpS P c o s x upd) {a:Act} {w:World} {K:Act→World→Prop} (hr:RepD ds c s a w) (hK:∀ a' w',RepD ds c (s.app o.dst x upd) a' w'→K a' w'):o.wpIn (wf ro) n P a w K Q:=by
 obtain ⟨rfl,hr⟩:=hr
 have h0:=h { a with defers:=[] } w (fun b w'=>b.defers=[]∧K { b with defers:=a.defers } w') (fun _ _ _=>False) hr fun b w' hb=>by
  have hbd:b.defers=[]:=by
   obtain ⟨I,V,B,hb⟩:=hb
   exact hb.nd
  refine ⟨hbd,hK _ _ ⟨rfl,?_⟩⟩
  have e:({ ({ b with defers:=a.defers }:Act) with defers:=[] }:Act)=b:=by
   cases b
   simp only at hbd
   subst hbd
   rfl
  rw [e]
  exact hb
 have e1:Act.eval { a with defers:=[] }=a.eval:=by
  funext q
  cases q <;> rfl
 unfold Oper.wp at h0
 rw [e1] at h0
 refine ⟨fun _ _=>trivial,?_⟩
 rw [Oper.semAt_eq _ _ _ hd]
 cases hx:(execOp a.eval o).run P w with
 | ok nx w' =>
  rw [hx] at h0
  cases nx with
  | value v =>
   rw [Oper.upon_value] at h0
   rw [Oper.uponIn_value]
   have:=h0.2
   rwa [Qbt] at this
  | skip =>
   rw [Oper.upon_skip] at h0
   rw [Oper.uponIn_skip]
   have:=h0.2
   rwa [Qbt] at this
  | defer d =>
   rw [Oper.upon_defer] at h0
   have:=h0.1
   cases hds:o.dst <;> rw [hds] at this <;> cases this
  | enter f args =>
   rw [Oper.upon_enter] at h0
   rw [Oper.uponIn_enter]
   refine ⟨fun e=>absurd e (by simp [wf,Fence.wide]),(Vs h0).mono ?_⟩
   intro e w2 h2
   cases e with
   | returned v =>
    have:=h2.2
    rwa [Qbt] at this
   | panicked chain=>exact h2.elim
   | outgrown =>
    obtain ⟨_,_,h3⟩:=h2
    exact h3.elim
  | row row args =>
   rw [Oper.upon_row] at h0
   rw [Oper.uponIn_row]
   refine ⟨fun e=>absurd e (by simp [wf,Fence.wide]),(XH h0).mono ?_⟩
   intro v w2 h2
   have:=h2.2
   rwa [Qbt] at this
  | _=>exact h0.elim
 | halt x w' =>
  rw [hx] at h0
  cases x <;> exact h0.elim
theorem RepD.putU {s:Fst} {a:Act} {w:World} {d:Option Tmp} (hr:RepD ds c s a w) (hd:AA c.nt d=true):RepD ds c (s.app d (.tup []) []) (a.put d undef) w:=by
 obtain ⟨rfl,I,V,B,hr⟩:=hr
 refine ⟨by cases d <;> rfl,I,V,B,?_⟩
 have h:=RepI.put (s:=s.setO []) (by simpa [Fst.setO,A5] using hr) hd (Mb w I V)
 have e:({ (a.put d undef) with defers:=[] }:Act)=({ a with defers:=[] }:Act).put d undef:=by cases d <;> rfl
 rw [e]
 exact h
theorem LI:∀ (l:List Oper) (es:List Ent) (s:Fst) (a:Act) (w:World),(∀ o∈l,∀ q,o.op≠.defer q)→(∀ o∈l,AA c.nt o.dst=true∧Mc c.nt ops o=true)→TextOk P c ops l es s→RepD ds c s a w →
  (∀ a' w',RepD ds c (JI l es s) a' w'→Q .normal a' w')→wpListIn (wf ro) n P ops Q l a w
 | [],es,s,a,w,_,_,ht,hr,hq=>by
  simp only [TextOk] at ht
  subst ht
  exact hq a w hr
 | o :: os,es,s,a,w,hnd,hd,ht,hr,hq=>by
  simp only [TextOk] at ht
  obtain ⟨e,r,rfl,hv,ht⟩:=ht
  obtain ⟨hg,hs⟩:=hv s (fun _ _=>rfl) (fun _ _=>rfl) (fun _ _=>rfl)
  have hd0:=hd o (by simp)
  have hw:=Fx hg hr.2 (Jv hd0.2)
  have next:∀ a' w',RepD ds c (s.app o.dst e.x e.upd) a' w'→wpListIn (wf ro) n P ops Q os a' w':=fun a' w' hr' =>
   LI os r _ a' w' (fun o' ho'=>hnd o' (by simp [ho'])) (fun o' ho'=>hd o' (by simp [ho'])) ht hr' fun a'' w'' h=>hq a'' w'' (by simpa [JI] using h)
  unfold wpListIn
  rw [hw]
  cases he:e.run with
  | true =>
   rw [if_pos rfl]
   rw [he,if_pos rfl] at hs
   exact OpS.inn (hnd o (by simp)) hs hr next
  | false =>
   rw [if_neg (by simp)]
   rw [he,if_neg (by simp)] at hs
   refine ⟨fun _ _=>trivial,next _ _ ?_⟩
   rw [hs.1,hs.2]
   exact hr.putU hd0.1
end
section
variable {P:Program} {c:Ctx} {Q:Exit→Act→World→Prop} {ro:Option Nat} {n:Nat} {ds:List Deferred}
variable {l:List Oper} {es:List Ent} {anc:List (List Nat)}
theorem TW (hnd:∀ o∈l,∀ q,o.op≠.defer q) (h:Conf l es anc) {s:Fst} (hd:∀ o∈l,AA c.nt o.dst=true∧Mc c.nt l.toArray o=true) (ht:TextOk P c l.toArray l es s) (hq:∀ a' w',RepD ds c (JI l es s) a' w'→Q .normal a' w') :
  ∀ (f:Nat) (listed:Array Bool) (a:Act) (w:World),listed.size=l.length→XT l (fun j=>listed.getD j false)→open_ (fun j=>listed.getD j false) l.length=f→RepD ds c (stD l es s (fun j=>listed.getD j false) l.length) a w →
   wpAnyIn (wf ro) n P .any l.toArray Q f listed a w:=by
 have fin:∀ (listed:Array Bool) (a:Act) (w:World),open_ (fun j=>listed.getD j false) l.length=0→RepD ds c (stD l es s (fun j=>listed.getD j false) l.length) a w→Q .normal a w:=by
  intro listed a w ho hr
  refine hq a w ?_
  have e1:stD l es s (fun j=>listed.getD j false) l.length=stD l es s (fun _=>true) l.length:=by
   unfold stD
   congr 1
   ·funext k; exact Dn _ fun j hj _=>F3 ho j hj
   ·funext k; exact Dn _ fun j hj _=>F3 ho j hj
  have e0:stD l es s (fun _=>true) 0=s:=by unfold stD; rfl
  have e2:=Rp (l0:=l) (es0:=es) (s0:=s) (l:=l) (es:=es) (n:=0) h.len (fun j=>by simp) (fun j=>by simp)
  rw [e0,yX] at e2
  rw [e2,← e1]
  exact hr
 intro f
 induction f with
 | zero =>
  intro listed a w hsz hclo hop hr
  refine ⟨?_,fin listed a w hop hr⟩
  cases hrd:Region.ready .any l.toArray listed with
  | nil=>rfl
  | cons i r =>
   have hi:i∈Region.ready .any l.toArray listed:=by rw [hrd]; simp
   obtain ⟨h1,o,ho,_⟩:=mem_ready.1 hi
   have hlt:i<l.length:=by have:=(yA.1 ho).1; simpa using this
   have:=F3 hop i hlt
   have e:listed.getD i true=listed.getD i false:=by simp [zX,yM (show i<listed.size by omega)]
   rw [e,this] at h1; cases h1
 | succ f ih =>
  intro listed a w hsz hclo hop hr
  refine ⟨fun hrd=>?_,fun i hi=>?_⟩
  ·
   exfalso
   obtain ⟨i,hi⟩:∃ i,i∈Region.ready .any l.toArray listed:=by
    have hex:∃ j,j<l.length∧listed.getD j false=false:=by
     refine Classical.byContradiction fun hno=>?_
     have:open_ (fun j=>listed.getD j false) l.length=0:=by
      unfold open_
      rw [List.countP_eq_zero]
      intro j hj
      have hj:=List.mem_range.1 hj
      cases hlj:listed.getD j false with
      | true=>simpa using hlj
      | false=>exact absurd ⟨j,hj,hlj⟩ hno
     omega
    obtain ⟨j,⟨hj1,hj2⟩,hmin⟩:∃ j,(j<l.length∧listed.getD j false=false)∧∀ k,k<j→¬ (k<l.length∧listed.getD k false=false):=by
     obtain ⟨j,hj⟩:=hex
     induction j using Nat.strongRecOn with
     | _ j ih =>
      by_cases hk:∃ k,k<j∧(k<l.length∧listed.getD k false=false)
      ·obtain ⟨k,h1,h2⟩:=hk; exact ih k h1 h2
      ·exact ⟨j,hj,fun k h1 h2=>hk ⟨k,h1,h2⟩⟩
    refine ⟨j,mem_ready.2 ⟨?_,l[j],by simp [hj1],fun e he hb=>?_⟩⟩
    ·simpa [zX,yM (show j<listed.size by omega)] using hj2
    ·have hlt:=(HD h.slot (zM hj1) (zM hj1)).1 e he hb
     cases hle:listed.getD e.on false with
     | true=>rfl
     | false=>exact absurd ⟨by omega,hle⟩ (hmin e.on hlt)
   rw [hrd] at hi
   cases hi
  ·obtain ⟨h1,o,ho',hE⟩:=mem_ready.1 hi
   have ho:l[i]?=some o:=by simpa using ho'
   have hlt:i<l.length:=(List.getElem?_eq_some_iff.1 ho).1
   have hu:listed.getD i false=false:=by simpa [zX,yM (show i<listed.size by omega)] using h1
   obtain ⟨e,he⟩:∃ e,es[i]?=some e:=⟨es[i]'(by rw [h.len]; exact hlt),zM (by rw [h.len]; exact hlt)⟩
   have e0:stD l es s (fun _=>true) 0=s:=by unfold stD; rfl
   have hv:=TextOk.at_ (l0:=l) (es0:=es) (s0:=s) (l:=l) (es:=es) (n:=0) (by rw [e0]; exact ht) (fun j=>by simp) (fun j=>by simp) i o e ho he
   rw [yX] at hv
   obtain ⟨hg,hs⟩:=hv (stD l es s (fun j=>listed.getD j false) l.length) (fun k hk=>h.slotEq hclo ho he hu hE s hk) (fun g hg=>h.obEq hclo ho he hu hE s (.inl hg)) (fun g hg=>h.obEq hclo ho he hu hE s (.inr hg))
   have hd0:=hd o (List.mem_of_getElem? ho)
   have hw:=Fx hg hr.2 (Jv hd0.2)
   have hD':∀ j,(fun j=>(listed.setIfInBounds i true).getD j false) j=(if j=i then true else (fun j=>listed.getD j false) j):=fun j=>by
    simp only [zX]
    by_cases e1:j=i
    ·subst e1; simp [show j<listed.size by omega]
    ·rw [if_neg e1,Array.getElem?_setIfInBounds_ne (fun e=>e1 e.symm)]
   have next:∀ a' w',RepD ds c ((stD l es s (fun j=>listed.getD j false) l.length).app o.dst e.x e.upd) a' w'→wpAnyIn (wf ro) n P .any l.toArray Q f (listed.setIfInBounds i true) a' w':=fun a' w' hr'=>by
    refine ih _ a' w' (by simpa using hsz) ?_ ?_ ?_
    ·intro j oj hj hlj e' he' hb
     have hlj:=hD' j▸hlj
     have:=hD' e'.on
     rw [this]
     by_cases e1:e'.on=i
     ·rw [if_pos e1]
     ·rw [if_neg e1]
      by_cases e2:j=i
      ·subst e2
       obtain rfl:o=oj:=zK (ho.symm.trans hj)
       exact hE e' he' hb
      ·rw [if_neg e2] at hlj
       exact hclo j oj hj hlj e' he' hb
    ·have:=Su hD' hu l.length hlt
     omega
    ·rw [h.done hclo ho he hu hE s hD'] at hr'
     exact hr'
   unfold wpOpIn
   rw [ho']
   simp only
   rw [hw]
   cases her:e.run with
   | true =>
    rw [if_pos rfl]
    rw [her,if_pos rfl] at hs
    exact OpS.inn (hnd o (List.mem_of_getElem? ho)) hs hr next
   | false =>
    rw [if_neg (by simp)]
    rw [her,if_neg (by simp)] at hs
    refine ⟨fun _ _=>trivial,next _ _ ?_⟩
    rw [hs.1,hs.2]
    exact hr.putU hd0.1
theorem MD (hnd:∀ o∈l,∀ q,o.op≠.defer q) {id:Nat} {a:Act} {w:World} {s:Fst} (hm:P.follows .mixedOrders=true) (hsl:Qf l anc=true) (hanc:Rq l []=anc) (hlen:decide (anc.length=l.length)=true) (hob:obB anc [] (JJ es) 0=true)
  (hd:∀ o∈l,AA c.nt o.dst=true∧Mc c.nt l.toArray o=true) (ht:TextOk P c l.toArray l es s) (hr:RepD ds c s a w) (hq:∀ a' w',RepD ds c (JI l es s) a' w'→Q .normal a' w'):(Code.region id l.toArray true).wpIn (wf ro) n P Q a w:=by
 have hlen:=of_decide_eq_true hlen
 have hconf:Conf l es anc:=⟨by rw [←hanc]; exact Rr l [] (fun j=>by simp) (fun j o A _ hA=>by simp at hA),ht.len,fun j hj=>⟨anc[j]'(by omega),zM _⟩,hsl,hob⟩
 refine wpIn_region_any hm ?_
 have e0:∀ j,(yS l.length false).getD j false=false:=fun j=>by
  rw [zX]
  by_cases hj:j<l.length <;> simp [hj]
 refine TW hnd hconf hd ht hq _ _ a _ (by simp) ?_ ?_ ?_
 ·intro j oj _ hlj
  simp only [yJ] at hlj
  rw [e0 j] at hlj; cases hlj
 ·unfold open_
  simp only [yJ]
  have:((List.range l.length).countP fun j=>!(yS l.length false).getD j false)=(List.range l.length).length:=by
   rw [List.countP_eq_length]
   intro j _
   rw [e0 j]; rfl
  rw [this]; simp
 ·have e1:stD l es s (fun j=>(yS l.toArray.size false).getD j false) l.length=s:=by
   have:∀ {α:Type} (wr:Nat→Option α) (n:Nat) (v:α),Dm wr (fun j=>(yS l.toArray.size false).getD j false) n v=v:=fun wr n v=>by
    rw [EA 0 n (zJ _) (fun j _ _ _=>by simp only [yJ]; exact e0 j)]; rfl
   unfold stD
   simp only [this]
  rw [e1]
  exact ⟨hr.1,hr.2.drew 1⟩
end
section
variable {P:Program} {c:Ctx} {ro:Option Nat} {n:Nat} {ds:List Deferred}
theorem XI {ops:Array Oper} {o:Oper} {so:SOper} (h:F9 P ops o=some so):∀ q,o.op≠.defer q:=by
 intro q hq
 unfold F9 at h
 have e:CG P o=none:=by unfold CG; rw [hq]
 rw [e] at h
 split at h
 ·rename_i h2; cases h2
 ·cases h
theorem KM {ops:Array Oper}:∀ {l:List Oper} {sl:List SOper},Bm (l.map (F9 P ops))=some sl→∀ o∈l,∀ q,o.op≠.defer q
 | [],_,_,o,ho=>by cases ho
 | x :: r,sl,h,o,ho=>by
  rw [z6] at h
  cases h1:F9 P ops x with
  | none=>rw [h1] at h; cases h
  | some y =>
   rw [h1] at h
   simp only [Bm] at h
   obtain ⟨sl',h2,_⟩:=zR.1 h
   rcases yQ.1 ho with rfl | ho
   ·exact XI h1
   ·exact KM h2 o ho
def FZ:SC→Bool
 | .seq a b=>FZ a&&FZ b
 | .cond _ a b=>FZ a&&FZ b
 | .block _ b=>FZ b
 | .loop _ _=>false
 | .next _ _ _=>false
 | .mloop _ _ _ _ _ _=>false
 | .ghost _ _=>false
 | _=>true
def Qdl (ro:Option Nat) (n:Nat) (ds:List Deferred) (P:Program) (c:Ctx) (sc:SC) (K:X→St→Prop) (st:St):Prop :=
 ∀ (code:Code),trC P c.nt code=some sc→∀ (a:Act) (w:World) (Q:Exit→Act→World→Prop),st.sl.length=c.nt→RepD ds c st.f a w →
  (∀ x st' a' w',K x st'→st'.sl.length=c.nt→RepD ds c st'.f a' w'→Q x.exit' a' w')→code.wpIn (wf ro) n P Q a w
theorem JH (hm:P.follows .mixedOrders=true):∀ (sc:SC) (K:X→St→Prop) (st:St),FZ sc=true→sw P c sc K st→Qdl ro n ds P c sc K st
 | .skip,K,st,_,h=>by
  intro code hc a w Q hl hr hq
  cases code <;> simp only [trC] at hc <;> (try (cases hc; done)) <;> (try (split at hc <;> (try split at hc) <;> (try split at hc) <;> (try split at hc) <;> (try split at hc) <;> cases hc; done)) <;> (try (obtain ⟨_,_,e⟩:=zR.1 hc; cases e; done))
  exact wpIn_skip (hq _ _ _ _ h hl hr)
 | .exit id,K,st,_,h=>by
  intro code hc a w Q hl hr hq
  cases code <;> simp only [trC] at hc <;> (try (cases hc; done)) <;> (try (split at hc <;> (try split at hc) <;> (try split at hc) <;> (try split at hc) <;> (try split at hc) <;> cases hc; done)) <;> (try (obtain ⟨_,_,e⟩:=zR.1 hc; cases e; done))
  obtain rfl:=SC.exit.inj (zK hc)
  exact wpIn_exit (hq _ _ _ _ h hl hr)
 | .ret,K,st,_,h=>by
  intro code hc a w Q hl hr hq
  cases code <;> simp only [trC] at hc <;> (try (cases hc; done)) <;> (try (split at hc <;> (try split at hc) <;> (try split at hc) <;> (try split at hc) <;> (try split at hc) <;> cases hc; done)) <;> (try (obtain ⟨_,_,e⟩:=zR.1 hc; cases e; done))
  exact wpIn_ret (hq _ _ _ _ h hl hr)
 | .loop j b,K,st,hf,h=>by cases hf
 | .mloop _ _ _ _ _ _,K,st,hf,h=>by cases hf
 | .ghost _ _,K,st,hf,h=>by cases hf
 | .next it nx more,K,st,hf,h=>by cases hf
 | .reg sl,K,st,_,h=>by
  intro code hc a w Q hl hr hq
  cases code <;> simp only [trC] at hc <;> (try (cases hc; done)) <;> (try (obtain ⟨_,_,e⟩:=zR.1 hc; cases e; done))
  case region id ops draw =>
   split at hc
   ·cases hc
   rename_i hnn
   split at hc
   ·rename_i sl' hsl
    split at hc
    ·rename_i hall
     split at hc
     ·split at hc <;> cases hc
     ·rename_i hdr
      obtain rfl:=SC.reg.inj (zK hc)
      have hdr:draw=false:=by simpa using hdr
      subst hdr
      have hall:∀ o∈ops.toList,AA c.nt o.dst=true∧Mc c.nt ops o=true:=fun o ho=>by
       have:=(yC.1 hall) o ho
       simpa using this
      obtain ⟨es,st',h1,h2,h3,h4⟩:=Ks (c:=c) hsl hl (fun o ho=>(hall o ho).1) h
      exact wpIn_region_list (LI ops.toList es st.f a w (KM hsl) hall h2 hr fun a' w' hr'=>hq .normal st' a' w' h1 h4 (by rw [←h3]; exact hr'))
    ·cases hc
   ·cases hc
  case seq=>split at hc <;> cases hc
  case cond=>split at hc <;> cases hc
 | .dreg anc sl,K,st,_,h=>by
  intro code hc a w Q hl hr hq
  cases code <;> simp only [trC] at hc <;> (try (cases hc; done)) <;> (try (obtain ⟨_,_,e⟩:=zR.1 hc; cases e; done))
  case region id ops draw =>
   split at hc
   ·cases hc
   rename_i hnn
   split at hc
   ·rename_i sl' hsl
    split at hc
    ·rename_i hall
     split at hc
     ·rename_i hdr
      split at hc
      ·rename_i hsb
       obtain ⟨rfl,rfl⟩:=SC.dreg.inj (zK hc)
       have hdr:draw=true:=by simpa using hdr
       subst hdr
       have hall:∀ o∈ops.toList,AA c.nt o.dst=true∧Mc c.nt ops o=true:=fun o ho=>by
        have:=(yC.1 hall) o ho
        simpa using this
       rw [zF] at hsb
       obtain ⟨es,st',⟨hob,h1⟩,h2,h3,h4⟩:=Kr (c:=c) hsl hl (fun o ho=>(hall o ho).1) h
       have:=MD (P:=P) (c:=c) (Q:=Q) (l:=ops.toList) (es:=es) (anc:=Rq ops.toList []) (id:=id) (a:=a) (w:=w) (s:=st.f) (ro:=ro) (n:=n) (ds:=ds) (KM hsl) hm hsb.1 rfl hsb.2 hob (by simpa using hall) (by simpa using h2) hr (fun a' w' hr'=>hq .normal st' a' w' h1 h4 (by rw [←h3]; exact hr'))
       simpa using this
      ·cases hc
     ·cases hc
    ·cases hc
   ·cases hc
  case seq=>split at hc <;> cases hc
  case cond=>split at hc <;> cases hc
 | .seq x y,K,st,hf,h=>by
  intro code hc a w Q hl hr hq
  simp only [FZ,zF] at hf
  cases code <;> simp only [trC] at hc <;> (try (cases hc; done)) <;> (try (obtain ⟨_,_,e⟩:=zR.1 hc; cases e; done))
  case region=>split at hc <;> (try split at hc) <;> (try split at hc) <;> (try split at hc) <;> (try split at hc) <;> cases hc
  case cond=>split at hc <;> cases hc
  case seq u v =>
   split at hc
   ·rename_i x' y' hx hy
    obtain ⟨rfl,rfl⟩:=SC.seq.inj (zK hc)
    simp only [sw] at h
    refine wpIn_seq (JH hm _ _ st hf.1 h u hx a w _ hl hr fun e st' a' w' hk hl' hr'=>?_)
    cases e with
    | normal=>exact JH hm _ _ st' hf.2 hk v hy a' w' Q hl' hr' hq
    | exit id=>exact hq _ _ _ _ hk hl' hr'
    | ret=>exact hq _ _ _ _ hk hl' hr'
   ·cases hc
 | .cond cx x y,K,st,hf,h=>by
  intro code hc a w Q hl hr hq
  simp only [FZ,zF] at hf
  cases code <;> simp only [trC] at hc <;> (try (cases hc; done)) <;> (try (obtain ⟨_,_,e⟩:=zR.1 hc; cases e; done))
  case region=>split at hc <;> (try split at hc) <;> (try split at hc) <;> (try split at hc) <;> (try split at hc) <;> cases hc
  case seq=>split at hc <;> cases hc
  case cond q u v =>
   split at hc
   ·rename_i x' y' hx hy
    obtain ⟨rfl,rfl,rfl⟩:=SC.cond.inj (zK hc)
    simp only [sw] at h
    split at h
    ·rename_i t ht
     have hv:a.eval q=.bool t:=by
      obtain ⟨_,I,V,B,hr⟩:=hr
      have:=Al hr q
      have e:An st.f.sl (trX q)=.bool t:=ht
      rw [e] at this
      have e2:Act.eval { a with defers:=[] } q=a.eval q:=by cases q <;> rfl
      rw [e2] at this
      simpa only [RepV] using this
     refine wpIn_cond_split hv (fun e=>?_) (fun e=>?_)
     ·exact JH hm _ _ st hf.1 (h.1 e) u hx a w Q hl hr hq
     ·exact JH hm _ _ st hf.2 (h.2 e) v hy a w Q hl hr hq
    ·exact h.elim
   ·cases hc
 | .block id b,K,st,hf,h=>by
  intro code hc a w Q hl hr hq
  simp only [FZ] at hf
  cases code <;> simp only [trC] at hc <;> (try (cases hc; done))
  case region=>split at hc <;> (try split at hc) <;> (try split at hc) <;> (try split at hc) <;> (try split at hc) <;> cases hc
  case seq=>split at hc <;> cases hc
  case cond=>split at hc <;> cases hc
  case loop=>obtain ⟨_,_,e⟩:=zR.1 hc; cases e
  case block id' u =>
   obtain ⟨x',hx,e⟩:=zR.1 hc
   obtain ⟨rfl,rfl⟩:=SC.block.inj e
   simp only [sw] at h
   refine wpIn_block (JH hm _ _ st hf h u hx a w _ hl hr fun e st' a' w' hk hl' hr'=>?_)
   cases e with
   | normal=>exact hq .normal st' a' w' hk hl' hr'
   | ret=>exact hq .ret st' a' w' hk hl' hr'
   | exit i =>
    simp only at hk
    simp only [X.exit',Exit.inBlock]
    by_cases hi:i=id'
    ·rw [if_pos hi] at hk ⊢
     exact hq .normal st' a' w' hk hl' hr'
    ·rw [if_neg hi] at hk ⊢
     exact hq (.exit i) st' a' w' hk hl' hr'
end
structure At (nt:Nat) (w:World) (I:Nat→Prop) (V:Nat→Option Value) (B:Nat→Nat→Prop) (st:St) (tm:Array Value):Prop where
 wf:Wf w I V B (Ae st.ob)
 len:st.sl.length=nt
 sz:tm.size=nt
 sl:∀ k,RepV w I V (gets st.sl k) (tm.getD k undef)
def Z8 (w:World) (I:Nat→Prop) (V:Nat→Option Value) (B:Nat→Nat→Prop) (ob:List Ob) (nt:Nat) (h:Wf w I V B (Ae ob)):Ctx:=⟨w,HB B ob,I,V,nt,ob.length,fun g hg=>h.fr g (AB _ _ hg)⟩
section
variable {P:Program} {nt:Nat} {w w':World} {I I':Nat→Prop} {V V':Nat→Option Value} {B B':Nat→Nat→Prop} {st st':St} {tm tm':Array Value}
theorem At.rep (h:At nt w I V B st tm):RepI (Z8 w I V B st.ob nt h.wf) I V B st.f { tmps:=tm,defers:=[] } w :=
 ⟨⟨rfl,TapeOk.mk' rfl rfl,rfl,zU _,fun _ _ _=>rfl⟩,fun _ h=>h,fun _ h=>.inl h,VLe.refl _,h.wf,fun g b hl hb=>.inl ⟨g,hl,hb⟩,rfl,h.sz,h.sl⟩
theorem At.post (h:At nt w I V B st tm) {a:Act} (hr:RepI (Z8 w I V B st.ob nt h.wf) I' V' B' st'.f a w') (hl:st'.sl.length=nt):At nt w' I' V' B' st' a.tmps∧FunPost w I V B st.ob st'.ob w' I' V' B' :=
 ⟨⟨hr.wf,hl,hr.sz,hr.slots⟩,hr.fr,hr.i0,hr.i1,hr.v0,hr.wf,hr.bh⟩
theorem FunPost.trans2 {V0 Vk:Nat→Option Value} {ob ob' ob'':List Ob} {w'':World} {I'':Nat→Prop} {V'':Nat→Option Value} {B'':Nat→Nat→Prop} (h:FunPost w I V B ob ob' w' I' V' B') (k:FunPost w' I' Vk B' ob' ob'' w'' I'' V'' B'') (hv:VLe V0 Vk):FunPost w I V0 B ob ob'' w'' I'' V'' B'':=by
 have hb:∀ b,HB B' ob' b→HB B ob b∨w.heap.size≤b:=fun b ⟨g,hl,hg⟩=>h.bh g b hl hg
 have hs:=h.fr.size
 refine ⟨⟨k.fr.os.trans h.fr.os,TapeOk.trans k.fr.tape h.fr.tape,k.fr.output.trans h.fr.output,Nat.le_trans hs k.fr.size,fun b hlt hn=>?_⟩,fun b hb=>k.i0 b (h.i0 b hb),fun b hb'=>?_,hv.trans k.v,k.wf,fun g b hl hb'=>?_⟩
 ·rw [k.fr.block b (by omega) fun hh=>by rcases hb b hh with h1 | h1; exact hn h1; omega]
  exact h.fr.block b hlt hn
 ·rcases k.i1 b hb' with h1 | h1 | h1
  ·exact h.i1 b h1
  ·exact .inr (.inl (by omega))
  ·rcases hb b h1 with h2 | h2
   ·exact .inr (.inr h2)
   ·exact .inr (.inl h2)
 ·rcases k.bh g b hl hb' with h1 | h1
  ·exact hb b h1
  ·exact .inr (by omega)
theorem FunPost.trans {ob ob' ob'':List Ob} {w'':World} {I'':Nat→Prop} {V'':Nat→Option Value} {B'':Nat→Nat→Prop} (h:FunPost w I V B ob ob' w' I' V' B') (k:FunPost w' I' V' B' ob' ob'' w'' I'' V'' B''):FunPost w I V B ob ob'' w'' I'' V'' B'':=h.trans2 k h.v
theorem FunPost.refl (h:Wf w I V B (Ae st.ob)):FunPost w I V B st.ob st.ob w I V B :=
 ⟨⟨rfl,TapeOk.mk' rfl rfl,rfl,zU _,fun _ _ _=>rfl⟩,fun _ h=>h,fun _ h=>.inl h,VLe.refl _,h,fun g b hl hb=>.inl ⟨g,hl,hb⟩⟩
theorem leg {ro:Option Nat} {n:Nat} {sc:SC} {K:X→St→Prop} {code:Code} {a:Act} {Q:Exit→Act→World→Prop} (hm:P.follows .mixedOrders=true) (h:At nt w I V B st a.tmps) (hc:trC P nt code=some sc) (hf:FZ sc=true)
  (hs:∀ c:Ctx,c.nt=nt→c.m=st.ob.length→sw P c sc K st)
  (hq:∀ x st' a' w' I' V' B',K x st'→a'.defers=a.defers→At nt w' I' V' B' st' a'.tmps→FunPost w I V B st.ob st'.ob w' I' V' B'→Q x.exit' a' w'):code.wpIn (wf ro) n P Q a w:=by
 refine JH (c:=Z8 w I V B st.ob nt h.wf) (ds:=a.defers) hm sc K st hf (hs _ rfl rfl) code hc a w Q h.len ⟨rfl,I,V,B,h.rep⟩ fun x st' a' w' hk hl' hr'=>?_
 obtain ⟨hd,I',V',B',hr'⟩:=hr'
 obtain ⟨h1,h2⟩:=h.post hr' hl'
 exact hq x st' a' w' I' V' B' hk hd h1 h2
end
def Off (I:Nat→Prop) (B:Nat→Nat→Prop) (ob:List Ob) (x:Nat):Prop:=¬ I x∧¬ HB B ob x
section
variable {P:Program} {nt:Nat} {w w' W:World} {I I':Nat→Prop} {V V':Nat→Option Value} {B B':Nat→Nat→Prop} {st st':St} {tm:Array Value} {ob ob':List Ob} {x:Nat}
theorem Wf.keptB {ob:Nat→Ob} (h:Wf w I V B ob) (hk:KeepS I w w') (hB:∀ g b,(ob g).live→B g b→w'.heap[b]?=w.heap[b]?):Wf w' I V B ob :=
 ⟨fun b hb=>Nat.lt_of_lt_of_le (h.ilt b hb) hk.size,fun g hl=>let ⟨val,hv,hr⟩:=h.obj g hl; ⟨val,hv,hr.keep hk (fun _ h=>h) (fun _ _ h=>h) fun b hb _=>hB g b hl hb⟩,fun g b hl hb=>Nat.lt_of_lt_of_le (h.lt g b hl hb) hk.size,h.dI,h.dO,h.fr,h.gl.keep hk fun _ h=>h⟩
theorem Wf.putB (h:Wf w I V B (Ae ob)) (ho:Off I B ob x) (o:Obj):Wf (w.putObj x o) I V B (Ae ob) :=
 h.keptB ⟨by simp,fun b hb _=>World.putObj_heap_other (fun e=>ho.1 (e▸hb))⟩ fun g b hl hb=>World.putObj_heap_other (fun e=>ho.2 ⟨g,hl,e▸hb⟩)
theorem At.put (h:At nt w I V B st tm) (ho:Off I B st.ob x) (o:Obj):At nt (w.putObj x o) I V B st tm :=
 ⟨h.wf.putB ho o,h.len,h.sz,fun k=>RepV.mono (w:=w) (w':=w.putObj x o) ⟨by simp,fun b hb _=>World.putObj_heap_other (fun e=>by subst e; exact ho.1 hb)⟩ (fun _ h=>h) (VLe.refl _) _ _ (h.sl k)⟩
theorem FunPost.putNew (h:FunPost w I V B ob ob' W I' V' B') (hx:w.heap.size≤x) (ho:Off I' B' ob' x) (o:Obj):FunPost w I V B ob ob' (W.putObj x o) I' V' B' :=
 ⟨⟨h.fr.os,TapeOk.trans (TapeOk.mk' rfl rfl) h.fr.tape,h.fr.output,by have:=h.fr.size; simpa using this,fun b hb hn=>(World.putObj_heap_other (by omega)).trans (h.fr.block b hb hn)⟩,h.i0,h.i1,h.v,h.wf.putB ho o,h.bh⟩
theorem FunPost.weak {n1:Nat} {ob1:List Ob} {m:List Nat} (hp:FunPost w I V B ob ob' W I' V' B') (h0:∀ g u,V g=some u→g<n1) (hw:WeakC n1 m ⟨[],ob'⟩ ⟨[],ob1⟩):FunPost w I V B ob ob1 W I' (fun g=>V' (sgp m ob'.length g)) (fun g=>B' (sgp m ob'.length g)):=by
 have hwf':=hw.wf (st:=⟨[],ob'⟩) hp.wf
 refine ⟨hp.fr,hp.i0,hp.i1,fun g u hu=>?_,hwf',fun g b hl hb=>?_⟩
 ·rw [GV hw.2.2.2 g (h0 g u hu)]
  exact hp.v g u hu
 ·have hlt:g<ob1.length:=by
   rcases zB g ob1.length with h1 | h1
   ·exact h1
   ·rw [AB _ _ h1] at hl; exact hl.elim
  have h1:=EC (j:=g) hw.2.1 hlt
  rw [yX] at h1
  exact hp.bh _ b (El h1 hl) hb
end
def KBx (p q:Nat) (A B:World):Prop:=B.heap[p]?=A.heap[p]?∧B.heap[q]?=A.heap[q]?
theorem KBx.refl (p q:Nat) (A:World):KBx p q A A:=⟨rfl,rfl⟩
theorem KBx.trans {p q:Nat} {A B C:World} (h:KBx p q A B) (k:KBx p q B C):KBx p q A C:=⟨k.1.trans h.1,k.2.trans h.2⟩
def Qbu (P:Program) (gf N:Nat) (enc:Nat→Value) (w:World) (Bs b:Nat):Prop :=
 ∀ (lb n:Nat) (J Jx:Nat→World→Prop) (W:World),2≤n→W.heap[Bs]?=w.heap[Bs]?→W.heap[b]?=w.heap[b]? →
  (∀ k W1,k<N→J k W1→YieldAt Fence.wide (n-1) P lb #[.int .i64 ((N-1-k:Nat):Int),enc (N-1-k)] W1 fun e W' =>
   (e=.returned (.bool true)∧J (k+1) W'∧KBx Bs b W1 W')∨(e=.returned (.bool false)∧Jx k W')) →
  J 0 W→CallsIn Fence.wide n P gf #[.func (.yield lb) #[] #[],.pointer (some ⟨Bs,0,none⟩)] W fun e W'=>(∃ v,e=.returned v)∧(J N W'∨∃ k,k<N∧Jx k W')
def W7 (D:Nat):Deferred:={ target:=.collected D,args:=#[] }
section
variable {P:Program}
def Qdb (P:Program) (fn:Func) (w:World) (I:Nat→Prop) (V:Nat→Option Value) (B:Nat→Nat→Prop) (ob:List Ob) (r:SV) (ob':List Ob):Exit→Act→World→Prop :=
 bodyPostM Fence.wide 5 P fn (fun e w'=>∃ v I' V' B',e=.returned v∧RepV w' I' V' r v∧FunPost w I V B ob ob' w' I' V' B')
theorem Rg {fn:Func} {w W:World} {I I':Nat→Prop} {V V':Nat→Option Value} {B B':Nat→Nat→Prop} {ob:List Ob} {r:SV} {ob':List Ob} {st:St} {a:Act} {rs:List RX} {e:X} (hrs:Bm (fn.results.toList.map (PE P fn.ntmps))=some rs)
  (h0:Wf w I V B (Ae ob)) (hA:At fn.ntmps W I' V' B' st a.tmps) (hP:FunPost w I V B ob st.ob W I' V' B') (hk:Fin rs ob.length r ob' e st)
  (hd:a.defers=[]∨∃ D,a.defers=[W7 D]∧w.heap.size≤D∧W.heap[D]?=some (.deferred (some []))∧Off I' B' st.ob D):Qdb P fn w I V B ob r ob' e.exit' a W:=by
 obtain ⟨hx,r0,m,hres,hweak⟩:=hk
 have key:∀ W2,At fn.ntmps W2 I' V' B' st a.tmps→FunPost w I V B ob st.ob W2 I' V' B'→∃ v,(results fn a.tmps).run P W2=.ok v W2∧∃ v2 I2 V2 B2,Ending.returned v=.returned v2∧RepV W2 I2 V2 r v2∧FunPost w I V B ob ob' W2 I2 V2 B2:=fun W2 hA2 hP2=>by
  obtain ⟨v,hrun,hv⟩:=Nf (P:=P) hA2.rep hrs hres
  have hwk:WeakC ob.length m ⟨[],st.ob⟩ ⟨[],ob'⟩:=⟨trivial,hweak.2.1,hweak.2.2.1,hweak.2.2.2⟩
  have hP3:=hP2.weak (n1:=ob.length) (fun g u hu=>by
   rcases zB g ob.length with h1 | h1
   ·exact h1
   ·rw [h0.fr g (AB _ _ h1)] at hu; cases hu) hwk
  have hv':RepV W2 I' (fun g=>V' (sgp m st.ob.length g)) r v:=by
   have h1:=hweak.1
   simp only [leL] at h1
   exact Li h1.1 hv
  exact ⟨v,hrun,v,_,_,_,rfl,hv',hP3⟩
 have goal:LeavesInM Fence.wide 5 P fn a.tmps (fun e w'=>∃ v I' V' B',e=.returned v∧RepV w' I' V' r v∧FunPost w I V B ob ob' w' I' V' B') a.defers .returning W:=by
  rcases hd with hd | ⟨D,hd,hD,hh,ho⟩
  ·rw [hd]
   obtain ⟨v,h1,h2⟩:=key W hA hP
   exact ⟨v,h1,h2⟩
  ·rw [hd]
   obtain ⟨v,h1,h2⟩:=key _ (hA.put ho (.deferred none)) (hP.putNew hD ho _)
   exact ⟨by simp,.inl ⟨D,_,rfl,run_takeDeferred (ds:=[]) hh,v,h1,h2⟩⟩
 rcases hx with rfl | rfl
 ·exact goal
 ·exact goal
end
end Go.Proofs.YtjkpbnbkofnajaaGreat
set_option maxRecDepth 100000
set_option linter.unusedSimpArgs false
set_option linter.unusedVariables false
set_option linter.unusedSectionVars false
namespace Go.Proofs.YtjkpbnbkofnajaaGreat
open Go.RowKit Go.Shelf
attribute [local go_sem] Oper.semAt_some
theorem Ed {A B:World} {x o:Nat} (h:B.heap[x]?=A.heap[x]?):B.cell? ⟨x,o,none⟩=A.cell? ⟨x,o,none⟩:=by
 unfold World.cell?
 simp only [h]
theorem Sg [Flag] (N:Nat) (cv:Nat→Nat→Value) (Bs b off cap:Nat) (hreach:N*56≤140737488351232) (w:World) (hBs:w.cell? ⟨Bs,0,none⟩=some (.slice (some ⟨b,off,none⟩) N cap)) (hc0:∀ j,j<N→w.cell? ⟨b,off+j*4,none⟩=some (cv j 0)) (hc1:∀ j,j<N→w.cell? ⟨b,off+j*4+1,none⟩=some (cv j 1)) (hc2:∀ j,j<N→w.cell? ⟨b,off+j*4+2,none⟩=some (cv j 2)) (hc3:∀ j,j<N→w.cell? ⟨b,off+j*4+3,none⟩=some (cv j 3)) :
  Qbu Tryz.prog 77 N (fun j=>.agg #[cv j 0,cv j 1,cv j 2,cv j 3]) w Bs b:=by
 intro lb n J Jx W hn eBs eb hY h0
 refine callsIn_of_wp Tryz.func77 rfl trivial ?_ rfl
 simp only [Tryz.ntmps77,yJ,zP,zO,Nat.reduceAdd,Nat.reduceSub,Array.replicate_succ,Array.replicate_zero,List.push_toArray,List.append_toArray,yB,zZ]
 have hB0:=(Ed (o:=0) eBs).trans hBs
 gi_wp2
 gi_loopw [3] (fun i wr=>∃ k:Nat,k≤N∧i=.int .i64 ((N:Int)-1-k)∧J k wr∧KBx Bs b W wr)
  (fun i _=>(intOf i+1).toNat)
 case atStart=>exact ⟨0,zJ _,by simp,h0,KBx.refl _ _ _⟩
 case round =>
  obtain ⟨k,hk,rfl,hJs,hnx⟩:=hrel
  by_cases hlt:k<N
  ·have hj:N-1-k<N:=by omega
   have hbk:wr.cell? ⟨Bs,0,none⟩=some (.slice (some ⟨b,off,none⟩) N cap):=(Ed hnx.1).trans hB0
   have hb:wr.heap[b]?=w.heap[b]?:=hnx.2.trans eb
   have hx0:=(Ed (o:=off+(N-1-k)*4) hb).trans (hc0 _ hj)
   have hx1:=(Ed (o:=off+(N-1-k)*4+1) hb).trans (hc1 _ hj)
   have hx2:=(Ed (o:=off+(N-1-k)*4+2) hb).trans (hc2 _ hj)
   have hx3:=(Ed (o:=off+(N-1-k)*4+3) hb).trans (hc3 _ hj)
   have hji:(N:Int)-1-k=((N-1-k:Nat):Int):=by omega
   obtain ⟨fn,tmps,assign,body,hy,hR⟩:=hY k wr hlt hJs
   rw [hji]
   gi_wp2
   refine ⟨fun _=>by omega,hR.mono ?_⟩
   rintro e W3 (⟨rfl,hJ3,hk3⟩ | ⟨rfl,hJx3⟩)
   ·gi_wp2
    go_roundw
    case rel=>exact ⟨k+1,by omega,by congr 1; omega,hJ3,hnx.trans hk3⟩
    case measure=>simp [intOf] <;> omega
   ·gi_wp2
    refine bodyPost_ret (results_none rfl _ _ _) rfl ?_
    exact ⟨⟨_,rfl⟩,.inr ⟨k,hlt,hJx3⟩⟩
  ·obtain rfl:k=N:=by omega
   gi_wp2
   go_end0
   exact ⟨⟨_,rfl⟩,.inl hJs⟩
theorem Kg [Flag] (enc:Nat→Value) (Bs b:Nat) (a:Option Addr) (cap:Nat) (w:World) (hBs:w.cell? ⟨Bs,0,none⟩=some (.slice a 0 cap)):Qbu Tryz.prog 77 0 enc w Bs b:=by
 intro lb n J Jx W hn eBs eb hY h0
 refine callsIn_of_wp Tryz.func77 rfl trivial ?_ rfl
 simp only [Tryz.ntmps77,yJ,zP,zO,Nat.reduceAdd,Nat.reduceSub,Array.replicate_succ,Array.replicate_zero,List.push_toArray,List.append_toArray,yB,zZ]
 have hB0:=(Ed (o:=0) eBs).trans hBs
 gi_wp2
 gi_loopw [3] (fun i wr=>i=.int .i64 (-1)∧J 0 wr) (fun _ _=>0)
 case atStart=>exact ⟨by rfl,h0⟩
 case round =>
  obtain ⟨rfl,hJs⟩:=hrel
  gi_wp2
  go_end0
  exact ⟨⟨_,rfl⟩,.inl hJs⟩
end Go.Proofs.YtjkpbnbkofnajaaGreat
set_option maxRecDepth 100000
set_option linter.unusedSimpArgs false
set_option linter.unusedVariables false
set_option linter.unusedSectionVars false
namespace Go.Proofs.YtjkpbnbkofnajaaGreat
open Go.RowKit
theorem EV {P:Program} {c:Ctx} {C:CallF} (hC:F5 P C) {L:LoopF}:∀ (sc:SC) (st:St) (out:X × St),FZ sc=true→fr P C L sc st=some out→∀ K:X→St→Prop,K out.1 out.2→sw P c sc K st
 | .skip,st,out,hl,h,K,hK=>by
  obtain rfl:=zK h
  exact hK
 | .reg ops,st,out,hl,h,K,hK=>by
  simp only [fr] at h
  split at h
  ·rename_i st' hs
   obtain rfl:=zK h
   exact UC hC hs hK
  ·cases h
 | .dreg anc ops,st,out,hl,h,K,hK=>by
  simp only [fr] at h
  split at h
  ·rename_i es st' hs
   obtain ⟨h1,h2⟩:=Ai h
   obtain rfl:=zK h2
   exact UD hC hs ⟨h1,hK⟩
  ·cases h
 | .seq a b,st,out,hl,h,K,hK=>by
  simp only [FZ,zF] at hl
  simp only [fr,Cw] at h
  split at h
  ·rename_i st' hs
   exact EV hC a st _ hl.1 hs _ (EV hC b st' out hl.2 h K hK)
  ·rename_i i st' hs
   obtain rfl:=zK h
   exact EV hC a st _ hl.1 hs _ hK
  ·rename_i st' hs
   obtain rfl:=zK h
   exact EV hC a st _ hl.1 hs _ hK
  ·cases h
 | .cond q a b,st,out,hl,h,K,hK=>by
  simp only [FZ,zF] at hl
  obtain ⟨h1,h2⟩:=hl
  simp only [fr] at h
  simp only [sw]
  split at h
  ·rename_i t ht
   try simp only [ht]
   cases t with
   | true=>exact ⟨fun _=>EV hC a st out h1 h K hK,fun e=>(by cases e)⟩
   | false=>exact ⟨fun e=>(by cases e),fun _=>EV hC b st out h2 h K hK⟩
  ·cases h
 | .block id b,st,out,hl,h,K,hK=>by
  have h1:FZ b=true:=hl
  simp only [fr,GD] at h
  simp only [sw]
  split at h
  ·rename_i st' hs
   obtain rfl:=zK h
   exact EV hC b st _ h1 hs _ hK
  ·rename_i i st' hs
   refine EV hC b st _ h1 hs _ ?_
   by_cases hi:i=id
   ·simp only [if_pos hi] at h ⊢
    obtain rfl:=zK h
    exact hK
   ·simp only [if_neg hi] at h ⊢
    obtain rfl:=zK h
    exact hK
  ·rename_i st' hs
   obtain rfl:=zK h
   exact EV hC b st _ h1 hs _ hK
  ·cases h
 | .loop _ _,st,out,hl,h,K,hK=>by cases hl
 | .next _ _ _,st,out,hl,h,K,hK=>by cases hl
 | .mloop _ _ _ _ _ _,st,out,hl,h,K,hK=>by cases hl
 | .ghost _ _,st,out,hl,h,K,hK=>by cases hl
 | .exit id,st,out,hl,h,K,hK=>by
  obtain rfl:=zK h
  exact hK
 | .ret,st,out,hl,h,K,hK=>by
  obtain rfl:=zK h
  exact hK
theorem Z9 {c:Ctx} {sc:SC} {st:St} {K:X→St→Prop} (hf:FZ sc=true) (h:go c.m sc st K):sw Tryz.prog c sc K st:=by
 obtain ⟨x,st',h1,hk⟩:=h
 obtain ⟨n,h2⟩:=Dh sc st (x,st') h1
 exact EV (Ow (O6 Ot OF n)) sc st (x,st') hf h2 K hk
noncomputable def Qdh:Code→Code
 | .seq _ (.seq _ (.block _ (.rangeFunc _ _ a _)))=>a
 | c=>c
noncomputable def ZA:Code→Code
 | .seq _ (.seq _ (.block _ (.rangeFunc _ _ _ b)))=>b
 | c=>c
noncomputable def ZB:Code→Code
 | .seq _ (.seq _ (.block _ (.rangeFunc _ _ _ (.block _ (.seq _ (.block _ (.loop b)))))))=>b
 | c=>c
noncomputable def Vt:Code:=ZB (Tryz.f29.body.getD .skip)
def d_av:SC:=(.seq (.seq (.reg [⟨(some 14),none,(.mv (.t 4))⟩,⟨(some 15),none,(.bin .geq false (.t 14) (.c (.int .i64 0)))⟩]) (.cond (.t 15) .skip (.exit 2))) (.seq (.block 3 (.seq (.reg [⟨(some 18),none,(.faddr 3 (.t 3))⟩,⟨(some 19),none,(.load false 1 (.t 18))⟩,⟨(some 20),none,(.mv (.t 4))⟩,⟨(some 21),none,(.iaddr 1 (.t 19) (.t 20))⟩,⟨(some 22),none,(.load false 1 (.t 21))⟩,⟨(some 23),none,(.bin .add false (.t 22) (.c (.int .i64 1)))⟩,⟨(some 24),none,(.iaddr 1 (.t 19) (.t 20))⟩,⟨none,none,(.store 1 (.t 24) (.t 23))⟩]) (.seq (.seq (.dreg [[],[0],[],[1,0,2],[3,1,0,2],[],[],[6],[5,7,6],[4,3,1,0,2,8,5,7,6]] [⟨(some 25),none,(.faddr 3 (.t 3))⟩,⟨(some 26),none,(.load false 1 (.t 25))⟩,⟨(some 27),none,(.mv (.t 4))⟩,⟨(some 28),none,(.iaddr 1 (.t 26) (.t 27))⟩,⟨(some 29),none,(.load false 1 (.t 28))⟩,⟨(some 30),none,(.load true 4 (.t 3))⟩,⟨(some 31),none,(.faddr 0 (.t 1))⟩,⟨(some 32),none,(.load false 1 (.t 31))⟩,⟨(some 33),none,(.call 47 [(.t 30),(.t 32)])⟩,⟨(some 34),none,(.bin .lss false (.t 29) (.t 33))⟩]) (.cond (.t 34) .ret .skip)) (.reg [⟨(some 35),none,(.faddr 3 (.t 3))⟩,⟨(some 36),none,(.load false 1 (.t 35))⟩,⟨(some 37),none,(.mv (.t 4))⟩,⟨(some 38),none,(.iaddr 1 (.t 36) (.t 37))⟩,⟨none,none,(.store 1 (.t 38) (.c (.int .i64 0)))⟩])))) (.reg [⟨(some 16),none,(.mv (.t 4))⟩,⟨(some 17),none,(.bin .sub false (.t 16) (.c (.int .i64 1)))⟩,⟨(some 4),none,(.mv (.t 17))⟩])))
theorem QbH:trC Tryz.prog 39 Vt=some d_av:=by kernel_rfl
def F2 (sz:Int) (nm:ByteArray) (ar:Int) (pr:Bool) (T:TypeId) (L:List Int):List Ob:=[.box 26 [.int .i64 sz,.any],.box 58 [.str nm,.int .i64 ar,.bool pr,.ref 2],.row T 1 (L.map fun n=>[OT.int n])]
def LJ (k:Int):List SV:=slots 39 0 [(1,.ptr 0 0),(3,.ptr 1 0),(4,.int .i64 k)]
theorem ints_at {L:List Int} {j:Nat} (h:j<L.length):(L.map fun n=>[OT.int n])[j]?=some [OT.int L[j]]:=by rw [yO,zM h]; rfl
theorem ints_set (L:List Int) (j:Nat) (v:Int):(L.map fun n=>[OT.int n]).set j [OT.int v]=(L.set j v).map fun n=>[OT.int n]:=by rw [List.map_set]
def AvK (sz:Int) (nm:ByteArray) (ar:Int) (pr:Bool) (T:TypeId) (L:List Int) (r:Int) (j:Nat) (v:Int) (x:X) (st:St):Prop :=
 (x=.ret∧v+1<r∧st.ob=F2 sz nm ar pr T (L.set j (v+1)))∨(x=.normal∧¬ v+1<r∧st.ob=F2 sz nm ar pr T (L.set j 0)∧gets st.sl 1=.ptr 0 0∧gets st.sl 3=.ptr 1 0∧gets st.sl 4=.int .i64 ((j:Int)-1))
theorem ZC (sz:Int) (hs1:1≤sz) (hs3:sz≤3) (nm:ByteArray) (ar:Int) (pr:Bool) (T:TypeId) (L:List Int) (hL:L.length≤1048576) (j:Nat) (hj:j<L.length) (hv:0≤L[j]∧L[j]≤1000):go 3 d_av ⟨LJ j,F2 sz nm ar pr T L⟩ (AvK sz nm ar pr T L (if pr=true then 2 else sz) j L[j]):=by
 have hg:=ints_at hj
 obtain ⟨v,hvv⟩:∃ v,v=L[j]:=⟨_,rfl⟩
 rw [←hvv] at hg hv ⊢
 have hs:=ints_set L j (v+1)
 have hc:=QW ⟨nm,ar,pr,L.set j (v+1)⟩ sz
 have hsv:(⟨nm,ar,pr,L.set j (v+1)⟩:Tl).sv=.agg [.str nm,.int .i64 ar,.bool pr,.arr ((L.set j (v+1)).map fun n=>[D.int n])]:=rfl
 have hg2:=ints_at (L:=L.set j (v+1)) (j:=j) (by simpa using hj)
 rw [List.getElem_set_self] at hg2
 have hs2:=ints_set (L.set j (v+1)) j 0
 rw [List.set_set] at hs2
 have hl2:(L.set j (v+1)).length=L.length:=List.length_set
 have hk:kinds sz ⟨nm,ar,pr,L.set j (v+1)⟩=(if pr=true then 2 else sz):=rfl
 rw [hsv,hk] at hc
 obtain ⟨r,hr⟩:∃ r,r=if pr=true then 2 else sz:=⟨_,rfl⟩
 rw [←hr] at hc ⊢
 have hrr:1≤r∧r≤3:=by rw [hr]; split <;> omega
 unfold LJ F2
 simp (disch:=omega) only [d_av,hg,hs,hg2,hs2,hc,yI,hl2,zY,BW,go_sem,Aa]
 cases hd:dec (v+1<r) with
 | true=>exact .inl ⟨rfl,Af.1 hd,rfl⟩
 | false=>exact .inr ⟨rfl,Be.1 hd,rfl,rfl,rfl,rfl⟩
theorem QcC (sz:Int) (nm:ByteArray) (ar:Int) (pr:Bool) (T:TypeId) (L:List Int):go 3 d_av ⟨LJ (-1),F2 sz nm ar pr T L⟩ (fun x st=>x=.exit 2∧st.ob=F2 sz nm ar pr T L):=by
 have hd:dec ((0:Int)≤-1)=false:=Aw (by omega)
 unfold LJ F2
 simp (disch:=omega) only [d_av,hd,go_sem,Aa]
 first | done | exact ⟨rfl,rfl⟩ | trivial
theorem TX (r:Int):∀ (a b:List Int),(DZ r b).2=false→DZ r (a++b)=(a++(DZ r b).1,false)
 | [],b,h=>by rw [yB,yB,← h]
 | d :: a,b,h=>by
  rw [zZ,DZ,TX r a b h]
  rfl
theorem Qbv {r:Int} {vals:List Int} {j m:Nat} (hj:j<vals.length) (h:DZ r (vals.drop (j+1))=(yE m 0,true)):DZ r (vals.drop j)=bif dec (vals[j]+1<r) then ((vals[j]+1) :: yE m 0,false) else (yE (m+1) 0,true):=by
 rw [zA hj,DZ,h]
 cases dec (vals[j]+1<r) <;> rfl
def avL (vals:List Int) (m:Nat):List Int:=vals.take (vals.length-m)++yE m 0
theorem W8 {vals:List Int} {m:Nat} (hm:m≤vals.length):(avL vals m).length=vals.length:=by
 unfold avL; simp; omega
theorem Qbw {vals:List Int} {j m:Nat} (hjm:j+1+m=vals.length) (h:j<(avL vals m).length):(avL vals m)[j]=vals[j]'(by omega):=by
 have e:(avL vals m)[j]?=some (vals[j]'(by omega)):=by
  unfold avL
  rw [List.getElem?_append_left (by simp; omega),List.getElem?_take,if_pos (by omega),zM]
 rw [zM h] at e
 exact zK e
theorem W9 {vals:List Int} {j m:Nat} (hjm:j+1+m=vals.length) (x:Int):(avL vals m).set j x=vals.take j++x :: yE m 0:=by
 unfold avL
 rw [show vals.length-m=j+1 by omega,List.take_succ_eq_append_getElem (by omega),zQ,List.set_append_right _ _ (by simp; omega)]
 have e:j-(vals.take j).length=0:=by simp; omega
 rw [e]
 rfl
theorem ZD {vals:List Int} {j m:Nat} (hjm:j+1+m=vals.length):(avL vals m).set j 0=avL vals (m+1):=by
 rw [W9 hjm]
 unfold avL
 rw [show vals.length-(m+1)=j by omega,List.replicate_succ]
theorem Pw (k:Int):gets (LJ k) 1=.ptr 0 0∧gets (LJ k) 3=.ptr 1 0∧gets (LJ k) 4=.int .i64 k:=⟨rfl,rfl,rfl⟩
theorem Rh:∀ (l:List SV) (i:Nat),l.length≤i→gets l i=.any
 | [],i,_=>by rw [gets]
 | x :: l,0,h=>by simp at h
 | x :: l,i+1,h=>by rw [gets]; exact Rh l i (by simpa using h)
theorem TY (k:Int):∀ i,i≠1→i≠3→i≠4→gets (LJ k) i=.any:=by
 intro i h1 h3 h4
 unfold LJ
 rcases zB i 39 with h | h
 ·have:i=0∨i=2∨i=5∨i=6∨i=7∨i=8∨i=9∨i=10∨i=11∨i=12∨i=13∨i=14∨i=15∨i=16∨i=17∨i=18∨i=19∨i=20∨i=21∨i=22∨i=23∨i=24∨i=25∨i=26∨i=27∨i=28∨i=29∨i=30∨i=31∨i=32∨i=33∨i=34∨i=35∨i=36∨i=37∨i=38:=by omega
  rcases this with h | h | h | h | h | h | h | h | h | h | h | h | h | h | h | h | h | h | h | h | h | h | h | h | h | h | h | h | h | h | h | h | h | h | h | h <;> (subst h; rfl)
 ·have hl:(slots 39 0 [(1,SV.ptr 0 0),(3,.ptr 1 0),(4,.int .i64 k)]).length=39:=rfl
  exact Rh _ _ (by rw [hl]; exact h)
theorem Qdc {w:World} {I:Nat→Prop} {V:Nat→Option Value} {B:Nat→Nat→Prop} {sl:List SV} {ob:List Ob} {tm:Array Value} {k:Int} (h:At 39 w I V B ⟨sl,ob⟩ tm) (h1:gets sl 1=.ptr 0 0) (h3:gets sl 3=.ptr 1 0) (h4:gets sl 4=.int .i64 k):At 39 w I V B ⟨LJ k,ob⟩ tm:=by
 refine ⟨h.wf,rfl,h.sz,fun i=>?_⟩
 show RepV w I V (gets (LJ k) i) (tm.getD i undef)
 by_cases e1:i=1
 ·subst e1; rw [(Pw k).1,← h1]; exact h.sl 1
 ·by_cases e3:i=3
  ·subst e3; rw [(Pw k).2.1,← h3]; exact h.sl 3
  ·by_cases e4:i=4
   ·subst e4; rw [(Pw k).2.2,← h4]; exact h.sl 4
   ·rw [TY k i e1 e3 e4]; simp only [RepV]
theorem Qbx {lb n:Nat} {sz:Int} (hs1:1≤sz) (hs3:sz≤3) {nm:ByteArray} {ar:Int} {pr:Bool} {T:TypeId} {vals:List Int} (hl:vals.length≤1048576) (hv:∀ v∈vals,0≤v∧v≤1000)
  {w:World} {I:Nat→Prop} {V:Nat→Option Value} {B:Nat→Nat→Prop} {a:Act} (hA:At 39 w I V B ⟨LJ ((vals.length:Int)-1),F2 sz nm ar pr T vals⟩ a.tmps) (hd:a.defers=[]) (Q:Exit→Act→World→Prop)
  (hN:(DZ (if pr=true then 2 else sz) vals).2=true→∀ a' w' I' V' B',FunPost w I V B (F2 sz nm ar pr T vals) (F2 sz nm ar pr T (DZ (if pr=true then 2 else sz) vals).1) w' I' V' B'→Q (.exit 2) a' w')
  (hR:(DZ (if pr=true then 2 else sz) vals).2=false→∀ a' w' I' V' B',FunPost w I V B (F2 sz nm ar pr T vals) (F2 sz nm ar pr T (DZ (if pr=true then 2 else sz) vals).1) w' I' V' B'→Q .ret a' w') :
  (Code.loop Vt).wpIn (wf (some lb)) n Tryz.prog Q a w:=by
 obtain ⟨r,hr⟩:∃ r,r=if pr=true then 2 else sz:=⟨_,rfl⟩
 rw [←hr] at hN hR
 refine wpIn_loop (fun a' w'=>∃ m:Nat,m≤vals.length∧DZ r (vals.drop (vals.length-m))=(yE m 0,true)∧a'.defers=[]∧∃ I' V' B',At 39 w' I' V' B' ⟨LJ ((vals.length:Int)-1-m),F2 sz nm ar pr T (avL vals m)⟩ a'.tmps∧FunPost w I V B (F2 sz nm ar pr T vals) (F2 sz nm ar pr T (avL vals m)) w' I' V' B')
  (fun a' _=>(intOf (a'.tmps.getD 4 undef)+1).toNat) ?_ ?_
 ·refine ⟨0,zJ _,by simp [DZ],hd,I,V,B,?_,?_⟩
  ·have e:avL vals 0=vals:=by unfold avL; simp
   rw [e]
   simpa using hA
  ·have e:avL vals 0=vals:=by unfold avL; simp
   rw [e]
   exact FunPost.refl (st:=⟨[],_⟩) hA.wf
 ·rintro a' w' ⟨m,hm,hinc,hd',I',V',B',hA',hP⟩
  have h4:=hA'.sl 4
  rw [show gets (⟨LJ ((vals.length:Int)-1-m),F2 sz nm ar pr T (avL vals m)⟩:St).sl 4=.int .i64 ((vals.length:Int)-1-m) from rfl] at h4
  simp only [RepV] at h4
  by_cases hlt:m<vals.length
  ·obtain ⟨j,hjm⟩:∃ j,j+1+m=vals.length:=⟨vals.length-1-m,by omega⟩
   have hj:j<vals.length:=by omega
   have hji:(vals.length:Int)-1-m=(j:Int):=by omega
   have hj':j<(avL vals m).length:=by rw [W8 hm]; exact hj
   have hget:=Qbw hjm hj'
   have hvj:=hv _ (zG hj)
   have hround:=ZC sz hs1 hs3 nm ar pr T (avL vals m) (by rw [W8 hm]; exact hl) j hj' (by rw [hget]; exact hvj)
   rw [←hr,hget] at hround
   rw [show vals.length-m=j+1 by omega] at hinc
   have hat:=Qbv hj hinc
   rw [hji] at hA' h4
   refine leg (ro:=some lb) Ot hA' QbH (by rfl) (fun c hnt hcm=>Z9 (by rfl) (by rw [hcm]; exact hround)) ?_
   rintro x st2 a2 w2 I2 V2 B2 hk hd2 hA2 hP2
   obtain ⟨sl2,ob2⟩:=st2
   rcases hk with ⟨rfl,hlt2,hob⟩ | ⟨rfl,hnlt,hob,g1,g3,g4⟩
   ·simp only at hob
    subst hob
    rw [Ay hlt2,cond_true] at hat
    have hwhole:=TX r (vals.take j) (vals.drop j) (by rw [hat])
    rw [List.take_append_drop,hat] at hwhole
    refine hR (by rw [hwhole]) a2 w2 I2 V2 B2 ?_
    rw [hwhole]
    have hP3:=hP.trans hP2
    simp only at hP3
    rw [W9 hjm] at hP3
    exact hP3
   ·simp only at hob g1 g3 g4
    subst hob
    rw [Aw hnlt,cond_false] at hat
    rw [ZD hjm] at hA2 hP2
    refine ⟨⟨m+1,by omega,by rw [show vals.length-(m+1)=j by omega]; exact hat,by rw [hd2]; exact hd',I2,V2,B2,?_,hP.trans hP2⟩,?_⟩
    ·have e:(vals.length:Int)-1-((m+1:Nat):Int)=(j:Int)-1:=by omega
     rw [e]
     exact Qdc hA2 g1 g3 g4
    ·have h5:=hA2.sl 4
     rw [show gets (⟨sl2,F2 sz nm ar pr T (avL vals (m+1))⟩:St).sl 4=.int .i64 ((j:Int)-1) from g4] at h5
     simp only [RepV] at h5
     rw [h4,h5]
     simp only [intOf]
     omega
  ·obtain rfl:m=vals.length:=by omega
   have hji:(vals.length:Int)-1-(vals.length:Nat)=-1:=by omega
   rw [hji] at hA'
   rw [Nat.sub_self,zD] at hinc
   refine leg (ro:=some lb) Ot hA' QbH (by rfl) (fun c hnt hcm=>Z9 (by rfl) (by rw [hcm]; exact QcC sz nm ar pr T (avL vals vals.length))) ?_
   rintro x st2 a2 w2 I2 V2 B2 ⟨rfl,hob⟩ hd2 hA2 hP2
   obtain ⟨sl2,ob2⟩:=st2
   simp only at hob
   subst hob
   refine hN (by rw [hinc]) a2 w2 I2 V2 B2 ?_
   rw [hinc]
   have e:avL vals vals.length=yE vals.length 0:=by unfold avL; simp
   have hP3:=hP.trans hP2
   simp only at hP3
   rw [e] at hP3
   exact hP3
end Go.Proofs.YtjkpbnbkofnajaaGreat
set_option maxRecDepth 100000
set_option linter.unusedSimpArgs false
set_option linter.unusedVariables false
set_option linter.unusedSectionVars false
namespace Go.Proofs.YtjkpbnbkofnajaaGreat
open Go.RowKit Go.Shelf
structure Lo (N:Nat) (A B:World):Prop where
 os:B.os=A.os
 tape:B.tape=A.tape
 drawn:A.drawn≤B.drawn
 output:B.output=A.output
 size:A.heap.size≤B.heap.size
 block:∀ x,x<N→B.heap[x]?=A.heap[x]?
theorem Lo.put {N:Nat} (W:World) {l:Nat} (o:Obj) (h:N≤l):Lo N W (W.putObj l o) :=
 ⟨rfl,rfl,zU _,rfl,by simp,fun x hx=>World.putObj_heap_other (by omega)⟩
theorem Lo.trans {N:Nat} {A B C:World} (h:Lo N A B) (k:Lo N B C):Lo N A C :=
 ⟨k.os.trans h.os,k.tape.trans h.tape,Nat.le_trans h.drawn k.drawn,k.output.trans h.output,Nat.le_trans h.size k.size,fun x hx=>(k.block x hx).trans (h.block x hx)⟩
theorem Lo.alloc (W:World) (o:Obj):Lo W.heap.size W (W.alloc o) :=
 ⟨rfl,rfl,zU _,rfl,by simp,fun x hx=>Below.heap_alloc _ _ _ hx⟩
theorem TZ {P:Program} {n:Nat} (hn:3≤n) {w:World} {a:Act} {Q:Exit→Act→World→Prop} (hd:a.defers=[]) {g:Operand} {p1 p2 gf Bs b N:Nat} {asg body:Code} {enc:Nat→Value}
  (hg:a.eval g=.func (.func gf) #[] #[.pointer (some ⟨Bs,0,none⟩)]) (eg:∀ args w,(callFunc gf args).run P w=.ok (.enter gf args) w)
  (hBs:Bs<w.heap.size) (hb:b<w.heap.size) (hback:Qbu P gf N enc w Bs b)
  (J Jx:Nat→World→Prop) (hJ:∀ k W W',J k W→Lo w.heap.size W W'→J k W') (hJx:∀ k W W',Jx k W→Lo w.heap.size W W'→Jx k W') (h0:J 0 w) (hKB:∀ k W,J k W→KBx Bs b w W)
  (round:∀ lb n' k W,k<N→J k W→w.heap.size+2≤W.heap.size→asg.wpIn (wf (some lb)) n' P (Exit.then (fun a1 W1=>W.heap.size≤W1.heap.size∧(∀ x,w.heap.size≤x→x<w.heap.size+2→W1.heap[x]?=W.heap[x]?) ∧
   ∀ o,body.wpIn (wf (some lb)) n' P (fun e _ W3=>(W1.heap.size≤W3.heap.size∧∀ x,w.heap.size≤x→x<w.heap.size+2→W3.heap[x]?=(W1.putObj (w.heap.size+1) o).heap[x]?)∧((e=.normal∧J (k+1) W3)∨(e=.ret∧Jx k W3))) a1 (W1.putObj (w.heap.size+1) o)) (fun _ _ _=>False))
   { tmps:=(a.tmps.setIfInBounds p1 (.int .i64 ((N-1-k:Nat):Int))).setIfInBounds p2 (enc (N-1-k)),defers:=[] } W)
  (done:∀ (x:Exit) (W:World),(x=.normal∧J N W)∨(x=.ret∧∃ k,k<N∧Jx k W)→w.heap.size<W.heap.size→W.heap[w.heap.size]?=some (.deferred (some []))→Q x { a with defers:=[W7 w.heap.size] } W) :
  (Code.rangeFunc g #[p1,p2] asg body).wpIn Fence.wide n P Q a w:=by
 refine wpIn_rangeFunc ?_
 intro fn hfn
 obtain ⟨rec,hrec⟩:∃ rec:LoopState→Option Code→Loop,rec=fun s pe=>{ state:=s,pending:=pe,fn,tmps:=a.tmps,params:=#[p1,p2],assign:=asg,body,defers:=w.heap.size }:=⟨_,rfl⟩
 obtain ⟨W1,hW1⟩:∃ W1,(w.alloc (.deferred (some []))).alloc (.loop (rec .ready none))=W1:=⟨_,rfl⟩
 have hs1:W1.heap.size=w.heap.size+2:=by rw [←hW1]; simp
 have hL1:W1.heap[w.heap.size+1]?=some (.loop (rec .ready none)):=by
  rw [←hW1]; have:=World.alloc_heap_new (w.alloc (.deferred (some []))) (.loop (rec .ready none)); rwa [World.size_alloc] at this
 have hK1:W1.heap[w.heap.size]?=some (.deferred (some [])):=by
  rw [←hW1]; exact (Below.heap_alloc _ _ _ (by simp)).trans (World.alloc_heap_new w _)
 have hlow:∀ x,x<w.heap.size→W1.heap[x]?=w.heap[x]?:=fun x hx=>by
  rw [←hW1,Below.heap_alloc _ _ _ (by simp; omega),Below.heap_alloc _ _ _ hx]
 have hlo1:Lo w.heap.size w W1:=by
  rw [←hW1]
  refine (Lo.alloc w _).trans ⟨rfl,rfl,zU _,rfl,by simp,fun x hx=>Below.heap_alloc _ _ _ (by simp; omega)⟩
 refine ⟨w.heap.size+1,[W7 w.heap.size],W1,{ target:=.fn (.func gf) #[.pointer (some ⟨Bs,0,none⟩)],args:=#[.func (.yield (w.heap.size+1)) #[] #[]] },W1,gf,
  #[.func (.yield (w.heap.size+1)) #[] #[]]++#[.pointer (some ⟨Bs,0,none⟩)],W1,?_,?_,?_,?_,fun _=>by omega,?_⟩
 ·rw [←hW1,hrec]; exact run_enterLoop_outer _ _ _ _ _
 ·simp only [resolve,hg]
  simp [go_sem]
 ·intro f' hf'; trivial
 ·simp [invoke,go_sem,eg]
 ·refine (hback (w.heap.size+1) (n-1)
   (fun k W=>J k W∧w.heap.size+2≤W.heap.size∧W.heap[w.heap.size+1]?=some (.loop (rec .ready none))∧W.heap[w.heap.size]?=some (.deferred (some [])))
   (fun k W=>Jx k W∧w.heap.size+2≤W.heap.size∧W.heap[w.heap.size+1]?=some (.loop (rec .done (some .ret)))∧W.heap[w.heap.size]?=some (.deferred (some [])))
   W1 (by omega) (hlow Bs hBs) (hlow b hb) ?_ ⟨hJ 0 w W1 h0 hlo1,by omega,hL1,hK1⟩).mono ?_
  ·rintro k W hk ⟨hj,hsz,hL,hK⟩
   have hy:=run_yield (P:=P) (args:=#[.int .i64 ((N-1-k:Nat):Int),enc (N-1-k)]) hL (by rw [hrec]; rfl)
   rw [hrec] at hy
   refine ⟨fn,_,asg,body,hy,roundIn_of_wpIn hfn ?_⟩
   have etm:∀ v1 v2:Value,(#[p1,p2].zip #[v1,v2]).foldl (fun (tmps:Array Value) (x:Nat × Value)=>tmps.setIfInBounds x.1 x.2) a.tmps=(a.tmps.setIfInBounds p1 v1).setIfInBounds p2 v2:=fun _ _=>by simp
   refine Eq.mpr (congrArg (fun t=>Code.wpIn _ _ P asg _ { tmps:=t,defers:=[] } W) (etm _ _)) ?_
   refine wpIn_mono (round (w.heap.size+1) _ k W hk hj hsz) ?_
   rintro e a1 W2 h
   cases e with
   | normal =>
    obtain ⟨hz2,hk2,hbody⟩:=h
    have hL2:W2.heap[w.heap.size+1]?=some (.loop (rec .ready none)):=(hk2 _ (by omega) (by omega)).trans hL
    have hK2:W2.heap[w.heap.size]?=some (.deferred (some [])):=(hk2 _ (zU _) (by omega)).trans hK
    refine ⟨_,run_beginRound hL2 (by rw [hrec]),?_⟩
    refine wpIn_mono (hbody _) ?_
    rintro e a3 W3 ⟨⟨hz3,hk3⟩,hh⟩
    have hL3:W3.heap[w.heap.size+1]?=some (.loop { rec .ready none with state:=.busy }):=by
     rw [hk3 _ (by omega) (by omega)]; exact World.putObj_heap_same (by omega)
    have hK3:W3.heap[w.heap.size]?=some (.deferred (some [])):=by
     rw [hk3 _ (zU _) (by omega),World.putObj_heap_other (by omega)]; exact hK2
    rcases hh with ⟨rfl,hj3⟩ | ⟨rfl,hx3⟩
    ·have hr:=run_endRound (P:=P) none hL3
     have e:(W3.putObj (w.heap.size+1) (.loop { ({ rec .ready none with state:=.busy }:Loop) with state:=if (none:Option Code).isNone then .ready else .done,pending:=none }))=W3.putObj (w.heap.size+1) (.loop (rec .ready none)):=by rw [hrec]; rfl
     rw [e] at hr
     have hj4:=hJ (k+1) _ _ hj3 (Lo.put W3 (l:=w.heap.size+1) (.loop (rec .ready none)) (by omega))
     have k1:=hKB k W hj
     have k2:=hKB (k+1) _ hj4
     exact ⟨_,_,hr,.inl ⟨rfl,⟨hj4,by simp; omega,World.putObj_heap_same (by omega),by rw [World.putObj_heap_other (by omega)]; exact hK3⟩,⟨k2.1.trans k1.1.symm,k2.2.trans k1.2.symm⟩⟩⟩
    ·have hr:=run_endRound (P:=P) (some .ret) hL3
     have e:(W3.putObj (w.heap.size+1) (.loop { ({ rec .ready none with state:=.busy }:Loop) with state:=if (some Code.ret).isNone then .ready else .done,pending:=some Code.ret }))=W3.putObj (w.heap.size+1) (.loop (rec .done (some .ret))):=by rw [hrec]; rfl
     rw [e] at hr
     exact ⟨_,_,hr,.inr ⟨rfl,hJx k _ _ hx3 (Lo.put W3 (l:=w.heap.size+1) _ (by omega)),by simp; omega,World.putObj_heap_same (by omega),by rw [World.putObj_heap_other (by omega)]; exact hK3⟩⟩
   | ret=>exact h.elim
   | exit id=>exact h.elim
   | goto t=>exact h.elim
   | panic ch=>exact h.elim
   | outgrown=>exact h.elim
  ·rintro e W2 ⟨⟨v',rfl⟩,⟨hj,hsz,hL,hK⟩ | ⟨k,hk,hx,hsz,hL,hK⟩⟩
   ·refine ⟨none,_,by have:=run_endLoop (P:=P) hL (by rw [hrec]; simp); rw [hrec] at this; exact this,?_⟩
    rw [hd]
    exact done .normal _ (.inl ⟨rfl,hJ N _ _ hj (Lo.put W2 (l:=w.heap.size+1) _ (by omega))⟩) (by simp; omega) (by rw [World.putObj_heap_other (by omega)]; exact hK)
   ·refine ⟨some .ret,_,by have:=run_endLoop (P:=P) hL (by rw [hrec]; simp); rw [hrec] at this; exact this,?_⟩
    rw [hd]
    exact wpIn_ret (done .ret _ (.inr ⟨rfl,k,hk,hJx k _ _ hx (Lo.put W2 (l:=w.heap.size+1) _ (by omega))⟩) (by simp; omega) (by rw [World.putObj_heap_other (by omega)]; exact hK))
end Go.Proofs.YtjkpbnbkofnajaaGreat
set_option maxRecDepth 100000
set_option linter.unusedSimpArgs false
set_option linter.unusedVariables false
set_option linter.unusedSectionVars false
namespace Go.Proofs.YtjkpbnbkofnajaaGreat
open Go.RowKit Go.Shelf
theorem Ua (sz:Int):∀ (a b:List Tl),(C1 sz b).2=false→C1 sz (a++b)=(a++(C1 sz b).1,false)
 | [],b,h=>by rw [yB,yB,← h]
 | d :: a,b,h=>by
  rw [zZ,C1,Ua sz a b h]
  rfl
abbrev DO (L:List Int):List (List OT):=L.map fun n=>[OT.int n]
theorem QcD {w:World} {I S:Nat→Prop} {L:List Int} {v:Value} (h:ORep w I S (.ow (DO L)) v) (hL:0<L.length):∃ t b c,v=.slice (some ⟨b,0,none⟩) L.length c∧S b∧b<w.heap.size∧RowR w I (fun x=>x=b) t 1 (DO L) v:=by
 obtain ⟨es,hes⟩:∃ es,es=DO L:=⟨_,rfl⟩
 rw [←hes] at h ⊢
 have hel:es.length=L.length:=by rw [hes]; simp
 cases h with
 | nil=>rw [zO] at hel; omega
 | row _ t sz _ b cap cur Sub hS hb h1 h2 h3 h4 h5 h6 h7 =>
  have hsz:sz=1:=by
   have:=h4 0 (by omega)
   simp only [hes,DO,y7,zP,zO] at this
   omega
  subst hsz
  rw [hel]
  refine ⟨t,b,cap,rfl,hS,(yA.1 hb).1,.inr ⟨b,cap,cur,fun _ _ _=>False,by rw [hel],rfl,hb,h1,h2,h3,h4,fun _ _ _ h=>h.elim,fun _ _ _ _ _ h _=>h.elim,fun i j hi hj=>?_⟩⟩
  have h8:=h7 i j hi hj
  have hi':i<(DO L).length:=by rw [←hes]; exact hi
  have hlj:es[i]=[OT.int (L[i]'(by omega))]:=by simp only [hes,DO,y7]
  have hj0:j=0:=by
   have:=hj
   simp only [hlj,zP,zO] at this
   omega
  subst hj0
  have e:(es[i])[0]=OT.int (L[i]'(by omega)):=by simp only [hlj,List.getElem_cons_zero]
  rw [e] at h8 ⊢
  obtain ⟨u,hu⟩:∃ u,u=cur.getD (i*1+0) undef:=⟨_,rfl⟩
  rw [←hu] at h8 ⊢
  cases h8
  exact .int _ _
theorem ZE {w:World} {I I' S S':Nat→Prop} {t:TypeId} {L:List Int} {b n c:Nat} (h:RowR w I' S' t 1 (DO L) (.slice (some ⟨b,0,none⟩) n c)) (hS:S b):ORep w I S (.ow (DO L)) (.slice (some ⟨b,0,none⟩) n c)∧RowR w I (fun x=>x=b) t 1 (DO L) (.slice (some ⟨b,0,none⟩) n c):=by
 obtain ⟨es,hes⟩:∃ es,es=DO L:=⟨_,rfl⟩
 rw [←hes] at h ⊢
 have hel:es.length=L.length:=by rw [hes]; simp
 rcases h with ⟨_,h⟩ | ⟨b',cap,cur,Sub,e,hs,hb,h1,h2,h3,h4,h5,h6,h7⟩
 ·cases h
 ·injection e with e1 e2 e3
  injection e1 with e1; injection e1 with e1
  subst e1 e2 e3
  have h8:∀ (S2:Nat→Prop) i j (hi:i<es.length) (hj:j<es[i].length),ORep w I S2 (es[i][j]) (cur.getD (i*1+j) undef):=fun S2 i j hi hj=>by
   have h8:=h7 i j hi hj
   have hlj:es[i]=[OT.int (L[i]'(by omega))]:=by simp only [hes,DO,y7]
   have hj0:j=0:=by
    have:=hj
    simp only [hlj,zP,zO] at this
    omega
   subst hj0
   have e:(es[i])[0]=OT.int (L[i]'(by omega)):=by simp only [hlj,List.getElem_cons_zero]
   rw [e] at h8 ⊢
   obtain ⟨u,hu⟩:∃ u,u=cur.getD (i*1+0) undef:=⟨_,rfl⟩
   rw [←hu] at h8 ⊢
   cases h8
   exact .int _ _
  exact ⟨.row S t 1 es b c cur (fun _ _ _=>False) hS hb h1 h2 h3 h4 (fun _ _ _ h=>h.elim) (fun _ _ _ _ _ h _=>h.elim) fun i j hi hj=>h8 _ i j hi hj,
   .inr ⟨b,c,cur,fun _ _ _=>False,rfl,rfl,hb,h1,h2,h3,h4,fun _ _ _ h=>h.elim,fun _ _ _ _ _ h _=>h.elim,fun i j hi hj=>h8 _ i j hi hj⟩⟩
noncomputable def Vu:Code:=ZA (Tryz.f29.body.getD .skip)
noncomputable def Qdd:Code:=match Vu with
 | .block _ (.seq r _)=>r
 | c=>c
theorem XJ:Vu=.block 1 (.seq Qdd (.block 2 (.loop Vt))):=by rfl
def d_av3:SC:=.reg [⟨some 10,none,.faddr 3 (.t 3)⟩,⟨some 11,none,.load false 1 (.t 10)⟩,⟨some 12,none,.len false (.t 11)⟩,⟨some 13,none,.bin .sub false (.t 12) (.c (.int .i64 1))⟩,⟨some 4,none,.mv (.t 13)⟩]
theorem QcE:trC Tryz.prog 39 Qdd=some d_av3:=by kernel_rfl
def LK:List SV:=slots 39 0 [(1,.ptr 0 0),(3,.ptr 1 0)]
theorem QcF (sz:Int) (nm:ByteArray) (ar:Int) (pr:Bool) (T:TypeId) (L:List Int) (hL:L.length≤1048576):go 3 d_av3 ⟨LK,F2 sz nm ar pr T L⟩ (fun x st=>x=.normal∧st.ob=F2 sz nm ar pr T L∧gets st.sl 1=.ptr 0 0∧gets st.sl 3=.ptr 1 0∧gets st.sl 4=.int .i64 ((L.length:Int)-1)):=by
 unfold LK F2
 simp (disch:=omega) only [d_av3,yI,go_sem,Aa]
 first | done | exact ⟨rfl,rfl,rfl,rfl,rfl⟩ | trivial
theorem ZF {lb n:Nat} {sz:Int} (hs1:1≤sz) (hs3:sz≤3) {nm:ByteArray} (hnm:nm.size≤9223372036854775807) {ar:Int} {pr:Bool} {vals:List Int} (hl:vals.length≤1048576) (hv:∀ v∈vals,0≤v∧v≤1000)
  {W:World} {I:Nat→Prop} {p tb b c:Nat} {t:TypeId} {s:Value} {tm:Array Value} (htm:tm.size=39) (htm1:tm.getD 1 undef=.pointer (some ⟨p,0,none⟩)) (htm3:tm.getD 3 undef=.pointer (some ⟨tb,0,none⟩))
  (hP:W.heap[p]?=some (.cells #[.int .i64 sz,s] 26 (0,0))) (hT:W.heap[tb]?=some (.cells #[.string nm,.int .i64 ar,.bool pr,.slice (some ⟨b,0,none⟩) vals.length c] 58 (0,0)))
  (hR:RowR W I (fun x=>x=b) t 1 (DO vals) (.slice (some ⟨b,0,none⟩) vals.length c)) (hI:∀ x,I x→x<W.heap.size) (hIp:¬ I p) (hIt:¬ I tb) (hIb:¬ I b) (hpt:p≠tb) (hpb:p≠b) (htb:tb≠b) (hgl:GL W I) (Q:Exit→Act→World→Prop)
  (hQ:∀ e a' W' s',Fr W (fun x=>x=p∨x=tb∨x=b) W'→W'.heap[p]?=some (.cells #[.int .i64 sz,s'] 26 (0,0))→RowR W' I (fun x=>x=b) t 1 (DO (DZ (if pr=true then 2 else sz) vals).1) (.slice (some ⟨b,0,none⟩) vals.length c) →
   (e=.normal∧(DZ (if pr=true then 2 else sz) vals).2=true)∨(e=.ret∧(DZ (if pr=true then 2 else sz) vals).2=false)→Q e a' W') :
  Vu.wpIn (wf (some lb)) n Tryz.prog Q { tmps:=tm,defers:=[] } W:=by
 obtain ⟨V,hVd⟩:∃ V:Nat→Option Value,V=fun g=>match g with
  | 0=>some (.pointer (some ⟨p,0,none⟩))
  | 1=>some (.pointer (some ⟨tb,0,none⟩))
  | 2=>some (.slice (some ⟨b,0,none⟩) vals.length c)
  | _=>none:=⟨_,rfl⟩
 obtain ⟨B,hBd⟩:∃ B:Nat→Nat→Prop,B=fun g x=>match g with
  | 0=>x=p
  | 1=>x=tb
  | 2=>x=b
  | _=>False:=⟨_,rfl⟩
 have hplt:=(yA.1 hP).1
 have htlt:=(yA.1 hT).1
 have hblt:=hR.block.2
 have hV0:V 0=some (.pointer (some ⟨p,0,none⟩)):=congrFun hVd 0
 have hV1:V 1=some (.pointer (some ⟨tb,0,none⟩)):=congrFun hVd 1
 have hV2:V 2=some (.slice (some ⟨b,0,none⟩) vals.length c):=congrFun hVd 2
 have hV3:∀ g,V (g+3)=none:=fun g=>congrFun hVd (g+3)
 have hB0:∀ x,B 0 x ↔ x=p:=fun x=>iff_of_eq (congrFun (congrFun hBd 0) x)
 have hB1:∀ x,B 1 x ↔ x=tb:=fun x=>iff_of_eq (congrFun (congrFun hBd 1) x)
 have hB2:∀ x,B 2 x ↔ x=b:=fun x=>iff_of_eq (congrFun (congrFun hBd 2) x)
 have hB2':B 2=fun x=>x=b:=congrFun hBd 2
 have hwf:Wf W I V B (Ae (F2 sz nm ar pr t vals)):=by
  refine ⟨hI,fun g hg=>?_,fun g x hg hx=>?_,fun g x hg hx=>?_,fun g g' x hg hg' hx hx'=>?_,fun g hg=>?_,hgl⟩
  ·match g,hg with
   | 0,_=>exact ⟨_,hV0,p,[.int .i64 sz,s],rfl,hB0,hP,by simp only [RepVs,RepV]; exact ⟨_,_,rfl,rfl,_,_,rfl,trivial,rfl⟩⟩
   | 1,_=>exact ⟨_,hV1,tb,[.string nm,.int .i64 ar,.bool pr,.slice (some ⟨b,0,none⟩) vals.length c],rfl,hB1,hT,by simp only [RepVs,RepV]; exact ⟨_,_,rfl,⟨rfl,hnm⟩,_,_,rfl,rfl,_,_,rfl,rfl,_,_,rfl,⟨hV2,rfl⟩,rfl⟩⟩
   | 2,_=>exact ⟨_,hV2,by rw [hB2']; exact hR⟩
   | g+3,h=>exact h.elim
  ·match g,hg,hx with
   | 0,_,hx=>rw [(hB0 x).1 hx]; exact hplt
   | 1,_,hx=>rw [(hB1 x).1 hx]; exact htlt
   | 2,_,hx=>rw [(hB2 x).1 hx]; exact hblt
   | g+3,h,_=>exact h.elim
  ·match g,hg,hx with
   | 0,_,hx=>rw [(hB0 x).1 hx]; exact hIp
   | 1,_,hx=>rw [(hB1 x).1 hx]; exact hIt
   | 2,_,hx=>rw [(hB2 x).1 hx]; exact hIb
   | g+3,h,_=>exact h.elim
  ·match g,g',hg,hg',hx,hx' with
   | 0,0,_,_,_,_=>rfl
   | 1,1,_,_,_,_=>rfl
   | 2,2,_,_,_,_=>rfl
   | 0,1,_,_,hx,hx'=>exact absurd (((hB0 x).1 hx).symm.trans ((hB1 x).1 hx')) hpt
   | 1,0,_,_,hx,hx'=>exact absurd (((hB0 x).1 hx').symm.trans ((hB1 x).1 hx)) hpt
   | 0,2,_,_,hx,hx'=>exact absurd (((hB0 x).1 hx).symm.trans ((hB2 x).1 hx')) hpb
   | 2,0,_,_,hx,hx'=>exact absurd (((hB0 x).1 hx').symm.trans ((hB2 x).1 hx)) hpb
   | 1,2,_,_,hx,hx'=>exact absurd (((hB1 x).1 hx).symm.trans ((hB2 x).1 hx')) htb
   | 2,1,_,_,hx,hx'=>exact absurd (((hB1 x).1 hx').symm.trans ((hB2 x).1 hx)) htb
   | g+3,_,h,_,_,_=>exact h.elim
   | _,g+3,_,h,_,_=>exact h.elim
  ·match g,hg with
   | 0,h=>cases h
   | 1,h=>cases h
   | 2,h=>cases h
   | g+3,_=>exact hV3 g
 have hA:At 39 W I V B ⟨LK,F2 sz nm ar pr t vals⟩ tm:=by
  refine ⟨hwf,rfl,htm,fun i=>?_⟩
  show RepV W I V (gets LK i) (tm.getD i undef)
  by_cases e1:i=1
  ·subst e1
   rw [show gets LK 1=.ptr 0 0 from rfl,htm1]
   simp only [RepV]
   exact ⟨p,hV0,rfl⟩
  ·by_cases e3:i=3
   ·subst e3
    rw [show gets LK 3=.ptr 1 0 from rfl,htm3]
    simp only [RepV]
    exact ⟨tb,hV1,rfl⟩
   ·have:gets LK i=.any:=by
     by_cases e4:i=4
     ·subst e4; rfl
     ·have h2:gets (Lc LK 4 (.int .i64 0)) i=gets LK i:=by rw [Mi _ _ _ _ (by decide),if_neg (fun h=>e4 h.symm)]
      rw [←h2]
      exact TY 0 i e1 e3 e4
    rw [this]; simp only [RepV]
 have fin:∀ e a' W' I' V' B',FunPost W I V B (F2 sz nm ar pr t vals) (F2 sz nm ar pr t (DZ (if pr=true then 2 else sz) vals).1) W' I' V' B' →
   (e=.normal∧(DZ (if pr=true then 2 else sz) vals).2=true)∨(e=.ret∧(DZ (if pr=true then 2 else sz) vals).2=false)→Q e a' W':=fun e a' W' I' V' B' hp he=>by
  obtain ⟨v0,hv0,h0⟩:=hp.wf.obj 0 trivial
  rw [hp.v 0 _ hV0] at hv0
  obtain rfl:=zK hv0
  obtain ⟨p',vs,e0,_,hp0,hvs⟩:=(h0:ObR W' I' V' (B' 0) _ (.box 26 [.int .i64 sz,.any]))
  injection e0 with e0; injection e0 with e0; injection e0 with e0
  subst e0
  simp only [RepVs,RepV] at hvs
  obtain ⟨_,_,rfl,rfl,s',_,rfl,_,rfl⟩:=hvs
  obtain ⟨v2,hv2,h2⟩:=hp.wf.obj 2 trivial
  rw [hp.v 2 _ hV2] at hv2
  obtain rfl:=zK hv2
  have h2:RowR W' I' (B' 2) t 1 (DO (DZ (if pr=true then 2 else sz) vals).1) (.slice (some ⟨b,0,none⟩) vals.length c):=h2
  refine hQ e a' W' s' ⟨hp.fr.os,hp.fr.tape,hp.fr.output,hp.fr.size,fun x hx hn=>hp.fr.block x hx fun ⟨g,hg,hgx⟩=>hn ?_⟩ hp0 (ZE (S:=fun _=>True) h2 trivial).2 he
  match g,hg,hgx with
  | 0,_,h=>exact .inl ((hB0 x).1 h)
  | 1,_,h=>exact .inr (.inl ((hB1 x).1 h))
  | 2,_,h=>exact .inr (.inr ((hB2 x).1 h))
  | g+3,h,_=>exact h.elim
 rw [XJ]
 refine wpIn_block (wpIn_seq ?_)
 refine leg (ro:=some lb) Ot hA QcE (by rfl) (fun k hnt hkm=>Z9 (by rfl) (by rw [hkm]; exact QcF sz nm ar pr t vals hl)) ?_
 rintro x st2 a2 w2 I2 V2 B2 ⟨rfl,hob,g1,g3,g4⟩ hd2 hA2 hP2
 obtain ⟨sl2,ob2⟩:=st2
 simp only at hob g1 g3 g4
 subst hob
 refine wpIn_block ?_
 refine Qbx hs1 hs3 hl hv (Qdc hA2 g1 g3 g4) hd2 _ (fun hi a' w' I' V' B' hp=>?_) (fun hi a' w' I' V' B' hp=>?_)
 ·exact fin .normal a' w' I' V' B' (hP2.trans hp) (.inl ⟨rfl,hi⟩)
 ·exact fin .ret a' w' I' V' B' (hP2.trans hp) (.inr ⟨rfl,hi⟩)
end Go.Proofs.YtjkpbnbkofnajaaGreat
