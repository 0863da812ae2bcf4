/-
  Texts of this claim, one behind the other, each built on those ahead of it. No condition.
-/
import Derived.Test.YtlglakdefklhoaaGreatDoorK40b
import Derived.Test.YtlglakdefklhoaaGreatDoorK40c
import Derived.ProofKit
import Derived.Deep.Slices
import Derived.Deep.Fields
import Derived.ChangeSame
import Derived.OpenShut
import Derived.ShutString
import Derived.ChangeOld
set_option maxHeartbeats 16000000
open List renaming length_replicate → zD, replicate → zE, map_cons → zF, map_nil → zH, drop_eq_getElem_cons → zI, drop_eq_nil_of_le → zM, getElem_mem → zN, map_append → zO, take_succ_eq_append_getElem → zP, getElem?_eq_getElem → zQ, drop_zero → zT, range → zW, length_map → zY, cons_append → zZ, length_take → z6, take_length → z7, map_map → yA
open ByteArray renaming size_append → zG, size_extract → zK
open Nat renaming eq_zero_or_pos → zJ, lt_or_ge → zL, zero_le → zS
open Int renaming toNat_zero → zR, toNat_one → zX
open List.cons renaming injEq → zV
open Bool renaming and_eq_true → z8
set_option maxRecDepth 100000
set_option linter.unusedSimpArgs false
set_option linter.unusedVariables false
set_option linter.unusedSectionVars false
namespace Go.Proofs.YtlglakdefklhoaaGreatDoor
open Go.RowKit
def FD:SC:=(.seq (.reg [⟨(some 4),none,(.alloc 26 [(.str ⟨#[]⟩),.nil])⟩]) (.seq (.reg [⟨some 6,none,.mv (.t 0)⟩,⟨(some 7),none,(.mkrow 9 1 [(.str ⟨#[]⟩)] 2 [(0,(.c (.str ⟨#[88]⟩))),(1,(.c (.str ⟨#[97]⟩)))])⟩,⟨some 8,none,.call 88 [(.t 6),(.t 7)]⟩,⟨(some 9),none,(.build [(.str ⟨#[]⟩),.nil] [(0,(1,(.t 8)))])⟩,⟨(some 5),none,(.alloc 26 [(.str ⟨#[]⟩),.nil])⟩,⟨none,none,(.store 2 (.t 5) (.t 9))⟩]) (.seq (.block 0 (.loop [0,1,0,0,1,1,0,0,0,0,0,0,0,0,0,0,0,0] (.seq (.seq (.reg [⟨some 10,none,.mv (.t 1)⟩,⟨some 11,none,.bin .gtr false (.t 10) (.c (.int .i64 1))⟩]) (.cond (.t 11) .skip (.exit 0))) (.seq (.block 1 (.reg [⟨some 14,none,.load true 2 (.t 5)⟩,⟨(some 15),none,(.mkrow 26 2 [(.str ⟨#[]⟩),.nil] 1 [(0,(.t 14))])⟩,⟨(some 16),none,(.build [(.str ⟨#[]⟩),.nil] [(0,(1,(.c (.str ⟨#[102]⟩)))),(1,(1,(.t 15)))])⟩,⟨none,none,(.store 2 (.t 5) (.t 16))⟩])) (.reg [⟨some 12,none,.mv (.t 1)⟩,⟨some 13,none,.bin .sub false (.t 12) (.c (.int .i64 1))⟩,⟨some 1,none,.mv (.t 13)⟩]))))) (.seq (.reg [⟨some 17,none,.load true 2 (.t 5)⟩,⟨none,none,(.store 2 (.t 4) (.t 17))⟩]) .ret))))
theorem IH:Ar Tryz.prog 89=some ⟨18,FD,[(.cell 4 true 2)]⟩:=by kernel_rfl
theorem Bm:modes 89=⟨[],.half [none,some (26,2)],none,false⟩:=by unfold modes; rfl
def FU:SC:=(.seq (.reg [⟨(some 2),none,(.alloc 26 [(.str ⟨#[]⟩),.nil])⟩]) (.seq (.reg [⟨(some 7),none,(.build [(.str ⟨#[]⟩),.nil] [(0,(1,(.c (.str ⟨#[103]⟩))))])⟩,⟨(some 3),none,(.alloc 26 [(.str ⟨#[]⟩),.nil])⟩,⟨none,none,(.store 2 (.t 3) (.t 7))⟩]) (.seq (.seq (.reg [⟨some 4,none,.mv (.c (.int .i64 0))⟩]) (.block 0 (.loop [1,0,1,1,1,0,0,0,0,0,0,0,0,0,0,0,0,0,0,0,0,0,0,0,0,0,0,0,0,0,0,0,0,0,0,0,0,0,0,0,0,0,0,0,0,0,0,0,0,0,0,0,0,0] (.seq (.seq (.reg [⟨some 8,none,.mv (.t 4)⟩,⟨some 9,none,.bin .lss false (.t 8) (.c (.int .i64 4))⟩]) (.cond (.t 9) .skip (.exit 0))) (.seq (.block 1 (.seq (.reg [⟨(some 12),none,(.build [(.str ⟨#[]⟩),.nil] [(0,(1,(.c (.str ⟨#[104]⟩))))])⟩,⟨(some 5),none,(.alloc 26 [(.str ⟨#[]⟩),.nil])⟩,⟨none,none,(.store 2 (.t 5) (.t 12))⟩]) (.seq (.seq (.reg [⟨some 6,none,.mv (.c (.int .i64 0))⟩]) (.block 2 (.loop [1,0,1,1,1,1,1,0,0,0,0,0,0,0,0,0,0,0,0,0,0,0,0,0,0,0,0,0,0,0,0,0,0,0,0,0,0,0,0,0,0,0,0,0,0,0,0,0,0,0,0,0,0,0] (.seq (.seq (.reg [⟨some 13,none,.mv (.t 6)⟩,⟨some 14,none,.bin .lss false (.t 13) (.c (.int .i64 4))⟩]) (.cond (.t 14) .skip (.exit 2))) (.seq (.block 3 (.reg [⟨some 17,none,.faddr 1 (.t 5)⟩,⟨some 18,none,.load false 1 (.t 17)⟩,⟨(some 19),none,(.build [(.str ⟨#[]⟩),.nil] [(0,(1,(.c (.str ⟨#[97]⟩))))])⟩,⟨(some 20),none,(.mkrow 26 2 [(.str ⟨#[]⟩),.nil] 1 [(0,(.t 19))])⟩,⟨(some 21),none,(.build [(.str ⟨#[]⟩),.nil] [(0,(1,(.c (.str ⟨#[102]⟩)))),(1,(1,(.t 20)))])⟩,⟨(some 22),none,(.mkrow 26 2 [(.str ⟨#[]⟩),.nil] 1 [(0,(.t 21))])⟩,⟨(some 23),none,(.append 26 2 40 [(.str ⟨#[]⟩),.nil] (.t 18) (.t 22))⟩,⟨some 24,none,.faddr 1 (.t 5)⟩,⟨none,none,(.store 1 (.t 24) (.t 23))⟩])) (.reg [⟨some 15,none,.mv (.t 6)⟩,⟨some 16,none,.bin .add false (.t 15) (.c (.int .i64 1))⟩,⟨some 6,none,.mv (.t 16)⟩])))))) (.reg [⟨some 25,none,.faddr 1 (.t 3)⟩,⟨some 26,none,.load false 1 (.t 25)⟩,⟨some 27,none,.load true 2 (.t 5)⟩,⟨(some 28),none,(.mkrow 26 2 [(.str ⟨#[]⟩),.nil] 1 [(0,(.t 27))])⟩,⟨(some 29),none,(.append 26 2 40 [(.str ⟨#[]⟩),.nil] (.t 26) (.t 28))⟩,⟨some 30,none,.faddr 1 (.t 3)⟩,⟨none,none,(.store 1 (.t 30) (.t 29))⟩])))) (.reg [⟨some 10,none,.mv (.t 4)⟩,⟨some 11,none,.bin .add false (.t 10) (.c (.int .i64 1))⟩,⟨some 4,none,.mv (.t 11)⟩])))))) (.seq (.seq (.reg [⟨some 31,none,.mv (.t 0)⟩,⟨some 32,none,.call 37 [(.t 31),(.c (.int .i64 2))]⟩]) (.cond (.t 32) (.reg [⟨some 33,none,.faddr 1 (.t 3)⟩,⟨some 34,none,.load false 1 (.t 33)⟩,⟨some 35,none,.slice false 2 (.t 34) none (some (.c (.int .i64 3)))⟩,⟨some 36,none,.faddr 1 (.t 3)⟩,⟨none,none,(.store 1 (.t 36) (.t 35))⟩]) .skip)) (.seq (.seq (.reg [⟨some 37,none,.mv (.t 0)⟩,⟨some 38,none,.call 37 [(.t 37),(.c (.int .i64 2))]⟩,⟨some 39,none,.mv (.t 38)⟩,⟨(some 40),(some (39,true)),(.faddr 1 (.t 3))⟩,⟨(some 41),(some (39,true)),(.load false 1 (.t 40))⟩,⟨(some 42),(some (39,true)),(.len false (.t 41))⟩,⟨(some 43),(some (39,true)),(.bin .eql false (.t 42) (.c (.int .i64 3)))⟩,⟨some 44,none,.pick (.t 39) (.t 43) (.c (.bool false))⟩]) (.cond (.t 44) (.reg [⟨some 45,none,.faddr 1 (.t 3)⟩,⟨some 46,none,.load false 1 (.t 45)⟩,⟨(some 47),none,(.build [(.str ⟨#[]⟩),.nil] [(0,(1,(.c (.str ⟨#[98]⟩))))])⟩,⟨(some 48),none,(.mkrow 26 2 [(.str ⟨#[]⟩),.nil] 1 [(0,(.t 47))])⟩,⟨(some 49),none,(.build [(.str ⟨#[]⟩),.nil] [(0,(1,(.c (.str ⟨#[102]⟩)))),(1,(1,(.t 48)))])⟩,⟨(some 50),none,(.mkrow 26 2 [(.str ⟨#[]⟩),.nil] 1 [(0,(.t 49))])⟩,⟨(some 51),none,(.append 26 2 40 [(.str ⟨#[]⟩),.nil] (.t 46) (.t 50))⟩,⟨some 52,none,.faddr 1 (.t 3)⟩,⟨none,none,(.store 1 (.t 52) (.t 51))⟩]) .skip)) (.seq (.reg [⟨some 53,none,.load true 2 (.t 3)⟩,⟨none,none,(.store 2 (.t 2) (.t 53))⟩]) .ret))))))
theorem Js:Ar Tryz.prog 90=some ⟨54,FU,[(.cell 2 true 2)]⟩:=by kernel_rfl
theorem Bs:modes 90=⟨[],.half [none,some (26,2)],none,false⟩:=by unfold modes; rfl
def Bg:SC:=(.seq (.reg [⟨(some 2),none,(.alloc 26 [(.str ⟨#[]⟩),.nil])⟩]) (.seq (.reg [⟨some 4,none,.mv (.t 0)⟩,⟨some 5,none,.call 57 [(.t 4)]⟩,⟨(some 3),none,(.alloc 26 [(.str ⟨#[]⟩),.nil])⟩,⟨none,none,(.store 2 (.t 3) (.t 5))⟩]) (.seq (.seq (.reg [⟨some 6,none,.mv (.t 0)⟩,⟨some 7,none,.call 36 [(.t 6),(.c (.int .i64 24))]⟩]) (.block 0 (.seq (.reg [⟨some 9,none,.bin .eql false (.t 7) (.c (.int .i64 0))⟩,⟨some 8,none,.mv (.t 9)⟩]) (.cond (.t 8) (.reg [⟨some 10,none,.mv (.t 0)⟩,⟨(some 11),none,(.mkrow 9 1 [(.str ⟨#[]⟩)] 14 [(0,(.c (.str ⟨#[]⟩))),(1,(.c (.str ⟨#[116,114,117,101]⟩))),(2,(.c (.str ⟨#[116,114,117,116,104]⟩))),(3,(.c (.str ⟨#[105,102]⟩))),(4,(.c (.str ⟨#[88,121,122,57]⟩))),(5,(.c (.str ⟨#[88,121,122,57,57]⟩))),(6,(.c (.str ⟨#[120,65]⟩))),(7,(.c (.str ⟨#[97,95,98]⟩))),(8,(.c (.str ⟨#[97,98,99,100,101,102]⟩))),(9,(.c (.str ⟨#[97,98,99,100,101,102,103]⟩))),(10,(.c (.str ⟨#[95,97]⟩))),(11,(.c (.str ⟨#[57]⟩))),(12,(.c (.str ⟨#[88,95]⟩))),(13,(.c (.str ⟨#[61]⟩)))])⟩,⟨some 12,none,.call 88 [(.t 10),(.t 11)]⟩,⟨some 13,none,.faddr 0 (.t 3)⟩,⟨none,none,(.store 1 (.t 13) (.t 12))⟩]) (.seq (.reg [⟨some 15,none,.bin .eql false (.t 7) (.c (.int .i64 1))⟩,⟨some 14,none,.mv (.t 15)⟩]) (.cond (.t 14) (.seq (.reg [⟨some 16,none,.mv (.t 0)⟩,⟨some 17,none,.mv (.t 0)⟩,⟨some 18,none,.call 36 [(.t 17),(.c (.int .i64 3))]⟩,⟨some 19,none,.bin .add false (.c (.int .i64 7)) (.t 18)⟩,⟨some 20,none,.call 89 [(.t 16),(.t 19)]⟩,⟨none,none,(.store 2 (.t 2) (.t 20))⟩]) .ret) (.seq (.reg [⟨some 22,none,.bin .eql false (.t 7) (.c (.int .i64 2))⟩,⟨some 21,none,.mv (.t 22)⟩]) (.cond (.t 21) (.seq (.reg [⟨some 23,none,.mv (.t 0)⟩,⟨some 24,none,.call 90 [(.t 23)]⟩,⟨none,none,(.store 2 (.t 2) (.t 24))⟩]) .ret) (.seq (.reg [⟨some 26,none,.bin .eql false (.t 7) (.c (.int .i64 3))⟩,⟨some 25,none,.mv (.t 26)⟩]) (.cond (.t 25) (.dreg [[],[0],[],[2],[],[4,3,2],[],[6,5,4,3,2],[3,2,5,4,7,6],[1,0,8,3,2,5,4,7,6],[0,1,2,3,4,5,6,7,8,9],[10,0,1,2,3,4,5,6,7,8,9]] [⟨some 27,none,.faddr 1 (.t 3)⟩,⟨some 28,none,.load false 1 (.t 27)⟩,⟨some 29,none,.mv (.t 0)⟩,⟨some 30,none,.call 57 [(.t 29)]⟩,⟨some 31,none,.mv (.t 0)⟩,⟨some 32,none,.call 57 [(.t 31)]⟩,⟨some 33,none,.mv (.t 0)⟩,⟨some 34,none,.call 57 [(.t 33)]⟩,⟨(some 35),none,(.mkrow 26 2 [(.str ⟨#[]⟩),.nil] 3 [(0,(.t 30)),(1,(.t 32)),(2,(.t 34))])⟩,⟨(some 36),none,(.append 26 2 40 [(.str ⟨#[]⟩),.nil] (.t 28) (.t 35))⟩,⟨some 37,none,.faddr 1 (.t 3)⟩,⟨none,none,(.store 1 (.t 37) (.t 36))⟩]) (.seq (.reg [⟨some 39,none,.bin .eql false (.t 7) (.c (.int .i64 4))⟩,⟨some 38,none,.mv (.t 39)⟩]) (.cond (.t 38) (.seq (.reg [⟨some 40,none,.faddr 1 (.t 3)⟩,⟨some 41,none,.load false 1 (.t 40)⟩,⟨some 42,none,.len false (.t 41)⟩,⟨some 43,none,.bin .gtr false (.t 42) (.c (.int .i64 0))⟩]) (.cond (.t 43) (.dreg [[],[0],[],[],[2,3],[],[5],[6,5],[7,6,5],[8,7,6,5],[4,2,3,9,8,7,6,5],[1,0,2,3,4,5,6,7,8,9,10],[11,1,0,2,3,4,5,6,7,8,9,10]] [⟨some 44,none,.faddr 1 (.t 3)⟩,⟨some 45,none,.load false 1 (.t 44)⟩,⟨some 46,none,.mv (.t 0)⟩,⟨(some 47),none,(.mkrow 9 1 [(.str ⟨#[]⟩)] 4 [(0,(.c (.str ⟨#[61]⟩))),(1,(.c (.str ⟨#[]⟩))),(2,(.c (.str ⟨#[81,49]⟩))),(3,(.c (.str ⟨#[98,50]⟩)))])⟩,⟨some 48,none,.call 88 [(.t 46),(.t 47)]⟩,⟨some 49,none,.faddr 1 (.t 3)⟩,⟨some 50,none,.load false 1 (.t 49)⟩,⟨some 51,none,.iaddr 2 (.t 50) (.c (.int .i64 0))⟩,⟨some 52,none,.faddr 1 (.t 51)⟩,⟨some 53,none,.load false 1 (.t 52)⟩,⟨(some 54),none,(.build [(.str ⟨#[]⟩),.nil] [(0,(1,(.t 48))),(1,(1,(.t 53)))])⟩,⟨some 55,none,.iaddr 2 (.t 45) (.c (.int .i64 0))⟩,⟨none,none,(.store 2 (.t 55) (.t 54))⟩]) .skip)) .skip)))))))))))) (.seq (.reg [⟨some 56,none,.load true 2 (.t 3)⟩,⟨none,none,(.store 2 (.t 2) (.t 56))⟩]) .ret))))
theorem Bo:Ar Tryz.prog 56=some ⟨57,Bg,[(.cell 2 true 2)]⟩:=by kernel_rfl
theorem A8:modes 56=⟨[],.half [none,some (26,2)],none,false⟩:=by unfold modes; rfl
def BU:SC:=(.seq (.reg [⟨(some 2),none,(.alloc 26 [(.str ⟨#[]⟩),.nil])⟩]) (.seq (.seq (.reg [⟨some 4,none,.mv (.t 0)⟩,⟨some 5,none,.call 37 [(.t 4),(.c (.int .i64 3))]⟩]) (.cond (.t 5) (.seq (.reg [⟨some 6,none,.mv (.t 0)⟩,⟨some 7,none,.call 68 [(.t 6)]⟩,⟨(some 3),none,(.alloc 26 [(.str ⟨#[]⟩),.nil])⟩,⟨none,none,(.store 2 (.t 3) (.t 7))⟩]) (.seq (.seq (.reg [⟨some 8,none,.mv (.t 0)⟩,⟨some 9,none,.call 37 [(.t 8),(.c (.int .i64 12))]⟩]) (.cond (.t 9) (.dreg [[],[0],[],[2],[3,2],[1,0,4,3,2],[0,1,2,3,4,5],[6,0,1,2,3,4,5]] [⟨some 10,none,.faddr 1 (.t 3)⟩,⟨some 11,none,.load false 1 (.t 10)⟩,⟨some 12,none,.mv (.t 0)⟩,⟨some 13,none,.call 57 [(.t 12)]⟩,⟨(some 14),none,(.mkrow 26 2 [(.str ⟨#[]⟩),.nil] 1 [(0,(.t 13))])⟩,⟨(some 15),none,(.append 26 2 40 [(.str ⟨#[]⟩),.nil] (.t 11) (.t 14))⟩,⟨some 16,none,.faddr 1 (.t 3)⟩,⟨none,none,(.store 1 (.t 16) (.t 15))⟩]) .skip)) (.seq (.reg [⟨some 17,none,.load true 2 (.t 3)⟩,⟨none,none,(.store 2 (.t 2) (.t 17))⟩]) .ret))) .skip)) (.seq (.reg [⟨some 18,none,.mv (.t 0)⟩,⟨some 19,none,.call 56 [(.t 18)]⟩,⟨none,none,(.store 2 (.t 2) (.t 19))⟩]) .ret)))
theorem C9:Ar Tryz.prog 43=some ⟨20,BU,[(.cell 2 true 2)]⟩:=by kernel_rfl
theorem B6:modes 43=⟨[],.half [none,some (26,2)],none,false⟩:=by unfold modes; rfl
def twr (x:ByteArray):Nat→Tm
 | 0=>.mk x []
 | k+1=>.mk ⟨#[102]⟩ [twr x k]
theorem Nb (x:ByteArray):∀ k,(twr x k).nodes=k+1
 | 0=>by rw [twr,Tm.An]; rfl
 | k+1=>by
  have:(twr x (k+1)).nodes=1+((twr x k).nodes+0):=by rw [twr,Tm.An]; rfl
  rw [this,Nb x k]; omega
theorem UD (x:ByteArray):[[OT.str x,OT.ow []]]=[Tm.mk x []].map Tm.o:=by rw [zF,zH,Tm.H4]; rfl
theorem Wc (x:ByteArray) (l:List Tm):[[OT.str x,OT.ow (l.map Tm.o)]]=[Tm.mk x l].map Tm.o:=by rw [zF,zH,Tm.H4]; rfl
theorem Tm.Uv (x:Tm):OT.IZ x.o=x.osh:=by
 have:=Tm.PI [x]
 simp only [zF,zH,OT.Cw,zV,and_true] at this
 exact this
theorem Tm.Uw (x:Tm):OT.Ej x.o=true:=by
 have:=Tm.fus [x]
 simp only [zF,zH,OT.AP,Bool.and_true] at this
 exact this
theorem Tm.ES (x:Tm):x.o.length=2:=by rw [Tm.H4]; rfl
abbrev tZ:Ob:=.box 26 [.str ⟨#[]⟩,.nil]
theorem Ux (l:List Int) (hl:Bytes l) (hn:l.length≤1099511627776) (m:Int) (hm:1≤m) (hm2:m≤100) (p s:Int) (h0:0≤p) (h1:p≤1099000000000):∃ t p' s',E 89 [.ptr 0 0,.int .i64 m] [cur l p s]=some (tmH t 1,[cur l p' s',Id t])∧(p≤p'∧p'≤p+1)∧t.nodes≤150:=by
 obtain ⟨Q,hQ⟩:∃ Q:SV × List Ob→Prop,Q=fun out=>∃ t p' s',out=(tmH t 1,[cur l p' s',Id t])∧(p≤p'∧p'≤p+1)∧t.nodes≤150:=⟨_,rfl⟩
 suffices hq0:∃ out,E 89 [.ptr 0 0,.int .i64 m] [cur l p s]=some out∧Q out by
  obtain ⟨out,hq1,hq2⟩:=hq0
  rw [hQ] at hq2
  obtain ⟨t,p',s',rfl,hq3⟩:=hq2
  exact ⟨t,p',s',hq1,hq3⟩
 obtain ⟨x,p1,s1,ho,_,g1,g2⟩:=Uu l hl hn [⟨#[88]⟩,⟨#[97]⟩] (by decide) (by decide) p s h0 (by omega)
 simp only [zF,zH] at ho
 refine AL IH Bm (of_decide_eq_true rfl) ?_
 simp (disch:=omega) only [FD,go_sem,Aa,ho,AS]
 refine go_loop (α:=Nat) (fun k=>⟨slots 18 0 [(1,.int .i64 (m-(k:Nat))),(4,.ptr 1 0),(5,.ptr 2 0)],(if k=0 then [cur l p1 s1,tZ,.box 26 [.str x,.nil]] else [cur l p1 s1,tZ,.box 26 [.str ⟨#[102]⟩,.ref 3],.row 26 2 ([twr x (k-1)].map Tm.o)])⟩) (fun k=>(k:Int)≤m-1) (fun k=>(m-k).toNat) 0 (by omega) (by simp (disch:=omega) only [go_sem,Aa,eq_self,if_true,Int.natCast_zero,Int.sub_zero]) ?_
 intro k hk
 by_cases hlt:1<m-(k:Int)
 ·have q1:(1<m-(k:Int))=True:=eq_true hlt
  have hi:dec (inK .i64 (m-(k:Int)-1))=true:=Fa (by omega) (by omega)
  have q4:m-(k:Int)-1=m-((k+1:Nat):Int):=by omega
  have q5:(k+1=0)=False:=by simp
  have q6:k+1-1=k:=by omega
  rcases zJ k with hk0 | hk0
  ·subst hk0
   have hs:=UD x
   have q7:m-((0:Nat):Int)-1=m-((0+1:Nat):Int):=by omega
   simp (disch:=omega) only [go_sem,Aa,q1,hi,eq_self,if_true]
   refine ⟨0+1,by omega,by omega,?_⟩
   simp (disch:=omega) only [go_sem,Aa,q5,if_false,q7]
   first | rfl | (rw [hs]; rfl)
  ·obtain ⟨j,rfl⟩:∃ j,k=j+1:=⟨k-1,by omega⟩
   have hs:=Wc ⟨#[102]⟩ [twr x j]
   have q8:(j+1=0)=False:=by simp
   have q9:j+1-1=j:=by omega
   simp (disch:=omega) only [go_sem,Aa,q1,hi,q8,q9,if_false]
   refine ⟨j+1+1,by omega,by omega,?_⟩
   simp (disch:=omega) only [go_sem,Aa,q5,q6,if_false,q4]
   first | rfl | (rw [hs]; rfl)
 ·have q1:(1<m-(k:Int))=False:=eq_false hlt
  have hnd:=Nb x k
  rcases zJ k with hk0 | hk0
  ·subst hk0
   simp (disch:=omega) only [go_sem,Aa,q1,eq_self,if_true]
   rw [hQ]
   exact ⟨twr x 0,p1,s1,rfl,by omega,by omega⟩
  ·obtain ⟨j,rfl⟩:∃ j,k=j+1:=⟨k-1,by omega⟩
   have q8:(j+1=0)=False:=by simp
   have q9:j+1-1=j:=by omega
   have hh:=Tm.Uv (twr x j)
   have hf:=Tm.Uw (twr x j)
   simp (disch:=omega) only [go_sem,Aa,q1,q8,q9,if_false,hh,hf]
   rw [hQ]
   exact ⟨twr x (j+1),p1,s1,rfl,by omega,by omega⟩
def wdF:Tm:=.mk ⟨#[102]⟩ [.mk ⟨#[97]⟩ []]
def wdP:Tm:=.mk ⟨#[104]⟩ (zE 4 wdF)
theorem ET:[OT.str ⟨#[102]⟩,OT.ow [[OT.str ⟨#[97]⟩,OT.ow []]]]=wdF.o:=by
 rw [wdF,Tm.H4]
 show _=[OT.str ⟨#[102]⟩,OT.ow ([Tm.mk ⟨#[97]⟩ []].map Tm.o)]
 rw [←UD]
theorem EU:[OT.str ⟨#[104]⟩,OT.ow [wdF.o,wdF.o,wdF.o,wdF.o]]=wdP.o:=by rw [wdP,Tm.H4]; rfl
theorem LJ {α β:Type} (f:α→β) (x:α) (n:Nat):(zE n x).map f++[f x]=(zE (n+1) x).map f:=by
 rw [List.replicate_succ',zO]; rfl
theorem Rg:wdF.nodes=2:=by rw [wdF,Tm.An]; show 1+((Tm.mk _ []).nodes+0)=2; rw [Tm.An]; rfl
theorem JK:wdP.nodes=9:=by
 rw [wdP,Tm.An]
 show 1+(wdF.nodes+(wdF.nodes+(wdF.nodes+(wdF.nodes+0))))=9
 rw [Rg]
theorem VB (l:List Int) (hl:Bytes l) (hn:l.length≤1099511627776) (p s:Int) (h0:0≤p) (h1:p≤1099000000000):∃ t p' s',E 90 [.ptr 0 0] [cur l p s]=some (tmH t 1,[cur l p' s',Id t])∧(p≤p'∧p'≤p+2)∧t.nodes≤150:=by
 obtain ⟨Q,hQ⟩:∃ Q:SV × List Ob→Prop,Q=fun out=>∃ t p' s',out=(tmH t 1,[cur l p' s',Id t])∧(p≤p'∧p'≤p+2)∧t.nodes≤150:=⟨_,rfl⟩
 suffices hq0:∃ out,E 90 [.ptr 0 0] [cur l p s]=some out∧Q out by
  obtain ⟨out,hq1,hq2⟩:=hq0
  rw [hQ] at hq2
  obtain ⟨t,p',s',rfl,hq3⟩:=hq2
  exact ⟨t,p',s',hq1,hq3⟩
 have h10:((1:Int)=0)=False:=by simp
 refine AL Js Bs (of_decide_eq_true rfl) ?_
 simp (disch:=omega) only [FU,go_sem,Aa]
 refine go_loop (α:=Int) (fun i=>⟨slots 54 0 [(0,.ptr 0 0),(2,.ptr 1 0),(3,.ptr 2 0),(4,.int .i64 i)],(if i=0 then [cur l p s,tZ,.box 26 [.str ⟨#[103]⟩,.nil]] else [cur l p s,tZ,.box 26 [.str ⟨#[103]⟩,.ref 3],.row 26 2 ((zE i.toNat wdP).map Tm.o)])⟩) (fun i=>∃ k:Nat,i=k∧k≤4) (fun i=>(4-i).toNat) 0 ⟨0,rfl,by omega⟩ (by simp (disch:=omega) only [go_sem,Aa,eq_self,if_true]) ?_
 rintro i ⟨k,hi,hk⟩
 have hni:i.toNat=k:=by omega
 have hni1:(i+1).toNat=k+1:=by omega
 rcases zL k 4 with hlt | hge
 ·have q1:(i<4)=True:=eq_true (by omega)
  have hi1:(i+1=0)=False:=by simp; omega
  have hsP:=LJ Tm.o wdP k
  rcases zJ k with hk0 | hk0
  ·subst hk0
   obtain rfl:i=0:=hi
   simp (disch:=omega) only [go_sem,Aa,q1,eq_self,if_true,ET,EU,zD,Tm.ES]
   refine go_loop (α:=Int) (fun j=>⟨slots 54 0 [(0,.ptr 0 0),(2,.ptr 1 0),(3,.ptr 2 0),(4,.int .i64 0),(5,.ptr 3 0),(6,.int .i64 j)],(if (0:Int)=0 then (if j=0 then [cur l p s,tZ,.box 26 [.str ⟨#[103]⟩,.nil],.box 26 [.str ⟨#[104]⟩,.nil]] else [cur l p s,tZ,.box 26 [.str ⟨#[103]⟩,.nil],.box 26 [.str ⟨#[104]⟩,.ref 4],.row 26 2 ((zE j.toNat wdF).map Tm.o)]) else (if j=0 then [cur l p s,tZ,.box 26 [.str ⟨#[103]⟩,.ref 4],.box 26 [.str ⟨#[104]⟩,.nil],.row 26 2 ((zE (0:Int).toNat wdP).map Tm.o)] else [cur l p s,tZ,.box 26 [.str ⟨#[103]⟩,.ref 4],.box 26 [.str ⟨#[104]⟩,.ref 5],.row 26 2 ((zE (0:Int).toNat wdP).map Tm.o),.row 26 2 ((zE j.toNat wdF).map Tm.o)]))⟩) (fun j=>∃ k:Nat,j=k∧k≤4) (fun j=>(4-j).toNat) 0 ⟨0,rfl,by omega⟩ (by simp (disch:=omega) only [go_sem,Aa,eq_self,if_true,ET,EU,zD,Tm.ES]) ?_
   rintro j ⟨n,hj,hn4⟩
   have hnj:j.toNat=n:=by omega
   have hnj1:(j+1).toNat=n+1:=by omega
   have hj1:(j+1=0)=False:=by simp; omega
   rcases zL n 4 with hlt2 | hge2
   ·have q2:(j<4)=True:=eq_true (by omega)
    have hsF:=LJ Tm.o wdF n
    rcases zJ n with hn0 | hn0
    ·subst hn0
     obtain rfl:j=0:=hj
     simp (disch:=omega) only [go_sem,Aa,q2,eq_self,if_true,ET,EU,zD,Tm.ES]
     refine ⟨1,⟨1,rfl,by omega⟩,by omega,?_⟩
     simp (disch:=omega) only [go_sem,Aa,eq_self,if_true,h10,if_false,ET,EU,zD,Tm.ES]
    ·have hj0:(j=0)=False:=by simp; omega
     simp (disch:=omega) only [go_sem,Aa,q2,eq_self,if_true,hj0,if_false,hnj,ET,EU,zD,Tm.ES]
     refine ⟨j+1,⟨n+1,by omega,by omega⟩,by omega,?_⟩
     simp (disch:=omega) only [go_sem,Aa,eq_self,if_true,hj1,if_false,hnj,hnj1,hsF,ET,EU,zD,Tm.ES]
   ·obtain rfl:n=4:=by omega
    have hj4:j=4:=hj
    subst hj4
    have q2:((4:Int)=0)=False:=by simp
    simp (disch:=omega) only [go_sem,Aa,q2,eq_self,if_true,if_false,ET,EU,zD,Tm.ES]
    refine ⟨1,⟨1,rfl,by omega⟩,by omega,?_⟩
    simp (disch:=omega) only [go_sem,Aa,h10,if_false,ET,EU,zD,Tm.ES]
  ·have hi0:(i=0)=False:=by simp; omega
   simp (disch:=omega) only [go_sem,Aa,q1,hi0,if_false,ET,EU,zD,Tm.ES]
   refine go_loop (α:=Int) (fun j=>⟨slots 54 0 [(0,.ptr 0 0),(2,.ptr 1 0),(3,.ptr 2 0),(4,.int .i64 i),(5,.ptr 3 0),(6,.int .i64 j)],(if i=0 then (if j=0 then [cur l p s,tZ,.box 26 [.str ⟨#[103]⟩,.nil],.box 26 [.str ⟨#[104]⟩,.nil]] else [cur l p s,tZ,.box 26 [.str ⟨#[103]⟩,.nil],.box 26 [.str ⟨#[104]⟩,.ref 4],.row 26 2 ((zE j.toNat wdF).map Tm.o)]) else (if j=0 then [cur l p s,tZ,.box 26 [.str ⟨#[103]⟩,.ref 4],.box 26 [.str ⟨#[104]⟩,.nil],.row 26 2 ((zE i.toNat wdP).map Tm.o)] else [cur l p s,tZ,.box 26 [.str ⟨#[103]⟩,.ref 4],.box 26 [.str ⟨#[104]⟩,.ref 5],.row 26 2 ((zE i.toNat wdP).map Tm.o),.row 26 2 ((zE j.toNat wdF).map Tm.o)]))⟩) (fun j=>∃ k:Nat,j=k∧k≤4) (fun j=>(4-j).toNat) 0 ⟨0,rfl,by omega⟩ (by simp (disch:=omega) only [go_sem,Aa,hi0,if_false,eq_self,if_true,ET,EU,zD,Tm.ES]) ?_
   rintro j ⟨n,hj,hn4⟩
   have hnj:j.toNat=n:=by omega
   have hnj1:(j+1).toNat=n+1:=by omega
   have hj1:(j+1=0)=False:=by simp; omega
   rcases zL n 4 with hlt2 | hge2
   ·have q2:(j<4)=True:=eq_true (by omega)
    have hsF:=LJ Tm.o wdF n
    rcases zJ n with hn0 | hn0
    ·subst hn0
     obtain rfl:j=0:=hj
     simp (disch:=omega) only [go_sem,Aa,q2,hi0,if_false,eq_self,if_true,ET,EU,zD,Tm.ES]
     refine ⟨1,⟨1,rfl,by omega⟩,by omega,?_⟩
     simp (disch:=omega) only [go_sem,Aa,hi0,h10,if_false,ET,EU,zD,Tm.ES]
    ·have hj0:(j=0)=False:=by simp; omega
     simp (disch:=omega) only [go_sem,Aa,q2,hi0,hj0,if_false,hnj,ET,EU,zD,Tm.ES]
     refine ⟨j+1,⟨n+1,by omega,by omega⟩,by omega,?_⟩
     simp (disch:=omega) only [go_sem,Aa,hi0,hj1,if_false,hnj,hnj1,hsF,ET,EU,zD,Tm.ES]
   ·obtain rfl:n=4:=by omega
    have hj4:j=4:=hj
    subst hj4
    have q2:((4:Int)=0)=False:=by simp
    simp (disch:=omega) only [go_sem,Aa,q2,hi0,if_false,hni,ET,EU,zD,Tm.ES]
    refine ⟨i+1,⟨k+1,by omega,by omega⟩,by omega,?_⟩
    simp (disch:=omega) only [go_sem,Aa,hi1,if_false,hni1,hsP,ET,EU,zD,Tm.ES]
 ·obtain rfl:k=4:=by omega
  have hi4:i=4:=hi
  subst hi4
  have q2:((4:Int)=0)=False:=by simp
  obtain ⟨b1,p1,s1,hb1,g1,g2⟩:=Jq l hl hn 2 (by omega) (by omega) p s h0 (by omega)
  obtain ⟨b2,p2,s2,hb2,g3,g4⟩:=Jq l hl hn 2 (by omega) (by omega) p1 s1 (by omega) (by omega)
  have n4:(Tm.mk ⟨#[103]⟩ (zE 4 wdP)).nodes=37:=by
   rw [Tm.An]
   show 1+(wdP.nodes+(wdP.nodes+(wdP.nodes+(wdP.nodes+0))))=37
   rw [JK]
  have n3:(Tm.mk ⟨#[103]⟩ (zE 3 wdP)).nodes=28:=by
   rw [Tm.An]
   show 1+(wdP.nodes+(wdP.nodes+(wdP.nodes+0)))=28
   rw [JK]
  have n5:(Tm.mk ⟨#[103]⟩ (zE 3 wdP++[.mk ⟨#[102]⟩ [.mk ⟨#[98]⟩ []]])).nodes=30:=by
   rw [Tm.An]
   show 1+(wdP.nodes+(wdP.nodes+(wdP.nodes+((Tm.mk _ [.mk _ []]).nodes+0))))=30
   rw [JK,Tm.An]
   show 1+(9+(9+(9+(1+((Tm.mk _ []).nodes+0)+0))))=30
   rw [Tm.An]; rfl
  cases b1 <;> cases b2
  ·simp (disch:=omega) only [go_sem,Aa,q2,if_false,hb1,hb2,A7]
   rw [hQ]
   exact ⟨.mk ⟨#[103]⟩ (zE 4 wdP),p2,s2,rfl,by omega,by omega⟩
  ·simp (disch:=omega) only [go_sem,Aa,q2,if_false,hb1,hb2,A7]
   rw [hQ]
   exact ⟨.mk ⟨#[103]⟩ (zE 4 wdP),p2,s2,rfl,by omega,by omega⟩
  ·simp (disch:=omega) only [go_sem,Aa,q2,if_false,hb1,hb2,A7]
   rw [hQ]
   exact ⟨.mk ⟨#[103]⟩ (zE 3 wdP),p2,s2,rfl,by omega,by omega⟩
  ·simp (disch:=omega) only [go_sem,Aa,q2,if_false,hb1,hb2,A7]
   rw [hQ]
   exact ⟨.mk ⟨#[103]⟩ (zE 3 wdP++[.mk ⟨#[102]⟩ [.mk ⟨#[98]⟩ []]]),p2,s2,rfl,by omega,by omega⟩
theorem Tm.GG (x:ByteArray) (l:List Tm):(Tm.mk x l).nodes=1+Tm.AQ l:=Tm.An _
theorem Tm.HZ:∀ (a b:List Tm),Tm.AQ (a++b)=Tm.AQ a+Tm.AQ b
 | [],b=>by simp [Tm.AQ]
 | x :: a,b=>by simp only [zZ,Tm.AQ,Tm.HZ a b]; omega
theorem Tm.VC (a b c:Tm):Tm.AQ [a,b,c]=a.nodes+(b.nodes+(c.nodes+0)):=rfl
theorem Tm.SN (a:Tm):Tm.AQ [a]=a.nodes+0:=rfl
theorem Tm.LK (t:Tm):t.args.length+1≤t.nodes:=by
 rw [Tm.An]
 have:=Tm.length_le t.args
 omega
theorem Nc (l:List Int) (hl:Bytes l) (hn:l.length≤1099511627776) (p s:Int) (h0:0≤p) (h1:p≤1096000000000):∃ t p' s',E 56 [.ptr 0 0] [cur l p s]=some (tmH t 1,[cur l p' s',Id t])∧(p≤p'∧p'≤p+400)∧t.nodes≤150:=by
 obtain ⟨Q,hQ⟩:∃ Q:SV × List Ob→Prop,Q=fun out=>∃ t p' s',out=(tmH t 1,[cur l p' s',Id t])∧(p≤p'∧p'≤p+400)∧t.nodes≤150:=⟨_,rfl⟩
 suffices hq0:∃ out,E 56 [.ptr 0 0] [cur l p s]=some out∧Q out by
  obtain ⟨out,hq1,hq2⟩:=hq0
  rw [hQ] at hq2
  obtain ⟨t,p',s',rfl,hq3⟩:=hq2
  exact ⟨t,p',s',hq1,hq3⟩
 obtain ⟨t,p1,s1,ht,⟨g1,g2⟩,g3⟩:=HD l hl hn p s h0 (by omega)
 obtain ⟨v,p2,s2,hv,⟨v0,v1⟩,g4,g5⟩:=EN l hl hn 24 (by omega) (by omega) p1 s1 (by omega) (by omega)
 have hal:=Tm.LK t
 rcases (show v=0∨v=1∨v=2∨v=3∨v=4∨(¬ v=0∧¬ v=1∧¬ v=2∧¬ v=3∧¬ v=4) by omega) with rfl | rfl | rfl | rfl | rfl | ⟨k0,k1,k2,k3,k4⟩
 ·obtain ⟨x,p3,s3,ho,_,g6,g7⟩:=Uu l hl hn [⟨#[]⟩,⟨#[116,114,117,101]⟩,⟨#[116,114,117,116,104]⟩,⟨#[105,102]⟩,⟨#[88,121,122,57]⟩,⟨#[88,121,122,57,57]⟩,⟨#[120,65]⟩,⟨#[97,95,98]⟩,⟨#[97,98,99,100,101,102]⟩,⟨#[97,98,99,100,101,102,103]⟩,⟨#[95,97]⟩,⟨#[57]⟩,⟨#[88,95]⟩,⟨#[61]⟩] (by decide) (by decide) p2 s2 (by omega) (by omega)
  simp only [zF,zH] at ho
  refine AL Bo A8 (of_decide_eq_true rfl) ?_
  simp (disch:=omega) only [Bg,go_sem,Aa,ht,hv,ho,Ac,As,AS,Bm,Bs]
  rw [hQ]
  exact ⟨.mk x t.args,p3,s3,rfl,by omega,by rw [Tm.GG]; have:=Tm.An t; omega⟩
 ·obtain ⟨u,p3,s3,hu,⟨u0,u1⟩,g6,g7⟩:=EN l hl hn 3 (by omega) (by omega) p2 s2 (by omega) (by omega)
  have hi:dec (inK .i64 (7+u))=true:=Fa (by omega) (by omega)
  obtain ⟨t2,p4,s4,ho,⟨g8,g9⟩,g10⟩:=Ux l hl hn (7+u) (by omega) (by omega) p3 s3 (by omega) (by omega)
  refine AL Bo A8 (of_decide_eq_true rfl) ?_
  simp (disch:=omega) only [Bg,go_sem,Aa,ht,hv,hu,hi,ho,Ac,As,AS,Bm,Bs]
  rw [hQ]
  exact ⟨t2,p4,s4,rfl,by omega,g10⟩
 ·obtain ⟨t2,p3,s3,ho,⟨g8,g9⟩,g10⟩:=VB l hl hn p2 s2 (by omega) (by omega)
  refine AL Bo A8 (of_decide_eq_true rfl) ?_
  simp (disch:=omega) only [Bg,go_sem,Aa,ht,hv,ho,Ac,As,AS,Bm,Bs]
  rw [hQ]
  exact ⟨t2,p3,s3,rfl,by omega,g10⟩
 ·obtain ⟨t2,p3,s3,hu,⟨a1,a2⟩,a3⟩:=HD l hl hn p2 s2 (by omega) (by omega)
  obtain ⟨t3,p4,s4,hw,⟨b1,b2⟩,b3⟩:=HD l hl hn p3 s3 (by omega) (by omega)
  obtain ⟨t4,p5,s5,hx,⟨c1,c2⟩,c3⟩:=HD l hl hn p4 s4 (by omega) (by omega)
  refine AL Bo A8 (of_decide_eq_true rfl) ?_
  simp (disch:=omega) only [Bg,go_sem,Aa,ht,hv,hu,hw,hx,Ac,As,AS,Bm,Bs]
  rw [hQ]
  refine ⟨.mk t.name (t.args++[t2,t3,t4]),p5,s5,?_,by omega,by rw [Tm.GG,Tm.HZ,Tm.VC]; have:=Tm.An t; omega⟩
  show _=(tmH (.mk t.name (t.args++[t2,t3,t4])) 1,[cur l p5 s5,.row 26 2 ((t.args++[t2,t3,t4]).map Tm.osh)])
  rw [zO]
  rfl
 ·rcases hc:t.args with _ | ⟨a0,ar⟩
  ·have q0:((0:Int)<(t.args.length:Int))=False:=eq_false (by rw [hc]; simp)
   rw [←hc] at *
   refine AL Bo A8 (of_decide_eq_true rfl) ?_
   simp (disch:=omega) only [Bg,go_sem,Aa,ht,hv,q0,Ac,As,AS,Bm,Bs]
   rw [hQ]
   exact ⟨t,p2,s2,rfl,by omega,by omega⟩
  ·have q0:((0:Int)<(t.args.length:Int))=True:=eq_true (by rw [hc]; simp)
   obtain ⟨x,p3,s3,ho,_,g6,g7⟩:=Uu l hl hn [⟨#[61]⟩,⟨#[]⟩,⟨#[81,49]⟩,⟨#[98,50]⟩] (by decide) (by decide) p2 s2 (by omega) (by omega)
   simp only [zF,zH] at ho
   have hm:t.args.map Tm.osh=[.str a0.name,.sh (a0.args.map Tm.d)] :: ar.map Tm.osh:=by rw [hc]; rfl
   have hgl:(t.args.map Tm.osh)[0]?=some [.str a0.name,.sh (a0.args.map Tm.d)]:=by rw [hm]; rfl
   have hst:∀ y,(t.args.map Tm.osh).set 0 y=y :: ar.map Tm.osh:=fun y=>by rw [hm]; rfl
   have q1:0<t.args.length:=by rw [hc]; simp
   have hnn:t.nodes=1+(a0.nodes+Tm.AQ ar):=by rw [Tm.An,hc]; rfl
   refine AL Bo A8 (of_decide_eq_true rfl) ?_
   simp (disch:=omega) only [Bg,go_sem,Aa,ht,hv,q0,ho,hgl,hst,q1,Ac,As,AS,Bm,Bs]
   rw [hQ]
   refine ⟨.mk t.name (.mk x a0.args :: ar),p3,s3,?_,by omega,?_⟩
   ·rfl
   ·rw [Tm.GG]
    show 1+((Tm.mk x a0.args).nodes+Tm.AQ ar)≤_
    rw [Tm.GG]
    have:=Tm.An a0
    omega
 ·have k0:=eq_false k0
  have k1:=eq_false k1
  have k2:=eq_false k2
  have k3:=eq_false k3
  have k4:=eq_false k4
  refine AL Bo A8 (of_decide_eq_true rfl) ?_
  simp (disch:=omega) only [Bg,go_sem,Aa,ht,hv,k0,k1,k2,k3,k4,Ac,As,AS,Bm,Bs]
  rw [hQ]
  exact ⟨t,p2,s2,rfl,by omega,by omega⟩
theorem Jt (l:List Int) (hl:Bytes l) (hn:l.length≤1099511627776) (p s:Int) (h0:0≤p) (h1:p≤1095000000000):∃ t p' s',E 43 [.ptr 0 0] [cur l p s]=some (tmH t 1,[cur l p' s',Id t])∧(p≤p'∧p'≤p+500)∧t.nodes≤150:=by
 obtain ⟨Q,hQ⟩:∃ Q:SV × List Ob→Prop,Q=fun out=>∃ t p' s',out=(tmH t 1,[cur l p' s',Id t])∧(p≤p'∧p'≤p+500)∧t.nodes≤150:=⟨_,rfl⟩
 suffices hq0:∃ out,E 43 [.ptr 0 0] [cur l p s]=some out∧Q out by
  obtain ⟨out,hq1,hq2⟩:=hq0
  rw [hQ] at hq2
  obtain ⟨t,p',s',rfl,hq3⟩:=hq2
  exact ⟨t,p',s',hq1,hq3⟩
 obtain ⟨b1,p1,s1,hb1,g1,g2⟩:=Jq l hl hn 3 (by omega) (by omega) p s h0 (by omega)
 cases b1 with
 | false =>
  obtain ⟨t2,p3,s3,ho,⟨g8,g9⟩,g10⟩:=Nc l hl hn p1 s1 (by omega) (by omega)
  refine AL C9 B6 (of_decide_eq_true rfl) ?_
  simp (disch:=omega) only [BU,go_sem,Aa,hb1,ho,A7,As,Bf,A8]
  rw [hQ]
  exact ⟨t2,p3,s3,rfl,by omega,g10⟩
 | true =>
  obtain ⟨t,p2,s2,ha,⟨g3,g4⟩,g5⟩:=SM l hl hn p1 s1 (by omega) (by omega)
  obtain ⟨b2,p3,s3,hb2,g6,g7⟩:=Jq l hl hn 12 (by omega) (by omega) p2 s2 (by omega) (by omega)
  have hal:=Tm.LK t
  cases b2 with
  | false =>
   refine AL C9 B6 (of_decide_eq_true rfl) ?_
   simp (disch:=omega) only [BU,go_sem,Aa,hb1,ha,hb2,A7,As,Bf,A8]
   rw [hQ]
   exact ⟨t,p3,s3,rfl,by omega,by omega⟩
  | true =>
   obtain ⟨t2,p4,s4,hu,⟨a1,a2⟩,a3⟩:=HD l hl hn p3 s3 (by omega) (by omega)
   refine AL C9 B6 (of_decide_eq_true rfl) ?_
   simp (disch:=omega) only [BU,go_sem,Aa,hb1,ha,hb2,hu,A7,As,Bf,A8]
   rw [hQ]
   refine ⟨.mk t.name (t.args++[t2]),p4,s4,?_,by omega,by rw [Tm.GG,Tm.HZ,Tm.SN]; have:=Tm.An t; omega⟩
   show _=(tmH (.mk t.name (t.args++[t2])) 1,[cur l p4 s4,.row 26 2 ((t.args++[t2]).map Tm.osh)])
   rw [zO]
   rfl
def Ed:SC:=(.seq (.reg [⟨(some 2),none,(.alloc 26 [(.str ⟨#[]⟩),.nil])⟩]) (.seq (.reg [⟨some 4,none,.mv (.t 0)⟩,⟨some 5,none,.build [.nil,(.int .i64 0),(.int .u64 0)] [(0,(1,(.t 4)))]⟩,⟨some 6,none,.boxv 57 3 (.t 5)⟩,⟨some 3,none,.mv (.t 6)⟩]) (.seq (.reg [⟨some 7,none,.mv (.t 3)⟩,⟨some 8,none,.call 43 [(.t 7)]⟩,⟨none,none,(.store 2 (.t 2) (.t 8))⟩]) .ret)))
theorem GZ:Ar Tryz.prog 21=some ⟨9,Ed,[(.cell 2 true 2)]⟩:=by kernel_rfl
theorem Ee:modes 21=⟨[],.frz,none,false⟩:=by unfold modes; rfl
theorem Ju (l:List Int) (hl:Bytes l) (hn:l.length≤1099511627776):∃ t:Tm,E 21 [.arr (l.map by_)] []=some (t.sv,[])∧t.nodes≤150:=by
 obtain ⟨t,p1,s1,ht,_,g⟩:=Jt l hl hn 0 0 (by omega) (by omega)
 refine ⟨t,?_,g⟩
 refine Ab GZ Ee (of_decide_eq_true rfl) ?_
 simp (disch:=omega) only [Ed,go_sem,Aa,ht,B6,Ac,As]
theorem LL (y:List UInt8):∀ xs:List (List UInt8),Cd [44] (xs++[y])=if xs=[] then y else Cd [44] xs++44 :: y
 | []=>by rw [if_pos rfl]; rfl
 | [x]=>by
  rw [if_neg (by simp)]
  show Cd [44] [x,y]=_
  rw [Cd,Cd,Cd]
  simp
 | x :: z :: r=>by
  have ih:=LL y (z :: r)
  rw [if_neg (by simp)] at ih
  rw [if_neg (by simp)]
  show Cd [44] (x :: ((z :: r)++[y]))=_
  rw [zZ,Cd,← zZ,ih,Cd]
  simp
noncomputable def OJ (x:Tm) (k:Nat):List UInt8:=x.name.toList++(if k=0 then [] else 40 :: Cd [44] ((x.args.take k).map Tm.fmt))
theorem Rh {x:Tm} {k:Nat} (h:k<x.args.length):OJ x (k+1)=OJ x k++(if k=0 then 40 else 44) :: (x.args[k]).fmt:=by
 unfold OJ
 rw [if_neg (by omega),zP h,zO]
 show _++40 :: Cd [44] ((x.args.take k).map Tm.fmt++[(x.args[k]).fmt])=_
 rw [LL]
 by_cases h0:k=0
 ·subst h0
  simp
 ·rw [if_neg h0,if_neg h0,if_neg (by intro e; have:=congrArg List.length e; rw [zY,z6,List.length_nil] at this; omega)]
  simp
theorem SO {x:Tm} (h:x.args.length≠0):OJ x x.args.length++[41]=x.fmt:=by
 unfold OJ
 rw [if_neg h,z7,Tm.Ge,if_neg h,Tm.Jf]
 simp
def Gj:SC:=(.seq (.reg [⟨some 1,none,.boxv 26 2 (.t 0)⟩,⟨(some 2),none,(.mv (.c (.str ⟨#[]⟩)))⟩]) (.seq (.seq (.reg [⟨some 5,none,.faddr 0 (.t 1)⟩,⟨some 6,none,.load false 1 (.t 5)⟩,⟨(some 7),none,(.bin .eql false (.t 6) (.c (.str ⟨#[61]⟩)))⟩]) (.cond (.t 7) (.seq (.dreg [[],[0],[1,0],[2,1,0],[3,2,1,0],[4,3,2,1,0],[],[6],[7,6],[8,7,6],[9,8,7,6,4,3,2,1,0],[5,4,3,2,1,0,10,9,8,7,6],[11,5,4,3,2,1,0,10,9,8,7,6]] [⟨some 8,none,.faddr 1 (.t 1)⟩,⟨some 9,none,.load false 1 (.t 8)⟩,⟨some 10,none,.iaddr 2 (.t 9) (.c (.int .i64 0))⟩,⟨some 11,none,.load true 2 (.t 10)⟩,⟨some 12,none,.call 66 [(.t 11)]⟩,⟨(some 13),none,(.bin .add false (.t 12) (.c (.str ⟨#[32,61,32]⟩)))⟩,⟨some 14,none,.faddr 1 (.t 1)⟩,⟨some 15,none,.load false 1 (.t 14)⟩,⟨some 16,none,.iaddr 2 (.t 15) (.c (.int .i64 1))⟩,⟨some 17,none,.load true 2 (.t 16)⟩,⟨some 18,none,.call 66 [(.t 17)]⟩,⟨some 19,none,.bin .add false (.t 13) (.t 18)⟩,⟨some 2,none,.mv (.t 19)⟩]) .ret) .skip)) (.seq (.reg [⟨some 20,none,.faddr 0 (.t 1)⟩,⟨some 21,none,.load false 1 (.t 20)⟩,⟨some 3,none,.mv (.t 21)⟩]) (.seq (.seq (.reg [⟨some 4,none,.mv (.c (.int .i64 0))⟩]) (.block 0 (.loop [0,1,0,1,1,0,0,0,0,0,0,0,0,0,0,0,0,0,0,0,0,0,0,0,0,0,0,0,0,0,0,0,0,0,0,0,0,0,0,0,0,0,0,0,0,0,0,0,0,0] (.seq (.seq (.reg [⟨some 22,none,.mv (.t 4)⟩,⟨some 23,none,.faddr 1 (.t 1)⟩,⟨some 24,none,.load false 1 (.t 23)⟩,⟨some 25,none,.len false (.t 24)⟩,⟨some 26,none,.bin .lss false (.t 22) (.t 25)⟩]) (.cond (.t 26) .skip (.exit 0))) (.seq (.block 1 (.seq (.seq (.reg [⟨some 29,none,.mv (.t 4)⟩,⟨some 30,none,.bin .eql false (.t 29) (.c (.int .i64 0))⟩]) (.cond (.t 30) (.reg [⟨some 31,none,.mv (.t 3)⟩,⟨(some 32),none,(.bin .add false (.t 31) (.c (.str ⟨#[40]⟩)))⟩,⟨some 3,none,.mv (.t 32)⟩]) (.reg [⟨some 33,none,.mv (.t 3)⟩,⟨(some 34),none,(.bin .add false (.t 33) (.c (.str ⟨#[44]⟩)))⟩,⟨some 3,none,.mv (.t 34)⟩]))) (.reg [⟨some 35,none,.mv (.t 3)⟩,⟨some 36,none,.faddr 1 (.t 1)⟩,⟨some 37,none,.load false 1 (.t 36)⟩,⟨some 38,none,.mv (.t 4)⟩,⟨some 39,none,.iaddr 2 (.t 37) (.t 38)⟩,⟨some 40,none,.load true 2 (.t 39)⟩,⟨some 41,none,.call 66 [(.t 40)]⟩,⟨some 42,none,.bin .add false (.t 35) (.t 41)⟩,⟨some 3,none,.mv (.t 42)⟩]))) (.reg [⟨some 27,none,.mv (.t 4)⟩,⟨some 28,none,.bin .add false (.t 27) (.c (.int .i64 1))⟩,⟨some 4,none,.mv (.t 28)⟩])))))) (.seq (.seq (.reg [⟨some 43,none,.faddr 1 (.t 1)⟩,⟨some 44,none,.load false 1 (.t 43)⟩,⟨some 45,none,.len false (.t 44)⟩,⟨some 46,none,.bin .gtr false (.t 45) (.c (.int .i64 0))⟩]) (.cond (.t 46) (.reg [⟨some 47,none,.mv (.t 3)⟩,⟨(some 48),none,(.bin .add false (.t 47) (.c (.str ⟨#[41]⟩)))⟩,⟨some 3,none,.mv (.t 48)⟩]) .skip)) (.seq (.reg [⟨some 49,none,.mv (.t 3)⟩,⟨some 2,none,.mv (.t 49)⟩]) .ret))))))
theorem It:Ar Tryz.prog 66=some ⟨50,Gj,[(.tmp 2)]⟩:=by kernel_rfl
theorem BN:modes 66=⟨[],.asis,none,false⟩:=by unfold modes; rfl
theorem Ri (x:Tm) (hx:x.names=true) (hn:x.nodes≤1048576) (ih:∀ y∈x.args,E 66 [y.sv] []=some (.str y.txt,[])):E 66 [x.sv] []=some (.str x.txt,[]):=by
 have hl:=Tm.length_le x.args
 have hne:=Tm.An x
 have heq:(x.name=⟨#[61]⟩)=False:=eq_false fun e=>by
  have:=Tm.JH hx
  unfold Tm.eqn at this
  rw [Bb e] at this; cases this
 have hnm:x.name.size≤6:=by
  rw [Tm.Fz] at hx
  split at hx
  ·rename_i hv; exact MP hv
  ·rw [z8,z8] at hx; exact MQ hx.1.1
 have s1:(⟨#[40]⟩:ByteArray).size=1:=rfl
 have s2:(⟨#[44]⟩:ByteArray).size=1:=rfl
 have s3:(⟨#[41]⟩:ByteArray).size=1:=rfl
 refine Ab It BN (of_decide_eq_true rfl) ?_
 simp (disch:=omega) only [Gj,go_sem,Aa,heq]
 refine go_loop (α:=Int × (ByteArray)) (fun a=>⟨slots 50 0 [(1,.ptr 0 0),(3,.str (a.2)),(4,.int .i64 (a.1))],[.box 26 [.str x.name,.arr (x.args.map Tm.d)]]⟩) (fun a=>∃ k:Nat,a.1=k∧k≤(x.args).length∧(a.2).toList=OJ x k∧(a.2).size+10*Tm.AQ (x.args.drop k)≤100+10*x.nodes) (fun a=>(x.args).length-(a.1).toNat) (0,x.name) ⟨0,rfl,zS _,(by unfold OJ; rw [if_pos rfl,List.append_nil]),(by rw [zT]; dsimp only; omega)⟩ (by simp (disch:=omega) only [go_sem,Aa]) ?_
 rintro ⟨i,acc⟩ ⟨k,hi,hk,hR⟩
 dsimp only at hi hR
 have hni:i.toNat=k:=by omega
 have hni1:(i+1).toNat=k+1:=by omega
 rcases zL k (x.args).length with hlt | hge
 ·have hg:=get_at Tm.d hlt
  rw [Tm.Ga] at hg
  have hc:=ih x.args[k] (zN hlt)
  have hst:=Rh hlt
  have hfl:=Tm.D2 x.args[k] (Tm.Fh hx (zN hlt))
  rw [←Tm.Jl] at hfl
  obtain ⟨hR1,hR2⟩:=hR
  rw [zI hlt,Tm.AQ] at hR2
  have a1:(acc++(⟨#[40]⟩:ByteArray)).size=acc.size+1:=by rw [zG]; rfl
  have a2:(acc++(⟨#[44]⟩:ByteArray)).size=acc.size+1:=by rw [zG]; rfl
  have a3:(acc++(⟨#[40]⟩:ByteArray)++(x.args[k]).txt).size=acc.size+1+(x.args[k]).txt.size:=by rw [zG,a1]
  have a4:(acc++(⟨#[44]⟩:ByteArray)++(x.args[k]).txt).size=acc.size+1+(x.args[k]).txt.size:=by rw [zG,a2]
  have e40:(⟨#[40]⟩:ByteArray).toList=[40]:=AZ [40]
  have e44:(⟨#[44]⟩:ByteArray).toList=[44]:=AZ [44]
  by_cases h0:k=0
  ·have q0:(i=0)=True:=eq_true (by omega)
   rw [if_pos h0] at hst
   simp (disch:=omega) only [go_sem,Aa,hni,hg,hc,q0,s1,s2,a1,a2,a3,a4,BN]
   refine ⟨(i+1,acc++⟨#[40]⟩++(x.args[k]).txt),⟨k+1,by dsimp only; omega,hlt,?_,by dsimp only; rw [a3]; omega⟩,by dsimp only; omega,by first | trivial | rfl | exact ⟨rfl,rfl⟩⟩
   show (acc++(⟨#[40]⟩:ByteArray)++(x.args[k]).txt).toList=_
   rw [B4,B4,hR1,e40,Tm.txt_toList,hst,List.append_assoc]; rfl
  ·have q0:(i=0)=False:=eq_false (by omega)
   rw [if_neg h0] at hst
   simp (disch:=omega) only [go_sem,Aa,hni,hg,hc,q0,s1,s2,a1,a2,a3,a4,BN]
   refine ⟨(i+1,acc++⟨#[44]⟩++(x.args[k]).txt),⟨k+1,by dsimp only; omega,hlt,?_,by dsimp only; rw [a4]; omega⟩,by dsimp only; omega,by first | trivial | rfl | exact ⟨rfl,rfl⟩⟩
   show (acc++(⟨#[44]⟩:ByteArray)++(x.args[k]).txt).toList=_
   rw [B4,B4,hR1,e44,Tm.txt_toList,hst,List.append_assoc]; rfl
 ·obtain ⟨hR1,hR2⟩:=hR
  obtain rfl:k=x.args.length:=by omega
  have a5:(acc++(⟨#[41]⟩:ByteArray)).size=acc.size+1:=by rw [zG]; rfl
  have e41:(⟨#[41]⟩:ByteArray).toList=[41]:=AZ [41]
  rcases zJ x.args.length with h0 | h0
  ·have q1:(0<(x.args.length:Int))=False:=eq_false (by omega)
   have hx0:acc=x.txt:=AJ (by
    have hR1:acc.toList=_:=hR1
    rw [hR1,Tm.txt_toList,Tm.Ge]
    unfold OJ
    rw [if_pos h0,if_pos h0])
   rw [←hx0]
   simp (disch:=omega) only [go_sem,Aa,hni,q1,s3,a5]
  ·have q1:(0<(x.args.length:Int))=True:=eq_true (by omega)
   have hx0:acc++⟨#[41]⟩=x.txt:=AJ (by
    have hR1:acc.toList=_:=hR1
    rw [B4,hR1,e41,SO (by omega),Tm.txt_toList])
   rw [←hx0]
   simp (disch:=omega) only [go_sem,Aa,hni,q1,s3,a5]
theorem HE (x:Tm) (hx:x.names=true) (hn:x.nodes≤1048576):E 66 [x.sv] []=some (.str x.txt,[]) :=
 Ri x hx hn fun y hy=>HE y (Tm.Fh hx hy) (by have:=Tm.CT hy; have:=Tm.An x; omega)
termination_by SizeOf.sizeOf x
decreasing_by exact Tm.Bt hy
theorem Rj (x:Tm) (hx:x.atom=true):E 66 [x.sv] []=some (.str x.txtA,[]):=by
 rcases Tm.E1 hx with ⟨h1,h2⟩ | ⟨a,b,rfl,h1,h2,h3,h4⟩
 ·have e:x.txtA=x.txt:=AJ (by rw [Tm.BI,Tm.txt_toList]; unfold Tm.fmtA; rw [h1]; rfl)
  rw [e]
  exact HE x (Al h2) (by have:=AN h2; omega)
 ·obtain ⟨s1,s2⟩:=F8 h4
  have va:a.valid=true:=by unfold Tm.valid; rw [s1,h2]; rfl
  have vb:b.valid=true:=by unfold Tm.valid; rw [s2,h3]; rfl
  have f1:=HE a h2 (by have:=AN va; omega)
  have f2:=HE b h3 (by have:=AN vb; omega)
  have z1:=Dr va
  have z2:=Dr vb
  have hs1:(a.txt++(⟨#[32,61,32]⟩:ByteArray)).size=a.txt.size+3:=by rw [zG]; rfl
  have hs2:(⟨#[32,61,32]⟩:ByteArray).size=3:=rfl
  have ht:a.txt++⟨#[32,61,32]⟩++b.txt=(Tm.mk ⟨#[61]⟩ [a,b]).txtA:=by
   refine AJ ?_
   rw [B4,B4,Tm.txt_toList,Tm.txt_toList,Tm.BI,HC]
   unfold Tm.fmtA
   rw [h1]; rfl
  have g0:([a,b].map Tm.d)[(0:Nat)]?=some [D.str a.name,D.arr (a.args.map Tm.d)]:=by rw [zF,Tm.Ga]; rfl
  have g1:([a,b].map Tm.d)[(1:Nat)]?=some [D.str b.name,D.arr (b.args.map Tm.d)]:=by rw [zF,zF,Tm.Ga b]; rfl
  have hsv:(Tm.mk ⟨#[61]⟩ [a,b]).sv=.agg [.str ⟨#[61]⟩,.arr ([a,b].map Tm.d)]:=rfl
  rw [hsv]
  obtain ⟨ds,hds⟩:∃ ds,ds=[a,b].map Tm.d:=⟨_,rfl⟩
  rw [←hds] at g0 g1 ⊢
  refine Ab It BN (of_decide_eq_true rfl) ?_
  simp (disch:=omega) only [Gj,go_sem,Aa,g0,g1,f1,f2,hs1,hs2,ht,zR,zX,AD,BN]
def Ca:SC:=(.seq (.reg [⟨(some 6),none,(.mv (.c (.str ⟨#[]⟩)))⟩]) (.seq (.seq (.reg [⟨some 9,none,.mv (.t 1)⟩,⟨(some 10),none,(.bin .eql false (.t 9) (.c (.str ⟨#[]⟩)))⟩]) (.cond (.t 10) (.seq (.reg [⟨some 11,none,.mv (.t 2)⟩,⟨some 12,none,.slice true 0 (.t 11) none (some (.c (.int .i64 1)))⟩,⟨some 6,none,.mv (.t 12)⟩]) .ret) .skip)) (.seq (.reg [⟨some 13,none,.mv (.t 0)⟩,⟨some 14,none,.mv (.t 1)⟩,⟨some 15,none,.len true (.t 14)⟩,⟨some 16,none,.call 36 [(.t 13),(.t 15)]⟩,⟨some 7,none,.mv (.t 16)⟩]) (.seq (.reg [⟨some 17,none,.mv (.t 2)⟩,⟨some 18,none,.mv (.t 0)⟩,⟨some 19,none,.mv (.t 2)⟩,⟨some 20,none,.len true (.t 19)⟩,⟨some 21,none,.call 36 [(.t 18),(.t 20)]⟩,⟨some 22,none,.slice true 0 (.t 17) (some (.t 21)) none⟩,⟨some 23,none,.slice true 0 (.t 22) none (some (.c (.int .i64 1)))⟩,⟨some 8,none,.mv (.t 23)⟩]) (.seq (.seq (.reg [⟨some 24,none,.mv (.t 0)⟩,⟨some 25,none,.call 36 [(.t 24),(.c (.int .i64 3))]⟩]) (.block 0 (.seq (.reg [⟨some 27,none,.bin .eql false (.t 25) (.c (.int .i64 0))⟩,⟨some 26,none,.mv (.t 27)⟩]) (.cond (.t 26) (.seq (.dreg [[],[],[0,1],[],[2,0,1,3],[],[],[5,6],[4,2,0,1,3,7,5,6],[8,4,2,0,1,3,7,5,6]] [⟨some 28,none,.mv (.t 1)⟩,⟨some 29,none,.mv (.t 7)⟩,⟨some 30,none,.slice true 0 (.t 28) none (some (.t 29))⟩,⟨some 31,none,.mv (.t 8)⟩,⟨some 32,none,.bin .add false (.t 30) (.t 31)⟩,⟨some 33,none,.mv (.t 1)⟩,⟨some 34,none,.mv (.t 7)⟩,⟨some 35,none,.slice true 0 (.t 33) (some (.t 34)) none⟩,⟨some 36,none,.bin .add false (.t 32) (.t 35)⟩,⟨some 6,none,.mv (.t 36)⟩]) .ret) (.seq (.reg [⟨some 38,none,.bin .eql false (.t 25) (.c (.int .i64 1))⟩,⟨some 37,none,.mv (.t 38)⟩]) (.cond (.t 37) (.seq (.dreg [[],[],[0,1],[],[2,0,1,3],[],[],[6],[5,7,6],[4,2,0,1,3,8,5,7,6],[9,4,2,0,1,3,8,5,7,6]] [⟨some 39,none,.mv (.t 1)⟩,⟨some 40,none,.mv (.t 7)⟩,⟨some 41,none,.slice true 0 (.t 39) none (some (.t 40))⟩,⟨some 42,none,.mv (.t 8)⟩,⟨some 43,none,.bin .add false (.t 41) (.t 42)⟩,⟨some 44,none,.mv (.t 1)⟩,⟨some 45,none,.mv (.t 7)⟩,⟨some 46,none,.bin .add false (.t 45) (.c (.int .i64 1))⟩,⟨some 47,none,.slice true 0 (.t 44) (some (.t 46)) none⟩,⟨some 48,none,.bin .add false (.t 43) (.t 47)⟩,⟨some 6,none,.mv (.t 48)⟩]) .ret) .skip)))))) (.seq (.dreg [[],[],[0,1],[],[],[4],[3,5,4],[2,0,1,6,3,5,4],[7,2,0,1,6,3,5,4]] [⟨some 49,none,.mv (.t 1)⟩,⟨some 50,none,.mv (.t 7)⟩,⟨some 51,none,.slice true 0 (.t 49) none (some (.t 50))⟩,⟨some 52,none,.mv (.t 1)⟩,⟨some 53,none,.mv (.t 7)⟩,⟨some 54,none,.bin .add false (.t 53) (.c (.int .i64 1))⟩,⟨some 55,none,.slice true 0 (.t 52) (some (.t 54)) none⟩,⟨some 56,none,.bin .add false (.t 51) (.t 55)⟩,⟨some 6,none,.mv (.t 56)⟩]) .ret))))))
theorem C2:Ar Tryz.prog 67=some ⟨57,Ca,[(.tmp 6)]⟩:=by kernel_rfl
theorem Bi:modes 67=⟨[],.asis,none,false⟩:=by unfold modes; rfl
def Cr:SC:=(.seq (.reg [⟨some 3,none,.boxv 26 2 (.t 1)⟩,⟨(some 4),none,(.mv (.c (.str ⟨#[]⟩)))⟩]) (.seq (.reg [⟨(some 5),none,(.mv (.c (.str ⟨#[88]⟩)))⟩]) (.seq (.seq (.reg [⟨some 6,none,.load true 2 (.t 3)⟩,⟨some 7,none,.call 65 [(.t 6)]⟩]) (.cond (.t 7) (.reg [⟨some 8,none,.load true 2 (.t 3)⟩,⟨some 9,none,.call 66 [(.t 8)]⟩,⟨some 5,none,.mv (.t 9)⟩]) .skip)) (.seq (.seq (.reg [⟨some 10,none,.mv (.t 0)⟩,⟨some 11,none,.call 37 [(.t 10),(.c (.int .i64 4))]⟩]) (.cond (.t 11) (.reg [⟨some 12,none,.mv (.t 0)⟩,⟨some 13,none,.mv (.t 5)⟩,⟨(some 14),none,(.call 67 [(.t 12),(.t 13),(.c (.str ⟨#[97,88,102,40,41,44,61,32,126,124,49,95,33]⟩))])⟩,⟨some 5,none,.mv (.t 14)⟩]) .skip)) (.seq (.reg [⟨some 15,none,.mv (.t 5)⟩,⟨some 4,none,.mv (.t 15)⟩]) .ret)))))
theorem Dc:Ar Tryz.prog 42=some ⟨16,Cr,[(.tmp 4)]⟩:=by kernel_rfl
theorem Cs:modes 42=⟨[],.asis,none,false⟩:=by unfold modes; rfl
def EG:SC:=(.seq (.reg [⟨(some 2),none,(.mv (.c (.str ⟨#[]⟩)))⟩]) (.seq (.reg [⟨some 4,none,.mv (.t 0)⟩,⟨some 5,none,.build [.nil,(.int .i64 0),(.int .u64 0)] [(0,(1,(.t 4)))]⟩,⟨some 6,none,.boxv 57 3 (.t 5)⟩,⟨some 3,none,.mv (.t 6)⟩]) (.seq (.reg [⟨some 7,none,.mv (.t 3)⟩,⟨some 8,none,.mv (.t 3)⟩,⟨some 9,none,.call 43 [(.t 8)]⟩,⟨some 10,none,.call 42 [(.t 7),(.t 9)]⟩,⟨some 2,none,.mv (.t 10)⟩]) .ret)))
theorem HF:Ar Tryz.prog 20=some ⟨11,EG,[(.tmp 2)]⟩:=by kernel_rfl
theorem Au:modes 20=⟨[],.asis,none,false⟩:=by unfold modes; rfl
def En:SC:=(.seq (.reg [⟨(some 2),none,(.alloc 26 [(.str ⟨#[]⟩),.nil])⟩]) (.seq (.reg [⟨some 3,none,.mv (.t 0)⟩,⟨some 4,none,.call 21 [(.t 3)]⟩,⟨none,none,(.store 2 (.t 2) (.t 4))⟩]) .ret))
theorem Hj:Ar Tryz.prog 5=some ⟨5,En,[(.cell 2 true 2)]⟩:=by kernel_rfl
theorem Ao:modes 5=⟨[],.frz,none,false⟩:=by unfold modes; rfl
def EH:SC:=(.seq (.reg [⟨(some 2),none,(.alloc 35 [(.bool false),(.str ⟨#[]⟩),.nil])⟩]) (.seq (.reg [⟨some 3,none,.mv (.t 0)⟩,⟨some 4,none,.call 37 [(.t 3),(.c (.int .i64 2))]⟩,⟨some 5,none,.mv (.t 0)⟩,⟨some 6,none,.call 68 [(.t 5)]⟩,⟨(some 7),none,(.build [(.bool false),(.str ⟨#[]⟩),.nil] [(0,(1,(.t 4))),(1,(2,(.t 6)))])⟩,⟨none,none,(.store 3 (.t 2) (.t 7))⟩]) .ret))
theorem HG:Ar Tryz.prog 55=some ⟨8,EH,[(.cell 2 true 3)]⟩:=by kernel_rfl
theorem Ct:modes 55=⟨[],.half [none,none,some (26,2)],none,false⟩:=by unfold modes; rfl
def BV:SC:=(.seq (.reg [⟨(some 2),none,(.alloc 35 [(.bool false),(.str ⟨#[]⟩),.nil])⟩]) (.seq (.reg [⟨some 4,none,.mv (.t 0)⟩,⟨some 5,none,.call 55 [(.t 4)]⟩,⟨(some 3),none,(.alloc 35 [(.bool false),(.str ⟨#[]⟩),.nil])⟩,⟨none,none,(.store 3 (.t 3) (.t 5))⟩]) (.seq (.seq (.reg [⟨some 6,none,.mv (.t 0)⟩,⟨some 7,none,.call 36 [(.t 6),(.c (.int .i64 16))]⟩]) (.block 0 (.seq (.reg [⟨some 9,none,.bin .eql false (.t 7) (.c (.int .i64 0))⟩,⟨some 8,none,.mv (.t 9)⟩]) (.cond (.t 8) (.reg [⟨some 10,none,.mv (.t 0)⟩,⟨some 11,none,.call 56 [(.t 10)]⟩,⟨some 12,none,.faddr 1 (.t 3)⟩,⟨none,none,(.store 2 (.t 12) (.t 11))⟩]) (.seq (.reg [⟨some 14,none,.bin .eql false (.t 7) (.c (.int .i64 1))⟩,⟨some 13,none,.mv (.t 14)⟩]) (.cond (.t 13) (.dreg [[],[0],[1,0],[],[3],[4,3],[2,1,0,5,4,3],[0,1,2,3,4,5,6],[7,0,1,2,3,4,5,6],[8,7,0,1,2,3,4,5,6]] [⟨some 15,none,.faddr 1 (.t 3)⟩,⟨some 16,none,.faddr 1 (.t 15)⟩,⟨some 17,none,.load false 1 (.t 16)⟩,⟨some 18,none,.mv (.t 0)⟩,⟨some 19,none,.call 57 [(.t 18)]⟩,⟨(some 20),none,(.mkrow 26 2 [(.str ⟨#[]⟩),.nil] 1 [(0,(.t 19))])⟩,⟨(some 21),none,(.append 26 2 40 [(.str ⟨#[]⟩),.nil] (.t 17) (.t 20))⟩,⟨some 22,none,.faddr 1 (.t 3)⟩,⟨some 23,none,.faddr 1 (.t 22)⟩,⟨none,none,(.store 1 (.t 23) (.t 21))⟩]) .skip)))))) (.seq (.reg [⟨some 24,none,.load true 3 (.t 3)⟩,⟨none,none,(.store 3 (.t 2) (.t 24))⟩]) .ret))))
theorem CA:Ar Tryz.prog 31=some ⟨25,BV,[(.cell 2 true 3)]⟩:=by kernel_rfl
theorem BW:modes 31=⟨[],.half [none,none,some (26,2)],none,false⟩:=by unfold modes; rfl
def DG:SC:=(.seq (.reg [⟨(some 2),none,(.alloc 35 [(.bool false),(.str ⟨#[]⟩),.nil])⟩]) (.seq (.reg [⟨some 4,none,.mv (.t 0)⟩,⟨some 5,none,.build [.nil,(.int .i64 0),(.int .u64 0)] [(0,(1,(.t 4)))]⟩,⟨some 6,none,.boxv 57 3 (.t 5)⟩,⟨some 3,none,.mv (.t 6)⟩]) (.seq (.reg [⟨some 7,none,.mv (.t 3)⟩,⟨some 8,none,.call 31 [(.t 7)]⟩,⟨none,none,(.store 3 (.t 2) (.t 8))⟩]) .ret)))
theorem Gk:Ar Tryz.prog 12=some ⟨9,DG,[(.cell 2 true 3)]⟩:=by kernel_rfl
theorem Ah:modes 12=⟨[],.frz,none,false⟩:=by unfold modes; rfl
def D6:SC:=(.seq (.reg [⟨some 2,none,.mv (.c .nil)⟩]) (.seq (.reg [⟨some 6,none,.mv (.t 0)⟩,⟨some 7,none,.build [.nil,(.int .i64 0),(.int .u64 0)] [(0,(1,(.t 6)))]⟩,⟨some 8,none,.boxv 57 3 (.t 7)⟩,⟨some 3,none,.mv (.t 8)⟩]) (.seq (.reg [⟨some 9,none,.mkrow 3 1 [(.int .i64 0)] 0 []⟩,⟨some 4,none,.mv (.t 9)⟩]) (.seq (.seq (.reg [⟨some 10,none,.mv (.t 3)⟩,⟨some 11,none,.mkrow 3 1 [(.int .i64 0)] 7 [(0,(.c (.int .i64 0))),(1,(.c (.int .i64 1))),(2,(.c (.int .i64 2))),(3,(.c (.int .i64 3))),(4,(.c (.int .i64 7))),(5,(.c (.int .i64 8))),(6,(.c (.int .i64 9)))]⟩,⟨some 12,none,.call 35 [(.t 10),(.t 11)]⟩,⟨some 5,none,.mv (.t 12)⟩]) (.block 0 (.loop [0,0,0,1,1,1,0,0,0,0,0,0,0,0,0,0,0,0,0,0,0,0,0,0,0,0,0,0,0,0,0] (.seq (.seq (.reg [⟨some 13,none,.mv (.t 5)⟩,⟨some 14,none,.bin .gtr false (.t 13) (.c (.int .i64 0))⟩]) (.cond (.t 14) .skip (.exit 0))) (.seq (.block 1 (.reg [⟨some 17,none,.mv (.t 4)⟩,⟨some 18,none,.mv (.t 3)⟩,⟨some 19,none,.call 36 [(.t 18),(.c (.int .i64 4))]⟩,⟨some 20,none,.mkrow 3 1 [(.int .i64 0)] 1 [(0,(.t 19))]⟩,⟨some 21,none,.append 3 1 8 [(.int .i64 0)] (.t 17) (.t 20)⟩,⟨some 4,none,.mv (.t 21)⟩])) (.reg [⟨some 15,none,.mv (.t 5)⟩,⟨some 16,none,.bin .sub false (.t 15) (.c (.int .i64 1))⟩,⟨some 5,none,.mv (.t 16)⟩])))))) (.seq (.seq (.reg [⟨some 22,none,.mv (.t 3)⟩,⟨some 23,none,.call 37 [(.t 22),(.c (.int .i64 8))]⟩]) (.cond (.t 23) (.reg [⟨some 24,none,.mv (.t 4)⟩,⟨some 25,none,.mv (.t 3)⟩,⟨some 26,none,.mkrow 3 1 [(.int .i64 0)] 2 [(0,(.c (.int .i64 (-(0+1))))),(1,(.c (.int .i64 4)))]⟩,⟨some 27,none,.call 35 [(.t 25),(.t 26)]⟩,⟨some 28,none,.mkrow 3 1 [(.int .i64 0)] 1 [(0,(.t 27))]⟩,⟨some 29,none,.append 3 1 8 [(.int .i64 0)] (.t 24) (.t 28)⟩,⟨some 4,none,.mv (.t 29)⟩]) .skip)) (.seq (.reg [⟨some 30,none,.mv (.t 4)⟩,⟨some 2,none,.mv (.t 30)⟩]) .ret))))))
theorem FH:Ar Tryz.prog 16=some ⟨31,D6,[(.tmp 2)]⟩:=by kernel_rfl
theorem Ae:modes 16=⟨[],.frz,none,false⟩:=by unfold modes; rfl
theorem Uy (l:List Int) (hl:Bytes l) (hn:l.length≤1099511627776) (n:Int) (h1:1≤n) (h2:n≤1000) (p s:Int) (hp0:0≤p) (hp:p≤1099511620000):∃ v p' s',E 36 [.ptr 0 0,.int .i64 n] [cur l p s]=some (.int .i64 v,[cur l p' s'])∧(0≤v∧v<n)∧p≤p'∧p'≤p+2:=by
 rcases Int.lt_or_le 200 n with hw | hw
 ·obtain ⟨v,s',hv,hv1,hv2⟩:=NA l hl hn p s hp0 (by omega)
  obtain ⟨u,s2,hu,hu1,hu2⟩:=NA l hl hn (p+1) s' (by omega) (by omega)
  obtain ⟨z,hz⟩:∃ z,z=v*256+u:=⟨_,rfl⟩
  have hm1:=Int.emod_nonneg z (show n≠0 by omega)
  have hm2:=Int.emod_lt_of_pos z (show 0<n by omega)
  have hm3:z.tmod n=z % n:=Int.tmod_eq_emod_of_nonneg (by omega)
  have q1:(n≤1)=False:=eq_false (by omega)
  have q2:(200<n)=True:=eq_true (by omega)
  have q3:(n=0)=False:=eq_false (by omega)
  have w1:dec (inK .i64 (v*256))=true:=Fa (by omega) (by omega)
  have w2:dec (inK .i64 (v*256+u))=true:=Fa (by omega) (by omega)
  refine ⟨z.tmod n,p+1+1,s2,?_,by omega,by omega,by omega⟩
  rw [hz]
  refine Ab Ec Ac (of_decide_eq_true rfl) ?_
  simp (disch:=omega) only [Db,go_sem,Aa,q1,q2,q3,w1,w2,hv,hu,Da]
 ·obtain ⟨v,p',s',h3,h4,h5,h6⟩:=EN l hl hn n h1 hw p s hp0 (by omega)
  exact ⟨v,p',s',h3,h4,h5,by omega⟩
theorem OK (l:List Int) (hl:Bytes l) (hn:l.length≤1099511627776) (t w:ByteArray) (ht:t.size≤1000) (hw1:1≤w.size) (hw2:w.size≤100) (p s:Int) (h0:0≤p) (h1:p≤1096000000000):∃ r p' s',E 67 [.ptr 0 0,.str t,.str w] [cur l p s]=some (.str r,[cur l p' s'])∧(p≤p'∧p'≤p+10)∧r.size≤t.size+1:=by
 obtain ⟨Q,hQ⟩:∃ Q:SV × List Ob→Prop,Q=fun out=>∃ r p' s',out=(.str r,[cur l p' s'])∧(p≤p'∧p'≤p+10)∧ByteArray.size r≤t.size+1:=⟨_,rfl⟩
 suffices hq0:∃ out,E 67 [.ptr 0 0,.str t,.str w] [cur l p s]=some out∧Q out by
  obtain ⟨out,hq1,hq2⟩:=hq0
  rw [hQ] at hq2
  obtain ⟨r,p',s',rfl,hq3⟩:=hq2
  exact ⟨r,p',s',hq1,hq3⟩
 cases qe:dec (t=⟨#[]⟩) with
 | true =>
  obtain rfl:=Ax.1 qe
  have b1:((1:Int)≤(w.size:Int))=True:=eq_true (by omega)
  refine AL C2 Bi (of_decide_eq_true rfl) ?_
  simp (disch:=omega) only [Ca,go_sem,Aa,qe,b1,zX]
  rw [hQ]
  exact ⟨_,p,s,rfl,by omega,by rw [zK]; omega⟩
 | false =>
  have hts:0<t.size:=by
   rcases zJ t.size with h | h
   ·exact absurd (AJ ((List.eq_nil_of_length_eq_zero (by rw [AA]; exact h)).trans (AZ []).symm)) (EX.1 qe)
   ·exact h
  obtain ⟨i,p1,s1,hi,⟨i0,i1⟩,g1,g2⟩:=Uy l hl hn t.size (by omega) (by omega) p s h0 (by omega)
  obtain ⟨k,p2,s2,hk,⟨k0,k1⟩,g3,g4⟩:=EN l hl hn w.size (by omega) (by omega) p1 s1 (by omega) (by omega)
  obtain ⟨v,p3,s3,hv,⟨v0,v1⟩,g5,g6⟩:=EN l hl hn 3 (by omega) (by omega) p2 s2 (by omega) (by omega)
  have wi:dec (inK .i64 (i+1))=true:=Fa (by omega) (by omega)
  have zA:(t.extract 0 i.toNat).size=i.toNat:=by rw [zK]; omega
  have zB:(t.extract i.toNat t.size).size=t.size-i.toNat:=by rw [zK]; omega
  have zC:(t.extract (i+1).toNat t.size).size=t.size-(i+1).toNat:=by rw [zK]; omega
  have zU0:(w.extract k.toNat w.size).size=w.size-k.toNat:=by rw [zK]; omega
  have zU:((w.extract k.toNat w.size).extract 0 1).size=1:=by rw [zK,zU0]; omega
  have zAU:((t.extract 0 i.toNat)++((w.extract k.toNat w.size).extract 0 1)).size=i.toNat+1:=by rw [zG,zA,zU]
  have b1:(0≤i)=True:=eq_true i0
  have b2:(i≤(t.size:Int))=True:=eq_true (by omega)
  have b3:(0≤k)=True:=eq_true k0
  have b4:(k≤(w.size:Int))=True:=eq_true (by omega)
  have b5:(i+1≤(t.size:Int))=True:=eq_true (by omega)
  rcases (show v=0∨v=1∨v=2 by omega) with rfl | rfl | rfl
  ·refine AL C2 Bi (of_decide_eq_true rfl) ?_
   simp (disch:=omega) only [Ca,go_sem,Aa,hi,hk,hv,qe,wi,zA,zB,zC,zU0,zU,zAU,b1,b2,b3,b4,b5,zX,zR,Ac]
   rw [hQ]
   exact ⟨_,p3,s3,rfl,by omega,by rw [zG,zAU,zB]; omega⟩
  ·refine AL C2 Bi (of_decide_eq_true rfl) ?_
   simp (disch:=omega) only [Ca,go_sem,Aa,hi,hk,hv,qe,wi,zA,zB,zC,zU0,zU,zAU,b1,b2,b3,b4,b5,zX,zR,Ac]
   rw [hQ]
   exact ⟨_,p3,s3,rfl,by omega,by rw [zG,zAU,zC]; omega⟩
  ·refine AL C2 Bi (of_decide_eq_true rfl) ?_
   simp (disch:=omega) only [Ca,go_sem,Aa,hi,hk,hv,qe,wi,zA,zB,zC,zU0,zU,zAU,b1,b2,b3,b4,b5,zX,zR,Ac]
   rw [hQ]
   exact ⟨_,p3,s3,rfl,by omega,by rw [zG,zA,zC]; omega⟩
noncomputable def Tm.txtE (x:Tm):ByteArray:=bif x.valid then x.txt else x.txtA
theorem Nd (x:Tm) (hx:x.expr=true):E 66 [x.sv] []=some (.str x.txtE,[])∧x.txtE.size≤900:=by
 have hn:=Tm.GU hx
 unfold Tm.txtE
 cases hv:x.valid with
 | true =>
  rw [cond_true]
  have h1:=Tm.D2 x (Al hv)
  exact ⟨HE x (Al hv) (by omega),by rw [Tm.Jl]; omega⟩
 | false =>
  rw [cond_false]
  have ha:x.atom=true:=by
   unfold Tm.expr at hx
   rw [hv,Bool.false_or] at hx
   exact hx
  refine ⟨Rj x ha,?_⟩
  rcases Tm.E1 ha with ⟨h1,h2⟩ | ⟨a,b,rfl,h1,h2,h3,h4⟩
  ·rw [hv] at h2; cases h2
  ·have l1:=Tm.D2 a h2
   have l2:=Tm.D2 b h3
   have e:(Tm.mk ⟨#[61]⟩ [a,b]).nodes=1+(a.nodes+(b.nodes+0)):=by rw [Tm.An]; rfl
   have e2:((Tm.mk ⟨#[61]⟩ [a,b]).txtA).toList=a.fmt++eqSign++b.fmt:=by
    rw [Tm.BI]
    unfold Tm.fmtA
    rw [h1]; rfl
   rw [←AA,e2,List.length_append,List.length_append]
   have:eqSign.length=3:=rfl
   omega
theorem VD (l:List Int) (hl:Bytes l) (hn:l.length≤1099511627776) (x:Tm) (hn0:x.nodes≤150) (p s:Int) (h0:0≤p) (h1:p≤1095000000000):∃ r p' s',E 42 [.ptr 0 0,x.sv] [cur l p s]=some (.str r,[cur l p' s'])∧(p≤p'∧p'≤p+20)∧r.size≤1000:=by
 obtain ⟨Q,hQ⟩:∃ Q:SV × List Ob→Prop,Q=fun out=>∃ r p' s',out=(.str r,[cur l p' s'])∧(p≤p'∧p'≤p+20)∧ByteArray.size r≤1000:=⟨_,rfl⟩
 suffices hq0:∃ out,E 42 [.ptr 0 0,x.sv] [cur l p s]=some out∧Q out by
  obtain ⟨out,hq1,hq2⟩:=hq0
  rw [hQ] at hq2
  obtain ⟨r,p',s',rfl,hq3⟩:=hq2
  exact ⟨r,p',s',hq1,hq3⟩
 have ha:=Ui x (by omega)
 have hxs:x.sv=.agg [.str x.name,.arr (x.args.map Tm.d)]:=rfl
 obtain ⟨b,p1,s1,ho,g1,g2⟩:=Jq l hl hn 4 (by omega) (by omega) p s h0 (by omega)
 cases hx:x.expr with
 | true =>
  rw [hx] at ha
  obtain ⟨ht,hz⟩:=Nd x hx
  rw [hxs] at ha ht ⊢
  cases b with
  | true =>
   obtain ⟨r,p2,s2,hs,g3,g4⟩:=OK l hl hn x.txtE ⟨#[97,88,102,40,41,44,61,32,126,124,49,95,33]⟩ (by omega) (by decide) (by decide) p1 s1 (by omega) (by omega)
   refine AL Dc Cs (of_decide_eq_true rfl) ?_
   simp (disch:=omega) only [Cr,go_sem,Aa,ha,ht,ho,hs,D0,BN,A7,Bi]
   rw [hQ]
   exact ⟨r,p2,s2,rfl,by omega,by omega⟩
  | false =>
   have hs:=trivial
   refine AL Dc Cs (of_decide_eq_true rfl) ?_
   simp (disch:=omega) only [Cr,go_sem,Aa,ha,ht,ho,hs,D0,BN,A7,Bi]
   rw [hQ]
   exact ⟨_,p1,s1,rfl,by omega,by omega⟩
 | false =>
  rw [hx] at ha
  have ht:=trivial
  rw [hxs] at ha ⊢
  cases b with
  | true =>
   obtain ⟨r,p2,s2,hs,g3,g4⟩:=OK l hl hn ⟨#[88]⟩ ⟨#[97,88,102,40,41,44,61,32,126,124,49,95,33]⟩ (by decide) (by decide) (by decide) p1 s1 (by omega) (by omega)
   have hz1:(⟨#[88]⟩:ByteArray).size=1:=rfl
   refine AL Dc Cs (of_decide_eq_true rfl) ?_
   simp (disch:=omega) only [Cr,go_sem,Aa,ha,ht,ho,hs,D0,BN,A7,Bi]
   rw [hQ]
   exact ⟨r,p2,s2,rfl,by omega,by omega⟩
  | false =>
   have hs:=trivial
   have hz1:(⟨#[88]⟩:ByteArray).size=1:=rfl
   refine AL Dc Cs (of_decide_eq_true rfl) ?_
   simp (disch:=omega) only [Cr,go_sem,Aa,ha,ht,ho,hs,D0,BN,A7,Bi]
   rw [hQ]
   exact ⟨_,p1,s1,rfl,by omega,by omega⟩
theorem Kr (l:List Int) (hl:Bytes l) (hn:l.length≤1099511627776):∃ u:ByteArray,E 20 [.arr (l.map by_)] []=some (.str u,[])∧u.size≤1000:=by
 obtain ⟨t,p1,s1,ht,g1,g2⟩:=Jt l hl hn 0 0 (by omega) (by omega)
 obtain ⟨u,p2,s2,hu,g3,g4⟩:=VD l hl hn t g2 p1 s1 (by omega) (by omega)
 have hxs:t.sv=.agg [.str t.name,.arr (t.args.map Tm.d)]:=rfl
 rw [hxs] at hu
 refine ⟨u,?_,g4⟩
 refine Ab HF Au (of_decide_eq_true rfl) ?_
 simp (disch:=omega) only [EG,go_sem,Aa,ht,hu,B6,Cs]
theorem JL (l:List Int) (hl:Bytes l) (hn:l.length≤1099511627776):∃ t:Tm,E 5 [.arr (l.map by_)] []=some (t.sv,[])∧t.nodes≤150:=by
 obtain ⟨t,ht,g⟩:=Ju l hl hn
 refine ⟨t,?_,g⟩
 refine Ab Hj Ao (of_decide_eq_true rfl) ?_
 simp (disch:=omega) only [En,go_sem,Aa,ht,Ee]
theorem Rk (l:List Int) (hl:Bytes l) (hn:l.length≤1099511627776) (p s:Int) (h0:0≤p) (h1:p≤1096000000000):∃ b t p' s',E 55 [.ptr 0 0] [cur l p s]=some (SV.agg [.bool b,.str (Tm.name t),.ref 1],[cur l p' s',Id t])∧(p≤p'∧p'≤p+110)∧t.nodes≤15:=by
 obtain ⟨b,p1,s1,ho,g1,g2⟩:=Jq l hl hn 2 (by omega) (by omega) p s h0 (by omega)
 obtain ⟨t,p2,s2,ht,g3,g4⟩:=SM l hl hn p1 s1 (by omega) (by omega)
 refine ⟨b,t,p2,s2,?_,by omega,g4⟩
 refine Ab HG Ct (of_decide_eq_true rfl) ?_
 simp (disch:=omega) only [EH,go_sem,Aa,ho,ht,A7,Bf]
theorem SP (l:List Int) (hl:Bytes l) (hn:l.length≤1099511627776) (p s:Int) (h0:0≤p) (h1:p≤1095000000000):∃ b t p' s',E 31 [.ptr 0 0] [cur l p s]=some (SV.agg [.bool b,.str (Tm.name t),.ref 1],[cur l p' s',Id t])∧(p≤p'∧p'≤p+700)∧t.nodes≤150:=by
 obtain ⟨Q,hQ⟩:∃ Q:SV × List Ob→Prop,Q=fun out=>∃ b t p' s',out=(SV.agg [.bool b,.str (Tm.name t),.ref 1],[cur l p' s',Id t])∧(p≤p'∧p'≤p+700)∧Tm.nodes t≤150:=⟨_,rfl⟩
 suffices hq0:∃ out,E 31 [.ptr 0 0] [cur l p s]=some out∧Q out by
  obtain ⟨out,hq1,hq2⟩:=hq0
  rw [hQ] at hq2
  obtain ⟨b,t,p',s',rfl,hq3⟩:=hq2
  exact ⟨b,t,p',s',hq1,hq3⟩
 obtain ⟨b,t,p1,s1,hd,g1,g2⟩:=Rk l hl hn p s h0 (by omega)
 obtain ⟨v,p2,s2,hv,⟨v0,v1⟩,g3,g4⟩:=EN l hl hn 16 (by omega) (by omega) p1 s1 (by omega) (by omega)
 have hal:=Tm.LK t
 rcases (show v=0∨v=1∨(¬ v=0∧¬ v=1) by omega) with rfl | rfl | ⟨k0,k1⟩
 ·obtain ⟨t2,p3,s3,ho,g5,g6⟩:=Nc l hl hn p2 s2 (by omega) (by omega)
  refine AL CA BW (of_decide_eq_true rfl) ?_
  simp (disch:=omega) only [BV,go_sem,Aa,hd,hv,ho,Ct,Ac,A8,As]
  rw [hQ]
  exact ⟨b,t2,p3,s3,rfl,by omega,g6⟩
 ·obtain ⟨t2,p3,s3,ho,g5,g6⟩:=HD l hl hn p2 s2 (by omega) (by omega)
  refine AL CA BW (of_decide_eq_true rfl) ?_
  simp (disch:=omega) only [BV,go_sem,Aa,hd,hv,ho,Ct,Ac,A8,As]
  rw [hQ]
  refine ⟨b,.mk t.name (t.args++[t2]),p3,s3,?_,by omega,by rw [Tm.GG,Tm.HZ,Tm.SN]; have:=Tm.An t; omega⟩
  show _=(SV.agg [.bool b,.str t.name,.ref 1],[cur l p3 s3,.row 26 2 ((t.args++[t2]).map Tm.osh)])
  rw [zO]
  rfl
 ·have k0:=eq_false k0
  have k1:=eq_false k1
  refine AL CA BW (of_decide_eq_true rfl) ?_
  simp (disch:=omega) only [BV,go_sem,Aa,hd,hv,k0,k1,Ct,Ac,A8,As]
  rw [hQ]
  exact ⟨b,t,p2,s2,rfl,by omega,by omega⟩
theorem Ie (l:List Int) (hl:Bytes l) (hn:l.length≤1099511627776):∃ x:Lt,E 12 [.arr (l.map by_)] []=some (x.sv,[])∧x.atom.nodes≤150:=by
 obtain ⟨b,t,p1,s1,ht,g1,g2⟩:=SP l hl hn 0 0 (by omega) (by omega)
 refine ⟨⟨b,t⟩,?_,g2⟩
 have hxs:(⟨b,t⟩:Lt).sv=.agg [.bool b,.str t.name,.arr (t.args.map Tm.d)]:=rfl
 rw [hxs]
 refine Ab Gk Ah (of_decide_eq_true rfl) ?_
 simp (disch:=omega) only [DG,go_sem,Aa,ht,BW]
theorem K5:∀ q:List Int,OT.erss (q.map fun n=>[OT.int n])=q.map fun n=>[D.int n]
 | []=>rfl
 | x :: q=>by simp only [zF,OT.erss,OT.ers,OT.er,K5 q]
theorem K6:∀ q:List Int,OT.AP (q.map fun n=>[OT.int n])=true
 | []=>rfl
 | x :: q=>by simp only [zF,OT.AP,OT.Ej,OT.full,K6 q,Bool.and_self]
theorem HH (l:List Int) (hl:Bytes l) (hn:l.length≤1099511627776):∃ q:List Int,E 16 [.arr (l.map by_)] []=some (.arr (q.map fun n=>[D.int n]),[])∧q.length≤20:=by
 obtain ⟨Q,hQ⟩:∃ Q:SV × List Ob→Prop,Q=fun out=>∃ q,out=(.arr (List.map (fun n=>[D.int n]) q),[])∧List.length q≤20:=⟨_,rfl⟩
 suffices hq0:∃ out,E 16 [.arr (l.map by_)] []=some out∧Q out by
  obtain ⟨out,hq1,hq2⟩:=hq0
  rw [hQ] at hq2
  obtain ⟨q,rfl,hq3⟩:=hq2
  exact ⟨q,hq1,hq3⟩
 obtain ⟨m,p1,s1,hm,hmem,g1,g2⟩:=Qt l hl hn [0,1,2,3,7,8,9] (by decide) (by decide) 0 0 (by omega) (by omega)
 simp only [zF,zH] at hm
 have hm9:m≤9:=by simp at hmem; omega
 refine AL FH Ae (of_decide_eq_true rfl) ?_
 simp (disch:=omega) only [D6,go_sem,Aa,hm,CJ]
 refine go_loop (α:=Int × List Int × Int × Int) (fun a=>⟨slots 31 0 [(3,.ptr 0 0),(4,.ref 1),(5,.int .i64 a.1)],[cur l a.2.2.1 a.2.2.2,.row 3 1 (a.2.1.map fun n=>[OT.int n])]⟩) (fun a=>a.1+(a.2.1.length:Int)≤9∧a.2.1.length≤9∧0≤a.2.2.1∧a.2.2.1≤1000+(a.2.1.length:Int)) (fun a=>a.1.toNat) (m,[],p1,s1) ⟨by simpa using hm9,by simp,by dsimp only; omega,by dsimp only; omega⟩ (by simp (disch:=omega) only [go_sem,Aa,zH]) ?_
 rintro ⟨n,q,p,s⟩ ⟨i1,i2,i3,i4⟩
 dsimp only at i1 i2 i3 i4
 rcases Int.lt_or_le 0 n with q0 | q0
 ·obtain ⟨v,p2,s2,hv,_,g3,g4⟩:=EN l hl hn 4 (by omega) (by omega) p s i3 (by omega)
  have hl1:(q.map fun n=>[OT.int n])++[[OT.int v]]=(q++[v]).map fun n=>[OT.int n]:=by simp
  have hq0:(0<n)=True:=eq_true q0
  simp (disch:=omega) only [go_sem,Aa,hq0,hv,hl1,Ac]
  exact ⟨(n-1,q++[v],p2,s2),⟨by simp; omega,by simp; omega,by dsimp only; omega,by simp; omega⟩,by dsimp only; omega,by first | trivial | rfl | exact ⟨rfl,rfl⟩⟩
 ·have hq0:(0<n)=False:=eq_false (by omega)
  obtain ⟨b,p2,s2,ho,g3,g4⟩:=Jq l hl hn 8 (by omega) (by omega) p s i3 (by omega)
  cases b with
  | false =>
   have hx:=trivial
   have hl1:=trivial
   have hf:=K6 q
   have he:=K5 q
   simp (disch:=omega) only [go_sem,Aa,hq0,ho,hx,hl1,hf,he,A7,CJ]
   rw [hQ]
   exact ⟨q,rfl,by omega⟩
  | true =>
   obtain ⟨x,p3,s3,hx,_,_,_⟩:=Qt l hl hn [-1,4] (by decide) (by decide) p2 s2 (by omega) (by omega)
   simp only [zF,zH] at hx
   have hl1:(q.map fun n=>[OT.int n])++[[OT.int x]]=(q++[x]).map fun n=>[OT.int n]:=by simp
   have hf:=K6 (q++[x])
   have he:=K5 (q++[x])
   simp (disch:=omega) only [go_sem,Aa,hq0,ho,hx,hl1,hf,he,A7,CJ]
   rw [hQ]
   exact ⟨q++[x],rfl,by simp; omega⟩
theorem OL {α:Type} {xs ys:List α} {k:Nat} (hx:k<xs.length) (hy:k<ys.length):xs.drop k=ys.drop k ↔ xs[k]=ys[k]∧xs.drop (k+1)=ys.drop (k+1):=by
 rw [zI hx,zI hy,zV]
theorem Tm.eq_iff (x y:Tm):x=y ↔ x.name=y.name∧x.args=y.args:=by
 obtain ⟨n,a⟩:=x
 obtain ⟨m,b⟩:=y
 rw [Tm.mk.injEq]; rfl
def Kk:SC:=(.seq (.reg [⟨some 2,none,.mv (.c (.bool false))⟩]) (.seq (.reg [⟨some 3,none,.mv (.t 0)⟩,⟨some 4,none,.len false (.t 3)⟩,⟨some 5,none,.bin .gtr false (.t 4) (.c (.int .i64 65536))⟩,⟨some 2,none,.mv (.t 5)⟩]) .ret))
theorem OM:Ar Tryz.prog 4=some ⟨6,Kk,[(.tmp 2)]⟩:=by kernel_rfl
theorem AM:modes 4=⟨[],.asis,none,false⟩:=by unfold modes; rfl
def E5:SC:=(.seq (.reg [⟨some 2,none,.boxv 26 2 (.t 0)⟩,⟨some 3,none,.boxv 26 2 (.t 1)⟩,⟨some 4,none,.mv (.c (.bool false))⟩]) (.seq (.seq (.reg [⟨some 6,none,.faddr 0 (.t 2)⟩,⟨some 7,none,.load false 1 (.t 6)⟩,⟨some 8,none,.faddr 0 (.t 3)⟩,⟨some 9,none,.load false 1 (.t 8)⟩,⟨some 10,none,.bin .neq false (.t 7) (.t 9)⟩,⟨some 11,none,.mv (.t 10)⟩,⟨(some 12),(some (11,false)),(.faddr 1 (.t 2))⟩,⟨(some 13),(some (11,false)),(.load false 1 (.t 12))⟩,⟨(some 14),(some (11,false)),(.len false (.t 13))⟩,⟨(some 15),(some (11,false)),(.faddr 1 (.t 3))⟩,⟨(some 16),(some (11,false)),(.load false 1 (.t 15))⟩,⟨(some 17),(some (11,false)),(.len false (.t 16))⟩,⟨(some 18),(some (11,false)),(.bin .neq false (.t 14) (.t 17))⟩,⟨some 19,none,.pick (.t 11) (.c (.bool true)) (.t 18)⟩]) (.cond (.t 19) (.seq (.reg [⟨some 4,none,.mv (.c (.bool false))⟩]) .ret) .skip)) (.seq (.seq (.reg [⟨some 5,none,.mv (.c (.int .i64 0))⟩]) (.block 0 (.loop [0,0,1,1,0,1,0,0,0,0,0,0,0,0,0,0,0,0,0,0,0,0,0,0,0,0,0,0,0,0,0,0,0,0,0,0,0,0,0] (.seq (.seq (.reg [⟨some 20,none,.mv (.t 5)⟩,⟨some 21,none,.faddr 1 (.t 2)⟩,⟨some 22,none,.load false 1 (.t 21)⟩,⟨some 23,none,.len false (.t 22)⟩,⟨some 24,none,.bin .lss false (.t 20) (.t 23)⟩]) (.cond (.t 24) .skip (.exit 0))) (.seq (.block 1 (.seq (.dreg [[],[0],[],[1,0,2],[3,1,0,2],[],[5],[],[6,5,7],[8,6,5,7],[4,3,1,0,2,9,8,6,5,7],[10,4,3,1,0,2,9,8,6,5,7]] [⟨some 27,none,.faddr 1 (.t 2)⟩,⟨some 28,none,.load false 1 (.t 27)⟩,⟨some 29,none,.mv (.t 5)⟩,⟨some 30,none,.iaddr 2 (.t 28) (.t 29)⟩,⟨some 31,none,.load true 2 (.t 30)⟩,⟨some 32,none,.faddr 1 (.t 3)⟩,⟨some 33,none,.load false 1 (.t 32)⟩,⟨some 34,none,.mv (.t 5)⟩,⟨some 35,none,.iaddr 2 (.t 33) (.t 34)⟩,⟨some 36,none,.load true 2 (.t 35)⟩,⟨some 37,none,.call 10 [(.t 31),(.t 36)]⟩,⟨some 38,none,.un .not (.t 37)⟩]) (.cond (.t 38) (.seq (.reg [⟨some 4,none,.mv (.c (.bool false))⟩]) .ret) .skip))) (.reg [⟨some 25,none,.mv (.t 5)⟩,⟨some 26,none,.bin .add false (.t 25) (.c (.int .i64 1))⟩,⟨some 5,none,.mv (.t 26)⟩])))))) (.seq (.reg [⟨some 4,none,.mv (.c (.bool true))⟩]) .ret))))
theorem Gl:Ar Tryz.prog 10=some ⟨39,E5,[(.tmp 4)]⟩:=by kernel_rfl
theorem AB:modes 10=⟨[],.asis,none,false⟩:=by unfold modes; rfl
theorem VE (l:List Int):E 4 [.arr (l.map by_)] []=some (.bool (dec (65536<(l.length:Int))),[]):=by
 refine Ab OM AM (of_decide_eq_true rfl) ?_
 simp (disch:=omega) only [Kk,go_sem,Aa]
theorem Rl (x:Tm) (y:Tm) (hnx:x.nodes≤1099511627776) (hny:y.nodes≤1099511627776) (ih:∀ x'∈x.args,∀ y':Tm,x'.nodes≤1099511627776→y'.nodes≤1099511627776→E 10 [x'.sv,y'.sv] []=some (.bool (dec (x'=y')),[])):E 10 [x.sv,y.sv] []=some (.bool (dec (x=y)),[]):=by
 have lx:=Tm.length_le x.args
 have ly:=Tm.length_le y.args
 have nx:=Tm.An x
 have ny:=Tm.An y
 rw [N0 (Tm.eq_iff x y)]
 by_cases h0:x.name=y.name
 ·rw [N0 (and_iff_right h0)]
  have hq:(x.name=y.name)=True:=by simp [h0]
  by_cases hlen:x.args.length=y.args.length
  ·have hq2:((x.args.length:Int)=(y.args.length:Int))=True:=by first | exact eq_true (by omega) | exact eq_false (by omega)
   refine Ab Gl AB (of_decide_eq_true rfl) ?_
   simp (disch:=omega) only [E5,go_sem,Aa,hq,hq2]
   refine go_loop (α:=Int) (fun a=>⟨slots 39 0 [(2,.ptr 0 0),(3,.ptr 1 0),(5,.int .i64 a)],[.box 26 [.str x.name,.arr (x.args.map Tm.d)],.box 26 [.str y.name,.arr (y.args.map Tm.d)]]⟩) (fun a=>∃ k:Nat,a=k∧k≤(x.args).length∧dec (x.args.drop k=y.args.drop k)=dec (x.args=y.args)) (fun a=>(x.args).length-(a).toNat) 0 ⟨0,rfl,zS _,by rw [zT,zT]⟩ (by simp (disch:=omega) only [go_sem,Aa]) ?_
   rintro i ⟨k,hi,hk,hR⟩
   have hni:i.toNat=k:=by omega
   have hni1:(i+1).toNat=k+1:=by omega
   rcases zL k (x.args).length with hlt | hge
   ·have hgx:=get_at Tm.d hlt
    rw [Tm.Ga] at hgx
    have hlt':k<y.args.length:=by omega
    have hgy:=get_at Tm.d hlt'
    rw [Tm.Ga] at hgy
    have hc:=ih x.args[k] (zN hlt) y.args[k] (by have:=Tm.CT (zN hlt); omega) (by have:=Tm.CT (zN hlt'); omega)
    rw [N0 (OL hlt hlt')] at hR
    by_cases h0:x.args[k]=y.args[k]
    ·rw [Bb h0] at hc
     rw [N0 (and_iff_right h0)] at hR
     simp (disch:=omega) only [go_sem,Aa,hni,hgx,hgy,hc,AB]
     exact ⟨i+1,⟨k+1,by omega,hlt,hR⟩,by omega,by first | trivial | rfl⟩
    ·rw [Be h0] at hc
     rw [Be (fun h=>h0 h.1)] at hR
     simp (disch:=omega) only [go_sem,Aa,hni,hgx,hgy,hc,AB]
     exact hR
   ·rw [zM hge,zM (by omega),AD] at hR
    simp (disch:=omega) only [go_sem,Aa,hni]
    exact hR
  ·have hq2:((x.args.length:Int)=(y.args.length:Int))=False:=by first | exact eq_true (by omega) | exact eq_false (by omega)
   have he:dec (x.args=y.args)=false:=Be fun h=>hlen (by rw [h])
   rw [he]
   refine Ab Gl AB (of_decide_eq_true rfl) ?_
   simp (disch:=omega) only [E5,go_sem,Aa,hq,hq2]
 ·have hq:(x.name=y.name)=False:=by simp [h0]
  rw [Be (fun h=>h0 h.1)]
  refine Ab Gl AB (of_decide_eq_true rfl) ?_
  simp (disch:=omega) only [E5,go_sem,Aa,hq]
theorem Ef (x y:Tm) (hnx:x.nodes≤1099511627776) (hny:y.nodes≤1099511627776):E 10 [x.sv,y.sv] []=some (.bool (dec (x=y)),[]) :=
 Rl x y hnx hny fun x' hx' y' h h'=>Ef x' y' h h'
termination_by SizeOf.sizeOf x
decreasing_by exact Tm.Bt hx'
theorem HI:modes 62=⟨[],.asis,some (G4 MC),false⟩:=by unfold modes; rfl
theorem VF (n:Int) (h0:0≤n) (h1:n≤1099511627776):E 62 [.int .i64 n] []=some (.str (Cx n),[]) :=
 Jc (g:=MC) (congrArg FM.ext HI) (by simp only [MC,Bb (⟨h0,h1⟩:0≤n∧n≤1099511627776),cond_true])
theorem CQ:modes 40=⟨[],.asis,some (G4 JC),false⟩:=by unfold modes; rfl
theorem ON (s:ByteArray) (hs:s.size≤1048576):E 40 [.str s,.str ⟨#[46]⟩] []=some (.arr ((Dj s dotB).map fun x=>[D.str x]),[]):=by
 refine Jc (g:=JC) (congrArg FM.ext CQ) ?_
 unfold JC
 simp only
 rw [Bb ⟨hs,by decide⟩]; rfl
theorem BX:modes 41=⟨[],.asis,some (G4 DR),false⟩:=by unfold modes; rfl
theorem OO:E 41 [.str ⟨#[]⟩] []=some (.tup [.int .i64 0,.bool false],[]):=by
 refine Jc (g:=DR) (congrArg FM.ext BX) ?_
 unfold DR
 simp only
 rw [Bb trivial]; rfl
theorem OP (k:Int) (h:0≤k∧k≤3):E 41 [.str (Cx k)] []=some (.tup [.int .i64 k,.bool true],[]):=by
 refine Jc (g:=DR) (congrArg FM.ext BX) ?_
 obtain ⟨c,h1,h2,h3⟩:=GD h
 have hne:¬ Cx k=⟨#[]⟩:=by
  rw [h1]
  intro e
  have e2:=congrArg ByteArray.toList e
  rw [FA,AZ] at e2
  cases e2
 have hd:UT (Cx k)=k:=by
  rw [h1]
  show (c.toNat:Int)-48=k
  omega
 unfold DR
 simp only
 rw [Be hne,cond_false,Bb ⟨k,h.1,h.2,rfl,hd⟩,cond_true,hd]
def Gm:SC:=(.seq (.reg [⟨some 6,none,.mv (.c (.bool false))⟩]) (.seq (.reg [⟨some 7,none,.mv (.t 0)⟩,⟨some 8,none,.mv (.t 1)⟩,⟨some 9,none,.bin .geq false (.t 7) (.t 8)⟩,⟨some 10,none,.mv (.t 9)⟩,⟨(some 11),(some (10,true)),(.mv (.t 0))⟩,⟨(some 12),(some (10,true)),(.mv (.t 2))⟩,⟨(some 13),(some (10,true)),(.bin .leq false (.t 11) (.t 12))⟩,⟨some 14,none,.pick (.t 10) (.t 13) (.c (.bool false))⟩,⟨some 6,none,.mv (.t 14)⟩]) .ret))
theorem Iu:Ar Tryz.prog 61=some ⟨15,Gm,[(.tmp 6)]⟩:=by kernel_rfl
theorem Gn:modes 61=⟨[],.asis,none,false⟩:=by unfold modes; rfl
def EV:SC:=(.seq (.reg [⟨some 2,none,.mv (.c (.bool false))⟩]) (.seq (.reg [⟨some 3,none,.mv (.t 0)⟩,⟨some 4,none,.call 61 [(.t 3),(.c (.int .i64 0)),(.c (.int .i64 3))]⟩,⟨some 5,none,.un .not (.t 4)⟩,⟨some 2,none,.mv (.t 5)⟩]) .ret))
theorem If:Ar Tryz.prog 60=some ⟨6,EV,[(.tmp 2)]⟩:=by kernel_rfl
theorem DA:modes 60=⟨[],.asis,none,false⟩:=by unfold modes; rfl
theorem EW:LM Tryz.prog 60=true:=by kernel_rfl
def Dt:SC:=(.seq (.reg [⟨some 4,none,.mv (.c (.int .i64 0))⟩]) (.seq (.seq (.reg [⟨some 6,none,.mv (.t 0)⟩,⟨some 7,none,.len false (.t 6)⟩,⟨some 8,none,.mv (.c (.int .i64 0))⟩]) (.block 0 (.loop [1,1,0,0,0,0,0,1,1,0,0,0,0,0,0,0,0,0,0] (.seq (.reg [⟨some 9,none,.bin .lss false (.t 8) (.t 7)⟩]) (.seq (.cond (.t 9) .skip (.exit 0)) (.seq (.block 1 (.seq (.reg [⟨some 10,none,.mv (.t 8)⟩,⟨some 5,none,.mv (.t 10)⟩]) (.seq (.reg [⟨some 11,none,.mv (.t 1)⟩,⟨some 12,none,.mv (.t 0)⟩,⟨some 13,none,.mv (.t 5)⟩,⟨some 14,none,.iaddr 1 (.t 12) (.t 13)⟩,⟨some 15,none,.load false 1 (.t 14)⟩,⟨some 16,none,.callv (.t 11) [(.t 15)]⟩]) (.cond (.t 16) (.seq (.reg [⟨some 17,none,.mv (.t 5)⟩,⟨some 4,none,.mv (.t 17)⟩]) .ret) .skip)))) (.reg [⟨some 18,none,.bin .add false (.t 8) (.c (.int .i64 1))⟩,⟨some 8,none,.mv (.t 18)⟩]))))))) (.seq (.reg [⟨some 4,none,.mv (.c (.int .i64 (-(0+1))))⟩]) .ret)))
theorem FE:Ar Tryz.prog 92=some ⟨19,Dt,[(.tmp 4)]⟩:=by kernel_rfl
theorem Du:modes 92=⟨[],.asis,none,false⟩:=by unfold modes; rfl
def CE:SC:=(.seq (.reg [⟨some 4,none,.mv (.c (.bool false))⟩]) (.seq (.reg [⟨some 5,none,.mv (.t 0)⟩,⟨some 6,none,.mv (.t 1)⟩,⟨some 7,none,.call 92 [(.t 5),(.t 6)]⟩,⟨some 8,none,.bin .geq false (.t 7) (.c (.int .i64 0))⟩,⟨some 4,none,.mv (.t 8)⟩]) .ret))
theorem EI:Ar Tryz.prog 59=some ⟨9,CE,[(.tmp 4)]⟩:=by kernel_rfl
theorem BR:modes 59=⟨[],.asis,none,false⟩:=by unfold modes; rfl
def Eg:SC:=(.seq (.reg [⟨some 2,none,.mv (.c (.bool false))⟩]) (.seq (.reg [⟨some 3,none,.mv (.t 0)⟩,⟨some 4,none,.len false (.t 3)⟩,⟨some 5,none,.bin .leq false (.t 4) (.c (.int .i64 8))⟩,⟨some 6,none,.mv (.t 5)⟩,⟨(some 7),(some (6,true)),(.mv (.t 0))⟩,⟨(some 8),(some (6,true)),(.call 59 [(.t 7),(.c (.fn 60 []))])⟩,⟨(some 9),(some (6,true)),(.un .not (.t 8))⟩,⟨some 10,none,.pick (.t 6) (.t 9) (.c (.bool false))⟩,⟨some 2,none,.mv (.t 10)⟩]) .ret))
theorem FV:Ar Tryz.prog 38=some ⟨11,Eg,[(.tmp 2)]⟩:=by kernel_rfl
theorem BE:modes 38=⟨[],.asis,none,false⟩:=by unfold modes; rfl
def CW:SC:=(.seq (.reg [⟨(some 2),none,(.mv (.c (.str ⟨#[]⟩)))⟩]) (.seq (.seq (.reg [⟨some 6,none,.mv (.t 0)⟩,⟨some 7,none,.len false (.t 6)⟩,⟨some 8,none,.bin .eql false (.t 7) (.c (.int .i64 0))⟩]) (.cond (.t 8) (.seq (.reg [⟨(some 2),none,(.mv (.c (.str ⟨#[45]⟩)))⟩]) .ret) .skip)) (.seq (.reg [⟨(some 9),none,(.mkrow 9 1 [(.str ⟨#[]⟩)] 0 [])⟩,⟨some 3,none,.mv (.t 9)⟩]) (.seq (.seq (.reg [⟨some 10,none,.mv (.t 0)⟩,⟨some 11,none,.len false (.t 10)⟩,⟨some 12,none,.mv (.c (.int .i64 0))⟩]) (.block 0 (.loop [0,0,0,1,0,0,0,0,0,0,1,1,1,0,0,0,0,0,0,0,0,0,0,0] (.seq (.reg [⟨some 13,none,.bin .lss false (.t 12) (.t 11)⟩]) (.seq (.cond (.t 13) .skip (.exit 0)) (.seq (.block 1 (.seq (.reg [⟨some 14,none,.iaddr 1 (.t 10) (.t 12)⟩,⟨some 15,none,.load false 1 (.t 14)⟩,⟨some 5,none,.mv (.t 15)⟩]) (.reg [⟨some 16,none,.mv (.t 3)⟩,⟨some 17,none,.mv (.t 5)⟩,⟨some 18,none,.call 62 [(.t 17)]⟩,⟨(some 19),none,(.mkrow 9 1 [(.str ⟨#[]⟩)] 1 [(0,(.t 18))])⟩,⟨(some 20),none,(.append 9 1 16 [(.str ⟨#[]⟩)] (.t 16) (.t 19))⟩,⟨some 3,none,.mv (.t 20)⟩]))) (.reg [⟨some 21,none,.bin .add false (.t 12) (.c (.int .i64 1))⟩,⟨some 12,none,.mv (.t 21)⟩]))))))) (.seq (.reg [⟨some 22,none,.mv (.t 3)⟩,⟨(some 23),none,(.call 45 [(.t 22),(.c (.str ⟨#[46]⟩))])⟩,⟨some 2,none,.mv (.t 23)⟩]) .ret)))))
theorem Eo:Ar Tryz.prog 39=some ⟨24,CW,[(.tmp 2)]⟩:=by kernel_rfl
theorem Bw:modes 39=⟨[],.asis,none,false⟩:=by unfold modes; rfl
noncomputable def dg3 (k:Int):Bool:=dec (0≤k)&&dec (k≤3)
theorem Rm (k:Int):E 61 [.int .i64 k,.int .i64 0,.int .i64 3] []=some (.bool (dg3 k),[]):=by
 unfold dg3
 cases h:dec (0≤k) with
 | false =>
  rw [Bool.false_and]
  refine Ab Iu Gn (of_decide_eq_true rfl) ?_
  simp (disch:=omega) only [Gm,go_sem,Aa,h]
 | true =>
  rw [Bool.true_and]
  refine Ab Iu Gn (of_decide_eq_true rfl) ?_
  simp (disch:=omega) only [Gm,go_sem,Aa,h]
theorem SQ (k:Int):E 60 [.int .i64 k] []=some (.bool (!dg3 k),[]):=by
 have h1:=Rm k
 refine Ab If DA (of_decide_eq_true rfl) ?_
 simp (disch:=omega) only [EV,go_sem,Aa,h1,Gn]
theorem PJ (xs:List Int) (hl:xs.length≤1099511627776):E 92 [.arr (xs.map (fun n=>[D.int n])),.fn 60 []] []=some (.int .i64 (IA (fun k=>!dg3 k) xs 0),[]):=by
 refine Ab FE Du (of_decide_eq_true rfl) ?_
 simp (disch:=omega) only [Dt,go_sem,Aa]
 refine go_loop (α:=Int) (fun a=>⟨slots 19 0 [(0,.arr (xs.map (fun n=>[D.int n]))),(1,.fn 60 []),(7,.int .i64 xs.length),(8,.int .i64 a)],[]⟩) (fun a=>∃ k:Nat,a=k∧k≤(xs).length∧IA (fun k=>!dg3 k) (xs.drop k) a=IA (fun k=>!dg3 k) xs 0) (fun a=>(xs).length-(a).toNat) 0 ⟨0,rfl,zS _,by rw [zT]⟩ (by simp (disch:=omega) only [go_sem,Aa]) ?_
 rintro i ⟨k,hi,hk,hR⟩
 have hni:i.toNat=k:=by omega
 have hni1:(i+1).toNat=k+1:=by omega
 rcases zL k (xs).length with hlt | hge
 ·have hg':=get_at (fun n=>[D.int n]) hlt
  have hc:=SQ xs[k]
  rw [zI hlt,IA] at hR
  cases hp:dg3 xs[k] with
  | false =>
   rw [hp] at hc hR
   simp only [Bool.not_false] at hc hR
   simp (disch:=omega) only [go_sem,Aa,hni,hg',hc,EW,DA]
   simpa using hR
  | true =>
   rw [hp] at hc hR
   simp only [Bool.not_true] at hc hR
   simp (disch:=omega) only [go_sem,Aa,hni,hg',hc,EW,DA]
   exact ⟨i+1,⟨k+1,by omega,hlt,by simpa using hR⟩,by omega,by first | trivial | rfl⟩
 ·rw [zM hge,IA] at hR
  simp (disch:=omega) only [go_sem,Aa,hni]
  exact hR
theorem Mc (xs:List Int) (hl:xs.length≤1099511627776):E 59 [.arr (xs.map (fun n=>[D.int n])),.fn 60 []] []=some (.bool (xs.any fun k=>!dg3 k),[]):=by
 have h:=PJ xs hl
 refine Ab EI BR (of_decide_eq_true rfl) ?_
 simp (disch:=omega) only [CE,go_sem,Aa,h,Du]
 rw [O2]
theorem Jv (p:List Int) (hl:p.length≤1099511627776):E 38 [.arr (p.map (fun n=>[D.int n]))] []=some (.bool (EF p),[]):=by
 have h:=Mc p hl
 have e:EF p=(dec (p.length≤8)&&!(p.any fun k=>!dg3 k)):=by
  unfold EF dg3
  congr 1
  rw [List.not_any_eq_all_not]
  congr 1
  funext k
  rw [Bool.not_not]
 rw [e]
 rcases zL 8 p.length with h8 | h8
 ·have q:((p.length:Int)≤8)=False:=eq_false (by omega)
  rw [Be (by omega),Bool.false_and]
  refine Ab FV BE (of_decide_eq_true rfl) ?_
  simp (disch:=omega) only [Eg,go_sem,Aa,h,q,BR]
 ·have q:((p.length:Int)≤8)=True:=eq_true (by omega)
  rw [Bb h8,Bool.true_and]
  refine Ab FV BE (of_decide_eq_true rfl) ?_
  simp (disch:=omega) only [Eg,go_sem,Aa,h,q,BR]
theorem OQ:∀ p:List Int,(∀ k∈p,0≤k∧k≤3)→LY (p.map fun k=>(Cx k).toList)≤2*p.length
 | [],_=>Nat.le_refl _
 | k :: r,h=>by
  obtain ⟨c,h1,_,_⟩:=GD (h k (by simp))
  have ih:=OQ r fun x hx=>h x (by simp [hx])
  rw [zF,LY,h1,FA]
  have e:([c]:List UInt8).length=1:=rfl
  have e1:(k :: r).length=r.length+1:=rfl
  omega
theorem Nf {p:List Int} (h:∀ k∈p,0≤k∧k≤3):(C5 (p.map Cx) dotB).size≤2*p.length:=by
 rw [←AA,Fd,EE,yA]
 exact Nat.le_trans (JG 46 _) (OQ p h)
theorem SR:∀ p:List Int,OT.erss (p.map fun k=>[OT.str (Cx k)])=p.map ((fun s=>[D.str s]) ∘ Cx)
 | []=>rfl
 | k :: r=>by simp only [zF,OT.erss,OT.ers,OT.er,SR r,Function.comp]
theorem SS:∀ p:List Int,OT.AP (p.map fun k=>[OT.str (Cx k)])=true
 | []=>rfl
 | k :: r=>by simp only [zF,OT.AP,OT.Ej,OT.full,SS r,Bool.and_self]
theorem GH (p:List Int) (h:EF p=true):E 39 [.arr (p.map (fun n=>[D.int n]))] []=some (.str (LC p),[]):=by
 obtain ⟨h8,hkk⟩:=OC h
 unfold LC
 by_cases hpn:p=[]
 ·subst hpn
  have q:dec (([]:List Int)=[])=true:=Bb rfl
  rw [q,cond_true]
  have hm:([]:List Int).map (fun n=>[D.int n])=[]:=rfl
  rw [hm]
  refine Ab Eo Bw (of_decide_eq_true rfl) ?_
  simp (disch:=omega) only [CW,go_sem,Aa]
 have hpl:0<p.length:=List.length_pos_iff.2 hpn
 have q:((p.length:Int)=0)=False:=eq_false (by omega)
 rw [Be hpn,cond_false]
 have hz:=Nf hkk
 have hj:E 45 [.arr ((p.map Cx).map fun s=>[D.str s]),.str ⟨#[46]⟩] []=some (.str (C5 (p.map Cx) dotB),[]):=SD (p.map Cx) dotB (by rw [zY]; omega) (by omega)
 rw [yA] at hj
 have hm0:([]:List Int).map (fun k=>[OT.str (Cx k)])=[]:=rfl
 refine Ab Eo Bw (of_decide_eq_true rfl) ?_
 simp (disch:=omega) only [CW,go_sem,Aa,q]
 refine go_loop (α:=Int) (fun a=>⟨slots 24 0 [(3,.ref 0),(10,.arr (p.map (fun n=>[D.int n]))),(11,.int .i64 p.length),(12,.int .i64 a)],[.row 9 1 ((p.take a.toNat).map fun k=>[OT.str (Cx k)])]⟩) (fun a=>∃ k:Nat,a=k∧k≤(p).length) (fun a=>(p).length-(a).toNat) 0 ⟨0,rfl,zS _⟩ (by simp (disch:=omega) only [go_sem,Aa,List.take_zero,hm0,zR]) ?_
 rintro i ⟨k,hi,hk⟩
 have hni:i.toNat=k:=by omega
 have hni1:(i+1).toNat=k+1:=by omega
 rcases zL k (p).length with hlt | hge
 ·have hg:=get_at (fun n=>[D.int n]) hlt
  have hk3:=hkk _ (zN hlt)
  have hit:=VF p[k] hk3.1 (by omega)
  have hs:((p.take k).map fun k=>[OT.str (Cx k)])++[[OT.str (Cx p[k])]]=(p.take (k+1)).map fun k=>[OT.str (Cx k)]:=by
   rw [zP hlt,zO]; rfl
  have htl:(p.take k).length=k:=by rw [z6]; omega
  simp (disch:=omega) only [go_sem,Aa,hni,hg,hit,htl,hs,HI]
  refine ⟨i+1,⟨k+1,by omega,hlt⟩,by omega,?_⟩
  first | done | simp (disch:=omega) only [go_sem,Aa,hni1,hs]
 ·obtain rfl:k=p.length:=by omega
  have ht:p.take p.length=p:=z7
  have her:=SR p
  have hfu:=SS p
  simp (disch:=omega) only [go_sem,Aa,hni,ht,her,hfu,hj,F7]
def CX:SC:=(.seq (.reg [⟨(some 2),none,(.mv (.c (.str ⟨#[]⟩)))⟩,⟨some 3,none,.mv (.c (.bool false))⟩]) (.seq (.seq (.reg [⟨some 4,none,.mv (.t 0)⟩,⟨some 5,none,.call 38 [(.t 4)]⟩,⟨some 6,none,.un .not (.t 5)⟩]) (.cond (.t 6) (.seq (.reg [⟨(some 2),none,(.mv (.c (.str ⟨#[]⟩)))⟩,⟨some 3,none,.mv (.c (.bool false))⟩]) .ret) .skip)) (.seq (.reg [⟨some 7,none,.mv (.t 0)⟩,⟨some 8,none,.call 39 [(.t 7)]⟩,⟨some 2,none,.mv (.t 8)⟩,⟨some 3,none,.mv (.c (.bool true))⟩]) .ret)))
theorem Ep:Ar Tryz.prog 17=some ⟨9,CX,[(.tmp 2),(.tmp 3)]⟩:=by kernel_rfl
theorem Aj:modes 17=⟨[],.asis,none,false⟩:=by unfold modes; rfl
def Cu:SC:=(.seq (.reg [⟨some 2,none,.mv (.c .nil)⟩,⟨some 3,none,.mv (.c (.bool false))⟩]) (.seq (.reg [⟨some 9,none,.mkrow 3 1 [(.int .i64 0)] 0 []⟩,⟨some 4,none,.mv (.t 9)⟩]) (.seq (.seq (.reg [⟨some 10,none,.mv (.t 0)⟩,⟨(some 11),none,(.bin .neq false (.t 10) (.c (.str ⟨#[45]⟩)))⟩]) (.cond (.t 11) (.seq (.reg [⟨some 12,none,.mv (.t 0)⟩,⟨(some 13),none,(.call 40 [(.t 12),(.c (.str ⟨#[46]⟩))])⟩,⟨some 14,none,.len false (.t 13)⟩,⟨some 15,none,.mv (.c (.int .i64 0))⟩]) (.block 0 (.loop [1,0,0,0,1,0,0,0,0,0,0,0,0,1,1,1,0,0,0,0,0,0,0,0,0,0,0,0,0,0,0,0,0,0,0,0,0,0,0,0,0] (.seq (.reg [⟨some 16,none,.bin .lss false (.t 15) (.t 14)⟩]) (.seq (.cond (.t 16) .skip (.exit 0)) (.seq (.block 1 (.seq (.reg [⟨some 17,none,.iaddr 1 (.t 13) (.t 15)⟩,⟨some 18,none,.load false 1 (.t 17)⟩,⟨some 6,none,.mv (.t 18)⟩]) (.seq (.reg [⟨some 20,none,.mv (.t 6)⟩,⟨some 21,none,.call 41 [(.t 20)]⟩,⟨some 19,none,.mv (.t 21)⟩,⟨some 22,none,.ext (.t 19) 0⟩,⟨some 23,none,.ext (.t 19) 1⟩,⟨some 7,none,.mv (.t 22)⟩,⟨some 8,none,.mv (.t 23)⟩]) (.seq (.seq (.reg [⟨some 24,none,.mv (.t 8)⟩,⟨some 25,none,.un .not (.t 24)⟩]) (.cond (.t 25) (.seq (.reg [⟨some 2,none,.mv (.c .nil)⟩,⟨some 3,none,.mv (.c (.bool false))⟩]) .ret) .skip)) (.reg [⟨some 26,none,.mv (.t 4)⟩,⟨some 27,none,.mv (.t 7)⟩,⟨some 28,none,.mkrow 3 1 [(.int .i64 0)] 1 [(0,(.t 27))]⟩,⟨some 29,none,.append 3 1 8 [(.int .i64 0)] (.t 26) (.t 28)⟩,⟨some 4,none,.mv (.t 29)⟩]))))) (.reg [⟨some 30,none,.bin .add false (.t 15) (.c (.int .i64 1))⟩,⟨some 15,none,.mv (.t 30)⟩]))))))) .skip)) (.seq (.seq (.reg [⟨some 31,none,.mv (.t 4)⟩,⟨some 32,none,.call 38 [(.t 31)]⟩,⟨some 33,none,.un .not (.t 32)⟩,⟨some 34,none,.mv (.t 33)⟩,⟨(some 35),(some (34,false)),(.mv (.t 4))⟩,⟨(some 36),(some (34,false)),(.call 39 [(.t 35)])⟩,⟨(some 37),(some (34,false)),(.mv (.t 0))⟩,⟨(some 38),(some (34,false)),(.bin .neq false (.t 36) (.t 37))⟩,⟨some 39,none,.pick (.t 34) (.c (.bool true)) (.t 38)⟩]) (.cond (.t 39) (.seq (.reg [⟨some 2,none,.mv (.c .nil)⟩,⟨some 3,none,.mv (.c (.bool false))⟩]) .ret) .skip)) (.seq (.reg [⟨some 40,none,.mv (.t 4)⟩,⟨some 2,none,.mv (.t 40)⟩,⟨some 3,none,.mv (.c (.bool true))⟩]) .ret)))))
theorem Dv:Ar Tryz.prog 18=some ⟨41,Cu,[(.tmp 2),(.tmp 3)]⟩:=by kernel_rfl
theorem Am:modes 18=⟨[],.frz,none,false⟩:=by unfold modes; rfl
def Eh:SC:=(.seq (.reg [⟨some 1,none,.boxv 26 2 (.t 0)⟩,⟨(some 2),none,(.mv (.c (.str ⟨#[]⟩)))⟩,⟨some 3,none,.mv (.c (.bool false))⟩]) (.seq (.seq (.reg [⟨some 4,none,.load true 2 (.t 1)⟩,⟨some 5,none,.call 22 [(.t 4)]⟩,⟨some 6,none,.un .not (.t 5)⟩]) (.cond (.t 6) (.seq (.reg [⟨(some 2),none,(.mv (.c (.str ⟨#[]⟩)))⟩,⟨some 3,none,.mv (.c (.bool false))⟩]) .ret) .skip)) (.seq (.reg [⟨some 7,none,.load true 2 (.t 1)⟩,⟨some 8,none,.call 23 [(.t 7)]⟩,⟨some 2,none,.mv (.t 8)⟩,⟨some 3,none,.mv (.c (.bool true))⟩]) .ret)))
theorem FW:Ar Tryz.prog 6=some ⟨9,Eh,[(.tmp 2),(.tmp 3)]⟩:=by kernel_rfl
theorem A5:modes 6=⟨[],.asis,none,false⟩:=by unfold modes; rfl
def Dw:SC:=(.seq (.reg [⟨some 1,none,.boxv 35 3 (.t 0)⟩,⟨(some 2),none,(.mv (.c (.str ⟨#[]⟩)))⟩,⟨some 3,none,.mv (.c (.bool false))⟩]) (.seq (.seq (.reg [⟨some 4,none,.load true 3 (.t 1)⟩,⟨some 5,none,.call 32 [(.t 4)]⟩,⟨some 6,none,.un .not (.t 5)⟩]) (.cond (.t 6) (.seq (.reg [⟨(some 2),none,(.mv (.c (.str ⟨#[]⟩)))⟩,⟨some 3,none,.mv (.c (.bool false))⟩]) .ret) .skip)) (.seq (.reg [⟨some 7,none,.load true 3 (.t 1)⟩,⟨some 8,none,.call 33 [(.t 7)]⟩,⟨some 2,none,.mv (.t 8)⟩,⟨some 3,none,.mv (.c (.bool true))⟩]) .ret)))
theorem EJ:Ar Tryz.prog 13=some ⟨9,Dw,[(.tmp 2),(.tmp 3)]⟩:=by kernel_rfl
theorem Ap:modes 13=⟨[],.asis,none,false⟩:=by unfold modes; rfl
def Er:SC:=(.seq (.reg [⟨some 1,none,.boxv 35 3 (.t 0)⟩,⟨some 2,none,.mv (.c (.bool false))⟩]) (.seq (.reg [⟨some 3,none,.faddr 1 (.t 1)⟩,⟨some 4,none,.load true 2 (.t 3)⟩,⟨some 5,none,.call 25 [(.t 4)]⟩,⟨some 2,none,.mv (.t 5)⟩]) .ret))
theorem Hk:Ar Tryz.prog 15=some ⟨6,Er,[(.tmp 2)]⟩:=by kernel_rfl
theorem Aq:modes 15=⟨[],.asis,none,false⟩:=by unfold modes; rfl
def FF:SC:=(.seq (.reg [⟨some 1,none,.boxv 26 2 (.t 0)⟩,⟨some 2,none,.mv (.c (.bool false))⟩]) (.seq (.reg [⟨some 3,none,.load true 2 (.t 1)⟩,⟨some 4,none,.call 24 [(.t 3)]⟩,⟨some 2,none,.mv (.t 4)⟩]) .ret))
theorem II:Ar Tryz.prog 7=some ⟨5,FF,[(.tmp 2)]⟩:=by kernel_rfl
theorem A3:modes 7=⟨[],.asis,none,false⟩:=by unfold modes; rfl
def FG:SC:=(.seq (.reg [⟨some 1,none,.boxv 26 2 (.t 0)⟩,⟨some 2,none,.mv (.c (.bool false))⟩]) (.seq (.reg [⟨some 3,none,.load true 2 (.t 1)⟩,⟨some 4,none,.call 25 [(.t 3)]⟩,⟨some 2,none,.mv (.t 4)⟩]) .ret))
theorem IJ:Ar Tryz.prog 8=some ⟨5,FG,[(.tmp 2)]⟩:=by kernel_rfl
theorem A4:modes 8=⟨[],.asis,none,false⟩:=by unfold modes; rfl
noncomputable def OR (p:List Int):ByteArray:=bif EF p then LC p else ⟨#[]⟩
theorem Cc (p:List Int) (hl:p.length≤1099511627776):E 17 [.arr (p.map (fun n=>[D.int n]))] []=some (.tup [.str (OR p),.bool (EF p)],[]):=by
 have h1:=Jv p hl
 unfold OR
 cases h:EF p with
 | false =>
  rw [h] at h1
  refine Ab Ep Aj (of_decide_eq_true rfl) ?_
  simp (disch:=omega) only [CX,go_sem,Aa,h1,BE]
 | true =>
  rw [h] at h1
  have h2:=GH p h
  refine Ab Ep Aj (of_decide_eq_true rfl) ?_
  simp (disch:=omega) only [CX,go_sem,Aa,h1,h2,BE,Bw]
theorem JM:E 18 [.str ⟨#[]⟩] []=some (.tup [.arr [],.bool false],[]):=by
 have hq:dec ((⟨#[]⟩:ByteArray)=⟨#[45]⟩)=false:=Be (by decide)
 have hs:=ON ⟨#[]⟩ (by decide)
 rw [PF,zF,zH] at hs
 have hp:=OO
 obtain ⟨ds,hds⟩:∃ ds:List (List D),ds=[[D.str ⟨#[]⟩]]:=⟨_,rfl⟩
 rw [←hds] at hs
 have hl:(ds.length:Int)=1:=by rw [hds]; rfl
 have hln:ds.length=1:=by rw [hds]; rfl
 have hg:ds[(0:Nat)]?=some [D.str ⟨#[]⟩]:=by rw [hds]; rfl
 refine Ab Dv Am (of_decide_eq_true rfl) ?_
 simp (disch:=omega) only [Cu,go_sem,Aa,hq,hs,hl,CQ]
 refine go_loop (α:=Unit) (fun _=>⟨slots 41 0 [(0,.str ⟨#[]⟩),(4,.ref 0),(13,.arr ds),(14,.int .i64 1),(15,.int .i64 0)],[.row 3 1 []]⟩) (fun _=>True) (fun _=>0) () trivial (by simp (disch:=omega) only [go_sem,Aa]) ?_
 rintro ⟨⟩ _
 simp (disch:=omega) only [go_sem,Aa,hg,hp,BX,zR]
theorem Ks (p:List Int) (h:EF p=true):E 18 [.str (LC p)] []=some (.tup [.arr (p.map (fun n=>[D.int n])),.bool true],[]):=by
 obtain ⟨h8,hkk⟩:=OC h
 have h1:=Jv p (by omega)
 rw [h] at h1
 have h2:=GH p h
 have hfu:=K6 p
 have her:=K5 p
 by_cases hpn:p=[]
 ·have ht:LC p=⟨#[45]⟩:=by unfold LC; rw [Bb hpn]; rfl
  rw [ht] at h2 ⊢
  subst hpn
  have hm:([]:List Int).map (fun n=>[D.int n])=[]:=rfl
  have hm2:([]:List Int).map (fun n=>[OT.int n])=[]:=rfl
  rw [hm] at h1 h2
  rw [hm]
  refine Ab Dv Am (of_decide_eq_true rfl) ?_
  simp (disch:=omega) only [Cu,go_sem,Aa,h1,h2,hm2,AD,CQ,BX,BE,Bw]
 have ht:LC p=C5 (p.map Cx) dotB:=by unfold LC; rw [Be hpn]; rfl
 have hq:dec (LC p=⟨#[45]⟩)=false:=Be (by rw [ht]; exact OD hpn hkk)
 have hsz:=Nf hkk
 have hs:=ON (LC p) (by rw [ht]; omega)
 rw [ht,LB p hpn hkk,yA,← ht] at hs
 obtain ⟨s,hss⟩:∃ s,s=LC p:=⟨_,rfl⟩
 rw [←hss] at hs hq h2 ⊢
 have hm0:([]:List Int).map (fun n=>[OT.int n])=[]:=rfl
 have hll:(p.map ((fun x=>[D.str x]) ∘ Cx)).length=p.length:=zY ..
 refine Ab Dv Am (of_decide_eq_true rfl) ?_
 simp (disch:=omega) only [Cu,go_sem,Aa,hq,hs,hll,CQ,BX,BE,Bw]
 refine go_loop (α:=Int) (fun a=>⟨slots 41 0 [(0,.str s),(4,.ref 0),(13,.arr (p.map ((fun x=>[D.str x]) ∘ Cx))),(14,.int .i64 p.length),(15,.int .i64 a)],[.row 3 1 ((p.take a.toNat).map fun n=>[OT.int n])]⟩) (fun a=>∃ k:Nat,a=k∧k≤(p).length) (fun a=>(p).length-(a).toNat) 0 ⟨0,rfl,zS _⟩ (by simp (disch:=omega) only [go_sem,Aa,List.take_zero,hm0,zR,hll]) ?_
 rintro i ⟨k,hi,hk⟩
 have hni:i.toNat=k:=by omega
 have hni1:(i+1).toNat=k+1:=by omega
 rcases zL k (p).length with hlt | hge
 ·have hg:(p.map ((fun x=>[D.str x]) ∘ Cx))[k]?=some [D.str (Cx p[k])]:=by rw [List.getElem?_map,zQ hlt]; rfl
  have hk3:=hkk _ (zN hlt)
  have hpi:=OP p[k] hk3
  have hs1:((p.take k).map fun n=>[OT.int n])++[[OT.int p[k]]]=(p.take (k+1)).map fun n=>[OT.int n]:=by
   rw [zP hlt,zO]; rfl
  have htl:(p.take k).length=k:=by rw [z6]; omega
  simp (disch:=omega) only [go_sem,Aa,hni,hg,hpi,htl,hs1,BX]
  refine ⟨i+1,⟨k+1,by omega,hlt⟩,by omega,?_⟩
  first | done | simp (disch:=omega) only [go_sem,Aa,hni1,hs1]
 ·obtain rfl:k=p.length:=by omega
  have htk:p.take p.length=p:=z7
  simp (disch:=omega) only [go_sem,Aa,hni,htk,her,hfu,h1,h2,AD,CQ,BX,BE,Bw]
  first | done | rfl | exact ⟨rfl,rfl⟩
noncomputable def Tm.txtX (x:Tm):ByteArray:=bif x.expr then x.txtE else ⟨#[]⟩
theorem Rn (x:Tm) (hx:x.expr=true):E 23 [x.sv] []=some (.str x.txtE,[]):=by
 have hn:=Tm.GU hx
 unfold Tm.txtE
 cases hv:x.valid with
 | true=>exact Cb x (Al hv) (by omega)
 | false =>
  have ha:x.atom=true:=by
   unfold Tm.expr at hx
   rw [hv,Bool.false_or] at hx
   exact hx
  exact JI x ha
theorem Bh (x:Tm) (hn:x.nodes≤1099511627776):E 6 [x.sv] []=some (.tup [.str x.txtX,.bool x.expr],[]):=by
 have h1:=L5 x hn
 have hxs:x.sv=.agg [.str x.name,.arr (x.args.map Tm.d)]:=rfl
 unfold Tm.txtX
 cases h:x.expr with
 | false =>
  rw [h,hxs] at h1
  rw [hxs]
  refine Ab FW A5 (of_decide_eq_true rfl) ?_
  simp (disch:=omega) only [Eh,go_sem,Aa,h1,BY]
 | true =>
  have h2:=Rn x h
  rw [h,hxs] at h1
  rw [hxs] at h2 ⊢
  refine Ab FW A5 (of_decide_eq_true rfl) ?_
  simp (disch:=omega) only [Eh,go_sem,Aa,h1,h2,BY,AC]
noncomputable def Lt.txtX (x:Lt):ByteArray:=bif x.atom.atom then x.txt else ⟨#[]⟩
theorem Ci (x:Lt) (hn:x.atom.nodes≤1099511627776):E 13 [x.sv] []=some (.tup [.str x.txtX,.bool x.atom.atom],[]):=by
 have h1:=GE x hn
 have hxs:x.sv=.agg [.bool x.pos,.str x.atom.name,.arr (x.atom.args.map Tm.d)]:=rfl
 unfold Lt.txtX
 cases h:x.atom.atom with
 | false =>
  rw [h,hxs] at h1
  rw [hxs]
  refine Ab EJ Ap (of_decide_eq_true rfl) ?_
  simp (disch:=omega) only [Dw,go_sem,Aa,h1,AY]
 | true =>
  have h2:=Hf x h
  rw [h,hxs] at h1
  rw [hxs] at h2 ⊢
  refine Ab EJ Ap (of_decide_eq_true rfl) ?_
  simp (disch:=omega) only [Dw,go_sem,Aa,h1,h2,AY,AU]
theorem Cv (x:Lt) (hn:x.atom.nodes≤1099511627776):E 15 [x.sv] []=some (.bool x.atom.atom,[]):=by
 have h1:=L4 x.atom hn
 have hxs:x.sv=.agg [.bool x.pos,.str x.atom.name,.arr (x.atom.args.map Tm.d)]:=rfl
 have hys:x.atom.sv=.agg [.str x.atom.name,.arr (x.atom.args.map Tm.d)]:=rfl
 rw [hys] at h1
 rw [hxs]
 refine Ab Hk Aq (of_decide_eq_true rfl) ?_
 simp (disch:=omega) only [Er,go_sem,Aa,h1,BM]
theorem Dd (x:Tm) (hx:x.nodes≤1099511627776):E 7 [x.sv] []=some (.bool x.valid,[]):=by
 have h:=L3 x hx
 refine Ab II A3 (of_decide_eq_true rfl) ?_
 simp (disch:=omega) only [FF,go_sem,Aa,h,Bz]
theorem De (x:Tm) (hx:x.nodes≤1099511627776):E 8 [x.sv] []=some (.bool x.atom,[]):=by
 have h:=L4 x hx
 refine Ab IJ A4 (of_decide_eq_true rfl) ?_
 simp (disch:=omega) only [FG,go_sem,Aa,h,BM]
def Ha:SC:=(.seq (.reg [⟨some 4,none,.mv (.c (.bool false))⟩]) (.seq (.seq (.reg [⟨some 6,none,.mv (.t 0)⟩,⟨some 7,none,.len false (.t 6)⟩,⟨some 8,none,.mv (.t 1)⟩,⟨some 9,none,.len false (.t 8)⟩,⟨some 10,none,.bin .neq false (.t 7) (.t 9)⟩]) (.cond (.t 10) (.seq (.reg [⟨some 4,none,.mv (.c (.bool false))⟩]) .ret) .skip)) (.seq (.seq (.reg [⟨some 5,none,.mv (.c (.int .i64 0))⟩]) (.block 0 (.loop [1,1,0,0,0,1,0,0,0,0,0,0,0,0,0,0,0,0,0,0,0,0,0,0,0,0] (.seq (.seq (.reg [⟨some 11,none,.mv (.t 5)⟩,⟨some 12,none,.mv (.t 0)⟩,⟨some 13,none,.len false (.t 12)⟩,⟨some 14,none,.bin .lss false (.t 11) (.t 13)⟩]) (.cond (.t 14) .skip (.exit 0))) (.seq (.block 1 (.seq (.dreg [[],[],[0,1],[2,0,1],[],[],[4,5],[6,4,5],[3,2,0,1,7,6,4,5]] [⟨some 17,none,.mv (.t 0)⟩,⟨some 18,none,.mv (.t 5)⟩,⟨some 19,none,.iaddr 1 (.t 17) (.t 18)⟩,⟨some 20,none,.load false 1 (.t 19)⟩,⟨some 21,none,.mv (.t 1)⟩,⟨some 22,none,.mv (.t 5)⟩,⟨some 23,none,.iaddr 1 (.t 21) (.t 22)⟩,⟨some 24,none,.load false 1 (.t 23)⟩,⟨some 25,none,.bin .neq false (.t 20) (.t 24)⟩]) (.cond (.t 25) (.seq (.reg [⟨some 4,none,.mv (.c (.bool false))⟩]) .ret) .skip))) (.reg [⟨some 15,none,.mv (.t 5)⟩,⟨some 16,none,.bin .add false (.t 15) (.c (.int .i64 1))⟩,⟨some 5,none,.mv (.t 16)⟩])))))) (.seq (.reg [⟨some 4,none,.mv (.c (.bool true))⟩]) .ret))))
theorem Jw:Ar Tryz.prog 19=some ⟨26,Ha,[(.tmp 4)]⟩:=by kernel_rfl
theorem AO:modes 19=⟨[],.asis,none,false⟩:=by unfold modes; rfl
theorem K7 (xs ys:List Int) (hx:xs.length≤1099511627776) (hy:ys.length≤1099511627776):E 19 [.arr (xs.map fun n=>[D.int n]),.arr (ys.map fun n=>[D.int n])] []=some (.bool (dec (xs=ys)),[]):=by
 by_cases hl:xs.length=ys.length
 ·have hq:((xs.length:Int)=(ys.length:Int))=True:=eq_true (by omega)
  refine Ab Jw AO (of_decide_eq_true rfl) ?_
  simp (disch:=omega) only [Ha,go_sem,Aa,hq]
  refine go_loop (α:=Int) (fun a=>⟨slots 26 0 [(0,.arr (xs.map fun n=>[D.int n])),(1,.arr (ys.map fun n=>[D.int n])),(5,.int .i64 a)],[]⟩) (fun a=>∃ k:Nat,a=k∧k≤(xs).length∧(xs.drop k=ys.drop k)=(xs=ys)) (fun a=>(xs).length-(a).toNat) 0 ⟨0,rfl,zS _,by rw [zT,zT]⟩ (by simp (disch:=omega) only [go_sem,Aa]) ?_
  rintro i ⟨k,hi,hk,hR⟩
  have hni:i.toNat=k:=by omega
  have hni1:(i+1).toNat=k+1:=by omega
  rcases zL k (xs).length with hlt | hge
  ·have hlt':k<ys.length:=by omega
   have hgx:=get_at (fun n=>[D.int n]) hlt
   have hgy:=get_at (fun n=>[D.int n]) hlt'
   rw [zI hlt,zI hlt',zV] at hR
   by_cases he:xs[k]=ys[k]
   ·have q1:(xs[k]=ys[k])=True:=eq_true he
    have hR':(xs.drop (k+1)=ys.drop (k+1))=(xs=ys):=by rw [←hR,q1]; simp
    simp (disch:=omega) only [go_sem,Aa,hni,hgx,hgy,q1]
    exact ⟨i+1,⟨k+1,by omega,hlt,hR'⟩,by omega,by first | trivial | rfl⟩
   ·have q1:(xs[k]=ys[k])=False:=eq_false he
    have hn:¬ xs=ys:=fun e=>by rw [←hR] at e; exact he e.1
    rw [Be hn]
    simp (disch:=omega) only [go_sem,Aa,hni,hgx,hgy,q1]
  ·have hxy:xs=ys:=by
    rw [zM hge,zM (by omega)] at hR
    rw [←hR]
   rw [Bb hxy]
   simp (disch:=omega) only [go_sem,Aa,hni]
 ·have hq:((xs.length:Int)=(ys.length:Int))=False:=eq_false (by omega)
  rw [Be (fun e=>hl (by rw [e]))]
  refine Ab Jw AO (of_decide_eq_true rfl) ?_
  simp (disch:=omega) only [Ha,go_sem,Aa,hq]
def Cm:SC:=(.seq (.reg [⟨some 2,none,.mv (.c (.bool false))⟩]) (.seq (.seq (.reg [⟨some 25,none,.mv (.t 0)⟩,⟨some 26,none,.call 4 [(.t 25)]⟩]) (.cond (.t 26) (.seq (.reg [⟨some 2,none,.mv (.c (.bool true))⟩]) .ret) .skip)) (.seq (.reg [⟨some 27,none,.mv (.t 0)⟩,⟨some 28,none,.call 5 [(.t 27)]⟩,⟨(some 3),none,(.alloc 26 [(.str ⟨#[]⟩),.nil])⟩,⟨none,none,(.store 2 (.t 3) (.t 28))⟩]) (.seq (.reg [⟨some 30,none,.load true 2 (.t 3)⟩,⟨some 31,none,.call 6 [(.t 30)]⟩,⟨some 29,none,.mv (.t 31)⟩,⟨some 32,none,.ext (.t 29) 0⟩,⟨some 33,none,.ext (.t 29) 1⟩,⟨some 4,none,.mv (.t 32)⟩,⟨some 5,none,.mv (.t 33)⟩]) (.seq (.seq (.reg [⟨some 34,none,.mv (.t 5)⟩,⟨some 35,none,.load true 2 (.t 3)⟩,⟨some 36,none,.call 7 [(.t 35)]⟩,⟨some 37,none,.mv (.t 36)⟩,⟨(some 38),(some (37,false)),(.load true 2 (.t 3))⟩,⟨(some 39),(some (37,false)),(.call 8 [(.t 38)])⟩,⟨some 40,none,.pick (.t 37) (.c (.bool true)) (.t 39)⟩,⟨some 41,none,.bin .neq true (.t 34) (.t 40)⟩]) (.cond (.t 41) (.seq (.reg [⟨some 2,none,.mv (.c (.bool false))⟩]) .ret) .skip)) (.seq (.seq (.reg [⟨some 42,none,.load true 2 (.t 3)⟩,⟨some 43,none,.call 7 [(.t 42)]⟩]) (.cond (.t 43) (.seq (.reg [⟨some 45,none,.mv (.t 4)⟩,⟨some 46,none,.call 9 [(.t 45)]⟩,⟨some 44,none,.mv (.t 46)⟩,⟨some 47,none,.ext (.t 44) 0⟩,⟨some 48,none,.ext (.t 44) 1⟩,⟨(some 6),none,(.alloc 26 [(.str ⟨#[]⟩),.nil])⟩,⟨none,none,(.store 2 (.t 6) (.t 47))⟩,⟨some 7,none,.mv (.t 48)⟩]) (.seq (.reg [⟨some 49,none,.mv (.t 7)⟩,⟨some 50,none,.un .not (.t 49)⟩,⟨some 51,none,.mv (.t 50)⟩,⟨(some 52),(some (51,false)),(.load true 2 (.t 6))⟩,⟨(some 53),(some (51,false)),(.load true 2 (.t 3))⟩,⟨(some 54),(some (51,false)),(.call 10 [(.t 52),(.t 53)])⟩,⟨(some 55),(some (51,false)),(.un .not (.t 54))⟩,⟨some 56,none,.pick (.t 51) (.c (.bool true)) (.t 55)⟩]) (.cond (.t 56) (.seq (.reg [⟨some 2,none,.mv (.c (.bool false))⟩]) .ret) .skip))) .skip)) (.seq (.seq (.reg [⟨some 57,none,.load true 2 (.t 3)⟩,⟨some 58,none,.call 8 [(.t 57)]⟩]) (.cond (.t 58) (.seq (.reg [⟨some 60,none,.mv (.t 4)⟩,⟨some 61,none,.call 11 [(.t 60)]⟩,⟨some 59,none,.mv (.t 61)⟩,⟨some 62,none,.ext (.t 59) 0⟩,⟨some 63,none,.ext (.t 59) 1⟩,⟨(some 8),none,(.alloc 26 [(.str ⟨#[]⟩),.nil])⟩,⟨none,none,(.store 2 (.t 8) (.t 62))⟩,⟨some 9,none,.mv (.t 63)⟩]) (.seq (.reg [⟨some 64,none,.mv (.t 9)⟩,⟨some 65,none,.un .not (.t 64)⟩,⟨some 66,none,.mv (.t 65)⟩,⟨(some 67),(some (66,false)),(.load true 2 (.t 8))⟩,⟨(some 68),(some (66,false)),(.load true 2 (.t 3))⟩,⟨(some 69),(some (66,false)),(.call 10 [(.t 67),(.t 68)])⟩,⟨(some 70),(some (66,false)),(.un .not (.t 69))⟩,⟨some 71,none,.pick (.t 66) (.c (.bool true)) (.t 70)⟩]) (.cond (.t 71) (.seq (.reg [⟨some 2,none,.mv (.c (.bool false))⟩]) .ret) .skip))) .skip)) (.seq (.reg [⟨some 72,none,.mv (.t 0)⟩,⟨some 73,none,.call 12 [(.t 72)]⟩,⟨(some 10),none,(.alloc 35 [(.bool false),(.str ⟨#[]⟩),.nil])⟩,⟨none,none,(.store 3 (.t 10) (.t 73))⟩]) (.seq (.reg [⟨some 75,none,.load true 3 (.t 10)⟩,⟨some 76,none,.call 13 [(.t 75)]⟩,⟨some 74,none,.mv (.t 76)⟩,⟨some 77,none,.ext (.t 74) 0⟩,⟨some 78,none,.ext (.t 74) 1⟩,⟨some 11,none,.mv (.t 77)⟩,⟨some 12,none,.mv (.t 78)⟩]) (.seq (.reg [⟨some 80,none,.mv (.t 11)⟩,⟨some 81,none,.call 14 [(.t 80)]⟩,⟨some 79,none,.mv (.t 81)⟩,⟨some 82,none,.ext (.t 79) 0⟩,⟨some 83,none,.ext (.t 79) 1⟩,⟨(some 13),none,(.alloc 35 [(.bool false),(.str ⟨#[]⟩),.nil])⟩,⟨none,none,(.store 3 (.t 13) (.t 82))⟩,⟨some 14,none,.mv (.t 83)⟩]) (.seq (.seq (.reg [⟨some 84,none,.mv (.t 12)⟩,⟨some 85,none,.load true 3 (.t 10)⟩,⟨some 86,none,.call 15 [(.t 85)]⟩,⟨some 87,none,.bin .neq true (.t 84) (.t 86)⟩,⟨some 88,none,.mv (.t 87)⟩,⟨(some 89),(some (88,false)),(.mv (.t 12))⟩,⟨(some 90),(some (88,false)),(.mv (.t 89))⟩,⟨(some 91),(some (90,true)),(.mv (.t 14))⟩,⟨(some 92),(some (90,true)),(.un .not (.t 91))⟩,⟨(some 93),(some (90,true)),(.mv (.t 92))⟩,⟨(some 94),(some (93,false)),(.faddr 0 (.t 13))⟩,⟨(some 95),(some (93,false)),(.load false 1 (.t 94))⟩,⟨(some 96),(some (93,false)),(.faddr 0 (.t 10))⟩,⟨(some 97),(some (93,false)),(.load false 1 (.t 96))⟩,⟨(some 98),(some (93,false)),(.bin .neq true (.t 95) (.t 97))⟩,⟨(some 99),(some (90,true)),(.pick (.t 93) (.c (.bool true)) (.t 98))⟩,⟨(some 100),(some (90,true)),(.mv (.t 99))⟩,⟨(some 101),(some (100,false)),(.faddr 1 (.t 13))⟩,⟨(some 102),(some (100,false)),(.load true 2 (.t 101))⟩,⟨(some 103),(some (100,false)),(.faddr 1 (.t 10))⟩,⟨(some 104),(some (100,false)),(.load true 2 (.t 103))⟩,⟨(some 105),(some (100,false)),(.call 10 [(.t 102),(.t 104)])⟩,⟨(some 106),(some (100,false)),(.un .not (.t 105))⟩,⟨(some 107),(some (90,true)),(.pick (.t 100) (.c (.bool true)) (.t 106))⟩,⟨(some 108),(some (88,false)),(.pick (.t 90) (.t 107) (.c (.bool false)))⟩,⟨some 109,none,.pick (.t 88) (.c (.bool true)) (.t 108)⟩]) (.cond (.t 109) (.seq (.reg [⟨some 2,none,.mv (.c (.bool false))⟩]) .ret) .skip)) (.seq (.reg [⟨some 110,none,.mv (.t 0)⟩,⟨some 111,none,.call 16 [(.t 110)]⟩,⟨some 15,none,.mv (.t 111)⟩]) (.seq (.reg [⟨some 113,none,.mv (.t 15)⟩,⟨some 114,none,.call 17 [(.t 113)]⟩,⟨some 112,none,.mv (.t 114)⟩,⟨some 115,none,.ext (.t 112) 0⟩,⟨some 116,none,.ext (.t 112) 1⟩,⟨some 16,none,.mv (.t 115)⟩,⟨some 17,none,.mv (.t 116)⟩]) (.seq (.reg [⟨some 118,none,.mv (.t 16)⟩,⟨some 119,none,.call 18 [(.t 118)]⟩,⟨some 117,none,.mv (.t 119)⟩,⟨some 120,none,.ext (.t 117) 0⟩,⟨some 121,none,.ext (.t 117) 1⟩,⟨some 18,none,.mv (.t 120)⟩,⟨some 19,none,.mv (.t 121)⟩]) (.seq (.seq (.reg [⟨some 122,none,.mv (.t 17)⟩,⟨some 123,none,.mv (.t 122)⟩,⟨(some 124),(some (123,true)),(.mv (.t 19))⟩,⟨(some 125),(some (123,true)),(.un .not (.t 124))⟩,⟨(some 126),(some (123,true)),(.mv (.t 125))⟩,⟨(some 127),(some (126,false)),(.mv (.t 15))⟩,⟨(some 128),(some (126,false)),(.mv (.t 18))⟩,⟨(some 129),(some (126,false)),(.call 19 [(.t 127),(.t 128)])⟩,⟨(some 130),(some (126,false)),(.un .not (.t 129))⟩,⟨(some 131),(some (123,true)),(.pick (.t 126) (.c (.bool true)) (.t 130))⟩,⟨some 132,none,.pick (.t 123) (.t 131) (.c (.bool false))⟩]) (.cond (.t 132) (.seq (.reg [⟨some 2,none,.mv (.c (.bool false))⟩]) .ret) .skip)) (.seq (.reg [⟨some 133,none,.mv (.t 0)⟩,⟨some 134,none,.call 20 [(.t 133)]⟩,⟨some 20,none,.mv (.t 134)⟩]) (.seq (.reg [⟨some 136,none,.mv (.t 20)⟩,⟨some 137,none,.call 9 [(.t 136)]⟩,⟨some 135,none,.mv (.t 137)⟩,⟨some 138,none,.ext (.t 135) 0⟩,⟨some 139,none,.ext (.t 135) 1⟩,⟨(some 21),none,(.alloc 26 [(.str ⟨#[]⟩),.nil])⟩,⟨none,none,(.store 2 (.t 21) (.t 138))⟩,⟨some 22,none,.mv (.t 139)⟩]) (.seq (.reg [⟨some 141,none,.load true 2 (.t 21)⟩,⟨some 142,none,.call 6 [(.t 141)]⟩,⟨some 140,none,.mv (.t 142)⟩,⟨some 143,none,.ext (.t 140) 0⟩,⟨some 144,none,.ext (.t 140) 1⟩,⟨some 23,none,.mv (.t 143)⟩,⟨some 24,none,.mv (.t 144)⟩]) (.seq (.reg [⟨some 145,none,.mv (.t 22)⟩,⟨some 146,none,.un .not (.t 145)⟩,⟨some 147,none,.mv (.t 146)⟩,⟨(some 148),(some (147,false)),(.mv (.t 24))⟩,⟨(some 149),(some (147,false)),(.mv (.t 148))⟩,⟨(some 150),(some (149,true)),(.mv (.t 23))⟩,⟨(some 151),(some (149,true)),(.mv (.t 20))⟩,⟨(some 152),(some (149,true)),(.bin .eql false (.t 150) (.t 151))⟩,⟨(some 153),(some (147,false)),(.pick (.t 149) (.t 152) (.c (.bool false)))⟩,⟨some 154,none,.pick (.t 147) (.c (.bool true)) (.t 153)⟩,⟨some 2,none,.mv (.t 154)⟩]) .ret)))))))))))))))))))
theorem CR:Ar Tryz.prog 3=some ⟨155,Cm,[(.tmp 2)]⟩:=by kernel_rfl
theorem CS:modes 3=⟨[],.asis,none,false⟩:=by unfold modes; rfl
theorem Ro {x:Tm} (h:x.atom=true):x.txtE=x.txtA:=by
 unfold Tm.txtE
 cases hv:x.valid with
 | false=>rfl
 | true =>
  rw [cond_true]
  have he:x.eqn=false:=Tm.JH (Al hv)
  exact AJ (by rw [Tm.BI,Tm.txt_toList]; unfold Tm.fmtA; rw [he]; rfl)
theorem Tm.txtX_size (x:Tm):x.txtX.size≤1048576:=by
 unfold Tm.txtX
 cases h:x.expr with
 | false=>exact zS _
 | true=>exact Nat.le_trans (Nd x h).2 (by omega)
theorem OS (t:Tm) (hv:t.valid=true):E 9 [.str t.txtX] []=some (.tup [t.osv,.bool true],t.obs):=by
 have hx:t.expr=true:=by unfold Tm.expr; rw [hv]; rfl
 have e:t.txtX=t.txt:=by unfold Tm.txtX Tm.txtE; rw [hx,hv]; rfl
 have h:=CP t.txtX t.txtX_size
 obtain ⟨h1,h2⟩:=Uo (s:=t.txtX) hv (by rw [e,Tm.txt_toList])
 rw [h1,h2] at h
 exact h
theorem OU (t:Tm) (ha:t.atom=true):E 11 [.str t.txtX] []=some (.tup [t.osv,.bool true],t.obs):=by
 have hx:t.expr=true:=by unfold Tm.expr; rw [ha,Bool.or_true]
 have e:t.txtX=t.txtA:=by
  rw [←Ro ha]
  unfold Tm.txtX
  rw [hx]; rfl
 have h:=Kp t.txtX t.txtX_size
 obtain ⟨h1,h2⟩:=SF (s:=t.txtX) (t:=t) ⟨ha,e.symm⟩
 rw [h1,h2] at h
 exact h
theorem Lt.txtX_size (x:Lt):x.txtX.size≤1048576:=by
 unfold Lt.txtX
 cases h:x.atom.atom with
 | false=>exact zS _
 | true=>exact Nat.le_trans (Ut h) (by omega)
theorem K8 (x:Lt) (h:x.atom.atom=true):E 14 [.str x.txtX] []=some (.tup [x.osv,.bool true],x.obs):=by
 have e:x.txtX=x.txt:=by unfold Lt.txtX; rw [h]; rfl
 have hp:=Cg x.txtX x.txtX_size
 obtain ⟨h1,h2⟩:=SK (s:=x.txtX) (l:=x) ⟨h,e.symm⟩
 rw [h1,h2] at hp
 exact hp
theorem K9 (p:List Int):E 18 [.str (OR p)] []=some (.tup [.arr ((bif EF p then p else []).map fun n=>[D.int n]),.bool (EF p)],[]):=by
 unfold OR
 cases h:EF p with
 | true=>exact Ks p h
 | false=>exact JM
theorem Jx (u:ByteArray) (h:Jo u=true):E 6 [(E0 u).sv] []=some (.tup [.str u,.bool true],[]):=by
 obtain ⟨h1,h2⟩:=SE h
 have hx:(E0 u).expr=true:=by unfold Tm.expr; rw [h1]; rfl
 have hn:=Tm.GU hx
 have hf:=Bh (E0 u) (by omega)
 have e:(E0 u).txtX=u:=by
  unfold Tm.txtX Tm.txtE
  rw [hx,h1]; exact h2
 rw [hx,e] at hf
 exact hf
theorem ST (l:List Int) (hl:Bytes l) (hbig:E 4 [.arr (l.map by_)] []=some (.bool false,[])) (t:Tm) (hd:E 5 [.arr (l.map by_)] []=some (t.sv,[])) (htn:t.nodes≤150) (hv:t.valid=false) (ha:t.atom=false)
  (x:Lt) (he:E 12 [.arr (l.map by_)] []=some (x.sv,[])) (hxn:x.atom.nodes≤150) (q:List Int) (hq:E 16 [.arr (l.map by_)] []=some (.arr (q.map fun n=>[D.int n]),[])) (hql:q.length≤20) (u:ByteArray) (hu:E 20 [.arr (l.map by_)] []=some (.str u,[])) (hul:u.size≤1000) :
  E 3 [.arr (l.map by_)] []=some (.bool true,[]):=by
 have hts:∀ y:Tm,y.sv=.agg [.str y.name,.arr (y.args.map Tm.d)]:=fun y=>rfl
 have hls:∀ y:Lt,y.sv=.agg [.bool y.pos,.str y.atom.name,.arr (y.atom.args.map Tm.d)]:=fun y=>rfl
 have p1:=trivial
 have p2:=trivial
 have hx:t.expr=false:=by unfold Tm.expr; rw [hv,ha]; rfl
 have f1:=Bh t (by omega)
 rw [hx] at f1
 have v1:=Dd t (by omega)
 have v2:=De t (by omega)
 rw [hv] at v1
 rw [ha] at v2
 have a4:=Ef t t (by omega) (by omega)
 rw [AD] at a4
 have g1:=Ci x (by omega)
 have g3:=Cv x (by omega)
 have a5:=Ef x.atom x.atom (by omega) (by omega)
 rw [AD] at a5
 have h1:=Cc q (by omega)
 have h2:=K9 q
 have a6:=K7 q q (by omega) (by omega)
 rw [AD] at a6
 have k1:=CP u (by omega)
 have zn:(E0 u).nodes≤30:=GY u
 have k2:=Bh (E0 u) (by omega)
 have k3:=Jx u
 obtain ⟨z,hz⟩:∃ z,z=E0 u:=⟨_,rfl⟩
 rw [←hz] at k1 k2 k3
 obtain ⟨st,hst⟩:∃ s,s=t.txtX:=⟨_,rfl⟩
 obtain ⟨sx,hsx⟩:∃ s,s=x.txtX:=⟨_,rfl⟩
 obtain ⟨sp,hsp⟩:∃ s,s=OR q:=⟨_,rfl⟩
 have l1:=Cg x.txtX x.txtX_size
 have l2:=K8 x
 try rw [←hst] at p1
 try rw [←hst] at p2
 rw [←hst] at f1
 rw [←hsx] at g1 l1 l2
 rw [←hsp] at h1 h2
 simp only [hts] at hd f1 v1 v2 a4 a5 k2 k3
 simp only [hls] at he g1 g3
 cases hxa:x.atom.atom <;> cases hpo:EF q <;> cases hro:Jo u
 all_goals
  rw [hxa] at g1 g3
  rw [hpo] at h1 h2
  rw [hro] at k1
  simp only [cond_true,cond_false,zH] at h2
  first
   |replace l1:=l2 hxa
   |(obtain ⟨y,hy⟩:∃ y,y=LF sx:=⟨_,rfl⟩; obtain ⟨b,hb⟩:∃ b,b=OG sx:=⟨_,rfl⟩; rw [←hy,← hb] at l1)
  first
   |replace k2:=k3 hro
   |skip
  clear k3 l2
  refine Ab CR CS (of_decide_eq_true rfl) ?_
  simp (disch:=omega) only [Cm,go_sem,hbig,hd,f1,v1,v2,p1,p2,a4,he,g1,g3,l1,a5,hq,h1,h2,a6,hu,k1,k2,AD,AM,AB,AO,Ao,Ah,Ae,Au,A3,A4,Aq,A5,Ap,Aj,A1,Av,Ai,Am,Tm.osv,Tm.obs,Lt.osv,Lt.obs,Tm.erss,Tm.noss,Tm.fus]
  repeat ((first | (refine H2 ?_ ?_; (focus (simp (disch:=omega) only [go_sem,hbig,hd,f1,v1,v2,p1,p2,a4,he,g1,g3,l1,a5,hq,h1,h2,a6,hu,k1,k2,AD,AM,AB,AO,Ao,Ah,Ae,Au,A3,A4,Aq,A5,Ap,Aj,A1,Av,Ai,Am,Tm.osv,Tm.obs,Lt.osv,Lt.obs,Tm.erss,Tm.noss,Tm.fus]; done))) | (refine H3 ?_ ?_; (focus (simp (disch:=omega) only [go_sem,hbig,hd,f1,v1,v2,p1,p2,a4,he,g1,g3,l1,a5,hq,h1,h2,a6,hu,k1,k2,AD,AM,AB,AO,Ao,Ah,Ae,Au,A3,A4,Aq,A5,Ap,Aj,A1,Av,Ai,Am,Tm.osv,Tm.obs,Lt.osv,Lt.obs,Tm.erss,Tm.noss,Tm.fus]; done)))); (try simp (disch:=omega) only [go_sem,hbig,hd,f1,v1,v2,p1,p2,a4,he,g1,g3,l1,a5,hq,h1,h2,a6,hu,k1,k2,AD,AM,AB,AO,Ao,Ah,Ae,Au,A3,A4,Aq,A5,Ap,Aj,A1,Av,Ai,Am,Tm.osv,Tm.obs,Lt.osv,Lt.obs,Tm.erss,Tm.noss,Tm.fus]))
theorem SU (l:List Int) (hl:Bytes l) (hbig:E 4 [.arr (l.map by_)] []=some (.bool false,[])) (t:Tm) (hd:E 5 [.arr (l.map by_)] []=some (t.sv,[])) (htn:t.nodes≤150) (hv:t.valid=true) (ha:t.atom=false)
  (x:Lt) (he:E 12 [.arr (l.map by_)] []=some (x.sv,[])) (hxn:x.atom.nodes≤150) (q:List Int) (hq:E 16 [.arr (l.map by_)] []=some (.arr (q.map fun n=>[D.int n]),[])) (hql:q.length≤20) (u:ByteArray) (hu:E 20 [.arr (l.map by_)] []=some (.str u,[])) (hul:u.size≤1000) :
  E 3 [.arr (l.map by_)] []=some (.bool true,[]):=by
 have hts:∀ y:Tm,y.sv=.agg [.str y.name,.arr (y.args.map Tm.d)]:=fun y=>rfl
 have hls:∀ y:Lt,y.sv=.agg [.bool y.pos,.str y.atom.name,.arr (y.atom.args.map Tm.d)]:=fun y=>rfl
 have p1:=OS t hv
 have p2:=trivial
 have hx:t.expr=true:=by unfold Tm.expr; rw [hv,ha]; rfl
 have f1:=Bh t (by omega)
 rw [hx] at f1
 have v1:=Dd t (by omega)
 have v2:=De t (by omega)
 rw [hv] at v1
 rw [ha] at v2
 have a4:=Ef t t (by omega) (by omega)
 rw [AD] at a4
 have g1:=Ci x (by omega)
 have g3:=Cv x (by omega)
 have a5:=Ef x.atom x.atom (by omega) (by omega)
 rw [AD] at a5
 have h1:=Cc q (by omega)
 have h2:=K9 q
 have a6:=K7 q q (by omega) (by omega)
 rw [AD] at a6
 have k1:=CP u (by omega)
 have zn:(E0 u).nodes≤30:=GY u
 have k2:=Bh (E0 u) (by omega)
 have k3:=Jx u
 obtain ⟨z,hz⟩:∃ z,z=E0 u:=⟨_,rfl⟩
 rw [←hz] at k1 k2 k3
 obtain ⟨st,hst⟩:∃ s,s=t.txtX:=⟨_,rfl⟩
 obtain ⟨sx,hsx⟩:∃ s,s=x.txtX:=⟨_,rfl⟩
 obtain ⟨sp,hsp⟩:∃ s,s=OR q:=⟨_,rfl⟩
 have l1:=Cg x.txtX x.txtX_size
 have l2:=K8 x
 try rw [←hst] at p1
 try rw [←hst] at p2
 rw [←hst] at f1
 rw [←hsx] at g1 l1 l2
 rw [←hsp] at h1 h2
 simp only [hts] at hd f1 v1 v2 a4 a5 k2 k3
 simp only [hls] at he g1 g3
 cases hxa:x.atom.atom <;> cases hpo:EF q <;> cases hro:Jo u
 all_goals
  rw [hxa] at g1 g3
  rw [hpo] at h1 h2
  rw [hro] at k1
  simp only [cond_true,cond_false,zH] at h2
  first
   |replace l1:=l2 hxa
   |(obtain ⟨y,hy⟩:∃ y,y=LF sx:=⟨_,rfl⟩; obtain ⟨b,hb⟩:∃ b,b=OG sx:=⟨_,rfl⟩; rw [←hy,← hb] at l1)
  first
   |replace k2:=k3 hro
   |skip
  clear k3 l2
  refine Ab CR CS (of_decide_eq_true rfl) ?_
  simp (disch:=omega) only [Cm,go_sem,hbig,hd,f1,v1,v2,p1,p2,a4,he,g1,g3,l1,a5,hq,h1,h2,a6,hu,k1,k2,AD,AM,AB,AO,Ao,Ah,Ae,Au,A3,A4,Aq,A5,Ap,Aj,A1,Av,Ai,Am,Tm.osv,Tm.obs,Lt.osv,Lt.obs,Tm.erss,Tm.noss,Tm.fus]
  repeat ((first | (refine H2 ?_ ?_; (focus (simp (disch:=omega) only [go_sem,hbig,hd,f1,v1,v2,p1,p2,a4,he,g1,g3,l1,a5,hq,h1,h2,a6,hu,k1,k2,AD,AM,AB,AO,Ao,Ah,Ae,Au,A3,A4,Aq,A5,Ap,Aj,A1,Av,Ai,Am,Tm.osv,Tm.obs,Lt.osv,Lt.obs,Tm.erss,Tm.noss,Tm.fus]; done))) | (refine H3 ?_ ?_; (focus (simp (disch:=omega) only [go_sem,hbig,hd,f1,v1,v2,p1,p2,a4,he,g1,g3,l1,a5,hq,h1,h2,a6,hu,k1,k2,AD,AM,AB,AO,Ao,Ah,Ae,Au,A3,A4,Aq,A5,Ap,Aj,A1,Av,Ai,Am,Tm.osv,Tm.obs,Lt.osv,Lt.obs,Tm.erss,Tm.noss,Tm.fus]; done)))); (try simp (disch:=omega) only [go_sem,hbig,hd,f1,v1,v2,p1,p2,a4,he,g1,g3,l1,a5,hq,h1,h2,a6,hu,k1,k2,AD,AM,AB,AO,Ao,Ah,Ae,Au,A3,A4,Aq,A5,Ap,Aj,A1,Av,Ai,Am,Tm.osv,Tm.obs,Lt.osv,Lt.obs,Tm.erss,Tm.noss,Tm.fus]))
theorem SW (l:List Int) (hl:Bytes l) (hbig:E 4 [.arr (l.map by_)] []=some (.bool false,[])) (t:Tm) (hd:E 5 [.arr (l.map by_)] []=some (t.sv,[])) (htn:t.nodes≤150) (hv:t.valid=true) (ha:t.atom=true)
  (x:Lt) (he:E 12 [.arr (l.map by_)] []=some (x.sv,[])) (hxn:x.atom.nodes≤150) (q:List Int) (hq:E 16 [.arr (l.map by_)] []=some (.arr (q.map fun n=>[D.int n]),[])) (hql:q.length≤20) (u:ByteArray) (hu:E 20 [.arr (l.map by_)] []=some (.str u,[])) (hul:u.size≤1000) :
  E 3 [.arr (l.map by_)] []=some (.bool true,[]):=by
 have hts:∀ y:Tm,y.sv=.agg [.str y.name,.arr (y.args.map Tm.d)]:=fun y=>rfl
 have hls:∀ y:Lt,y.sv=.agg [.bool y.pos,.str y.atom.name,.arr (y.atom.args.map Tm.d)]:=fun y=>rfl
 have p1:=OS t hv
 have p2:=OU t ha
 have hx:t.expr=true:=by unfold Tm.expr; rw [hv,ha]; rfl
 have f1:=Bh t (by omega)
 rw [hx] at f1
 have v1:=Dd t (by omega)
 have v2:=De t (by omega)
 rw [hv] at v1
 rw [ha] at v2
 have a4:=Ef t t (by omega) (by omega)
 rw [AD] at a4
 have g1:=Ci x (by omega)
 have g3:=Cv x (by omega)
 have a5:=Ef x.atom x.atom (by omega) (by omega)
 rw [AD] at a5
 have h1:=Cc q (by omega)
 have h2:=K9 q
 have a6:=K7 q q (by omega) (by omega)
 rw [AD] at a6
 have k1:=CP u (by omega)
 have zn:(E0 u).nodes≤30:=GY u
 have k2:=Bh (E0 u) (by omega)
 have k3:=Jx u
 obtain ⟨z,hz⟩:∃ z,z=E0 u:=⟨_,rfl⟩
 rw [←hz] at k1 k2 k3
 obtain ⟨st,hst⟩:∃ s,s=t.txtX:=⟨_,rfl⟩
 obtain ⟨sx,hsx⟩:∃ s,s=x.txtX:=⟨_,rfl⟩
 obtain ⟨sp,hsp⟩:∃ s,s=OR q:=⟨_,rfl⟩
 have l1:=Cg x.txtX x.txtX_size
 have l2:=K8 x
 try rw [←hst] at p1
 try rw [←hst] at p2
 rw [←hst] at f1
 rw [←hsx] at g1 l1 l2
 rw [←hsp] at h1 h2
 simp only [hts] at hd f1 v1 v2 a4 a5 k2 k3
 simp only [hls] at he g1 g3
 cases hxa:x.atom.atom <;> cases hpo:EF q <;> cases hro:Jo u
 all_goals
  rw [hxa] at g1 g3
  rw [hpo] at h1 h2
  rw [hro] at k1
  simp only [cond_true,cond_false,zH] at h2
  first
   |replace l1:=l2 hxa
   |(obtain ⟨y,hy⟩:∃ y,y=LF sx:=⟨_,rfl⟩; obtain ⟨b,hb⟩:∃ b,b=OG sx:=⟨_,rfl⟩; rw [←hy,← hb] at l1)
  first
   |replace k2:=k3 hro
   |skip
  clear k3 l2
  refine Ab CR CS (of_decide_eq_true rfl) ?_
  simp (disch:=omega) only [Cm,go_sem,hbig,hd,f1,v1,v2,p1,p2,a4,he,g1,g3,l1,a5,hq,h1,h2,a6,hu,k1,k2,AD,AM,AB,AO,Ao,Ah,Ae,Au,A3,A4,Aq,A5,Ap,Aj,A1,Av,Ai,Am,Tm.osv,Tm.obs,Lt.osv,Lt.obs,Tm.erss,Tm.noss,Tm.fus]
  repeat ((first | (refine H2 ?_ ?_; (focus (simp (disch:=omega) only [go_sem,hbig,hd,f1,v1,v2,p1,p2,a4,he,g1,g3,l1,a5,hq,h1,h2,a6,hu,k1,k2,AD,AM,AB,AO,Ao,Ah,Ae,Au,A3,A4,Aq,A5,Ap,Aj,A1,Av,Ai,Am,Tm.osv,Tm.obs,Lt.osv,Lt.obs,Tm.erss,Tm.noss,Tm.fus]; done))) | (refine H3 ?_ ?_; (focus (simp (disch:=omega) only [go_sem,hbig,hd,f1,v1,v2,p1,p2,a4,he,g1,g3,l1,a5,hq,h1,h2,a6,hu,k1,k2,AD,AM,AB,AO,Ao,Ah,Ae,Au,A3,A4,Aq,A5,Ap,Aj,A1,Av,Ai,Am,Tm.osv,Tm.obs,Lt.osv,Lt.obs,Tm.erss,Tm.noss,Tm.fus]; done)))); (try simp (disch:=omega) only [go_sem,hbig,hd,f1,v1,v2,p1,p2,a4,he,g1,g3,l1,a5,hq,h1,h2,a6,hu,k1,k2,AD,AM,AB,AO,Ao,Ah,Ae,Au,A3,A4,Aq,A5,Ap,Aj,A1,Av,Ai,Am,Tm.osv,Tm.obs,Lt.osv,Lt.obs,Tm.erss,Tm.noss,Tm.fus]))
theorem SY (l:List Int) (hl:Bytes l) (hbig:E 4 [.arr (l.map by_)] []=some (.bool false,[])) (t:Tm) (hd:E 5 [.arr (l.map by_)] []=some (t.sv,[])) (htn:t.nodes≤150) (hv:t.valid=false) (ha:t.atom=true)
  (x:Lt) (he:E 12 [.arr (l.map by_)] []=some (x.sv,[])) (hxn:x.atom.nodes≤150) (q:List Int) (hq:E 16 [.arr (l.map by_)] []=some (.arr (q.map fun n=>[D.int n]),[])) (hql:q.length≤20) (u:ByteArray) (hu:E 20 [.arr (l.map by_)] []=some (.str u,[])) (hul:u.size≤1000) :
  E 3 [.arr (l.map by_)] []=some (.bool true,[]):=by
 have hts:∀ y:Tm,y.sv=.agg [.str y.name,.arr (y.args.map Tm.d)]:=fun y=>rfl
 have hls:∀ y:Lt,y.sv=.agg [.bool y.pos,.str y.atom.name,.arr (y.atom.args.map Tm.d)]:=fun y=>rfl
 have p1:=trivial
 have p2:=OU t ha
 have hx:t.expr=true:=by unfold Tm.expr; rw [hv,ha]; rfl
 have f1:=Bh t (by omega)
 rw [hx] at f1
 have v1:=Dd t (by omega)
 have v2:=De t (by omega)
 rw [hv] at v1
 rw [ha] at v2
 have a4:=Ef t t (by omega) (by omega)
 rw [AD] at a4
 have g1:=Ci x (by omega)
 have g3:=Cv x (by omega)
 have a5:=Ef x.atom x.atom (by omega) (by omega)
 rw [AD] at a5
 have h1:=Cc q (by omega)
 have h2:=K9 q
 have a6:=K7 q q (by omega) (by omega)
 rw [AD] at a6
 have k1:=CP u (by omega)
 have zn:(E0 u).nodes≤30:=GY u
 have k2:=Bh (E0 u) (by omega)
 have k3:=Jx u
 obtain ⟨z,hz⟩:∃ z,z=E0 u:=⟨_,rfl⟩
 rw [←hz] at k1 k2 k3
 obtain ⟨st,hst⟩:∃ s,s=t.txtX:=⟨_,rfl⟩
 obtain ⟨sx,hsx⟩:∃ s,s=x.txtX:=⟨_,rfl⟩
 obtain ⟨sp,hsp⟩:∃ s,s=OR q:=⟨_,rfl⟩
 have l1:=Cg x.txtX x.txtX_size
 have l2:=K8 x
 try rw [←hst] at p1
 try rw [←hst] at p2
 rw [←hst] at f1
 rw [←hsx] at g1 l1 l2
 rw [←hsp] at h1 h2
 simp only [hts] at hd f1 v1 v2 a4 a5 k2 k3
 simp only [hls] at he g1 g3
 cases hxa:x.atom.atom <;> cases hpo:EF q <;> cases hro:Jo u
 all_goals
  rw [hxa] at g1 g3
  rw [hpo] at h1 h2
  rw [hro] at k1
  simp only [cond_true,cond_false,zH] at h2
  first
   |replace l1:=l2 hxa
   |(obtain ⟨y,hy⟩:∃ y,y=LF sx:=⟨_,rfl⟩; obtain ⟨b,hb⟩:∃ b,b=OG sx:=⟨_,rfl⟩; rw [←hy,← hb] at l1)
  first
   |replace k2:=k3 hro
   |skip
  clear k3 l2
  refine Ab CR CS (of_decide_eq_true rfl) ?_
  simp (disch:=omega) only [Cm,go_sem,hbig,hd,f1,v1,v2,p1,p2,a4,he,g1,g3,l1,a5,hq,h1,h2,a6,hu,k1,k2,AD,AM,AB,AO,Ao,Ah,Ae,Au,A3,A4,Aq,A5,Ap,Aj,A1,Av,Ai,Am,Tm.osv,Tm.obs,Lt.osv,Lt.obs,Tm.erss,Tm.noss,Tm.fus]
  repeat ((first | (refine H2 ?_ ?_; (focus (simp (disch:=omega) only [go_sem,hbig,hd,f1,v1,v2,p1,p2,a4,he,g1,g3,l1,a5,hq,h1,h2,a6,hu,k1,k2,AD,AM,AB,AO,Ao,Ah,Ae,Au,A3,A4,Aq,A5,Ap,Aj,A1,Av,Ai,Am,Tm.osv,Tm.obs,Lt.osv,Lt.obs,Tm.erss,Tm.noss,Tm.fus]; done))) | (refine H3 ?_ ?_; (focus (simp (disch:=omega) only [go_sem,hbig,hd,f1,v1,v2,p1,p2,a4,he,g1,g3,l1,a5,hq,h1,h2,a6,hu,k1,k2,AD,AM,AB,AO,Ao,Ah,Ae,Au,A3,A4,Aq,A5,Ap,Aj,A1,Av,Ai,Am,Tm.osv,Tm.obs,Lt.osv,Lt.obs,Tm.erss,Tm.noss,Tm.fus]; done)))); (try simp (disch:=omega) only [go_sem,hbig,hd,f1,v1,v2,p1,p2,a4,he,g1,g3,l1,a5,hq,h1,h2,a6,hu,k1,k2,AD,AM,AB,AO,Ao,Ah,Ae,Au,A3,A4,Aq,A5,Ap,Aj,A1,Av,Ai,Am,Tm.osv,Tm.obs,Lt.osv,Lt.obs,Tm.erss,Tm.noss,Tm.fus]))
theorem Uz (l:List Int) (hl:Bytes l):E 3 [.arr (l.map by_)] []=some (.bool true,[]):=by
 have hbig:=VE l
 by_cases hb:65536<(l.length:Int)
 ·rw [Bb hb] at hbig
  refine Ab CR CS (of_decide_eq_true rfl) ?_
  simp (disch:=omega) only [Cm,go_sem,hbig,AM]
  repeat ((first | (refine H2 ?_ ?_; (focus (simp (disch:=omega) only [go_sem,hbig,AM]; done))) | (refine H3 ?_ ?_; (focus (simp (disch:=omega) only [go_sem,hbig,AM]; done)))); (try simp (disch:=omega) only [go_sem,hbig,AM]))
 ·rw [Be hb] at hbig
  obtain ⟨t,hd,htn⟩:=JL l hl (by omega)
  obtain ⟨x,he,hxn⟩:=Ie l hl (by omega)
  obtain ⟨q,hq,hql⟩:=HH l hl (by omega)
  obtain ⟨u,hu,hul⟩:=Kr l hl (by omega)
  cases hv:t.valid <;> cases ha:t.atom
  ·exact ST l hl hbig t hd htn hv ha x he hxn q hq hql u hu hul
  ·exact SY l hl hbig t hd htn hv ha x he hxn q hq hql u hu hul
  ·exact SU l hl hbig t hd htn hv ha x he hxn q hq hql u hu hul
  ·exact SW l hl hbig t hd htn hv ha x he hxn q hq hql u hu hul
end Go.Proofs.YtlglakdefklhoaaGreatDoor
set_option maxRecDepth 100000
set_option linter.unusedSimpArgs false
set_option linter.unusedVariables false
set_option linter.unusedSectionVars false
namespace Go.Proofs.YtlglakdefklhoaaGreatDoor
open Go.RowKit Go.ChangeShapes Go.WideShapes Go.ChangeAt Go.Deep
section
variable {H:Type} {enc:TypeId × Value→H} {P:Program} {w:World} {base:Nat} {spare:Nat→Bool} {held:Bool}
theorem HJ {b o k:Nat}:(⟨b,o,none⟩:Addr).add k=⟨b,o+k,none⟩:=by
 unfold Addr.add; split
 ·subst_vars; rfl
 ·rfl
theorem Ia {a:Addr} {v:Value} (h:w.cell? a=some v):a.block<w.heap.size:=by
 unfold World.cell? at h
 cases hb:w.heap[a.block]? with
 | none=>rw [hb] at h; cases h
 | some o=>exact (Array.getElem?_eq_some_iff.1 hb).1
end
section
variable {H:Type} {enc:TypeId × Value→H} {w:World} {base:Nat} {spare:Nat→Bool} {held:Bool}
end
end Go.Proofs.YtlglakdefklhoaaGreatDoor
set_option maxRecDepth 100000
set_option linter.unusedSimpArgs false
set_option linter.unusedVariables false
set_option linter.unusedSectionVars false
namespace Go.Proofs.YtlglakdefklhoaaGreatDoor
open Go.RowKit Go.ChangeShapes Go.WideShapes Go.ChangeAt Go.Deep
section
variable {H:Type} {enc:TypeId × Value→H} {P:Program} {w:World} {base:Nat} {spare:Nat→Bool} {held:Bool}
theorem SZ {t e:TypeId} {fuel:Nat} {v:Value} {x:DataW H × List MemPlace} (sz:Nat) (hsz:P.cellsOf e=sz) (h0:0<sz) (ht:P.underlying t=some (.slice e)) (h:DataW.trod enc P w base spare held fuel t [v]=some x) :
  ∃ (a:Option Addr) (len cap:Nat) (f:Nat→Nat→Value),v=.slice a len cap∧len≤cap∧cap≤9223372036854775807∧SlA w 0 sz len f a ∧
   ∀ i,i<len→∃ n x',n<fuel∧DataW.trod enc P w base spare held n e ((zW sz).map (f i))=some x':=by
 rcases DataW.trod_slice ht h with ⟨hcs,_⟩ | ⟨a,len,cap,elems,rest,n,hf,hcs,hx,hb,hl,hm,hlen,hel,_,_⟩
 ·simp only [zV,and_true] at hcs
  exact ⟨none,0,0,fun _ _=>undef,hcs,Nat.le_refl _,by omega,.inl rfl,fun i hi=>absurd hi (by omega)⟩
 ·have hi:∀ i,i<len→∃ cs' x',w.cells? base (a.add (i*sz)) sz=some cs'∧DataW.trod enc P w base spare held n e cs'=some x':=by
   intro i hi
   have h1:=hel i hi
   rw [hsz,zQ (by omega)] at h1
   obtain ⟨cs',h2,h3⟩:=Option.bind_eq_some_iff.1 h1
   exact ⟨cs',_,h2,h3⟩
  have hcell:∀ i j,i<len→j<sz→∃ v,w.cell? (a.add (i*sz+j))=some v:=by
   intro i j hil hj
   obtain ⟨cs',x',hc,_⟩:=hi i hil
   obtain ⟨_,hcl,hat⟩:=World.cells?_some hc
   have h1:=hat j hj
   rw [Go.Deep.add_add,zQ (by omega)] at h1
   exact ⟨_,h1⟩
  simp only [zV,and_true] at hcs
  refine ⟨some a,len,cap,fun i j=>(w.cell? (a.add (i*sz+j))).getD undef,hcs,hl,hm,?_,?_⟩
  ·rcases zJ len with h | h
   ·exact .inl h
   ·obtain ⟨v,hv⟩:=hcell 0 0 h h0
    rw [Nat.zero_mul,Nat.zero_add] at hv
    have hsp:a.spot=none:=by simpa [Addr.add] using World.cell?_spot hv
    have hlt:=Ia hv
    obtain ⟨b,off,spot⟩:=a
    simp only at hsp
    subst hsp
    refine .inr ⟨b,off,rfl,zS _,by simpa [Addr.add] using hlt,fun i j hil hj=>?_⟩
    obtain ⟨v',hv'⟩:=hcell i j hil hj
    rw [HJ] at hv'
    show _=some ((w.cell? ((⟨b,off,none⟩:Addr).add (i*sz+j))).getD undef)
    rw [HJ,Nat.add_assoc,hv']
    rfl
  ·intro i hil
   obtain ⟨cs',x',hc,ht'⟩:=hi i hil
   obtain ⟨_,hcl,hat⟩:=World.cells?_some hc
   refine ⟨n,x',by omega,?_⟩
   have hcs':(zW sz).map (fun j=>(w.cell? (a.add (i*sz+j))).getD undef)=cs':=by
    apply List.ext_getElem?
    intro j
    by_cases hj:j<sz
    ·rw [List.getElem?_map,List.getElem?_range hj]
     have h1:=hat j hj
     rw [Go.Deep.add_add] at h1
     rw [zQ (by omega:j<cs'.length)] at h1 ⊢
     simp [h1]
    ·rw [List.getElem?_eq_none (by simp; omega),List.getElem?_eq_none (by omega)]
   rw [hcs']
   exact ht'
end
inductive Lvs (w:World):List D→List Value→Prop
 |nil:Lvs w [] []
 |cons {d:D} {v:Value} {ds:List D} {vs:List Value} (h:DAt w d v) (hs:Lvs w ds vs):Lvs w (d :: ds) (v :: vs)
theorem Lvs.len {w:World} {ds:List D} {vs:List Value} (h:Lvs w ds vs):ds.length=vs.length:=by
 induction h with
 | nil=>rfl
 | cons h hs ih=>simp [ih]
theorem Lvs.get {w:World} {ds:List D} {vs:List Value} (h:Lvs w ds vs):∀ j (h1:j<ds.length) (h2:j<vs.length),DAt w ds[j] vs[j]:=by
 induction h with
 | nil=>intro j h1; simp at h1
 | cons h hs ih =>
  intro j h1 h2
  cases j with
  | zero=>exact h
  | succ j=>exact ih j (by simpa using h1) (by simpa using h2)
theorem Ta {α:Type} [Inhabited α] (dd:α→List D) {w:World} {m len cap:Nat} {f:Nat→Nat→Value} {a:Option Addr} (hl:len≤cap) (hm:cap≤9223372036854775807) (hS:SlA w 0 m len f a)
  (hel:∀ i,i<len→∃ X:α,Lvs w (dd X) ((zW m).map (f i))):∃ xs:List α,DAt w (.arr (xs.map dd)) (.slice a len cap):=by
 obtain ⟨g,hg⟩:∃ g:Nat→α,∀ i,i<len→Lvs w (dd (g i)) ((zW m).map (f i)) :=
  ⟨fun i=>if h:i<len then (hel i h).choose else default,fun i hi=>by simp only [hi,dif_pos]; exact (hel i hi).choose_spec⟩
 refine ⟨(zW len).map g,?_⟩
 have hlen:(((zW len).map g).map dd).length=len:=by simp
 have:=DAt.UE (w:=w) (es:=((zW len).map g).map dd) (sz:=m) (cap:=cap) (a:=a) (f:=f) (by rw [hlen]; exact hl) hm (by rw [hlen]; exact hS) (fun i hi=>by
  rw [hlen] at hi
  have:=(hg i hi).len
  simpa using this) (fun i j hi hj=>by
  rw [hlen] at hi
  have h1:=hg i hi
  have h2:=h1.len
  simp only [zY,List.length_range] at h2
  simp only [List.getElem_map,List.getElem_range] at hj ⊢
  have:=h1.get j hj (by simp; omega)
  simpa using this)
 rw [hlen] at this
 exact this
instance:Inhabited Tm:=⟨Tm.zero⟩
instance:Inhabited Fm:=⟨Fm.zero⟩
section
variable {H:Type} {enc:TypeId × Value→H} {w:World} {base:Nat} {spare:Nat→Bool} {held:Bool}
end
end Go.Proofs.YtlglakdefklhoaaGreatDoor
set_option maxRecDepth 100000
set_option linter.unusedSimpArgs false
set_option linter.unusedVariables false
set_option linter.unusedSectionVars false
namespace Go.Proofs.YtlglakdefklhoaaGreatDoor
open Go.RowKit
theorem DRep.lt_ {own:Bool} {w:World} {S:Nat→Prop} {d:D} {v:Value} (h:DRep own w S d v):DRep own w (fun b=>S b∧b<w.heap.size) d v:=by
 induction h with
 | int S n=>exact .int _ n
 | byte S n=>exact .byte _ n
 | nl S=>exact .nl _
 | bool S b=>exact .bool _ b
 | str S s h=>exact .str _ s h
 | arr S sz es a cap f Sub h1 h2 h3 h4 h5 h6 h7 ih =>
  refine .arr _ sz es a cap f (fun i j x=>Sub i j x∧x<w.heap.size) h1 h2 ?_ h4 (fun i j x h=>⟨h5 i j x h.1,h.2⟩) (fun ho i j i' j' x h h'=>h6 ho i j i' j' x h.1 h'.1) ih
  rcases h3 with h3 | ⟨b,off,ha,hS,hl,hc,ho⟩
  ·exact .inl h3
  ·exact .inr ⟨b,off,ha,⟨hS,hl⟩,hl,hc,fun h=>⟨fun i j hx=>(ho h).1 i j hx.1,(ho h).2⟩⟩
theorem DAt.rep {w:World} {es:List (List D)} {v:Value} (h:DAt w (.arr es) v):RepV w (fun b=>b<w.heap.size) (fun _=>none) (.arr es) v:=by
 simp only [RepV]
 exact (DRep.lt_ h).up fun b hb=>hb.2
theorem Fun.yes {f:FuncId} {args:List SV} (h:Fun Tryz.prog f args [] (.bool true) []) {w:World} {vs:List Value} (hgl:GL w fun b=>b<w.heap.size) (hvs:RepVs w (fun b=>b<w.heap.size) (fun _=>none) args vs):Calls Tryz.prog f vs.toArray w (Ret w (.bool true)):=by
 have nl:∀ g,¬ (Ad [] g).live:=fun g hg=>by simp [Ad,Ob.live] at hg
 refine (h w (fun b=>b<w.heap.size) (fun _=>none) (fun _ _=>False) vs ⟨fun b hb=>hb,fun g hg=>absurd hg (nl g),fun g b hg=>absurd hg (nl g),fun g b hg=>absurd hg (nl g),fun g g' b hg=>absurd hg (nl g),fun g _=>rfl,hgl⟩ hvs).mono ?_
 rintro e w' ⟨v,I',V',B',rfl,hr,hp⟩
 simp only [RepV] at hr
 subst hr
 exact ⟨rfl,hp.fr.os,hp.fr.tape.1,hp.fr.output,hp.fr.size,fun b hb=>hp.fr.block b hb fun ⟨g,hg,_⟩=>absurd hg (nl g)⟩
theorem Tc {w:World} {I:Nat→Prop} {V:Nat→Option Value}:RepVs w I V [] []:=by simp [RepVs]
theorem Rp {w:World} {I:Nat→Prop} {V:Nat→Option Value} {x:SV} {xs:List SV} {v:Value} {vs:List Value} (h:RepV w I V x v) (hs:RepVs w I V xs vs):RepVs w I V (x :: xs) (v :: vs):=by
 simp only [RepVs]; exact ⟨v,vs,rfl,h,hs⟩
section
variable {H:Type} {enc:TypeId × Value→H} {w:World} {base:Nat} {spare:Nat→Bool} {held:Bool}
end
end Go.Proofs.YtlglakdefklhoaaGreatDoor
set_option maxRecDepth 100000
set_option linter.unusedSimpArgs false
set_option linter.unusedVariables false
set_option linter.unusedSectionVars false
namespace Go.Proofs.YtlglakdefklhoaaGreatDoor
open Go.RowKit Go.ChangeShapes Go.WideShapes Go.ChangeAt Go.Deep
section
variable {H:Type} {enc:TypeId × Value→H} {w:World} {base:Nat} {spare:Nat→Bool} {held:Bool}
abbrev ByteZ:={ b:Int // 0≤b∧b≤255 }
instance:Inhabited ByteZ:=⟨⟨0,by omega⟩⟩
theorem Rq {fuel:Nat} {v:Value} {x:DataW H × List MemPlace} (h:DataW.trod enc Tryz.prog w base spare held fuel 22 [v]=some x):∃ l:List Int,Bytes l∧DAt w (.arr (l.map by_)) v:=by
 obtain ⟨a,len,cap,f,rfl,hl,hm,hS,hr⟩:=SZ (P:=Tryz.prog) 1 (by kernel_rfl) (by omega) Tryz.underlying22 h
 obtain ⟨xs,hx⟩:=Ta (fun s:ByteZ=>[D.byte s.1]) hl hm hS fun i hi=>by
  obtain ⟨n,x',hn,h1⟩:=hr i hi
  obtain ⟨z,q,_,hw⟩:=DataW.trod_int Tryz.underlying5 h1
  have h2:(decide (IntKind.u8.min≤z)&&decide (z≤IntKind.u8.max))=true:=hw
  rw [z8,decide_eq_true_eq,decide_eq_true_eq] at h2
  rw [q]
  exact ⟨⟨z,h2.1,h2.2⟩,.cons (.byte _ z) .nil⟩
 refine ⟨xs.map (·.1),fun b hb=>?_,?_⟩
 ·obtain ⟨s,_,rfl⟩:=List.mem_map.1 hb
  exact s.2
 ·rw [yA]
  exact hx
end
end Go.Proofs.YtlglakdefklhoaaGreatDoor
