/-
  Texts of this claim, one behind the other, each built on those ahead of it. No condition.
-/
import Derived.Test.YtmhjhclgihoaeaaGreatK18b
import Derived.Test.YtmhjhclgihoaeaaGreatK18c
import Derived.CallsIn
import Derived.ControlIn
import Derived.OrdersIn
import Derived.TacticsIn
import Derived.RangeFuncCalls
import Derived.RangeFuncBox
import Derived.RangeFuncLeaves
import Derived.RangeFuncKeeps
import Derived.RangeFuncFrom
import Derived.Shelf.Abstract
import Derived.WalkKit
import Derived.OwnWalkIn
import Derived.TacticsInMore
import Derived.LoopNIn
import Derived.LoopIn
set_option maxHeartbeats 16000000
open Bool renaming false_and → zA, and_eq_true → zB, true_and → zE, and_false → yF, and_true → yI, or_eq_false_iff → yO, false_or → yQ, and_self → yS
open List renaming getElem?_eq_getElem → zC, eq_nil_of_length_eq_zero → zF, getD_eq_getElem?_getD → zG, getElem_mem → zI, drop_eq_getElem_cons → zJ, nil_append → zK, length_nil → zL, drop_eq_nil_of_le → zM, map_nil → zN, length_cons → zR, mem_cons → zS, not_mem_nil → zT, drop_zero → zU, length_map → zV, length_take → zX, take_length → zY, getElem?_map → z5, nodup_cons → z7, append_nil → z8, take_zero → z9, nodup_nil → yB, size_toArray → yD, map_map → yG, map_cons → yJ, all_eq_true → yN, getElem_map → yR, all_cons → yT
open Nat renaming eq_zero_or_pos → zD, lt_or_ge → zH, zero_le → zO, zero_add → zW, reduceEqDiff → zZ, reduceAdd → z4, le_refl → yA, add_zero → yE, mul_add → yL, add_sub_cancel → yP
open Array renaming getD_eq_getD_getElem? → zP, getElem?_eq_some_iff → yC, getElem?_eq_getElem → yH, replicate → yK, getElem?_setIfInBounds_ne → yM
open Option renaming map_eq_some_iff → zQ
open Option.some renaming inj → z6
set_option maxRecDepth 100000
set_option linter.unusedSimpArgs false
set_option linter.unusedVariables false
set_option linter.unusedSectionVars false
namespace Go.Proofs.YtmhjhclgihoaeaaGreat
open Go.RowKit
def Cz:SC:=(.seq (.reg [⟨some 2,none,.boxv 33 2 (.t 0)⟩,⟨(some 4),none,(.alloc 33 [(.str ⟨#[]⟩),.nil])⟩]) (.seq (.seq (.reg [⟨some 11,none,.mv (.t 1)⟩,⟨some 12,none,.faddr 0 (.t 2)⟩,⟨some 13,none,.load false 1 (.t 12)⟩,⟨(some 14),none,(.mget true true true [(.str ⟨#[]⟩),.nil] (.t 11) (.t 13))⟩,⟨some 10,none,.mv (.t 14)⟩,⟨some 15,none,.ext (.t 10) 0⟩,⟨some 16,none,.ext (.t 10) 1⟩,⟨(some 5),none,(.alloc 33 [(.str ⟨#[]⟩),.nil])⟩,⟨none,none,(.store 2 (.t 5) (.t 15))⟩,⟨some 6,none,.mv (.t 16)⟩]) (.seq (.reg [⟨some 17,none,.mv (.t 6)⟩,⟨some 18,none,.mv (.t 17)⟩,⟨(some 19),(some (18,true)),(.faddr 1 (.t 2))⟩,⟨(some 20),(some (18,true)),(.load false 1 (.t 19))⟩,⟨(some 21),(some (18,true)),(.len false (.t 20))⟩,⟨(some 22),(some (18,true)),(.bin .eql false (.t 21) (.c (.int .i64 0)))⟩,⟨some 23,none,.pick (.t 18) (.t 22) (.c (.bool false))⟩]) (.cond (.t 23) (.seq (.reg [⟨some 24,none,.load true 2 (.t 5)⟩,⟨some 25,none,.call 140 [(.t 24)]⟩,⟨none,none,(.store 2 (.t 4) (.t 25))⟩]) .ret) .skip))) (.seq (.reg [⟨some 26,none,.faddr 0 (.t 2)⟩,⟨some 27,none,.load false 1 (.t 26)⟩,⟨(some 28),none,(.build [(.str ⟨#[]⟩),.nil] [(0,(1,(.t 27)))])⟩,⟨(some 7),none,(.alloc 33 [(.str ⟨#[]⟩),.nil])⟩,⟨none,none,(.store 2 (.t 7) (.t 28))⟩]) (.seq (.seq (.reg [⟨some 29,none,.faddr 1 (.t 2)⟩,⟨some 30,none,.load false 1 (.t 29)⟩,⟨some 31,none,.len false (.t 30)⟩,⟨some 32,none,.mv (.c (.int .i64 0))⟩]) (.block 0 (.loop [0,1,0,0,1,0,0,1,0,0,0,0,0,0,0,0,0,0,0,0,0,0,0,0,0,0,0,0,0,0,1,1,1,0,0,0,0,0,0,0,0,0,0,0,0,0] (.seq (.reg [⟨some 33,none,.bin .lss false (.t 32) (.t 31)⟩]) (.seq (.cond (.t 33) .skip (.exit 0)) (.seq (.block 1 (.seq (.reg [⟨some 34,none,.iaddr 2 (.t 30) (.t 32)⟩,⟨some 35,none,.load true 2 (.t 34)⟩,⟨(some 9),none,(.alloc 33 [(.str ⟨#[]⟩),.nil])⟩,⟨none,none,(.store 2 (.t 9) (.t 35))⟩]) (.dreg [[],[0],[],[],[2,3],[4,2,3],[1,0,5,4,2,3],[0,1,2,3,4,5,6],[7,0,1,2,3,4,5,6]] [⟨some 36,none,.faddr 1 (.t 7)⟩,⟨some 37,none,.load false 1 (.t 36)⟩,⟨some 38,none,.load true 2 (.t 9)⟩,⟨some 39,none,.mv (.t 1)⟩,⟨some 40,none,.call 142 [(.t 38),(.t 39)]⟩,⟨(some 41),none,(.mkrow 33 2 [(.str ⟨#[]⟩),.nil] 1 [(0,(.t 40))])⟩,⟨(some 42),none,(.append 33 2 40 [(.str ⟨#[]⟩),.nil] (.t 37) (.t 41))⟩,⟨some 43,none,.faddr 1 (.t 7)⟩,⟨none,none,(.store 1 (.t 43) (.t 42))⟩]))) (.reg [⟨some 44,none,.bin .add false (.t 32) (.c (.int .i64 1))⟩,⟨some 32,none,.mv (.t 44)⟩]))))))) (.seq (.reg [⟨some 45,none,.load true 2 (.t 7)⟩,⟨none,none,(.store 2 (.t 4) (.t 45))⟩]) .ret)))))
theorem Dr:Ao Tryz.prog 142=some ⟨46,Cz,[(.cell 4 true 2)]⟩:=by kernel_rfl
theorem AR:modes 142=⟨[],.own [none,some (33,2)],none,false⟩:=by unfold modes; rfl
abbrev RvC (e:TEnv) (x:Tm):Prop:=E 142 [x.sv,.mp true (Fb e)] []=some ((x.rv e).osv,(x.rv e).obs)
theorem N5 (e:TEnv) (m:Nat) (hm:m≤1099511627776) (he:TB m e) (x:Tm) (hn:x.args.length≤1099511627776) (ih:∀ y∈x.args,RvC e y):RvC e x:=by
 unfold RvC
 have h10:((1:Int)=0)=False:=by simp
 have e0:x.args.isEmpty=true→x.rv e=(e x.name).getD (.mk x.name []):=fun h=>by rw [Tm.QM,h]; rfl
 have e9:x.args.isEmpty=false→x.rv e=.mk x.name (x.args.map (Tm.rv e)):=fun h=>by rw [Tm.QM,h]; rfl
 have e1:(Tm.mk x.name (x.args.map (Tm.rv e))).osv=.agg [.str x.name,.ref 0]:=rfl
 have e2:(Tm.mk x.name (x.args.map (Tm.rv e))).obs=[.row 33 2 ((x.args.map (Tm.rv e)).map Tm.o)]:=rfl
 cases hq:e x.name with
 | none =>
  have hme:Fb e (.str x.name)=none:=by rw [IE,hq]
  have e3:x.rv e=.mk x.name (x.args.map (Tm.rv e)):=by
   cases hx:x.args.isEmpty with
   | true =>
    have h0:x.args=[]:=by simpa using hx
    rw [e0 hx,hq,h0]; rfl
   | false=>exact e9 hx
  rw [e3,e1,e2]
  clear e0 e1 e2 e3 e9
  obtain ⟨nm,hnm⟩:∃ nm,nm=x.name:=⟨_,rfl⟩
  rw [←hnm] at hme ⊢
  refine Ak Dr AR (of_decide_eq_true rfl) ?_
  simp (disch:=omega) only [Cz,go_sem,Ab,hme,← hnm]
  refine go_loop (α:=Int) (fun a=>⟨slots 46 0 [(1,.mp true (Fb e)),(4,.ptr 0 0),(7,.ptr 1 0),(30,.arr (x.args.map Tm.d)),(31,.int .i64 x.args.length),(32,.int .i64 a)],(if a=0 then [.box 33 [.str ⟨#[]⟩,.nil],.box 33 [.str nm,.nil]] else [.box 33 [.str ⟨#[]⟩,.nil],.box 33 [.str nm,.ref 2],.row 33 2 (((x.args.map (Tm.rv e)).take a.toNat).map Tm.o)])⟩) (fun a=>∃ k:Nat,a=k∧k≤(x.args).length) (fun a=>(x.args).length-(a).toNat) 0 ⟨0,rfl,zO _⟩ (by simp (disch:=omega) only [go_sem,Ab,eq_self,if_true]) ?_
  rintro i ⟨k,hi,hk⟩
  have hni:i.toNat=k:=by omega
  have hni1:(i+1).toNat=k+1:=by omega
  rcases zH k (x.args).length with hlt | hge
  ·have hg:=get_at Tm.d hlt
   rw [Tm.d_eq] at hg
   have hc:=ih x.args[k] (zI hlt)
   have hlm:k<(x.args.map (Tm.rv e)).length:=by rw [zV]; exact hlt
   have hs:=CH Tm.o hlm
   rw [Tm.o_eq,yR] at hs
   rcases zD k with h0 | h0
   ·subst h0
    obtain rfl:i=0:=hi
    rw [z9,zN,zK] at hs
    simp (disch:=omega) only [go_sem,Ab,hni,hg,hc,Tm.osv,Tm.obs,AR,eq_self,if_true]
    refine ⟨1,⟨1,rfl,hlt⟩,by omega,?_⟩
    simp (disch:=omega) only [go_sem,Ab,h10,if_false,hs]
   ·have hi0:(i=0)=False:=by simp; omega
    have hi1:(i+1=0)=False:=by simp; omega
    have htl:((x.args.map (Tm.rv e)).take k).length=k:=by rw [zX,zV]; omega
    simp (disch:=omega) only [go_sem,Ab,hni,hg,hc,Tm.osv,Tm.obs,AR,hi0,if_false,htl]
    refine ⟨i+1,⟨k+1,by omega,hlt⟩,by omega,?_⟩
    simp (disch:=omega) only [go_sem,Ab,hni1,hi1,if_false,hs]
  ·obtain rfl:k=x.args.length:=by omega
   have ht:(x.args.map (Tm.rv e)).take x.args.length=x.args.map (Tm.rv e):=by rw [←zV (f:=Tm.rv e)]; exact zY
   rcases zD x.args.length with h0 | h0
   ·have hx:x.args=[]:=zF h0
    obtain rfl:i=0:=by omega
    first | omega | simp (disch:=omega) only [go_sem,Ab,hni,hx,eq_self,if_true,zN,zL]
   ·have hi0:(i=0)=False:=by simp; omega
    first | omega | simp (disch:=omega) only [go_sem,Ab,hni,hi0,if_false,ht]
 | some v =>
  have hme:Fb e (.str x.name)=some (true,[.str v.name,.arr (v.args.map Tm.d)]):=by rw [IE,hq]
  rcases zD x.args.length with hz | hz
  ·have hx:x.args=[]:=zF hz
   have hz0:((x.args.length:Int)=0)=True:=by rw [hx]; simp
   have hvn:=(he _ _ hq).1
   have hcp:=Fc v (by omega)
   have hvs:v.sv=.agg [.str v.name,.arr (v.args.map Tm.d)]:=rfl
   rw [hvs] at hcp
   rw [e0 (by rw [hx]; rfl),hq]
   show E _ _ _=some (v.osv,v.obs)
   refine Ak Dr AR (of_decide_eq_true rfl) ?_
   simp (disch:=omega) only [Cz,go_sem,Ab,hme,hz0,WL,hcp,BY,Tm.osv,Tm.obs]
  ·have hz0:((x.args.length:Int)=0)=False:=eq_false (by omega)
   have hx:x.args.isEmpty=false:=by
    cases hx:x.args with
    | nil=>rw [hx] at hz; simp at hz
    | cons a r=>rfl
   rw [e9 hx,e1,e2]
   clear e0 e1 e2 e9
   obtain ⟨nm,hnm⟩:∃ nm,nm=x.name:=⟨_,rfl⟩
   rw [←hnm] at hme ⊢
   refine Ak Dr AR (of_decide_eq_true rfl) ?_
   simp (disch:=omega) only [Cz,go_sem,Ab,hme,hz0,WM,← hnm]
   refine go_loop (α:=Int) (fun a=>⟨slots 46 0 [(1,.mp true (Fb e)),(4,.ptr 0 0),(7,.ptr 1 0),(30,.arr (x.args.map Tm.d)),(31,.int .i64 x.args.length),(32,.int .i64 a)],(if a=0 then [.box 33 [.str ⟨#[]⟩,.nil],.box 33 [.str nm,.nil]] else [.box 33 [.str ⟨#[]⟩,.nil],.box 33 [.str nm,.ref 2],.row 33 2 (((x.args.map (Tm.rv e)).take a.toNat).map Tm.o)])⟩) (fun a=>∃ k:Nat,a=k∧k≤(x.args).length) (fun a=>(x.args).length-(a).toNat) 0 ⟨0,rfl,zO _⟩ (by simp (disch:=omega) only [go_sem,Ab,eq_self,if_true]) ?_
   rintro i ⟨k,hi,hk⟩
   have hni:i.toNat=k:=by omega
   have hni1:(i+1).toNat=k+1:=by omega
   rcases zH k (x.args).length with hlt | hge
   ·have hg:=get_at Tm.d hlt
    rw [Tm.d_eq] at hg
    have hc:=ih x.args[k] (zI hlt)
    have hlm:k<(x.args.map (Tm.rv e)).length:=by rw [zV]; exact hlt
    have hs:=CH Tm.o hlm
    rw [Tm.o_eq,yR] at hs
    rcases zD k with h0 | h0
    ·subst h0
     obtain rfl:i=0:=hi
     rw [z9,zN,zK] at hs
     simp (disch:=omega) only [go_sem,Ab,hni,hg,hc,Tm.osv,Tm.obs,AR,eq_self,if_true]
     refine ⟨1,⟨1,rfl,hlt⟩,by omega,?_⟩
     simp (disch:=omega) only [go_sem,Ab,h10,if_false,hs]
    ·have hi0:(i=0)=False:=by simp; omega
     have hi1:(i+1=0)=False:=by simp; omega
     have htl:((x.args.map (Tm.rv e)).take k).length=k:=by rw [zX,zV]; omega
     simp (disch:=omega) only [go_sem,Ab,hni,hg,hc,Tm.osv,Tm.obs,AR,hi0,if_false,htl]
     refine ⟨i+1,⟨k+1,by omega,hlt⟩,by omega,?_⟩
     simp (disch:=omega) only [go_sem,Ab,hni1,hi1,if_false,hs]
   ·obtain rfl:k=x.args.length:=by omega
    have ht:(x.args.map (Tm.rv e)).take x.args.length=x.args.map (Tm.rv e):=by rw [←zV (f:=Tm.rv e)]; exact zY
    rcases zD x.args.length with h0 | h0
    ·have hx:x.args=[]:=zF h0
     obtain rfl:i=0:=by omega
     first | omega | simp (disch:=omega) only [go_sem,Ab,hni,hx,eq_self,if_true,zN,zL]
    ·have hi0:(i=0)=False:=by simp; omega
     first | omega | simp (disch:=omega) only [go_sem,Ab,hni,hi0,if_false,ht]
theorem Jn (e:TEnv) (m:Nat) (hm:m≤1099511627776) (he:TB m e) (x:Tm) (hn:x.nodes≤1099511627776):RvC e x :=
 N5 e m hm he x (by have:=Tm.length_le x.args; have:=Tm.nodes_eq x; omega) fun y hy=>Jn e m hm he y (by have:=Tm.nodes_mem hy; have:=Tm.nodes_eq x; omega)
termination_by SizeOf.sizeOf x
decreasing_by exact Tm.lt_of_mem hy
def Jo:SC:=(.seq (.reg [⟨some 1,none,.boxv 36 5 (.t 0)⟩,⟨some 2,none,.mv (.c (.int .i64 0))⟩]) (.seq (.reg [⟨some 3,none,.mv (.c (.int .i64 1))⟩]) (.seq (.seq (.reg [⟨some 6,none,.faddr 4 (.t 1)⟩,⟨some 7,none,.load false 1 (.t 6)⟩,⟨some 8,none,.len false (.t 7)⟩,⟨some 9,none,.mv (.c (.int .i64 0))⟩]) (.block 0 (.loop [0,0,0,1,0,0,0,1,1,1,0,0,0,0,0,0,0,0,0,0,0,0] (.seq (.reg [⟨some 10,none,.bin .lss false (.t 9) (.t 8)⟩]) (.seq (.cond (.t 10) .skip (.exit 0)) (.seq (.block 1 (.seq (.reg [⟨some 11,none,.iaddr 5 (.t 7) (.t 9)⟩,⟨some 12,none,.load true 5 (.t 11)⟩,⟨(some 5),none,(.alloc 36 [(.int .i64 0),(.str ⟨#[]⟩),.nil,(.str ⟨#[]⟩),.nil])⟩,⟨none,none,(.store 5 (.t 5) (.t 12))⟩]) (.seq (.seq (.reg [⟨some 13,none,.mv (.t 3)⟩,⟨some 14,none,.bin .gtr false (.t 13) (.c (.int .i64 40))⟩]) (.cond (.t 14) (.seq (.reg [⟨some 15,none,.mv (.t 3)⟩,⟨some 2,none,.mv (.t 15)⟩]) .ret) .skip)) (.reg [⟨some 16,none,.mv (.t 3)⟩,⟨some 17,none,.load true 5 (.t 5)⟩,⟨some 18,none,.call 88 [(.t 17)]⟩,⟨some 19,none,.bin .add false (.t 16) (.t 18)⟩,⟨some 3,none,.mv (.t 19)⟩])))) (.reg [⟨some 20,none,.bin .add false (.t 9) (.c (.int .i64 1))⟩,⟨some 9,none,.mv (.t 20)⟩]))))))) (.seq (.reg [⟨some 21,none,.mv (.t 3)⟩,⟨some 2,none,.mv (.t 21)⟩]) .ret))))
theorem Oh:Ao Tryz.prog 88=some ⟨22,Jo,[(.tmp 2)]⟩:=by kernel_rfl
theorem Dc:modes 88=⟨[],.asis,none,false⟩:=by unfold modes; rfl
theorem UZ (x:Fm) (hn:x.nodes≤1099511627776) (ih:∀ y∈x.parts,E 88 [y.sv] []=some (.int .i64 y.cap,[])):E 88 [x.sv] []=some (.int .i64 x.cap,[]):=by
 have hl:=Fm.length_le x.parts
 have hx:=Fm.nodes_eq x
 rw [Fm.cap_eq]
 refine Ak Oh Dc (of_decide_eq_true rfl) ?_
 simp (disch:=omega) only [Jo,go_sem,Ab]
 refine go_loop (α:=Int × Int) (fun a=>⟨slots 22 0 [(3,.int .i64 a.2),(7,.arr (x.parts.map Fm.d)),(8,.int .i64 x.parts.length),(9,.int .i64 a.1)],[]⟩) (fun a=>∃ k:Nat,a.1=k∧k≤x.parts.length∧1≤a.2∧a.2+Fm.nodeS (x.parts.drop k)≤x.nodes∧Fm.capL (x.parts.drop k) a.2=Fm.capL x.parts 1) (fun a=>x.parts.length-a.1.toNat) (0,1) ⟨0,rfl,zO _,by dsimp only; omega,by rw [zU]; dsimp only; omega,rfl⟩ (by simp (disch:=omega) only [go_sem,Ab]) ?_
 rintro ⟨i,n⟩ ⟨k,hi,hk,hn0,hn1,hs⟩
 dsimp only at hi hn0 hn1 hs
 have hni:i.toNat=k:=by omega
 rcases zH k x.parts.length with hlt | hge
 ·have hg:=get_at Fm.d hlt
  rw [Fm.d_eq] at hg
  have hd:x.parts.drop k=x.parts[k] :: x.parts.drop (k+1):=zJ hlt
  have hc:=ih x.parts[k] (zI hlt)
  have hp:=Fm.cap_spec x.parts[k]
  rw [hd,Fm.capL] at hs
  rw [hd,Fm.nodeS] at hn1
  rcases Int.lt_or_le 40 n with h30 | h30
  ·rw [if_pos h30] at hs
   simp (disch:=omega) only [go_sem,Ab,hni,hg,hc,Dc]
   exact hs
  ·rw [if_neg (by omega)] at hs
   simp (disch:=omega) only [go_sem,Ab,hni,hg,hc,Dc]
   refine ⟨(i+1,n+x.parts[k].cap),⟨k+1,by dsimp only; omega,hlt,by dsimp only; omega,by dsimp only; omega,hs⟩,by dsimp only; omega,?_⟩
   simp only [and_self]
 ·have hd:x.parts.drop k=[]:=zM hge
  rw [hd,Fm.capL] at hs
  simp (disch:=omega) only [go_sem,Ab,hni]
  exact hs
theorem SP (x:Fm) (hn:x.nodes≤1099511627776):E 88 [x.sv] []=some (.int .i64 x.cap,[]) :=
 UZ x hn fun y hy=>SP y (by have:=Fm.nodes_mem hy; have:=Fm.nodes_eq x; omega)
termination_by SizeOf.sizeOf x
decreasing_by exact Fm.lt_of_mem hy
def Jp:SC:=(.seq (.reg [⟨some 2,none,.boxv 36 5 (.t 0)⟩,⟨some 4,none,.mv (.c (.int .i64 0))⟩]) (.seq (.reg [⟨some 5,none,.mv (.c (.int .i64 1))⟩]) (.seq (.seq (.reg [⟨some 6,none,.mv (.c (.int .i64 0))⟩]) (.block 0 (.loop [0,1,1,0,0,1,1,0,0,0,0,0,0,0,0,0,0,0,0,0,0,0,0,0,0,0,0,0,0,0,0] (.seq (.seq (.reg [⟨some 7,none,.mv (.t 6)⟩,⟨some 8,none,.faddr 4 (.t 2)⟩,⟨some 9,none,.load false 1 (.t 8)⟩,⟨some 10,none,.len false (.t 9)⟩,⟨some 11,none,.bin .lss false (.t 7) (.t 10)⟩,⟨some 12,none,.mv (.t 11)⟩,⟨(some 13),(some (12,true)),(.mv (.t 5))⟩,⟨(some 14),(some (12,true)),(.mv (.t 1))⟩,⟨(some 15),(some (12,true)),(.bin .leq false (.t 13) (.t 14))⟩,⟨some 16,none,.pick (.t 12) (.t 15) (.c (.bool false))⟩]) (.cond (.t 16) .skip (.exit 0))) (.seq (.block 1 (.reg [⟨some 19,none,.mv (.t 5)⟩,⟨some 20,none,.faddr 4 (.t 2)⟩,⟨some 21,none,.load false 1 (.t 20)⟩,⟨some 22,none,.mv (.t 6)⟩,⟨some 23,none,.iaddr 5 (.t 21) (.t 22)⟩,⟨some 24,none,.load true 5 (.t 23)⟩,⟨some 25,none,.mv (.t 1)⟩,⟨some 26,none,.mv (.t 5)⟩,⟨some 27,none,.bin .sub false (.t 25) (.t 26)⟩,⟨some 28,none,.call 84 [(.t 24),(.t 27)]⟩,⟨some 29,none,.bin .add false (.t 19) (.t 28)⟩,⟨some 5,none,.mv (.t 29)⟩])) (.reg [⟨some 17,none,.mv (.t 6)⟩,⟨some 18,none,.bin .add false (.t 17) (.c (.int .i64 1))⟩,⟨some 6,none,.mv (.t 18)⟩])))))) (.seq (.reg [⟨some 30,none,.mv (.t 5)⟩,⟨some 4,none,.mv (.t 30)⟩]) .ret))))
theorem Oi:Ao Tryz.prog 84=some ⟨31,Jp,[(.tmp 4)]⟩:=by kernel_rfl
theorem Dd:modes 84=⟨[],.asis,none,false⟩:=by unfold modes; rfl
theorem Va (x:Fm) (m:Int) (hm:0≤m) (hm1:m≤1099511627776) (hn:x.nodes≤1099511627776) (ih:∀ y∈x.parts,∀ m:Int,0≤m→m≤1099511627776→E 84 [y.sv,.int .i64 m] []=some (.int .i64 (y.many m),[])):E 84 [x.sv,.int .i64 m] []=some (.int .i64 (x.many m),[]):=by
 have hl:=Fm.length_le x.parts
 have hx:=Fm.nodes_eq x
 rw [Fm.many_eq]
 refine Ak Oi Dd (of_decide_eq_true rfl) ?_
 simp (disch:=omega) only [Jp,go_sem,Ab]
 refine go_loop (α:=Int × Int) (fun a=>⟨slots 31 0 [(1,.int .i64 m),(2,.ptr 0 0),(5,.int .i64 a.2),(6,.int .i64 a.1)],[.box 36 [.int .i64 x.op,.str x.atom.name,.arr (x.atom.args.map Tm.d),.str x.var,.arr (x.parts.map Fm.d)]]⟩) (fun a=>∃ k:Nat,a.1=k∧k≤x.parts.length∧1≤a.2∧a.2+Fm.nodeS (x.parts.drop k)≤x.nodes∧Fm.manyL (x.parts.drop k) m a.2=Fm.manyL x.parts m 1) (fun a=>x.parts.length-a.1.toNat) (0,1) ⟨0,rfl,zO _,by dsimp only; omega,by rw [zU]; dsimp only; omega,rfl⟩ (by simp (disch:=omega) only [go_sem,Ab]) ?_
 rintro ⟨i,n⟩ ⟨k,hi,hk,hn0,hn1,hs⟩
 dsimp only at hi hn0 hn1 hs
 have hni:i.toNat=k:=by omega
 rcases zH k x.parts.length with hlt | hge
 ·have hg:=get_at Fm.d hlt
  rw [Fm.d_eq] at hg
  have hd:x.parts.drop k=x.parts[k] :: x.parts.drop (k+1):=zJ hlt
  rw [hd,Fm.manyL] at hs
  rw [hd,Fm.nodeS] at hn1
  rcases Int.lt_or_le m n with h30 | h30
  ·rw [if_neg (by omega)] at hs
   simp (disch:=omega) only [go_sem,Ab,hni,hg,Dd]
   exact hs
  ·rw [if_pos h30] at hs
   have hc:=ih x.parts[k] (zI hlt) (m-n) (by omega) (by omega)
   have hp:=Fm.many_spec x.parts[k] (m-n)
   simp (disch:=omega) only [go_sem,Ab,hni,hg,hc,Dd]
   refine ⟨(i+1,n+x.parts[k].many (m-n)),⟨k+1,by dsimp only; omega,hlt,by dsimp only; omega,by dsimp only; omega,hs⟩,by dsimp only; omega,?_⟩
   simp only [and_self]
 ·have hd:x.parts.drop k=[]:=zM hge
  rw [hd,Fm.manyL] at hs
  simp (disch:=omega) only [go_sem,Ab,hni]
  exact hs
theorem SQ (x:Fm) (m:Int) (hm:0≤m) (hm1:m≤1099511627776) (hn:x.nodes≤1099511627776):E 84 [x.sv,.int .i64 m] []=some (.int .i64 (x.many m),[]) :=
 Va x m hm hm1 hn fun y hy m hm hm1=>SQ y m hm hm1 (by have:=Fm.nodes_mem hy; have:=Fm.nodes_eq x; omega)
termination_by SizeOf.sizeOf x
decreasing_by exact Fm.lt_of_mem hy
def CV:SC:=(.seq (.reg [⟨some 2,none,.mv (.c (.bool false))⟩]) (.seq (.reg [⟨some 3,none,.mv (.t 0)⟩,⟨some 4,none,.bin .eql false (.t 3) (.c (.int .i64 8))⟩,⟨some 5,none,.mv (.t 4)⟩,⟨(some 6),(some (5,false)),(.mv (.t 0))⟩,⟨(some 7),(some (5,false)),(.bin .eql false (.t 6) (.c (.int .i64 9)))⟩,⟨some 8,none,.pick (.t 5) (.c (.bool true)) (.t 7)⟩,⟨some 2,none,.mv (.t 8)⟩]) .ret))
theorem Ex:Ao Tryz.prog 128=some ⟨9,CV,[(.tmp 2)]⟩:=by kernel_rfl
theorem Ac:modes 128=⟨[],.asis,none,false⟩:=by unfold modes; rfl
def H2:SC:=(.seq (.reg [⟨some 2,none,.mv (.c (.bool false))⟩]) (.seq (.reg [⟨some 3,none,.mv (.t 0)⟩,⟨some 4,none,.bin .eql false (.t 3) (.c (.int .i64 5))⟩,⟨some 5,none,.mv (.t 4)⟩,⟨(some 6),(some (5,false)),(.mv (.t 0))⟩,⟨(some 7),(some (5,false)),(.bin .eql false (.t 6) (.c (.int .i64 6)))⟩,⟨some 8,none,.pick (.t 5) (.c (.bool true)) (.t 7)⟩,⟨some 9,none,.mv (.t 8)⟩,⟨(some 10),(some (9,false)),(.mv (.t 0))⟩,⟨(some 11),(some (9,false)),(.bin .eql false (.t 10) (.c (.int .i64 7)))⟩,⟨some 12,none,.pick (.t 9) (.c (.bool true)) (.t 11)⟩,⟨some 2,none,.mv (.t 12)⟩]) .ret))
theorem Mb:Ao Tryz.prog 129=some ⟨13,H2,[(.tmp 2)]⟩:=by kernel_rfl
theorem Ah:modes 129=⟨[],.asis,none,false⟩:=by unfold modes; rfl
def D8:SC:=(.seq (.reg [⟨some 1,none,.boxv 33 2 (.t 0)⟩,⟨some 2,none,.mv (.c (.bool false))⟩]) (.seq (.reg [⟨some 3,none,.faddr 0 (.t 1)⟩,⟨some 4,none,.load false 1 (.t 3)⟩,⟨(some 5),none,(.bin .eql false (.t 4) (.c (.str ⟨#[]⟩)))⟩,⟨some 6,none,.mv (.t 5)⟩,⟨(some 7),(some (6,true)),(.faddr 1 (.t 1))⟩,⟨(some 8),(some (6,true)),(.load false 1 (.t 7))⟩,⟨(some 9),(some (6,true)),(.len false (.t 8))⟩,⟨(some 10),(some (6,true)),(.bin .eql false (.t 9) (.c (.int .i64 0)))⟩,⟨some 11,none,.pick (.t 6) (.t 10) (.c (.bool false))⟩,⟨some 2,none,.mv (.t 11)⟩]) .ret))
theorem FR:Ao Tryz.prog 131=some ⟨12,D8,[(.tmp 2)]⟩:=by kernel_rfl
theorem Af:modes 131=⟨[],.asis,none,false⟩:=by unfold modes; rfl
def Gc:SC:=(.seq (.reg [⟨some 1,none,.boxv 33 2 (.t 0)⟩,⟨some 2,none,.mv (.c (.bool false))⟩]) (.seq (.reg [⟨some 3,none,.faddr 0 (.t 1)⟩,⟨some 4,none,.load false 1 (.t 3)⟩,⟨(some 5),none,(.bin .eql false (.t 4) (.c (.str ⟨#[]⟩)))⟩,⟨some 6,none,.mv (.t 5)⟩,⟨(some 7),(some (6,true)),(.faddr 1 (.t 1))⟩,⟨(some 8),(some (6,true)),(.load false 1 (.t 7))⟩,⟨(some 9),(some (6,true)),(.len false (.t 8))⟩,⟨(some 10),(some (6,true)),(.bin .eql false (.t 9) (.c (.int .i64 0)))⟩,⟨some 11,none,.pick (.t 6) (.t 10) (.c (.bool false))⟩,⟨some 2,none,.mv (.t 11)⟩]) .ret))
theorem Jq:Ao Tryz.prog 164=some ⟨12,Gc,[(.tmp 2)]⟩:=by kernel_rfl
theorem Al:modes 164=⟨[],.asis,none,false⟩:=by unfold modes; rfl
def AP:SC:=(.seq (.reg [⟨some 4,none,.mv (.c (.int .i64 0))⟩]) (.seq (.seq (.reg [⟨some 6,none,.mv (.t 0)⟩,⟨some 7,none,.len false (.t 6)⟩,⟨some 8,none,.mv (.c (.int .i64 0))⟩]) (.block 0 (.loop [1,1,0,0,0,0,0,1,1,0,0,0,0,0,0,0,0,0,0] (.seq (.reg [⟨some 9,none,.bin .lss false (.t 8) (.t 7)⟩]) (.seq (.cond (.t 9) .skip (.exit 0)) (.seq (.block 1 (.seq (.reg [⟨some 10,none,.mv (.t 8)⟩,⟨some 5,none,.mv (.t 10)⟩]) (.seq (.reg [⟨some 11,none,.mv (.t 1)⟩,⟨some 12,none,.mv (.t 0)⟩,⟨some 13,none,.mv (.t 5)⟩,⟨some 14,none,.iaddr 5 (.t 12) (.t 13)⟩,⟨some 15,none,.load true 5 (.t 14)⟩,⟨some 16,none,.callv (.t 11) [(.t 15)]⟩]) (.cond (.t 16) (.seq (.reg [⟨some 17,none,.mv (.t 5)⟩,⟨some 4,none,.mv (.t 17)⟩]) .ret) .skip)))) (.reg [⟨some 18,none,.bin .add false (.t 8) (.c (.int .i64 1))⟩,⟨some 8,none,.mv (.t 18)⟩]))))))) (.seq (.reg [⟨some 4,none,.mv (.c (.int .i64 (-(0+1))))⟩]) .ret)))
theorem Br:Ao Tryz.prog 134=some ⟨19,AP,[(.tmp 4)]⟩:=by kernel_rfl
theorem A9:modes 134=⟨[],.asis,none,false⟩:=by unfold modes; rfl
def AN:SC:=(.seq (.reg [⟨some 4,none,.mv (.c (.bool false))⟩]) (.seq (.reg [⟨some 5,none,.mv (.t 0)⟩,⟨some 6,none,.mv (.t 1)⟩,⟨some 7,none,.call 134 [(.t 5),(.t 6)]⟩,⟨some 8,none,.bin .geq false (.t 7) (.c (.int .i64 0))⟩,⟨some 4,none,.mv (.t 8)⟩]) .ret))
theorem Bi:Ao Tryz.prog 91=some ⟨9,AN,[(.tmp 4)]⟩:=by kernel_rfl
theorem Aa:modes 91=⟨[],.asis,none,false⟩:=by unfold modes; rfl
theorem Mc (fid:Nat) (p:Fm→Bool) (xs:List Fm) (hl:xs.length≤1099511627776) (hg:E3 Tryz.prog fid=true) (hm:(modes fid).hand=[]) (hE:∀ x∈xs,E fid [x.sv] []=some (.bool (p x),[])):E 134 [.arr (xs.map Fm.d),.fn fid []] []=some (.int .i64 (Ck p xs 0),[]):=by
 refine Ak Br A9 (of_decide_eq_true rfl) ?_
 simp (disch:=omega) only [AP,go_sem,Ab]
 refine go_loop (α:=Int) (fun a=>⟨slots 19 0 [(0,.arr (xs.map Fm.d)),(1,.fn fid []),(7,.int .i64 xs.length),(8,.int .i64 a)],[]⟩) (fun a=>∃ k:Nat,a=k∧k≤(xs).length∧Ck p (xs.drop k) a=Ck p xs 0) (fun a=>(xs).length-(a).toNat) 0 ⟨0,rfl,zO _,by rw [zU]⟩ (by simp (disch:=omega) only [go_sem,Ab]) ?_
 rintro i ⟨k,hi,hk,hR⟩
 have hni:i.toNat=k:=by omega
 have hni1:(i+1).toNat=k+1:=by omega
 rcases zH k (xs).length with hlt | hge
 ·have hg':=get_at Fm.d hlt
  rw [Fm.d_eq] at hg'
  have hc:=hE xs[k] (zI hlt)
  rw [zJ hlt,Ck] at hR
  cases hp:p xs[k] with
  | true =>
   rw [hp] at hc hR
   simp (disch:=omega) only [go_sem,Ab,hni,hg',hc,hg,hm]
   simpa using hR
  | false =>
   rw [hp] at hc hR
   simp (disch:=omega) only [go_sem,Ab,hni,hg',hc,hg,hm]
   exact ⟨i+1,⟨k+1,by omega,hlt,by simpa using hR⟩,by omega,by first | trivial | rfl⟩
 ·rw [zM hge,Ck] at hR
  simp (disch:=omega) only [go_sem,Ab,hni]
  exact hR
theorem JI (fid:Nat) (p:Fm→Bool) (xs:List Fm) (hl:xs.length≤1099511627776) (hg:E3 Tryz.prog fid=true) (hm:(modes fid).hand=[]) (hE:∀ x∈xs,E fid [x.sv] []=some (.bool (p x),[])):E 91 [.arr (xs.map Fm.d),.fn fid []] []=some (.bool (xs.any p),[]):=by
 have h:=Mc fid p xs hl hg hm hE
 refine Ak Bi Aa (of_decide_eq_true rfl) ?_
 simp (disch:=omega) only [AN,go_sem,Ab,h,A9]
 rw [G7]
def Ax:SC:=(.seq (.reg [⟨some 1,none,.boxv 36 5 (.t 0)⟩,⟨some 2,none,.mv (.c (.bool false))⟩]) (.seq (.reg [⟨some 3,none,.mv (.c (.int .i64 0))⟩]) (.seq (.block 0 (.seq (.seq (.reg [⟨some 5,none,.faddr 0 (.t 1)⟩,⟨some 6,none,.load false 1 (.t 5)⟩,⟨some 7,none,.bin .eql false (.t 6) (.c (.int .i64 1))⟩,⟨some 4,none,.mv (.t 7)⟩]) (.cond (.t 4) .skip (.seq (.reg [⟨some 8,none,.faddr 0 (.t 1)⟩,⟨some 9,none,.load false 1 (.t 8)⟩,⟨some 10,none,.bin .eql false (.t 9) (.c (.int .i64 2))⟩,⟨some 4,none,.mv (.t 10)⟩]) (.cond (.t 4) .skip (.reg [⟨some 11,none,.faddr 0 (.t 1)⟩,⟨some 12,none,.load false 1 (.t 11)⟩,⟨some 13,none,.bin .eql false (.t 12) (.c (.int .i64 3))⟩,⟨some 4,none,.mv (.t 13)⟩]))))) (.cond (.t 4) .skip (.seq (.seq (.reg [⟨some 15,none,.faddr 0 (.t 1)⟩,⟨some 16,none,.load false 1 (.t 15)⟩,⟨some 17,none,.bin .eql false (.t 16) (.c (.int .i64 4))⟩,⟨some 14,none,.mv (.t 17)⟩]) (.cond (.t 14) .skip (.reg [⟨some 18,none,.faddr 0 (.t 1)⟩,⟨some 19,none,.load false 1 (.t 18)⟩,⟨some 20,none,.call 128 [(.t 19)]⟩,⟨some 14,none,.mv (.t 20)⟩]))) (.cond (.t 14) (.reg [⟨some 3,none,.mv (.c (.int .i64 1))⟩]) (.seq (.reg [⟨some 22,none,.faddr 0 (.t 1)⟩,⟨some 23,none,.load false 1 (.t 22)⟩,⟨some 24,none,.call 129 [(.t 23)]⟩,⟨some 21,none,.mv (.t 24)⟩]) (.cond (.t 21) (.reg [⟨some 3,none,.mv (.c (.int .i64 2))⟩]) (.seq (.reg [⟨some 2,none,.mv (.c (.bool false))⟩]) .ret)))))))) (.seq (.seq (.reg [⟨some 25,none,.faddr 4 (.t 1)⟩,⟨some 26,none,.load false 1 (.t 25)⟩,⟨some 27,none,.len false (.t 26)⟩,⟨some 28,none,.mv (.t 3)⟩,⟨some 29,none,.bin .neq false (.t 27) (.t 28)⟩,⟨some 30,none,.mv (.t 29)⟩,⟨(some 31),(some (30,false)),(.faddr 0 (.t 1))⟩,⟨(some 32),(some (30,false)),(.load false 1 (.t 31))⟩,⟨(some 33),(some (30,false)),(.call 128 [(.t 32)])⟩,⟨(some 34),(some (30,false)),(.mv (.t 33))⟩,⟨(some 35),(some (34,true)),(.faddr 3 (.t 1))⟩,⟨(some 36),(some (34,true)),(.load false 1 (.t 35))⟩,⟨(some 37),(some (34,true)),(.call 94 [(.t 36)])⟩,⟨(some 38),(some (34,true)),(.un .not (.t 37))⟩,⟨(some 39),(some (30,false)),(.pick (.t 34) (.t 38) (.c (.bool false)))⟩,⟨some 40,none,.pick (.t 30) (.c (.bool true)) (.t 39)⟩,⟨some 41,none,.mv (.t 40)⟩,⟨(some 42),(some (41,false)),(.faddr 0 (.t 1))⟩,⟨(some 43),(some (41,false)),(.load false 1 (.t 42))⟩,⟨(some 44),(some (41,false)),(.call 128 [(.t 43)])⟩,⟨(some 45),(some (41,false)),(.un .not (.t 44))⟩,⟨(some 46),(some (41,false)),(.mv (.t 45))⟩,⟨(some 47),(some (46,true)),(.faddr 3 (.t 1))⟩,⟨(some 48),(some (46,true)),(.load false 1 (.t 47))⟩,⟨(some 49),(some (46,true)),(.bin .neq false (.t 48) (.c (.str ⟨#[]⟩)))⟩,⟨(some 50),(some (41,false)),(.pick (.t 46) (.t 49) (.c (.bool false)))⟩,⟨some 51,none,.pick (.t 41) (.c (.bool true)) (.t 50)⟩]) (.cond (.t 51) (.seq (.reg [⟨some 2,none,.mv (.c (.bool false))⟩]) .ret) .skip)) (.seq (.seq (.reg [⟨some 52,none,.faddr 0 (.t 1)⟩,⟨some 53,none,.load false 1 (.t 52)⟩,⟨some 54,none,.bin .eql false (.t 53) (.c (.int .i64 3))⟩,⟨some 55,none,.mv (.t 54)⟩,⟨(some 56),(some (55,true)),(.faddr 1 (.t 1))⟩,⟨(some 57),(some (55,true)),(.load true 2 (.t 56))⟩,⟨(some 58),(some (55,true)),(.call 130 [(.t 57)])⟩,⟨(some 59),(some (55,true)),(.un .not (.t 58))⟩,⟨some 60,none,.pick (.t 55) (.t 59) (.c (.bool false))⟩,⟨some 61,none,.mv (.t 60)⟩,⟨(some 62),(some (61,false)),(.faddr 0 (.t 1))⟩,⟨(some 63),(some (61,false)),(.load false 1 (.t 62))⟩,⟨(some 64),(some (61,false)),(.bin .neq false (.t 63) (.c (.int .i64 3)))⟩,⟨(some 65),(some (61,false)),(.mv (.t 64))⟩,⟨(some 66),(some (65,true)),(.faddr 1 (.t 1))⟩,⟨(some 67),(some (65,true)),(.load true 2 (.t 66))⟩,⟨(some 68),(some (65,true)),(.call 131 [(.t 67)])⟩,⟨(some 69),(some (65,true)),(.un .not (.t 68))⟩,⟨(some 70),(some (61,false)),(.pick (.t 65) (.t 69) (.c (.bool false)))⟩,⟨some 71,none,.pick (.t 61) (.c (.bool true)) (.t 70)⟩]) (.cond (.t 71) (.seq (.reg [⟨some 2,none,.mv (.c (.bool false))⟩]) .ret) .skip)) (.seq (.reg [⟨some 72,none,.faddr 4 (.t 1)⟩,⟨some 73,none,.load false 1 (.t 72)⟩,⟨some 74,none,.call 91 [(.t 73),(.c (.fn 132 []))]⟩,⟨some 75,none,.un .not (.t 74)⟩,⟨some 2,none,.mv (.t 75)⟩]) .ret))))))
theorem Az:Ao Tryz.prog 89=some ⟨76,Ax,[(.tmp 2)]⟩:=by kernel_rfl
theorem Av:modes 89=⟨[],.asis,none,false⟩:=by unfold modes; rfl
def GM:SC:=(.seq (.reg [⟨some 1,none,.boxv 36 5 (.t 0)⟩,⟨some 2,none,.mv (.c (.bool false))⟩]) (.seq (.reg [⟨some 3,none,.load true 5 (.t 1)⟩,⟨some 4,none,.call 89 [(.t 3)]⟩,⟨some 5,none,.un .not (.t 4)⟩,⟨some 2,none,.mv (.t 5)⟩]) .ret))
theorem Lm:Ao Tryz.prog 132=some ⟨6,GM,[(.tmp 2)]⟩:=by kernel_rfl
theorem GN:modes 132=⟨[],.asis,none,false⟩:=by unfold modes; rfl
theorem Ln:E3 Tryz.prog 132=true:=by kernel_rfl
def AF:SC:=(.seq (.reg [⟨some 1,none,.boxv 36 5 (.t 0)⟩,⟨some 2,none,.mv (.c (.bool false))⟩]) (.seq (.reg [⟨some 4,none,.faddr 4 (.t 1)⟩,⟨some 5,none,.load false 1 (.t 4)⟩,⟨some 6,none,.len false (.t 5)⟩,⟨some 3,none,.mv (.t 6)⟩]) (.seq (.seq (.reg [⟨some 7,none,.faddr 0 (.t 1)⟩,⟨some 8,none,.load false 1 (.t 7)⟩]) (.block 0 (.seq (.seq (.reg [⟨some 10,none,.bin .eql false (.t 8) (.c (.int .i64 1))⟩,⟨some 9,none,.mv (.t 10)⟩]) (.cond (.t 9) .skip (.reg [⟨some 11,none,.bin .eql false (.t 8) (.c (.int .i64 2))⟩,⟨some 9,none,.mv (.t 11)⟩]))) (.cond (.t 9) (.seq (.reg [⟨some 12,none,.mv (.t 3)⟩,⟨some 13,none,.bin .eql false (.t 12) (.c (.int .i64 0))⟩,⟨some 14,none,.mv (.t 13)⟩,⟨(some 15),(some (14,true)),(.faddr 1 (.t 1))⟩,⟨(some 16),(some (14,true)),(.load true 2 (.t 15))⟩,⟨(some 17),(some (14,true)),(.call 164 [(.t 16)])⟩,⟨some 18,none,.pick (.t 14) (.t 17) (.c (.bool false))⟩,⟨some 19,none,.mv (.t 18)⟩,⟨(some 20),(some (19,true)),(.faddr 3 (.t 1))⟩,⟨(some 21),(some (19,true)),(.load false 1 (.t 20))⟩,⟨(some 22),(some (19,true)),(.bin .eql false (.t 21) (.c (.str ⟨#[]⟩)))⟩,⟨some 23,none,.pick (.t 19) (.t 22) (.c (.bool false))⟩,⟨some 2,none,.mv (.t 23)⟩]) .ret) (.seq (.reg [⟨some 25,none,.bin .eql false (.t 8) (.c (.int .i64 3))⟩,⟨some 24,none,.mv (.t 25)⟩]) (.cond (.t 24) (.seq (.reg [⟨some 26,none,.mv (.t 3)⟩,⟨some 27,none,.bin .eql false (.t 26) (.c (.int .i64 0))⟩,⟨some 28,none,.mv (.t 27)⟩,⟨(some 29),(some (28,true)),(.faddr 1 (.t 1))⟩,⟨(some 30),(some (28,true)),(.load true 2 (.t 29))⟩,⟨(some 31),(some (28,true)),(.call 145 [(.t 30)])⟩,⟨some 32,none,.pick (.t 28) (.t 31) (.c (.bool false))⟩,⟨some 33,none,.mv (.t 32)⟩,⟨(some 34),(some (33,true)),(.faddr 3 (.t 1))⟩,⟨(some 35),(some (33,true)),(.load false 1 (.t 34))⟩,⟨(some 36),(some (33,true)),(.bin .eql false (.t 35) (.c (.str ⟨#[]⟩)))⟩,⟨some 37,none,.pick (.t 33) (.t 36) (.c (.bool false))⟩,⟨some 2,none,.mv (.t 37)⟩]) .ret) (.seq (.reg [⟨some 39,none,.bin .eql false (.t 8) (.c (.int .i64 4))⟩,⟨some 38,none,.mv (.t 39)⟩]) (.cond (.t 38) (.seq (.reg [⟨some 40,none,.mv (.t 3)⟩,⟨some 41,none,.bin .eql false (.t 40) (.c (.int .i64 1))⟩,⟨some 42,none,.mv (.t 41)⟩,⟨(some 43),(some (42,true)),(.faddr 1 (.t 1))⟩,⟨(some 44),(some (42,true)),(.load true 2 (.t 43))⟩,⟨(some 45),(some (42,true)),(.call 164 [(.t 44)])⟩,⟨some 46,none,.pick (.t 42) (.t 45) (.c (.bool false))⟩,⟨some 47,none,.mv (.t 46)⟩,⟨(some 48),(some (47,true)),(.faddr 3 (.t 1))⟩,⟨(some 49),(some (47,true)),(.load false 1 (.t 48))⟩,⟨(some 50),(some (47,true)),(.bin .eql false (.t 49) (.c (.str ⟨#[]⟩)))⟩,⟨some 51,none,.pick (.t 47) (.t 50) (.c (.bool false))⟩,⟨some 2,none,.mv (.t 51)⟩]) .ret) (.seq (.seq (.reg [⟨some 53,none,.bin .eql false (.t 8) (.c (.int .i64 5))⟩,⟨some 52,none,.mv (.t 53)⟩]) (.cond (.t 52) .skip (.seq (.reg [⟨some 54,none,.bin .eql false (.t 8) (.c (.int .i64 6))⟩,⟨some 52,none,.mv (.t 54)⟩]) (.cond (.t 52) .skip (.reg [⟨some 55,none,.bin .eql false (.t 8) (.c (.int .i64 7))⟩,⟨some 52,none,.mv (.t 55)⟩]))))) (.cond (.t 52) (.seq (.reg [⟨some 56,none,.mv (.t 3)⟩,⟨some 57,none,.bin .eql false (.t 56) (.c (.int .i64 2))⟩,⟨some 58,none,.mv (.t 57)⟩,⟨(some 59),(some (58,true)),(.faddr 1 (.t 1))⟩,⟨(some 60),(some (58,true)),(.load true 2 (.t 59))⟩,⟨(some 61),(some (58,true)),(.call 164 [(.t 60)])⟩,⟨some 62,none,.pick (.t 58) (.t 61) (.c (.bool false))⟩,⟨some 63,none,.mv (.t 62)⟩,⟨(some 64),(some (63,true)),(.faddr 3 (.t 1))⟩,⟨(some 65),(some (63,true)),(.load false 1 (.t 64))⟩,⟨(some 66),(some (63,true)),(.bin .eql false (.t 65) (.c (.str ⟨#[]⟩)))⟩,⟨some 67,none,.pick (.t 63) (.t 66) (.c (.bool false))⟩,⟨some 2,none,.mv (.t 67)⟩]) .ret) (.seq (.seq (.reg [⟨some 69,none,.bin .eql false (.t 8) (.c (.int .i64 8))⟩,⟨some 68,none,.mv (.t 69)⟩]) (.cond (.t 68) .skip (.reg [⟨some 70,none,.bin .eql false (.t 8) (.c (.int .i64 9))⟩,⟨some 68,none,.mv (.t 70)⟩]))) (.cond (.t 68) (.seq (.reg [⟨some 71,none,.mv (.t 3)⟩,⟨some 72,none,.bin .eql false (.t 71) (.c (.int .i64 1))⟩,⟨some 73,none,.mv (.t 72)⟩,⟨(some 74),(some (73,true)),(.faddr 1 (.t 1))⟩,⟨(some 75),(some (73,true)),(.load true 2 (.t 74))⟩,⟨(some 76),(some (73,true)),(.call 164 [(.t 75)])⟩,⟨some 77,none,.pick (.t 73) (.t 76) (.c (.bool false))⟩,⟨some 78,none,.mv (.t 77)⟩,⟨(some 79),(some (78,true)),(.faddr 3 (.t 1))⟩,⟨(some 80),(some (78,true)),(.load false 1 (.t 79))⟩,⟨(some 81),(some (78,true)),(.call 79 [(.t 80)])⟩,⟨some 82,none,.pick (.t 78) (.t 81) (.c (.bool false))⟩,⟨some 2,none,.mv (.t 82)⟩]) .ret) .skip)))))))))))) (.seq (.reg [⟨some 2,none,.mv (.c (.bool false))⟩]) .ret))))
theorem AI:Ao Tryz.prog 127=some ⟨83,AF,[(.tmp 2)]⟩:=by kernel_rfl
theorem AA:modes 127=⟨[],.asis,none,false⟩:=by unfold modes; rfl
def Fn:SC:=(.seq (.reg [⟨some 1,none,.boxv 36 5 (.t 0)⟩,⟨some 2,none,.mv (.c (.bool false))⟩]) (.seq (.seq (.reg [⟨some 4,none,.load true 5 (.t 1)⟩,⟨some 5,none,.call 127 [(.t 4)]⟩,⟨some 6,none,.un .not (.t 5)⟩]) (.cond (.t 6) (.seq (.reg [⟨some 2,none,.mv (.c (.bool false))⟩]) .ret) .skip)) (.seq (.seq (.reg [⟨some 3,none,.mv (.c (.int .i64 0))⟩]) (.block 0 (.loop [0,1,0,1,0,0,0,0,0,0,0,0,0,0,0,0,0,0,0,0,0] (.seq (.seq (.reg [⟨some 7,none,.mv (.t 3)⟩,⟨some 8,none,.faddr 4 (.t 1)⟩,⟨some 9,none,.load false 1 (.t 8)⟩,⟨some 10,none,.len false (.t 9)⟩,⟨some 11,none,.bin .lss false (.t 7) (.t 10)⟩]) (.cond (.t 11) .skip (.exit 0))) (.seq (.block 1 (.seq (.reg [⟨some 14,none,.faddr 4 (.t 1)⟩,⟨some 15,none,.load false 1 (.t 14)⟩,⟨some 16,none,.mv (.t 3)⟩,⟨some 17,none,.iaddr 5 (.t 15) (.t 16)⟩,⟨some 18,none,.load true 5 (.t 17)⟩,⟨some 19,none,.call 85 [(.t 18)]⟩,⟨some 20,none,.un .not (.t 19)⟩]) (.cond (.t 20) (.seq (.reg [⟨some 2,none,.mv (.c (.bool false))⟩]) .ret) .skip))) (.reg [⟨some 12,none,.mv (.t 3)⟩,⟨some 13,none,.bin .add false (.t 12) (.c (.int .i64 1))⟩,⟨some 3,none,.mv (.t 13)⟩])))))) (.seq (.reg [⟨some 2,none,.mv (.c (.bool true))⟩]) .ret))))
theorem Im:Ao Tryz.prog 85=some ⟨21,Fn,[(.tmp 2)]⟩:=by kernel_rfl
theorem Cq:modes 85=⟨[],.asis,none,false⟩:=by unfold modes; rfl
def C7:SC:=(.seq (.reg [⟨some 1,none,.boxv 36 5 (.t 0)⟩,⟨some 2,none,.mv (.c (.bool false))⟩]) (.seq (.reg [⟨some 3,none,.load true 5 (.t 1)⟩,⟨some 4,none,.call 88 [(.t 3)]⟩,⟨some 5,none,.bin .leq false (.t 4) (.c (.int .i64 40))⟩,⟨some 6,none,.mv (.t 5)⟩,⟨(some 7),(some (6,true)),(.load true 5 (.t 1))⟩,⟨(some 8),(some (6,true)),(.call 89 [(.t 7)])⟩,⟨some 9,none,.pick (.t 6) (.t 8) (.c (.bool false))⟩,⟨some 2,none,.mv (.t 9)⟩]) .ret))
theorem DE:Ao Tryz.prog 36=some ⟨10,C7,[(.tmp 2)]⟩:=by kernel_rfl
theorem A2:modes 36=⟨[],.asis,none,false⟩:=by unfold modes; rfl
def Gd:SC:=(.seq (.reg [⟨some 1,none,.boxv 36 5 (.t 0)⟩,⟨some 2,none,.mv (.c (.bool false))⟩]) (.seq (.reg [⟨some 3,none,.load true 5 (.t 1)⟩,⟨some 4,none,.call 84 [(.t 3),(.c (.int .i64 40))]⟩,⟨some 5,none,.bin .leq false (.t 4) (.c (.int .i64 40))⟩,⟨some 6,none,.mv (.t 5)⟩,⟨(some 7),(some (6,true)),(.load true 5 (.t 1))⟩,⟨(some 8),(some (6,true)),(.call 85 [(.t 7)])⟩,⟨some 9,none,.pick (.t 6) (.t 8) (.c (.bool false))⟩,⟨some 2,none,.mv (.t 9)⟩]) .ret))
theorem Jr:Ao Tryz.prog 32=some ⟨10,Gd,[(.tmp 2)]⟩:=by kernel_rfl
theorem AO:modes 32=⟨[],.asis,none,false⟩:=by unfold modes; rfl
theorem Cr (n:Int):E 128 [.int .i64 n] []=some (.bool (dec (n=8) || dec (n=9)),[]):=by
 cases h1:dec (n=8) with
 | true =>
  refine Ak Ex Ac (of_decide_eq_true rfl) ?_
  simp (disch:=omega) only [CV,go_sem,Ab,h1]
 | false =>
  refine Ak Ex Ac (of_decide_eq_true rfl) ?_
  simp (disch:=omega) only [CV,go_sem,Ab,h1]
theorem DR (n:Int):E 129 [.int .i64 n] []=some (.bool (dec (n=5) || dec (n=6) || dec (n=7)),[]):=by
 cases h1:dec (n=5) <;> cases h2:dec (n=6)
 all_goals
  refine Ak Mb Ah (of_decide_eq_true rfl) ?_
  simp (disch:=omega) only [H2,go_sem,Ab,h1,h2]
theorem E9 (x:Tm):E 131 [x.sv] []=some (.bool x.isZ,[]):=by
 unfold Tm.isZ
 have hl:dec ((x.args.length:Int)=0)=(x.args.length == 0):=by
  rw [MH]
  cases x.args <;> simp <;> omega
 cases h1:dec (x.name=⟨#[]⟩) with
 | true =>
  refine Ak FR Af (of_decide_eq_true rfl) ?_
  simp (disch:=omega) only [D8,go_sem,Ab,h1]
  try rw [hl]
 | false =>
  refine Ak FR Af (of_decide_eq_true rfl) ?_
  simp (disch:=omega) only [D8,go_sem,Ab,h1]
theorem K3 (x:Tm):E 164 [x.sv] []=some (.bool x.isZ,[]):=by
 unfold Tm.isZ
 have hl:dec ((x.args.length:Int)=0)=(x.args.length == 0):=by
  rw [MH]
  cases x.args <;> simp <;> omega
 cases h1:dec (x.name=⟨#[]⟩) with
 | true =>
  refine Ak Jq Al (of_decide_eq_true rfl) ?_
  simp (disch:=omega) only [Gc,go_sem,Ab,h1]
  try rw [hl]
 | false =>
  refine Ak Jq Al (of_decide_eq_true rfl) ?_
  simp (disch:=omega) only [Gc,go_sem,Ab,h1]
theorem Rd (x:Fm) (hn:x.atom.nodes≤1099511627776) (ho:x.op=1∨x.op=2):E 127 [x.sv] []=some (.bool x.form,[]):=by
 have hf:x.form=(x.parts.length == 0&&x.atom.isZ&&dec (x.var=⟨#[]⟩)):=by unfold Fm.form; rcases ho with ho | ho <;> simp [ho]
 rcases ho with ho | ho
 all_goals
  first
   |(have o1:dec (x.op=1)=true:=A6 ho)
   |(have o1:dec (x.op=1)=false:=An (by omega))
  first
   |(have o2:dec (x.op=2)=true:=A6 ho)
   |(have o2:dec (x.op=2)=false:=An (by omega))
  have o3:dec (x.op=3)=false:=An (by omega)
  have o4:dec (x.op=4)=false:=An (by omega)
  have o5:dec (x.op=5)=false:=An (by omega)
  have o6:dec (x.op=6)=false:=An (by omega)
  have o7:dec (x.op=7)=false:=An (by omega)
  have o8:dec (x.op=8)=false:=An (by omega)
  have o9:dec (x.op=9)=false:=An (by omega)
  have ha:=K3 x.atom
  have hv:=DV x.var
  rw [hf]
  by_cases hl:x.parts.length=0
  ·have hl2:dec ((x.parts.length:Int)=0)=true:=A6 (by omega)
   rw [hl,beq_self_eq_true,zE]
   cases hq:x.atom.isZ with
   | true =>
    rw [hq] at ha
    rw [zE]
    refine Ak AI AA (of_decide_eq_true rfl) ?_
    simp (disch:=omega) only [AF,go_sem,o1,o2,o3,o4,o5,o6,o7,o8,o9,hl2,ha,hv,Ai,Al,Aj]
    repeat ((first | (refine A3 ?_ ?_; (focus (simp (disch:=omega) only [go_sem,o1,o2,o3,o4,o5,o6,o7,o8,o9,hl2,ha,hv,Ai,Al,Aj]; done))) | (refine A4 ?_ ?_; (focus (simp (disch:=omega) only [go_sem,o1,o2,o3,o4,o5,o6,o7,o8,o9,hl2,ha,hv,Ai,Al,Aj]; done)))); (try simp (disch:=omega) only [go_sem,o1,o2,o3,o4,o5,o6,o7,o8,o9,hl2,ha,hv,Ai,Al,Aj]))
   | false =>
    rw [hq] at ha
    rw [zA]
    refine Ak AI AA (of_decide_eq_true rfl) ?_
    simp (disch:=omega) only [AF,go_sem,o1,o2,o3,o4,o5,o6,o7,o8,o9,hl2,ha,hv,Ai,Al,Aj]
    repeat ((first | (refine A3 ?_ ?_; (focus (simp (disch:=omega) only [go_sem,o1,o2,o3,o4,o5,o6,o7,o8,o9,hl2,ha,hv,Ai,Al,Aj]; done))) | (refine A4 ?_ ?_; (focus (simp (disch:=omega) only [go_sem,o1,o2,o3,o4,o5,o6,o7,o8,o9,hl2,ha,hv,Ai,Al,Aj]; done)))); (try simp (disch:=omega) only [go_sem,o1,o2,o3,o4,o5,o6,o7,o8,o9,hl2,ha,hv,Ai,Al,Aj]))
  ·have hl2:dec ((x.parts.length:Int)=0)=false:=An (by omega)
   have hl3:(x.parts.length == 0)=false:=by simpa using hl
   rw [hl3,zA,zA]
   refine Ak AI AA (of_decide_eq_true rfl) ?_
   simp (disch:=omega) only [AF,go_sem,o1,o2,o3,o4,o5,o6,o7,o8,o9,hl2,ha,hv,Ai,Al,Aj]
   repeat ((first | (refine A3 ?_ ?_; (focus (simp (disch:=omega) only [go_sem,o1,o2,o3,o4,o5,o6,o7,o8,o9,hl2,ha,hv,Ai,Al,Aj]; done))) | (refine A4 ?_ ?_; (focus (simp (disch:=omega) only [go_sem,o1,o2,o3,o4,o5,o6,o7,o8,o9,hl2,ha,hv,Ai,Al,Aj]; done)))); (try simp (disch:=omega) only [go_sem,o1,o2,o3,o4,o5,o6,o7,o8,o9,hl2,ha,hv,Ai,Al,Aj]))
theorem Vb (x:Fm) (hn:x.atom.nodes≤1099511627776) (ho:x.op=3):E 127 [x.sv] []=some (.bool x.form,[]):=by
 have hf:x.form=(x.parts.length == 0&&x.atom.atom&&dec (x.var=⟨#[]⟩)):=by unfold Fm.form; rcases ho with ho <;> simp [ho]
 rcases ho with ho
 all_goals
  have o1:dec (x.op=1)=false:=An (by omega)
  have o2:dec (x.op=2)=false:=An (by omega)
  have o3:dec (x.op=3)=true:=A6 ho
  have o4:dec (x.op=4)=false:=An (by omega)
  have o5:dec (x.op=5)=false:=An (by omega)
  have o6:dec (x.op=6)=false:=An (by omega)
  have o7:dec (x.op=7)=false:=An (by omega)
  have o8:dec (x.op=8)=false:=An (by omega)
  have o9:dec (x.op=9)=false:=An (by omega)
  have ha:=UP x.atom (by omega)
  have hv:=DV x.var
  rw [hf]
  by_cases hl:x.parts.length=0
  ·have hl2:dec ((x.parts.length:Int)=0)=true:=A6 (by omega)
   rw [hl,beq_self_eq_true,zE]
   cases hq:x.atom.atom with
   | true =>
    rw [hq] at ha
    rw [zE]
    refine Ak AI AA (of_decide_eq_true rfl) ?_
    simp (disch:=omega) only [AF,go_sem,o1,o2,o3,o4,o5,o6,o7,o8,o9,hl2,ha,hv,Ai,Al,Aj]
    repeat ((first | (refine A3 ?_ ?_; (focus (simp (disch:=omega) only [go_sem,o1,o2,o3,o4,o5,o6,o7,o8,o9,hl2,ha,hv,Ai,Al,Aj]; done))) | (refine A4 ?_ ?_; (focus (simp (disch:=omega) only [go_sem,o1,o2,o3,o4,o5,o6,o7,o8,o9,hl2,ha,hv,Ai,Al,Aj]; done)))); (try simp (disch:=omega) only [go_sem,o1,o2,o3,o4,o5,o6,o7,o8,o9,hl2,ha,hv,Ai,Al,Aj]))
   | false =>
    rw [hq] at ha
    rw [zA]
    refine Ak AI AA (of_decide_eq_true rfl) ?_
    simp (disch:=omega) only [AF,go_sem,o1,o2,o3,o4,o5,o6,o7,o8,o9,hl2,ha,hv,Ai,Al,Aj]
    repeat ((first | (refine A3 ?_ ?_; (focus (simp (disch:=omega) only [go_sem,o1,o2,o3,o4,o5,o6,o7,o8,o9,hl2,ha,hv,Ai,Al,Aj]; done))) | (refine A4 ?_ ?_; (focus (simp (disch:=omega) only [go_sem,o1,o2,o3,o4,o5,o6,o7,o8,o9,hl2,ha,hv,Ai,Al,Aj]; done)))); (try simp (disch:=omega) only [go_sem,o1,o2,o3,o4,o5,o6,o7,o8,o9,hl2,ha,hv,Ai,Al,Aj]))
  ·have hl2:dec ((x.parts.length:Int)=0)=false:=An (by omega)
   have hl3:(x.parts.length == 0)=false:=by simpa using hl
   rw [hl3,zA,zA]
   refine Ak AI AA (of_decide_eq_true rfl) ?_
   simp (disch:=omega) only [AF,go_sem,o1,o2,o3,o4,o5,o6,o7,o8,o9,hl2,ha,hv,Ai,Al,Aj]
   repeat ((first | (refine A3 ?_ ?_; (focus (simp (disch:=omega) only [go_sem,o1,o2,o3,o4,o5,o6,o7,o8,o9,hl2,ha,hv,Ai,Al,Aj]; done))) | (refine A4 ?_ ?_; (focus (simp (disch:=omega) only [go_sem,o1,o2,o3,o4,o5,o6,o7,o8,o9,hl2,ha,hv,Ai,Al,Aj]; done)))); (try simp (disch:=omega) only [go_sem,o1,o2,o3,o4,o5,o6,o7,o8,o9,hl2,ha,hv,Ai,Al,Aj]))
theorem Vd (x:Fm) (hn:x.atom.nodes≤1099511627776) (ho:x.op=4):E 127 [x.sv] []=some (.bool x.form,[]):=by
 have hf:x.form=(x.parts.length == 1&&x.atom.isZ&&dec (x.var=⟨#[]⟩)):=by unfold Fm.form; rcases ho with ho <;> simp [ho]
 rcases ho with ho
 all_goals
  have o1:dec (x.op=1)=false:=An (by omega)
  have o2:dec (x.op=2)=false:=An (by omega)
  have o3:dec (x.op=3)=false:=An (by omega)
  have o4:dec (x.op=4)=true:=A6 ho
  have o5:dec (x.op=5)=false:=An (by omega)
  have o6:dec (x.op=6)=false:=An (by omega)
  have o7:dec (x.op=7)=false:=An (by omega)
  have o8:dec (x.op=8)=false:=An (by omega)
  have o9:dec (x.op=9)=false:=An (by omega)
  have ha:=K3 x.atom
  have hv:=DV x.var
  rw [hf]
  by_cases hl:x.parts.length=1
  ·have hl2:dec ((x.parts.length:Int)=1)=true:=A6 (by omega)
   rw [hl,beq_self_eq_true,zE]
   cases hq:x.atom.isZ with
   | true =>
    rw [hq] at ha
    rw [zE]
    refine Ak AI AA (of_decide_eq_true rfl) ?_
    simp (disch:=omega) only [AF,go_sem,o1,o2,o3,o4,o5,o6,o7,o8,o9,hl2,ha,hv,Ai,Al,Aj]
    repeat ((first | (refine A3 ?_ ?_; (focus (simp (disch:=omega) only [go_sem,o1,o2,o3,o4,o5,o6,o7,o8,o9,hl2,ha,hv,Ai,Al,Aj]; done))) | (refine A4 ?_ ?_; (focus (simp (disch:=omega) only [go_sem,o1,o2,o3,o4,o5,o6,o7,o8,o9,hl2,ha,hv,Ai,Al,Aj]; done)))); (try simp (disch:=omega) only [go_sem,o1,o2,o3,o4,o5,o6,o7,o8,o9,hl2,ha,hv,Ai,Al,Aj]))
   | false =>
    rw [hq] at ha
    rw [zA]
    refine Ak AI AA (of_decide_eq_true rfl) ?_
    simp (disch:=omega) only [AF,go_sem,o1,o2,o3,o4,o5,o6,o7,o8,o9,hl2,ha,hv,Ai,Al,Aj]
    repeat ((first | (refine A3 ?_ ?_; (focus (simp (disch:=omega) only [go_sem,o1,o2,o3,o4,o5,o6,o7,o8,o9,hl2,ha,hv,Ai,Al,Aj]; done))) | (refine A4 ?_ ?_; (focus (simp (disch:=omega) only [go_sem,o1,o2,o3,o4,o5,o6,o7,o8,o9,hl2,ha,hv,Ai,Al,Aj]; done)))); (try simp (disch:=omega) only [go_sem,o1,o2,o3,o4,o5,o6,o7,o8,o9,hl2,ha,hv,Ai,Al,Aj]))
  ·have hl2:dec ((x.parts.length:Int)=1)=false:=An (by omega)
   have hl3:(x.parts.length == 1)=false:=by simpa using hl
   rw [hl3,zA,zA]
   refine Ak AI AA (of_decide_eq_true rfl) ?_
   simp (disch:=omega) only [AF,go_sem,o1,o2,o3,o4,o5,o6,o7,o8,o9,hl2,ha,hv,Ai,Al,Aj]
   repeat ((first | (refine A3 ?_ ?_; (focus (simp (disch:=omega) only [go_sem,o1,o2,o3,o4,o5,o6,o7,o8,o9,hl2,ha,hv,Ai,Al,Aj]; done))) | (refine A4 ?_ ?_; (focus (simp (disch:=omega) only [go_sem,o1,o2,o3,o4,o5,o6,o7,o8,o9,hl2,ha,hv,Ai,Al,Aj]; done)))); (try simp (disch:=omega) only [go_sem,o1,o2,o3,o4,o5,o6,o7,o8,o9,hl2,ha,hv,Ai,Al,Aj]))
theorem N6 (x:Fm) (hn:x.atom.nodes≤1099511627776) (ho:x.op=5∨x.op=6∨x.op=7):E 127 [x.sv] []=some (.bool x.form,[]):=by
 have hf:x.form=(x.parts.length == 2&&x.atom.isZ&&dec (x.var=⟨#[]⟩)):=by unfold Fm.form; rcases ho with ho | ho | ho <;> simp [ho]
 rcases ho with ho | ho | ho
 all_goals
  have o1:dec (x.op=1)=false:=An (by omega)
  have o2:dec (x.op=2)=false:=An (by omega)
  have o3:dec (x.op=3)=false:=An (by omega)
  have o4:dec (x.op=4)=false:=An (by omega)
  first
   |(have o5:dec (x.op=5)=true:=A6 ho)
   |(have o5:dec (x.op=5)=false:=An (by omega))
  first
   |(have o6:dec (x.op=6)=true:=A6 ho)
   |(have o6:dec (x.op=6)=false:=An (by omega))
  first
   |(have o7:dec (x.op=7)=true:=A6 ho)
   |(have o7:dec (x.op=7)=false:=An (by omega))
  have o8:dec (x.op=8)=false:=An (by omega)
  have o9:dec (x.op=9)=false:=An (by omega)
  have ha:=K3 x.atom
  have hv:=DV x.var
  rw [hf]
  by_cases hl:x.parts.length=2
  ·have hl2:dec ((x.parts.length:Int)=2)=true:=A6 (by omega)
   rw [hl,beq_self_eq_true,zE]
   cases hq:x.atom.isZ with
   | true =>
    rw [hq] at ha
    rw [zE]
    refine Ak AI AA (of_decide_eq_true rfl) ?_
    simp (disch:=omega) only [AF,go_sem,o1,o2,o3,o4,o5,o6,o7,o8,o9,hl2,ha,hv,Ai,Al,Aj]
    repeat ((first | (refine A3 ?_ ?_; (focus (simp (disch:=omega) only [go_sem,o1,o2,o3,o4,o5,o6,o7,o8,o9,hl2,ha,hv,Ai,Al,Aj]; done))) | (refine A4 ?_ ?_; (focus (simp (disch:=omega) only [go_sem,o1,o2,o3,o4,o5,o6,o7,o8,o9,hl2,ha,hv,Ai,Al,Aj]; done)))); (try simp (disch:=omega) only [go_sem,o1,o2,o3,o4,o5,o6,o7,o8,o9,hl2,ha,hv,Ai,Al,Aj]))
   | false =>
    rw [hq] at ha
    rw [zA]
    refine Ak AI AA (of_decide_eq_true rfl) ?_
    simp (disch:=omega) only [AF,go_sem,o1,o2,o3,o4,o5,o6,o7,o8,o9,hl2,ha,hv,Ai,Al,Aj]
    repeat ((first | (refine A3 ?_ ?_; (focus (simp (disch:=omega) only [go_sem,o1,o2,o3,o4,o5,o6,o7,o8,o9,hl2,ha,hv,Ai,Al,Aj]; done))) | (refine A4 ?_ ?_; (focus (simp (disch:=omega) only [go_sem,o1,o2,o3,o4,o5,o6,o7,o8,o9,hl2,ha,hv,Ai,Al,Aj]; done)))); (try simp (disch:=omega) only [go_sem,o1,o2,o3,o4,o5,o6,o7,o8,o9,hl2,ha,hv,Ai,Al,Aj]))
  ·have hl2:dec ((x.parts.length:Int)=2)=false:=An (by omega)
   have hl3:(x.parts.length == 2)=false:=by simpa using hl
   rw [hl3,zA,zA]
   refine Ak AI AA (of_decide_eq_true rfl) ?_
   simp (disch:=omega) only [AF,go_sem,o1,o2,o3,o4,o5,o6,o7,o8,o9,hl2,ha,hv,Ai,Al,Aj]
   repeat ((first | (refine A3 ?_ ?_; (focus (simp (disch:=omega) only [go_sem,o1,o2,o3,o4,o5,o6,o7,o8,o9,hl2,ha,hv,Ai,Al,Aj]; done))) | (refine A4 ?_ ?_; (focus (simp (disch:=omega) only [go_sem,o1,o2,o3,o4,o5,o6,o7,o8,o9,hl2,ha,hv,Ai,Al,Aj]; done)))); (try simp (disch:=omega) only [go_sem,o1,o2,o3,o4,o5,o6,o7,o8,o9,hl2,ha,hv,Ai,Al,Aj]))
theorem Re (x:Fm) (hn:x.atom.nodes≤1099511627776) (ho:x.op=8∨x.op=9):E 127 [x.sv] []=some (.bool x.form,[]):=by
 have hf:x.form=(x.parts.length == 1&&x.atom.isZ&&BI x.var):=by unfold Fm.form; rcases ho with ho | ho <;> simp [ho]
 rcases ho with ho | ho
 all_goals
  have o1:dec (x.op=1)=false:=An (by omega)
  have o2:dec (x.op=2)=false:=An (by omega)
  have o3:dec (x.op=3)=false:=An (by omega)
  have o4:dec (x.op=4)=false:=An (by omega)
  have o5:dec (x.op=5)=false:=An (by omega)
  have o6:dec (x.op=6)=false:=An (by omega)
  have o7:dec (x.op=7)=false:=An (by omega)
  first
   |(have o8:dec (x.op=8)=true:=A6 ho)
   |(have o8:dec (x.op=8)=false:=An (by omega))
  first
   |(have o9:dec (x.op=9)=true:=A6 ho)
   |(have o9:dec (x.op=9)=false:=An (by omega))
  have ha:=K3 x.atom
  have hv:=DV x.var
  rw [hf]
  by_cases hl:x.parts.length=1
  ·have hl2:dec ((x.parts.length:Int)=1)=true:=A6 (by omega)
   rw [hl,beq_self_eq_true,zE]
   cases hq:x.atom.isZ with
   | true =>
    rw [hq] at ha
    rw [zE]
    refine Ak AI AA (of_decide_eq_true rfl) ?_
    simp (disch:=omega) only [AF,go_sem,o1,o2,o3,o4,o5,o6,o7,o8,o9,hl2,ha,hv,Ai,Al,Aj]
    repeat ((first | (refine A3 ?_ ?_; (focus (simp (disch:=omega) only [go_sem,o1,o2,o3,o4,o5,o6,o7,o8,o9,hl2,ha,hv,Ai,Al,Aj]; done))) | (refine A4 ?_ ?_; (focus (simp (disch:=omega) only [go_sem,o1,o2,o3,o4,o5,o6,o7,o8,o9,hl2,ha,hv,Ai,Al,Aj]; done)))); (try simp (disch:=omega) only [go_sem,o1,o2,o3,o4,o5,o6,o7,o8,o9,hl2,ha,hv,Ai,Al,Aj]))
   | false =>
    rw [hq] at ha
    rw [zA]
    refine Ak AI AA (of_decide_eq_true rfl) ?_
    simp (disch:=omega) only [AF,go_sem,o1,o2,o3,o4,o5,o6,o7,o8,o9,hl2,ha,hv,Ai,Al,Aj]
    repeat ((first | (refine A3 ?_ ?_; (focus (simp (disch:=omega) only [go_sem,o1,o2,o3,o4,o5,o6,o7,o8,o9,hl2,ha,hv,Ai,Al,Aj]; done))) | (refine A4 ?_ ?_; (focus (simp (disch:=omega) only [go_sem,o1,o2,o3,o4,o5,o6,o7,o8,o9,hl2,ha,hv,Ai,Al,Aj]; done)))); (try simp (disch:=omega) only [go_sem,o1,o2,o3,o4,o5,o6,o7,o8,o9,hl2,ha,hv,Ai,Al,Aj]))
  ·have hl2:dec ((x.parts.length:Int)=1)=false:=An (by omega)
   have hl3:(x.parts.length == 1)=false:=by simpa using hl
   rw [hl3,zA,zA]
   refine Ak AI AA (of_decide_eq_true rfl) ?_
   simp (disch:=omega) only [AF,go_sem,o1,o2,o3,o4,o5,o6,o7,o8,o9,hl2,ha,hv,Ai,Al,Aj]
   repeat ((first | (refine A3 ?_ ?_; (focus (simp (disch:=omega) only [go_sem,o1,o2,o3,o4,o5,o6,o7,o8,o9,hl2,ha,hv,Ai,Al,Aj]; done))) | (refine A4 ?_ ?_; (focus (simp (disch:=omega) only [go_sem,o1,o2,o3,o4,o5,o6,o7,o8,o9,hl2,ha,hv,Ai,Al,Aj]; done)))); (try simp (disch:=omega) only [go_sem,o1,o2,o3,o4,o5,o6,o7,o8,o9,hl2,ha,hv,Ai,Al,Aj]))
theorem Ve (x:Fm) (hn:x.atom.nodes≤1099511627776):E 127 [x.sv] []=some (.bool x.form,[]):=by
 rcases QL x.op with h | h | h | h | h | h | h | h | h | h
 ·exact Rd x hn (.inl h)
 ·exact Rd x hn (.inr h)
 ·exact Vb x hn h
 ·exact Vd x hn h
 ·exact N6 x hn (.inl h)
 ·exact N6 x hn (.inr (.inl h))
 ·exact N6 x hn (.inr (.inr h))
 ·exact Re x hn (.inl h)
 ·exact Re x hn (.inr h)
 ·obtain ⟨h1,h2,h3,h4,h5,h6,h7,h8,h9⟩:=h
  have hf:x.form=false:=by unfold Fm.form; simp [h1,h2,h3,h4,h5,h6,h7,h8,h9]
  have o1:=An h1
  have o2:=An h2
  have o3:=An h3
  have o4:=An h4
  have o5:=An h5
  have o6:=An h6
  have o7:=An h7
  have o8:=An h8
  have o9:=An h9
  rw [hf]
  refine Ak AI AA (of_decide_eq_true rfl) ?_
  simp (disch:=omega) only [AF,go_sem,o1,o2,o3,o4,o5,o6,o7,o8,o9]
  repeat ((first | (refine A3 ?_ ?_; (focus (simp (disch:=omega) only [go_sem,o1,o2,o3,o4,o5,o6,o7,o8,o9]; done))) | (refine A4 ?_ ?_; (focus (simp (disch:=omega) only [go_sem,o1,o2,o3,o4,o5,o6,o7,o8,o9]; done)))); (try simp (disch:=omega) only [go_sem,o1,o2,o3,o4,o5,o6,o7,o8,o9]))
theorem Sf (x:Fm) (ht:x.tame) (hn:x.nodes≤1099511627776) (ih:∀ y∈x.parts,E 85 [y.sv] []=some (.bool y.forms,[])):E 85 [x.sv] []=some (.bool x.forms,[]):=by
 have hl:=Fm.length_le x.parts
 have hx:=Fm.nodes_eq x
 have hf:=Ve x (Fm.tame_at ht)
 rw [Fm.D2]
 cases hq:x.form with
 | false =>
  rw [hq] at hf
  rw [zA]
  refine Ak Im Cq (of_decide_eq_true rfl) ?_
  simp (disch:=omega) only [Fn,go_sem,Ab,hf,AA]
 | true =>
  rw [hq] at hf
  rw [zE]
  refine Ak Im Cq (of_decide_eq_true rfl) ?_
  simp (disch:=omega) only [Fn,go_sem,Ab,hf,AA]
  refine go_loop (α:=Int) (fun a=>⟨slots 21 0 [(1,.ptr 0 0),(3,.int .i64 a)],[.box 36 [.int .i64 x.op,.str x.atom.name,.arr (x.atom.args.map Tm.d),.str x.var,.arr (x.parts.map Fm.d)]]⟩) (fun a=>∃ k:Nat,a=k∧k≤(x.parts).length∧Fm.Jc (x.parts.drop k)=Fm.Jc x.parts) (fun a=>(x.parts).length-(a).toNat) 0 ⟨0,rfl,zO _,by rw [zU]⟩ (by simp (disch:=omega) only [go_sem,Ab]) ?_
  rintro i ⟨k,hi,hk,hR⟩
  have hni:i.toNat=k:=by omega
  have hni1:(i+1).toNat=k+1:=by omega
  rcases zH k (x.parts).length with hlt | hge
  ·have hg:=get_at Fm.d hlt
   rw [Fm.d_eq] at hg
   have hc:=ih x.parts[k] (zI hlt)
   rw [zJ hlt,Fm.Jc] at hR
   cases hp:x.parts[k].forms with
   | true =>
    rw [hp] at hc hR
    rw [zE] at hR
    simp (disch:=omega) only [go_sem,Ab,hni,hg,hc,Cq]
    exact ⟨i+1,⟨k+1,by omega,hlt,hR⟩,by omega,by first | trivial | rfl⟩
   | false =>
    rw [hp] at hc hR
    rw [zA] at hR
    simp (disch:=omega) only [go_sem,Ab,hni,hg,hc,Cq]
    exact hR
  ·rw [zM hge,Fm.Jc] at hR
   simp (disch:=omega) only [go_sem,Ab,hni]
   exact hR
theorem Pe (x:Fm) (ht:x.tame) (hn:x.nodes≤1099511627776):E 85 [x.sv] []=some (.bool x.forms,[]) :=
 Sf x ht hn fun y hy=>Pe y (Fm.Dv ht hy) (by have:=Fm.nodes_mem hy; have:=Fm.nodes_eq x; omega)
termination_by SizeOf.sizeOf x
decreasing_by exact Fm.lt_of_mem hy
theorem Pf (x:Fm) (hn:x.atom.nodes≤1099511627776) (hl0:x.parts.length≤1099511627776) (ho:x.op=1∨x.op=2) (h2:E 91 [.arr (x.parts.map Fm.d),.fn 132 []] []=some (.bool (x.parts.any fun y=>!y.forms),[])):E 89 [x.sv] []=some (.bool x.forms,[]):=by
 have hf:x.form=(x.parts.length == 0&&x.atom.isZ&&dec (x.var=⟨#[]⟩)):=by unfold Fm.form; rcases ho with ho | ho <;> simp [ho]
 rcases ho with ho | ho
 all_goals
  first
   |(have o1:dec (x.op=1)=true:=A6 ho)
   |(have o1:dec (x.op=1)=false:=An (by omega))
  first
   |(have o2:dec (x.op=2)=true:=A6 ho)
   |(have o2:dec (x.op=2)=false:=An (by omega))
  have o3:dec (x.op=3)=false:=An (by omega)
  have o4:dec (x.op=4)=false:=An (by omega)
  have o5:dec (x.op=5)=false:=An (by omega)
  have o6:dec (x.op=6)=false:=An (by omega)
  have o7:dec (x.op=7)=false:=An (by omega)
  have o8:dec (x.op=8)=false:=An (by omega)
  have o9:dec (x.op=9)=false:=An (by omega)
  have ha:=E9 x.atom
  have hv:=Cb x.var
  have hb:=DR x.op
  have hu:=Cr x.op
  rw [o5,o6,o7] at hb
  rw [o8,o9] at hu
  rw [Fm.D2,hf,← Fm.any_not]
  by_cases hl:x.parts.length=0
  ·have hl2:dec ((x.parts.length:Int)=0)=true:=A6 (by omega)
   rw [hl,beq_self_eq_true,zE]
   cases hw:dec (x.var=⟨#[]⟩) with
   | false =>
    try rw [hw] at hv
    rw [yF,zA]
    refine Ak Az Av (of_decide_eq_true rfl) ?_
    simp (disch:=omega) only [Ax,go_sem,o1,o2,o3,o4,o5,o6,o7,o8,o9,hl2,ha,hv,hb,hu,hw,h2,Ad,Af,Ae,Ac,Ah,Aa]
    repeat ((first | (refine A3 ?_ ?_; (focus (simp (disch:=omega) only [go_sem,o1,o2,o3,o4,o5,o6,o7,o8,o9,hl2,ha,hv,hb,hu,hw,h2,Ad,Af,Ae,Ac,Ah,Aa]; done))) | (refine A4 ?_ ?_; (focus (simp (disch:=omega) only [go_sem,o1,o2,o3,o4,o5,o6,o7,o8,o9,hl2,ha,hv,hb,hu,hw,h2,Ad,Af,Ae,Ac,Ah,Aa]; done)))); (try simp (disch:=omega) only [go_sem,o1,o2,o3,o4,o5,o6,o7,o8,o9,hl2,ha,hv,hb,hu,hw,h2,Ad,Af,Ae,Ac,Ah,Aa]))
   | true =>
    try rw [hw] at hv
    rw [yI]
    cases hq:x.atom.isZ with
    | true =>
     rw [hq] at ha
     rw [zE]
     refine Ak Az Av (of_decide_eq_true rfl) ?_
     simp (disch:=omega) only [Ax,go_sem,o1,o2,o3,o4,o5,o6,o7,o8,o9,hl2,ha,hv,hb,hu,hw,h2,Ad,Af,Ae,Ac,Ah,Aa]
     repeat ((first | (refine A3 ?_ ?_; (focus (simp (disch:=omega) only [go_sem,o1,o2,o3,o4,o5,o6,o7,o8,o9,hl2,ha,hv,hb,hu,hw,h2,Ad,Af,Ae,Ac,Ah,Aa]; done))) | (refine A4 ?_ ?_; (focus (simp (disch:=omega) only [go_sem,o1,o2,o3,o4,o5,o6,o7,o8,o9,hl2,ha,hv,hb,hu,hw,h2,Ad,Af,Ae,Ac,Ah,Aa]; done)))); (try simp (disch:=omega) only [go_sem,o1,o2,o3,o4,o5,o6,o7,o8,o9,hl2,ha,hv,hb,hu,hw,h2,Ad,Af,Ae,Ac,Ah,Aa]))
    | false =>
     rw [hq] at ha
     rw [zA]
     refine Ak Az Av (of_decide_eq_true rfl) ?_
     simp (disch:=omega) only [Ax,go_sem,o1,o2,o3,o4,o5,o6,o7,o8,o9,hl2,ha,hv,hb,hu,hw,h2,Ad,Af,Ae,Ac,Ah,Aa]
     repeat ((first | (refine A3 ?_ ?_; (focus (simp (disch:=omega) only [go_sem,o1,o2,o3,o4,o5,o6,o7,o8,o9,hl2,ha,hv,hb,hu,hw,h2,Ad,Af,Ae,Ac,Ah,Aa]; done))) | (refine A4 ?_ ?_; (focus (simp (disch:=omega) only [go_sem,o1,o2,o3,o4,o5,o6,o7,o8,o9,hl2,ha,hv,hb,hu,hw,h2,Ad,Af,Ae,Ac,Ah,Aa]; done)))); (try simp (disch:=omega) only [go_sem,o1,o2,o3,o4,o5,o6,o7,o8,o9,hl2,ha,hv,hb,hu,hw,h2,Ad,Af,Ae,Ac,Ah,Aa]))
  ·have hl2:dec ((x.parts.length:Int)=0)=false:=An (by omega)
   have hl3:(x.parts.length == 0)=false:=by simpa using hl
   rw [hl3,zA,zA,zA]
   refine Ak Az Av (of_decide_eq_true rfl) ?_
   simp (disch:=omega) only [Ax,go_sem,o1,o2,o3,o4,o5,o6,o7,o8,o9,hl2,ha,hv,hb,hu, h2,Ad,Af,Ae,Ac,Ah,Aa]
   repeat ((first | (refine A3 ?_ ?_; (focus (simp (disch:=omega) only [go_sem,o1,o2,o3,o4,o5,o6,o7,o8,o9,hl2,ha,hv,hb,hu, h2,Ad,Af,Ae,Ac,Ah,Aa]; done))) | (refine A4 ?_ ?_; (focus (simp (disch:=omega) only [go_sem,o1,o2,o3,o4,o5,o6,o7,o8,o9,hl2,ha,hv,hb,hu, h2,Ad,Af,Ae,Ac,Ah,Aa]; done)))); (try simp (disch:=omega) only [go_sem,o1,o2,o3,o4,o5,o6,o7,o8,o9,hl2,ha,hv,hb,hu, h2,Ad,Af,Ae,Ac,Ah,Aa]))
theorem TG (x:Fm) (hn:x.atom.nodes≤1099511627776) (hl0:x.parts.length≤1099511627776) (ho:x.op=3) (h2:E 91 [.arr (x.parts.map Fm.d),.fn 132 []] []=some (.bool (x.parts.any fun y=>!y.forms),[])):E 89 [x.sv] []=some (.bool x.forms,[]):=by
 have hf:x.form=(x.parts.length == 0&&x.atom.atom&&dec (x.var=⟨#[]⟩)):=by unfold Fm.form; rcases ho with ho <;> simp [ho]
 rcases ho with ho
 all_goals
  have o1:dec (x.op=1)=false:=An (by omega)
  have o2:dec (x.op=2)=false:=An (by omega)
  have o3:dec (x.op=3)=true:=A6 ho
  have o4:dec (x.op=4)=false:=An (by omega)
  have o5:dec (x.op=5)=false:=An (by omega)
  have o6:dec (x.op=6)=false:=An (by omega)
  have o7:dec (x.op=7)=false:=An (by omega)
  have o8:dec (x.op=8)=false:=An (by omega)
  have o9:dec (x.op=9)=false:=An (by omega)
  have ha:=NY x.atom (by omega)
  have hv:=Cb x.var
  have hb:=DR x.op
  have hu:=Cr x.op
  rw [o5,o6,o7] at hb
  rw [o8,o9] at hu
  rw [Fm.D2,hf,← Fm.any_not]
  by_cases hl:x.parts.length=0
  ·have hl2:dec ((x.parts.length:Int)=0)=true:=A6 (by omega)
   rw [hl,beq_self_eq_true,zE]
   cases hw:dec (x.var=⟨#[]⟩) with
   | false =>
    try rw [hw] at hv
    rw [yF,zA]
    refine Ak Az Av (of_decide_eq_true rfl) ?_
    simp (disch:=omega) only [Ax,go_sem,o1,o2,o3,o4,o5,o6,o7,o8,o9,hl2,ha,hv,hb,hu,hw,h2,Ad,Af,Ae,Ac,Ah,Aa]
    repeat ((first | (refine A3 ?_ ?_; (focus (simp (disch:=omega) only [go_sem,o1,o2,o3,o4,o5,o6,o7,o8,o9,hl2,ha,hv,hb,hu,hw,h2,Ad,Af,Ae,Ac,Ah,Aa]; done))) | (refine A4 ?_ ?_; (focus (simp (disch:=omega) only [go_sem,o1,o2,o3,o4,o5,o6,o7,o8,o9,hl2,ha,hv,hb,hu,hw,h2,Ad,Af,Ae,Ac,Ah,Aa]; done)))); (try simp (disch:=omega) only [go_sem,o1,o2,o3,o4,o5,o6,o7,o8,o9,hl2,ha,hv,hb,hu,hw,h2,Ad,Af,Ae,Ac,Ah,Aa]))
   | true =>
    try rw [hw] at hv
    rw [yI]
    cases hq:x.atom.atom with
    | true =>
     rw [hq] at ha
     rw [zE]
     refine Ak Az Av (of_decide_eq_true rfl) ?_
     simp (disch:=omega) only [Ax,go_sem,o1,o2,o3,o4,o5,o6,o7,o8,o9,hl2,ha,hv,hb,hu,hw,h2,Ad,Af,Ae,Ac,Ah,Aa]
     repeat ((first | (refine A3 ?_ ?_; (focus (simp (disch:=omega) only [go_sem,o1,o2,o3,o4,o5,o6,o7,o8,o9,hl2,ha,hv,hb,hu,hw,h2,Ad,Af,Ae,Ac,Ah,Aa]; done))) | (refine A4 ?_ ?_; (focus (simp (disch:=omega) only [go_sem,o1,o2,o3,o4,o5,o6,o7,o8,o9,hl2,ha,hv,hb,hu,hw,h2,Ad,Af,Ae,Ac,Ah,Aa]; done)))); (try simp (disch:=omega) only [go_sem,o1,o2,o3,o4,o5,o6,o7,o8,o9,hl2,ha,hv,hb,hu,hw,h2,Ad,Af,Ae,Ac,Ah,Aa]))
    | false =>
     rw [hq] at ha
     rw [zA]
     refine Ak Az Av (of_decide_eq_true rfl) ?_
     simp (disch:=omega) only [Ax,go_sem,o1,o2,o3,o4,o5,o6,o7,o8,o9,hl2,ha,hv,hb,hu,hw,h2,Ad,Af,Ae,Ac,Ah,Aa]
     repeat ((first | (refine A3 ?_ ?_; (focus (simp (disch:=omega) only [go_sem,o1,o2,o3,o4,o5,o6,o7,o8,o9,hl2,ha,hv,hb,hu,hw,h2,Ad,Af,Ae,Ac,Ah,Aa]; done))) | (refine A4 ?_ ?_; (focus (simp (disch:=omega) only [go_sem,o1,o2,o3,o4,o5,o6,o7,o8,o9,hl2,ha,hv,hb,hu,hw,h2,Ad,Af,Ae,Ac,Ah,Aa]; done)))); (try simp (disch:=omega) only [go_sem,o1,o2,o3,o4,o5,o6,o7,o8,o9,hl2,ha,hv,hb,hu,hw,h2,Ad,Af,Ae,Ac,Ah,Aa]))
  ·have hl2:dec ((x.parts.length:Int)=0)=false:=An (by omega)
   have hl3:(x.parts.length == 0)=false:=by simpa using hl
   rw [hl3,zA,zA,zA]
   refine Ak Az Av (of_decide_eq_true rfl) ?_
   simp (disch:=omega) only [Ax,go_sem,o1,o2,o3,o4,o5,o6,o7,o8,o9,hl2,ha,hv,hb,hu, h2,Ad,Af,Ae,Ac,Ah,Aa]
   repeat ((first | (refine A3 ?_ ?_; (focus (simp (disch:=omega) only [go_sem,o1,o2,o3,o4,o5,o6,o7,o8,o9,hl2,ha,hv,hb,hu, h2,Ad,Af,Ae,Ac,Ah,Aa]; done))) | (refine A4 ?_ ?_; (focus (simp (disch:=omega) only [go_sem,o1,o2,o3,o4,o5,o6,o7,o8,o9,hl2,ha,hv,hb,hu, h2,Ad,Af,Ae,Ac,Ah,Aa]; done)))); (try simp (disch:=omega) only [go_sem,o1,o2,o3,o4,o5,o6,o7,o8,o9,hl2,ha,hv,hb,hu, h2,Ad,Af,Ae,Ac,Ah,Aa]))
theorem TH (x:Fm) (hn:x.atom.nodes≤1099511627776) (hl0:x.parts.length≤1099511627776) (ho:x.op=4) (h2:E 91 [.arr (x.parts.map Fm.d),.fn 132 []] []=some (.bool (x.parts.any fun y=>!y.forms),[])):E 89 [x.sv] []=some (.bool x.forms,[]):=by
 have hf:x.form=(x.parts.length == 1&&x.atom.isZ&&dec (x.var=⟨#[]⟩)):=by unfold Fm.form; rcases ho with ho <;> simp [ho]
 rcases ho with ho
 all_goals
  have o1:dec (x.op=1)=false:=An (by omega)
  have o2:dec (x.op=2)=false:=An (by omega)
  have o3:dec (x.op=3)=false:=An (by omega)
  have o4:dec (x.op=4)=true:=A6 ho
  have o5:dec (x.op=5)=false:=An (by omega)
  have o6:dec (x.op=6)=false:=An (by omega)
  have o7:dec (x.op=7)=false:=An (by omega)
  have o8:dec (x.op=8)=false:=An (by omega)
  have o9:dec (x.op=9)=false:=An (by omega)
  have ha:=E9 x.atom
  have hv:=Cb x.var
  have hb:=DR x.op
  have hu:=Cr x.op
  rw [o5,o6,o7] at hb
  rw [o8,o9] at hu
  rw [Fm.D2,hf,← Fm.any_not]
  by_cases hl:x.parts.length=1
  ·have hl2:dec ((x.parts.length:Int)=1)=true:=A6 (by omega)
   rw [hl,beq_self_eq_true,zE]
   cases hw:dec (x.var=⟨#[]⟩) with
   | false =>
    try rw [hw] at hv
    rw [yF,zA]
    refine Ak Az Av (of_decide_eq_true rfl) ?_
    simp (disch:=omega) only [Ax,go_sem,o1,o2,o3,o4,o5,o6,o7,o8,o9,hl2,ha,hv,hb,hu,hw,h2,Ad,Af,Ae,Ac,Ah,Aa]
    repeat ((first | (refine A3 ?_ ?_; (focus (simp (disch:=omega) only [go_sem,o1,o2,o3,o4,o5,o6,o7,o8,o9,hl2,ha,hv,hb,hu,hw,h2,Ad,Af,Ae,Ac,Ah,Aa]; done))) | (refine A4 ?_ ?_; (focus (simp (disch:=omega) only [go_sem,o1,o2,o3,o4,o5,o6,o7,o8,o9,hl2,ha,hv,hb,hu,hw,h2,Ad,Af,Ae,Ac,Ah,Aa]; done)))); (try simp (disch:=omega) only [go_sem,o1,o2,o3,o4,o5,o6,o7,o8,o9,hl2,ha,hv,hb,hu,hw,h2,Ad,Af,Ae,Ac,Ah,Aa]))
   | true =>
    try rw [hw] at hv
    rw [yI]
    cases hq:x.atom.isZ with
    | true =>
     rw [hq] at ha
     rw [zE]
     refine Ak Az Av (of_decide_eq_true rfl) ?_
     simp (disch:=omega) only [Ax,go_sem,o1,o2,o3,o4,o5,o6,o7,o8,o9,hl2,ha,hv,hb,hu,hw,h2,Ad,Af,Ae,Ac,Ah,Aa]
     repeat ((first | (refine A3 ?_ ?_; (focus (simp (disch:=omega) only [go_sem,o1,o2,o3,o4,o5,o6,o7,o8,o9,hl2,ha,hv,hb,hu,hw,h2,Ad,Af,Ae,Ac,Ah,Aa]; done))) | (refine A4 ?_ ?_; (focus (simp (disch:=omega) only [go_sem,o1,o2,o3,o4,o5,o6,o7,o8,o9,hl2,ha,hv,hb,hu,hw,h2,Ad,Af,Ae,Ac,Ah,Aa]; done)))); (try simp (disch:=omega) only [go_sem,o1,o2,o3,o4,o5,o6,o7,o8,o9,hl2,ha,hv,hb,hu,hw,h2,Ad,Af,Ae,Ac,Ah,Aa]))
    | false =>
     rw [hq] at ha
     rw [zA]
     refine Ak Az Av (of_decide_eq_true rfl) ?_
     simp (disch:=omega) only [Ax,go_sem,o1,o2,o3,o4,o5,o6,o7,o8,o9,hl2,ha,hv,hb,hu,hw,h2,Ad,Af,Ae,Ac,Ah,Aa]
     repeat ((first | (refine A3 ?_ ?_; (focus (simp (disch:=omega) only [go_sem,o1,o2,o3,o4,o5,o6,o7,o8,o9,hl2,ha,hv,hb,hu,hw,h2,Ad,Af,Ae,Ac,Ah,Aa]; done))) | (refine A4 ?_ ?_; (focus (simp (disch:=omega) only [go_sem,o1,o2,o3,o4,o5,o6,o7,o8,o9,hl2,ha,hv,hb,hu,hw,h2,Ad,Af,Ae,Ac,Ah,Aa]; done)))); (try simp (disch:=omega) only [go_sem,o1,o2,o3,o4,o5,o6,o7,o8,o9,hl2,ha,hv,hb,hu,hw,h2,Ad,Af,Ae,Ac,Ah,Aa]))
  ·have hl2:dec ((x.parts.length:Int)=1)=false:=An (by omega)
   have hl3:(x.parts.length == 1)=false:=by simpa using hl
   rw [hl3,zA,zA,zA]
   refine Ak Az Av (of_decide_eq_true rfl) ?_
   simp (disch:=omega) only [Ax,go_sem,o1,o2,o3,o4,o5,o6,o7,o8,o9,hl2,ha,hv,hb,hu, h2,Ad,Af,Ae,Ac,Ah,Aa]
   repeat ((first | (refine A3 ?_ ?_; (focus (simp (disch:=omega) only [go_sem,o1,o2,o3,o4,o5,o6,o7,o8,o9,hl2,ha,hv,hb,hu, h2,Ad,Af,Ae,Ac,Ah,Aa]; done))) | (refine A4 ?_ ?_; (focus (simp (disch:=omega) only [go_sem,o1,o2,o3,o4,o5,o6,o7,o8,o9,hl2,ha,hv,hb,hu, h2,Ad,Af,Ae,Ac,Ah,Aa]; done)))); (try simp (disch:=omega) only [go_sem,o1,o2,o3,o4,o5,o6,o7,o8,o9,hl2,ha,hv,hb,hu, h2,Ad,Af,Ae,Ac,Ah,Aa]))
theorem Lo (x:Fm) (hn:x.atom.nodes≤1099511627776) (hl0:x.parts.length≤1099511627776) (ho:x.op=5∨x.op=6∨x.op=7) (h2:E 91 [.arr (x.parts.map Fm.d),.fn 132 []] []=some (.bool (x.parts.any fun y=>!y.forms),[])):E 89 [x.sv] []=some (.bool x.forms,[]):=by
 have hf:x.form=(x.parts.length == 2&&x.atom.isZ&&dec (x.var=⟨#[]⟩)):=by unfold Fm.form; rcases ho with ho | ho | ho <;> simp [ho]
 rcases ho with ho | ho | ho
 all_goals
  have o1:dec (x.op=1)=false:=An (by omega)
  have o2:dec (x.op=2)=false:=An (by omega)
  have o3:dec (x.op=3)=false:=An (by omega)
  have o4:dec (x.op=4)=false:=An (by omega)
  first
   |(have o5:dec (x.op=5)=true:=A6 ho)
   |(have o5:dec (x.op=5)=false:=An (by omega))
  first
   |(have o6:dec (x.op=6)=true:=A6 ho)
   |(have o6:dec (x.op=6)=false:=An (by omega))
  first
   |(have o7:dec (x.op=7)=true:=A6 ho)
   |(have o7:dec (x.op=7)=false:=An (by omega))
  have o8:dec (x.op=8)=false:=An (by omega)
  have o9:dec (x.op=9)=false:=An (by omega)
  have ha:=E9 x.atom
  have hv:=Cb x.var
  have hb:=DR x.op
  have hu:=Cr x.op
  rw [o5,o6,o7] at hb
  rw [o8,o9] at hu
  rw [Fm.D2,hf,← Fm.any_not]
  by_cases hl:x.parts.length=2
  ·have hl2:dec ((x.parts.length:Int)=2)=true:=A6 (by omega)
   rw [hl,beq_self_eq_true,zE]
   cases hw:dec (x.var=⟨#[]⟩) with
   | false =>
    try rw [hw] at hv
    rw [yF,zA]
    refine Ak Az Av (of_decide_eq_true rfl) ?_
    simp (disch:=omega) only [Ax,go_sem,o1,o2,o3,o4,o5,o6,o7,o8,o9,hl2,ha,hv,hb,hu,hw,h2,Ad,Af,Ae,Ac,Ah,Aa]
    repeat ((first | (refine A3 ?_ ?_; (focus (simp (disch:=omega) only [go_sem,o1,o2,o3,o4,o5,o6,o7,o8,o9,hl2,ha,hv,hb,hu,hw,h2,Ad,Af,Ae,Ac,Ah,Aa]; done))) | (refine A4 ?_ ?_; (focus (simp (disch:=omega) only [go_sem,o1,o2,o3,o4,o5,o6,o7,o8,o9,hl2,ha,hv,hb,hu,hw,h2,Ad,Af,Ae,Ac,Ah,Aa]; done)))); (try simp (disch:=omega) only [go_sem,o1,o2,o3,o4,o5,o6,o7,o8,o9,hl2,ha,hv,hb,hu,hw,h2,Ad,Af,Ae,Ac,Ah,Aa]))
   | true =>
    try rw [hw] at hv
    rw [yI]
    cases hq:x.atom.isZ with
    | true =>
     rw [hq] at ha
     rw [zE]
     refine Ak Az Av (of_decide_eq_true rfl) ?_
     simp (disch:=omega) only [Ax,go_sem,o1,o2,o3,o4,o5,o6,o7,o8,o9,hl2,ha,hv,hb,hu,hw,h2,Ad,Af,Ae,Ac,Ah,Aa]
     repeat ((first | (refine A3 ?_ ?_; (focus (simp (disch:=omega) only [go_sem,o1,o2,o3,o4,o5,o6,o7,o8,o9,hl2,ha,hv,hb,hu,hw,h2,Ad,Af,Ae,Ac,Ah,Aa]; done))) | (refine A4 ?_ ?_; (focus (simp (disch:=omega) only [go_sem,o1,o2,o3,o4,o5,o6,o7,o8,o9,hl2,ha,hv,hb,hu,hw,h2,Ad,Af,Ae,Ac,Ah,Aa]; done)))); (try simp (disch:=omega) only [go_sem,o1,o2,o3,o4,o5,o6,o7,o8,o9,hl2,ha,hv,hb,hu,hw,h2,Ad,Af,Ae,Ac,Ah,Aa]))
    | false =>
     rw [hq] at ha
     rw [zA]
     refine Ak Az Av (of_decide_eq_true rfl) ?_
     simp (disch:=omega) only [Ax,go_sem,o1,o2,o3,o4,o5,o6,o7,o8,o9,hl2,ha,hv,hb,hu,hw,h2,Ad,Af,Ae,Ac,Ah,Aa]
     repeat ((first | (refine A3 ?_ ?_; (focus (simp (disch:=omega) only [go_sem,o1,o2,o3,o4,o5,o6,o7,o8,o9,hl2,ha,hv,hb,hu,hw,h2,Ad,Af,Ae,Ac,Ah,Aa]; done))) | (refine A4 ?_ ?_; (focus (simp (disch:=omega) only [go_sem,o1,o2,o3,o4,o5,o6,o7,o8,o9,hl2,ha,hv,hb,hu,hw,h2,Ad,Af,Ae,Ac,Ah,Aa]; done)))); (try simp (disch:=omega) only [go_sem,o1,o2,o3,o4,o5,o6,o7,o8,o9,hl2,ha,hv,hb,hu,hw,h2,Ad,Af,Ae,Ac,Ah,Aa]))
  ·have hl2:dec ((x.parts.length:Int)=2)=false:=An (by omega)
   have hl3:(x.parts.length == 2)=false:=by simpa using hl
   rw [hl3,zA,zA,zA]
   refine Ak Az Av (of_decide_eq_true rfl) ?_
   simp (disch:=omega) only [Ax,go_sem,o1,o2,o3,o4,o5,o6,o7,o8,o9,hl2,ha,hv,hb,hu, h2,Ad,Af,Ae,Ac,Ah,Aa]
   repeat ((first | (refine A3 ?_ ?_; (focus (simp (disch:=omega) only [go_sem,o1,o2,o3,o4,o5,o6,o7,o8,o9,hl2,ha,hv,hb,hu, h2,Ad,Af,Ae,Ac,Ah,Aa]; done))) | (refine A4 ?_ ?_; (focus (simp (disch:=omega) only [go_sem,o1,o2,o3,o4,o5,o6,o7,o8,o9,hl2,ha,hv,hb,hu, h2,Ad,Af,Ae,Ac,Ah,Aa]; done)))); (try simp (disch:=omega) only [go_sem,o1,o2,o3,o4,o5,o6,o7,o8,o9,hl2,ha,hv,hb,hu, h2,Ad,Af,Ae,Ac,Ah,Aa]))
theorem Pg (x:Fm) (hn:x.atom.nodes≤1099511627776) (hl0:x.parts.length≤1099511627776) (ho:x.op=8∨x.op=9) (h2:E 91 [.arr (x.parts.map Fm.d),.fn 132 []] []=some (.bool (x.parts.any fun y=>!y.forms),[])):E 89 [x.sv] []=some (.bool x.forms,[]):=by
 have hf:x.form=(x.parts.length == 1&&x.atom.isZ&&BI x.var):=by unfold Fm.form; rcases ho with ho | ho <;> simp [ho]
 rcases ho with ho | ho
 all_goals
  have o1:dec (x.op=1)=false:=An (by omega)
  have o2:dec (x.op=2)=false:=An (by omega)
  have o3:dec (x.op=3)=false:=An (by omega)
  have o4:dec (x.op=4)=false:=An (by omega)
  have o5:dec (x.op=5)=false:=An (by omega)
  have o6:dec (x.op=6)=false:=An (by omega)
  have o7:dec (x.op=7)=false:=An (by omega)
  first
   |(have o8:dec (x.op=8)=true:=A6 ho)
   |(have o8:dec (x.op=8)=false:=An (by omega))
  first
   |(have o9:dec (x.op=9)=true:=A6 ho)
   |(have o9:dec (x.op=9)=false:=An (by omega))
  have ha:=E9 x.atom
  have hv:=Cb x.var
  have hb:=DR x.op
  have hu:=Cr x.op
  rw [o5,o6,o7] at hb
  rw [o8,o9] at hu
  rw [Fm.D2,hf,← Fm.any_not]
  by_cases hl:x.parts.length=1
  ·have hl2:dec ((x.parts.length:Int)=1)=true:=A6 (by omega)
   rw [hl,beq_self_eq_true,zE]
   cases hw:BI x.var with
   | false =>
    try rw [hw] at hv
    rw [yF,zA]
    refine Ak Az Av (of_decide_eq_true rfl) ?_
    simp (disch:=omega) only [Ax,go_sem,o1,o2,o3,o4,o5,o6,o7,o8,o9,hl2,ha,hv,hb,hu, h2,Ad,Af,Ae,Ac,Ah,Aa]
    repeat ((first | (refine A3 ?_ ?_; (focus (simp (disch:=omega) only [go_sem,o1,o2,o3,o4,o5,o6,o7,o8,o9,hl2,ha,hv,hb,hu, h2,Ad,Af,Ae,Ac,Ah,Aa]; done))) | (refine A4 ?_ ?_; (focus (simp (disch:=omega) only [go_sem,o1,o2,o3,o4,o5,o6,o7,o8,o9,hl2,ha,hv,hb,hu, h2,Ad,Af,Ae,Ac,Ah,Aa]; done)))); (try simp (disch:=omega) only [go_sem,o1,o2,o3,o4,o5,o6,o7,o8,o9,hl2,ha,hv,hb,hu, h2,Ad,Af,Ae,Ac,Ah,Aa]))
   | true =>
    try rw [hw] at hv
    rw [yI]
    cases hq:x.atom.isZ with
    | true =>
     rw [hq] at ha
     rw [zE]
     refine Ak Az Av (of_decide_eq_true rfl) ?_
     simp (disch:=omega) only [Ax,go_sem,o1,o2,o3,o4,o5,o6,o7,o8,o9,hl2,ha,hv,hb,hu, h2,Ad,Af,Ae,Ac,Ah,Aa]
     repeat ((first | (refine A3 ?_ ?_; (focus (simp (disch:=omega) only [go_sem,o1,o2,o3,o4,o5,o6,o7,o8,o9,hl2,ha,hv,hb,hu, h2,Ad,Af,Ae,Ac,Ah,Aa]; done))) | (refine A4 ?_ ?_; (focus (simp (disch:=omega) only [go_sem,o1,o2,o3,o4,o5,o6,o7,o8,o9,hl2,ha,hv,hb,hu, h2,Ad,Af,Ae,Ac,Ah,Aa]; done)))); (try simp (disch:=omega) only [go_sem,o1,o2,o3,o4,o5,o6,o7,o8,o9,hl2,ha,hv,hb,hu, h2,Ad,Af,Ae,Ac,Ah,Aa]))
    | false =>
     rw [hq] at ha
     rw [zA]
     refine Ak Az Av (of_decide_eq_true rfl) ?_
     simp (disch:=omega) only [Ax,go_sem,o1,o2,o3,o4,o5,o6,o7,o8,o9,hl2,ha,hv,hb,hu, h2,Ad,Af,Ae,Ac,Ah,Aa]
     repeat ((first | (refine A3 ?_ ?_; (focus (simp (disch:=omega) only [go_sem,o1,o2,o3,o4,o5,o6,o7,o8,o9,hl2,ha,hv,hb,hu, h2,Ad,Af,Ae,Ac,Ah,Aa]; done))) | (refine A4 ?_ ?_; (focus (simp (disch:=omega) only [go_sem,o1,o2,o3,o4,o5,o6,o7,o8,o9,hl2,ha,hv,hb,hu, h2,Ad,Af,Ae,Ac,Ah,Aa]; done)))); (try simp (disch:=omega) only [go_sem,o1,o2,o3,o4,o5,o6,o7,o8,o9,hl2,ha,hv,hb,hu, h2,Ad,Af,Ae,Ac,Ah,Aa]))
  ·have hl2:dec ((x.parts.length:Int)=1)=false:=An (by omega)
   have hl3:(x.parts.length == 1)=false:=by simpa using hl
   rw [hl3,zA,zA,zA]
   refine Ak Az Av (of_decide_eq_true rfl) ?_
   simp (disch:=omega) only [Ax,go_sem,o1,o2,o3,o4,o5,o6,o7,o8,o9,hl2,ha,hv,hb,hu, h2,Ad,Af,Ae,Ac,Ah,Aa]
   repeat ((first | (refine A3 ?_ ?_; (focus (simp (disch:=omega) only [go_sem,o1,o2,o3,o4,o5,o6,o7,o8,o9,hl2,ha,hv,hb,hu, h2,Ad,Af,Ae,Ac,Ah,Aa]; done))) | (refine A4 ?_ ?_; (focus (simp (disch:=omega) only [go_sem,o1,o2,o3,o4,o5,o6,o7,o8,o9,hl2,ha,hv,hb,hu, h2,Ad,Af,Ae,Ac,Ah,Aa]; done)))); (try simp (disch:=omega) only [go_sem,o1,o2,o3,o4,o5,o6,o7,o8,o9,hl2,ha,hv,hb,hu, h2,Ad,Af,Ae,Ac,Ah,Aa]))
theorem Sg (x:Fm) (ht:x.tame) (hn:x.nodes≤1099511627776) (ih:∀ y∈x.parts,E 89 [y.sv] []=some (.bool y.forms,[])):E 89 [x.sv] []=some (.bool x.forms,[]):=by
 have hl:=Fm.length_le x.parts
 have hx:=Fm.nodes_eq x
 have ha:=Fm.tame_at ht
 have h1:∀ y∈x.parts,E 132 [y.sv] []=some (.bool (!y.forms),[]):=fun y hy=>by
  have h:=ih y hy
  refine Ak Lm GN (of_decide_eq_true rfl) ?_
  simp (disch:=omega) only [GM,go_sem,Ab,h,Av]
 have h2:=JI 132 (fun y=>!y.forms) x.parts (by omega) Ln (by rw [GN]) h1
 rcases QL x.op with h | h | h | h | h | h | h | h | h | h
 ·exact Pf x ha (by omega) (.inl h) h2
 ·exact Pf x ha (by omega) (.inr h) h2
 ·exact TG x ha (by omega) h h2
 ·exact TH x ha (by omega) h h2
 ·exact Lo x ha (by omega) (.inl h) h2
 ·exact Lo x ha (by omega) (.inr (.inl h)) h2
 ·exact Lo x ha (by omega) (.inr (.inr h)) h2
 ·exact Pg x ha (by omega) (.inl h) h2
 ·exact Pg x ha (by omega) (.inr h) h2
 ·obtain ⟨k1,k2,k3,k4,k5,k6,k7,k8,k9⟩:=h
  have hf:x.form=false:=by unfold Fm.form; simp [k1,k2,k3,k4,k5,k6,k7,k8,k9]
  have o1:=An k1
  have o2:=An k2
  have o3:=An k3
  have o4:=An k4
  have o5:=An k5
  have o6:=An k6
  have o7:=An k7
  have o8:=An k8
  have o9:=An k9
  have hb:=DR x.op
  have hu:=Cr x.op
  rw [o5,o6,o7] at hb
  rw [o8,o9] at hu
  rw [Fm.D2,hf,zA]
  refine Ak Az Av (of_decide_eq_true rfl) ?_
  simp (disch:=omega) only [Ax,go_sem,o1,o2,o3,o4,o5,o6,o7,o8,o9,hb,hu,Ac,Ah]
  repeat ((first | (refine A3 ?_ ?_; (focus (simp (disch:=omega) only [go_sem,o1,o2,o3,o4,o5,o6,o7,o8,o9,hb,hu,Ac,Ah]; done))) | (refine A4 ?_ ?_; (focus (simp (disch:=omega) only [go_sem,o1,o2,o3,o4,o5,o6,o7,o8,o9,hb,hu,Ac,Ah]; done)))); (try simp (disch:=omega) only [go_sem,o1,o2,o3,o4,o5,o6,o7,o8,o9,hb,hu,Ac,Ah]))
theorem Ph (x:Fm) (ht:x.tame) (hn:x.nodes≤1099511627776):E 89 [x.sv] []=some (.bool x.forms,[]) :=
 Sg x ht hn fun y hy=>Ph y (Fm.Dv ht hy) (by have:=Fm.nodes_mem hy; have:=Fm.nodes_eq x; omega)
termination_by SizeOf.sizeOf x
decreasing_by exact Fm.lt_of_mem hy
theorem CP (x:Fm) (ht:x.tame) (hn:x.nodes≤1099511627776):E 36 [x.sv] []=some (.bool x.valid,[]):=by
 have h1:=SP x hn
 have h2:=Ph x ht hn
 have h3:=Fm.cap_spec x
 unfold Fm.valid
 rcases zH 40 x.nodes with h5 | h5
 ·rw [decide_eq_false (by omega),zA]
  have d:dec (x.cap≤40)=false:=An (by omega)
  refine Ak DE A2 (of_decide_eq_true rfl) ?_
  simp (disch:=omega) only [C7,go_sem,Ab,h1,h2,d,Dc,Av]
 ·rw [decide_eq_true h5,zE]
  have d:dec (x.cap≤40)=true:=A6 (by omega)
  refine Ak DE A2 (of_decide_eq_true rfl) ?_
  simp (disch:=omega) only [C7,go_sem,Ab,h1,h2,d,Dc,Av]
theorem N7 (x:Fm) (ht:x.tame) (hn:x.nodes≤1099511627776):E 32 [x.sv] []=some (.bool x.valid,[]):=by
 have h1:=SQ x 40 (by omega) (by omega) hn
 have h2:=Pe x ht hn
 have h3:=Fm.many_spec x 40
 unfold Fm.valid
 rcases zH 40 x.nodes with h5 | h5
 ·rw [decide_eq_false (by omega),zA]
  have d:dec ((x.many 40)≤40)=false:=An (by omega)
  refine Ak Jr AO (of_decide_eq_true rfl) ?_
  simp (disch:=omega) only [Gd,go_sem,Ab,h1,h2,d,Dd,Cq]
 ·rw [decide_eq_true h5,zE]
  have d:dec ((x.many 40)≤40)=true:=A6 (by omega)
  refine Ak Jr AO (of_decide_eq_true rfl) ?_
  simp (disch:=omega) only [Gd,go_sem,Ab,h1,h2,d,Dd,Cq]
def Fm.osh (x:Fm):List OT:=[.int x.op,.str x.atom.name,.sh (x.atom.args.map Tm.d),.str x.var,.sh (x.parts.map Fm.d)]
theorem Fm.osh_eq (x:Fm):x.osh=[.int x.op,.str x.atom.name,.sh (x.atom.args.map Tm.d),.str x.var,.sh (x.parts.map Fm.d)]:=rfl
theorem Fm.osh_full:∀ xs:List Fm,OT.A7 (xs.map Fm.osh)=true
 | []=>rfl
 | x :: xs=>by simp only [yJ,OT.A7,Fm.osh,OT.BL,OT.full,Fm.osh_full xs,yS]
theorem Fm.osh_er:∀ xs:List Fm,OT.erss (xs.map Fm.osh)=xs.map Fm.d
 | []=>rfl
 | x :: xs=>by simp only [yJ,OT.erss,Fm.osh,OT.ers,OT.er,Fm.osh_er xs,Fm.d_eq]
theorem Fm.eta (x:Fm):Fm.mk x.op x.atom x.var x.parts=x:=by
 obtain ⟨a,b,c,d⟩:=x
 rfl
def Dk:SC:=(.seq (.reg [⟨some 2,none,.boxv 36 5 (.t 0)⟩,⟨(some 4),none,(.alloc 36 [(.int .i64 0),(.str ⟨#[]⟩),.nil,(.str ⟨#[]⟩),.nil])⟩]) (.seq (.dreg [[],[0],[],[2],[3,2],[],[5],[1,0,4,3,2,6,5],[],[8,7,1,0,4,3,2,6,5]] [⟨some 8,none,.faddr 0 (.t 2)⟩,⟨some 9,none,.load false 1 (.t 8)⟩,⟨some 10,none,.faddr 1 (.t 2)⟩,⟨some 11,none,.load true 2 (.t 10)⟩,⟨some 12,none,.call 140 [(.t 11)]⟩,⟨some 13,none,.faddr 3 (.t 2)⟩,⟨some 14,none,.load false 1 (.t 13)⟩,⟨(some 15),none,(.build [(.int .i64 0),(.str ⟨#[]⟩),.nil,(.str ⟨#[]⟩),.nil] [(0,(1,(.t 9))),(1,(2,(.t 12))),(3,(1,(.t 14)))])⟩,⟨(some 5),none,(.alloc 36 [(.int .i64 0),(.str ⟨#[]⟩),.nil,(.str ⟨#[]⟩),.nil])⟩,⟨none,none,(.store 5 (.t 5) (.t 15))⟩]) (.seq (.seq (.reg [⟨some 16,none,.faddr 4 (.t 2)⟩,⟨some 17,none,.load false 1 (.t 16)⟩,⟨some 18,none,.len false (.t 17)⟩,⟨some 19,none,.mv (.c (.int .i64 0))⟩]) (.block 0 (.loop [0,1,0,0,1,1,0,0,0,0,0,0,0,0,0,0,0,1,1,1,0,0,0,0,0,0,0,0,0,0,0,0,0] (.seq (.reg [⟨some 20,none,.bin .lss false (.t 19) (.t 18)⟩]) (.seq (.cond (.t 20) .skip (.exit 0)) (.seq (.block 1 (.seq (.reg [⟨some 21,none,.iaddr 5 (.t 17) (.t 19)⟩,⟨some 22,none,.load true 5 (.t 21)⟩,⟨(some 7),none,(.alloc 36 [(.int .i64 0),(.str ⟨#[]⟩),.nil,(.str ⟨#[]⟩),.nil])⟩,⟨none,none,(.store 5 (.t 7) (.t 22))⟩]) (.dreg [[],[0],[],[],[2,3],[4,2,3],[1,0,5,4,2,3],[0,1,2,3,4,5,6],[7,0,1,2,3,4,5,6]] [⟨some 23,none,.faddr 4 (.t 5)⟩,⟨some 24,none,.load false 1 (.t 23)⟩,⟨some 25,none,.mv (.t 1)⟩,⟨some 26,none,.load true 5 (.t 7)⟩,⟨some 27,none,.callv (.t 25) [(.t 26)]⟩,⟨(some 28),none,(.mkrow 36 5 [(.int .i64 0),(.str ⟨#[]⟩),.nil,(.str ⟨#[]⟩),.nil] 1 [(0,(.t 27))])⟩,⟨(some 29),none,(.append 36 5 88 [(.int .i64 0),(.str ⟨#[]⟩),.nil,(.str ⟨#[]⟩),.nil] (.t 24) (.t 28))⟩,⟨some 30,none,.faddr 4 (.t 5)⟩,⟨none,none,(.store 1 (.t 30) (.t 29))⟩]))) (.reg [⟨some 31,none,.bin .add false (.t 19) (.c (.int .i64 1))⟩,⟨some 19,none,.mv (.t 31)⟩]))))))) (.seq (.reg [⟨some 32,none,.load true 5 (.t 5)⟩,⟨none,none,(.store 5 (.t 4) (.t 32))⟩]) .ret))))
theorem Ei:Ao Tryz.prog 96=some ⟨33,Dk,[(.cell 4 true 5)]⟩:=by kernel_rfl
theorem B4:modes 96=⟨[],.own [none,none,some (33,2),none,some (36,5)],none,false⟩:=by unfold modes; rfl
def Fo:SC:=(.seq (.reg [⟨some 1,none,.boxv 36 5 (.t 0)⟩,⟨(some 2),none,(.alloc 36 [(.int .i64 0),(.str ⟨#[]⟩),.nil,(.str ⟨#[]⟩),.nil])⟩]) (.seq (.reg [⟨some 3,none,.load true 5 (.t 1)⟩,⟨some 4,none,.call 96 [(.t 3),(.c (.fn 41 []))]⟩,⟨none,none,(.store 5 (.t 2) (.t 4))⟩]) .ret))
theorem JJ:Ao Tryz.prog 41=some ⟨5,Fo,[(.cell 2 true 5)]⟩:=by kernel_rfl
theorem C0:modes 41=⟨[],.own [none,none,some (33,2),none,some (36,5)],none,false⟩:=by unfold modes; rfl
theorem JK:E3 Tryz.prog 41=true:=by kernel_rfl
def K4:SC:=(.seq (.reg [⟨some 1,none,.boxv 36 5 (.t 0)⟩,⟨(some 2),none,(.alloc 36 [(.int .i64 0),(.str ⟨#[]⟩),.nil,(.str ⟨#[]⟩),.nil])⟩]) (.seq (.dreg [[],[0],[],[2],[3,2],[],[5],[1,0,4,3,2,6,5],[],[8,7,1,0,4,3,2,6,5]] [⟨some 5,none,.faddr 0 (.t 1)⟩,⟨some 6,none,.load false 1 (.t 5)⟩,⟨some 7,none,.faddr 1 (.t 1)⟩,⟨some 8,none,.load true 2 (.t 7)⟩,⟨some 9,none,.call 81 [(.t 8)]⟩,⟨some 10,none,.faddr 3 (.t 1)⟩,⟨some 11,none,.load false 1 (.t 10)⟩,⟨(some 12),none,(.build [(.int .i64 0),(.str ⟨#[]⟩),.nil,(.str ⟨#[]⟩),.nil] [(0,(1,(.t 6))),(1,(2,(.t 9))),(3,(1,(.t 11)))])⟩,⟨(some 3),none,(.alloc 36 [(.int .i64 0),(.str ⟨#[]⟩),.nil,(.str ⟨#[]⟩),.nil])⟩,⟨none,none,(.store 5 (.t 3) (.t 12))⟩]) (.seq (.seq (.reg [⟨some 4,none,.mv (.c (.int .i64 0))⟩]) (.block 0 (.loop [0,1,1,1,1,0,0,0,0,0,0,0,0,0,0,0,0,0,0,0,0,0,0,0,0,0,0,0,0,0,0,0] (.seq (.seq (.reg [⟨some 13,none,.mv (.t 4)⟩,⟨some 14,none,.faddr 4 (.t 1)⟩,⟨some 15,none,.load false 1 (.t 14)⟩,⟨some 16,none,.len false (.t 15)⟩,⟨some 17,none,.bin .lss false (.t 13) (.t 16)⟩]) (.cond (.t 17) .skip (.exit 0))) (.seq (.block 1 (.dreg [[],[0],[],[2],[],[3,2,4],[5,3,2,4],[6,5,3,2,4],[7,6,5,3,2,4],[1,0,8,7,6,5,3,2,4],[0,1,2,3,4,5,6,7,8,9],[10,0,1,2,3,4,5,6,7,8,9]] [⟨some 20,none,.faddr 4 (.t 3)⟩,⟨some 21,none,.load false 1 (.t 20)⟩,⟨some 22,none,.faddr 4 (.t 1)⟩,⟨some 23,none,.load false 1 (.t 22)⟩,⟨some 24,none,.mv (.t 4)⟩,⟨some 25,none,.iaddr 5 (.t 23) (.t 24)⟩,⟨some 26,none,.load true 5 (.t 25)⟩,⟨some 27,none,.call 30 [(.t 26)]⟩,⟨(some 28),none,(.mkrow 36 5 [(.int .i64 0),(.str ⟨#[]⟩),.nil,(.str ⟨#[]⟩),.nil] 1 [(0,(.t 27))])⟩,⟨(some 29),none,(.append 36 5 88 [(.int .i64 0),(.str ⟨#[]⟩),.nil,(.str ⟨#[]⟩),.nil] (.t 21) (.t 28))⟩,⟨some 30,none,.faddr 4 (.t 3)⟩,⟨none,none,(.store 1 (.t 30) (.t 29))⟩])) (.reg [⟨some 18,none,.mv (.t 4)⟩,⟨some 19,none,.bin .add false (.t 18) (.c (.int .i64 1))⟩,⟨some 4,none,.mv (.t 19)⟩])))))) (.seq (.reg [⟨some 31,none,.load true 5 (.t 3)⟩,⟨none,none,(.store 5 (.t 2) (.t 31))⟩]) .ret))))
theorem PM:Ao Tryz.prog 30=some ⟨32,K4,[(.cell 2 true 5)]⟩:=by kernel_rfl
theorem Bl:modes 30=⟨[],.frz,none,false⟩:=by unfold modes; rfl
theorem Rf (fid:Nat) (g:Fm→Fm) (x:Fm) (hl:x.parts.length≤1099511627776) (hat:x.atom.nodes≤1099511627776) (hg:E3 Tryz.prog fid=true) (hm:(modes fid).hand=[]) (hr:∀ r,El (modes fid).res r=r) (hE:∀ y∈x.parts,E fid [y.sv] []=some ((g y).osv,(g y).obs)):E 96 [x.sv,.fn fid []] []=some ((Fm.mk x.op x.atom x.var (x.parts.map g)).osv,(Fm.mk x.op x.atom x.var (x.parts.map g)).obs):=by
 have hct:=Fc x.atom hat
 have h10:((1:Int)=0)=False:=by simp
 have hmm:∀ ys:List Fm,(ys.map g).map Fm.o=ys.map fun y=>Fm.o (g y):=fun ys=>by rw [yG]; rfl
 show _=some (SV.agg [.int .i64 x.op,.str x.atom.name,.ref 0,.str x.var,.ref 1],[Ob.row 33 2 (x.atom.args.map Tm.o),.row 36 5 ((x.parts.map g).map Fm.o)])
 rw [hmm]
 refine Ak Ei B4 (of_decide_eq_true rfl) ?_
 simp (disch:=omega) only [Dk,go_sem,Ab,hct,BY,Tm.osv,Tm.obs]
 refine go_loop (α:=Int) (fun a=>⟨slots 33 0 [(1,.fn fid []),(4,.ptr 0 0),(5,.ptr 1 0),(17,.arr (x.parts.map Fm.d)),(18,.int .i64 x.parts.length),(19,.int .i64 a)],(if a=0 then [.box 36 [.int .i64 0,.str ⟨#[]⟩,.nil,.str ⟨#[]⟩,.nil],.box 36 [.int .i64 x.op,.str x.atom.name,.ref 2,.str x.var,.nil],.row 33 2 (x.atom.args.map Tm.o)] else [.box 36 [.int .i64 0,.str ⟨#[]⟩,.nil,.str ⟨#[]⟩,.nil],.box 36 [.int .i64 x.op,.str x.atom.name,.ref 2,.str x.var,.ref 3],.row 33 2 (x.atom.args.map Tm.o),.row 36 5 ((x.parts.take a.toNat).map fun y=>Fm.o (g y))])⟩) (fun a=>∃ k:Nat,a=k∧k≤(x.parts).length) (fun a=>(x.parts).length-(a).toNat) 0 ⟨0,rfl,zO _⟩ (by simp (disch:=omega) only [go_sem,Ab,eq_self,if_true]) ?_
 rintro i ⟨k,hi,hk⟩
 have hni:i.toNat=k:=by omega
 have hni1:(i+1).toNat=k+1:=by omega
 rcases zH k (x.parts).length with hlt | hge
 ·have hgt:=get_at Fm.d hlt
  rw [Fm.d_eq] at hgt
  have hc:=hE x.parts[k] (zI hlt)
  have hs:=CH (fun y=>Fm.o (g y)) hlt
  rw [Fm.o_eq] at hs
  rcases zD k with h0 | h0
  ·subst h0
   obtain rfl:i=0:=hi
   rw [z9,zN,zK] at hs
   simp (disch:=omega) only [go_sem,Ab,hni,hgt,hc,hg,hm,hr,Fm.osv,Fm.obs,eq_self,if_true]
   refine ⟨1,⟨1,rfl,hlt⟩,by omega,?_⟩
   simp (disch:=omega) only [go_sem,Ab,h10,if_false,hs]
  ·have hi0:(i=0)=False:=by simp; omega
   have hi1:(i+1=0)=False:=by simp; omega
   have htl:(x.parts.take k).length=k:=by rw [zX]; omega
   simp (disch:=omega) only [go_sem,Ab,hni,hgt,hc,hg,hm,hr,Fm.osv,Fm.obs,hi0,if_false,htl]
   refine ⟨i+1,⟨k+1,by omega,hlt⟩,by omega,?_⟩
   simp (disch:=omega) only [go_sem,Ab,hni1,hi1,if_false,hs]
 ·obtain rfl:k=x.parts.length:=by omega
  have ht:x.parts.take x.parts.length=x.parts:=zY
  rcases zD x.parts.length with h0 | h0
  ·have hx:x.parts=[]:=zF h0
   obtain rfl:i=0:=by omega
   simp (disch:=omega) only [go_sem,Ab,hni,hx,eq_self,if_true,zN,zL]
  ·have hi0:(i=0)=False:=by simp; omega
   simp (disch:=omega) only [go_sem,Ab,hni,hi0,if_false,ht]
theorem N8 (x:Fm) (ht:x.tame) (hn:x.nodes≤1099511627776) (ih:∀ y∈x.parts,E 41 [y.sv] []=some (y.osv,y.obs)):E 41 [x.sv] []=some (x.osv,x.obs):=by
 have hx:=Fm.nodes_eq x
 have hl:=Fm.length_le x.parts
 have hat:=Fm.tame_at ht
 have h:=Rf 41 (fun y=>y) x (by omega) (by omega) JK (by rw [C0]) (fun r=>by rw [C0]; rfl) ih
 rw [List.map_id',Fm.eta] at h
 refine Ak JJ C0 (of_decide_eq_true rfl) ?_
 simp (disch:=omega) only [Fo,go_sem,Ab,h,B4,Fm.osv,Fm.obs]
theorem Js (x:Fm) (ht:x.tame) (hn:x.nodes≤1099511627776):E 41 [x.sv] []=some (x.osv,x.obs) :=
 N8 x ht hn fun y hy=>Js y (Fm.Dv ht hy) (by have:=Fm.nodes_mem hy; have:=Fm.nodes_eq x; omega)
termination_by SizeOf.sizeOf x
decreasing_by exact Fm.lt_of_mem hy
theorem Vf (x:Fm) (ht:x.tame) (hn:x.nodes≤1099511627776) (ih:∀ y∈x.parts,E 30 [y.sv] []=some (y.sv,[])):E 30 [x.sv] []=some (x.sv,[]):=by
 have hx0:=Fm.nodes_eq x
 have hl:=Fm.length_le x.parts
 have hat:=Fm.tame_at ht
 have hct:=Kk x.atom (by omega)
 have h10:((1:Int)=0)=False:=by simp
 have hfu:=Fm.osh_full x.parts
 have her:=Fm.osh_er x.parts
 refine Ak PM Bl (of_decide_eq_true rfl) ?_
 simp (disch:=omega) only [K4,go_sem,Ab,hct,BN]
 refine go_loop (α:=Int) (fun a=>⟨slots 32 0 [(1,.ptr 0 0),(2,.ptr 1 0),(3,.ptr 2 0),(4,.int .i64 a)],(if a=0 then [.box 36 [.int .i64 x.op,.str x.atom.name,.arr (x.atom.args.map Tm.d),.str x.var,.arr (x.parts.map Fm.d)],.box 36 [.int .i64 0,.str ⟨#[]⟩,.nil,.str ⟨#[]⟩,.nil],.box 36 [.int .i64 x.op,.str x.atom.name,.arr (x.atom.args.map Tm.d),.str x.var,.nil]] else [.box 36 [.int .i64 x.op,.str x.atom.name,.arr (x.atom.args.map Tm.d),.str x.var,.arr (x.parts.map Fm.d)],.box 36 [.int .i64 0,.str ⟨#[]⟩,.nil,.str ⟨#[]⟩,.nil],.box 36 [.int .i64 x.op,.str x.atom.name,.arr (x.atom.args.map Tm.d),.str x.var,.ref 3],.row 36 5 ((x.parts.take a.toNat).map Fm.osh)])⟩) (fun a=>∃ k:Nat,a=k∧k≤(x.parts).length) (fun a=>(x.parts).length-(a).toNat) 0 ⟨0,rfl,zO _⟩ (by simp (disch:=omega) only [go_sem,Ab,eq_self,if_true]) ?_
 rintro i ⟨k,hi,hk⟩
 have hni:i.toNat=k:=by omega
 have hni1:(i+1).toNat=k+1:=by omega
 rcases zH k (x.parts).length with hlt | hge
 ·have hg:=get_at Fm.d hlt
  rw [Fm.d_eq] at hg
  have hc:=ih x.parts[k] (zI hlt)
  have hs:=CH Fm.osh hlt
  rw [Fm.osh_eq] at hs
  rcases zD k with h0 | h0
  ·subst h0
   obtain rfl:i=0:=hi
   rw [z9,zN,zK] at hs
   simp (disch:=omega) only [go_sem,Ab,hni,hg,hc,Bl,eq_self,if_true]
   refine ⟨1,⟨1,rfl,hlt⟩,by omega,?_⟩
   simp (disch:=omega) only [go_sem,Ab,h10,if_false,hs]
  ·have hi0:(i=0)=False:=by simp; omega
   have hi1:(i+1=0)=False:=by simp; omega
   have htl:(x.parts.take k).length=k:=by rw [zX]; omega
   simp (disch:=omega) only [go_sem,Ab,hni,hg,hc,Bl,hi0,if_false,htl]
   refine ⟨i+1,⟨k+1,by omega,hlt⟩,by omega,?_⟩
   simp (disch:=omega) only [go_sem,Ab,hni1,hi1,if_false,hs]
 ·obtain rfl:k=x.parts.length:=by omega
  have ht2:x.parts.take x.parts.length=x.parts:=zY
  rcases zD x.parts.length with h0 | h0
  ·have hx:x.parts=[]:=zF h0
   obtain rfl:i=0:=by omega
   simp (disch:=omega) only [go_sem,Ab,hni,hx,eq_self,if_true,zN,zL]
  ·have hi0:(i=0)=False:=by simp; omega
   simp (disch:=omega) only [go_sem,Ab,hni,hi0,if_false,ht2,hfu,her]
theorem SR (x:Fm) (ht:x.tame) (hn:x.nodes≤1099511627776):E 30 [x.sv] []=some (x.sv,[]) :=
 Vf x ht hn fun y hy=>SR y (Fm.Dv ht hy) (by have:=Fm.nodes_mem hy; have:=Fm.nodes_eq x; omega)
termination_by SizeOf.sizeOf x
decreasing_by exact Fm.lt_of_mem hy
theorem Tm.PN {x:Tm} (h:x.isZ=true):x=.mk ⟨#[]⟩ []:=by
 obtain ⟨n,a⟩:=x
 unfold Tm.isZ at h
 rw [zB] at h
 have h1:n=⟨#[]⟩:=Ap.1 h.1
 have h3:(a.length == 0)=true:=h.2
 have h2:a=[]:=zF (by simpa using h3)
 rw [h1,h2]
theorem Fm.IF {x:Fm} (h:x.form=true) (ho:x.op=3):x.parts=[]∧x.atom.atom=true∧x.var=⟨#[]⟩:=by
 unfold Fm.form at h
 simp only [ho] at h
 simp at h
 exact ⟨h.1.1,h.1.2,Ap.1 h.2⟩
theorem Fm.N9 {x:Fm} (h:x.form=true) (ho:¬ x.op=3):x.atom=.mk ⟨#[]⟩ []:=by
 unfold Fm.form at h
 split at h
 ·rw [zB,zB] at h; exact Tm.PN h.1.2
 ·try rw [if_neg ho] at h
  split at h
  ·rw [zB,zB] at h; exact Tm.PN h.1.2
  ·split at h
   ·rw [zB,zB] at h; exact Tm.PN h.1.2
   ·split at h
    ·rw [zB,zB] at h; exact Tm.PN h.1.2
    ·cases h
theorem Fm.Sh {x:Fm} (h:x.form=true) (ho:qB x.op=true):BI x.var=true∧∃ p,x.parts=[p]:=by
 unfold qB at ho
 rw [Bool.or_eq_true,Ap,Ap] at ho
 unfold Fm.form at h
 rw [if_neg (by omega),if_neg (by omega),if_neg (by omega),if_neg (by omega),if_pos (by omega),zB,zB] at h
 refine ⟨h.2,?_⟩
 have hl:x.parts.length=1:=by simpa using h.1.1
 match hq:x.parts,hl with
 | [p],_=>exact ⟨p,rfl⟩
theorem Fm.DS {x y:Fm} (h:x.forms=true) (hy:y∈x.parts):y.forms=true:=by
 rw [Fm.D2,zB,Fm.Lc,yN] at h
 exact h.2 y hy
theorem Fm.Fp {x:Fm} (h:x.forms=true):x.form=true:=by
 rw [Fm.D2,zB] at h
 exact h.1
theorem Fm.PO {x:Fm} (h:x.form=true):x.atom.nodes≤30:=by
 by_cases ho:x.op=3
 ·exact Tm.No (Fm.IF h ho).2.1
 ·rw [Fm.N9 h ho,Tm.nodes_eq]
  simp [Tm.args,Tm.nodeS]
theorem Fm.Fq (x:Fm) (h:x.forms=true):x.tame:=by
 have key:∀ xs:List Fm,(∀ y∈xs,y.tame)→Fm.F9 xs:=by
  intro xs
  induction xs with
  | nil=>intro _; rw [Fm.F9]; trivial
  | cons y ys ih=>intro hh; rw [Fm.F9]; exact ⟨hh y (by simp),ih fun z hz=>hh z (by simp [hz])⟩
 have h1:=Fm.PO (Fm.Fp h)
 rw [Fm.Hh]
 exact ⟨by omega,key _ fun y hy=>Fm.Fq y (Fm.DS h hy)⟩
termination_by SizeOf.sizeOf x
decreasing_by exact Fm.lt_of_mem hy
def Jt:SC:=(.seq (.reg [⟨some 1,none,.boxv 33 2 (.t 0)⟩,⟨(some 2),none,(.alloc 36 [(.int .i64 0),(.str ⟨#[]⟩),.nil,(.str ⟨#[]⟩),.nil])⟩]) (.seq (.reg [⟨some 3,none,.load true 2 (.t 1)⟩,⟨(some 4),none,(.build [(.int .i64 0),(.str ⟨#[]⟩),.nil,(.str ⟨#[]⟩),.nil] [(0,(1,(.c (.int .i64 3)))),(1,(2,(.t 3)))])⟩,⟨none,none,(.store 5 (.t 2) (.t 4))⟩]) .ret))
theorem Oj:Ao Tryz.prog 141=some ⟨5,Jt,[(.cell 2 true 5)]⟩:=by kernel_rfl
theorem Ge:modes 141=⟨[true],.own [none,none,some (33,2),none,some (36,5)],none,false⟩:=by unfold modes; rfl
theorem Vg (y:Tm):E 141 [y.osv] y.obs=some (.agg [.int .i64 3,.str y.name,.ref 0,.str ⟨#[]⟩,.ref 1],[.row 33 2 (y.args.map Tm.o),.row 36 5 []]):=by
 refine Ak Oj Ge (of_decide_eq_true rfl) ?_
 simp (disch:=omega) only [Jt,go_sem,Ab,Tm.osv,Tm.obs]
def Ej:SC:=(.seq (.reg [⟨some 2,none,.boxv 36 5 (.t 0)⟩,⟨some 3,none,.boxv 135 1 (.t 1)⟩,⟨(some 4),none,(.alloc 36 [(.int .i64 0),(.str ⟨#[]⟩),.nil,(.str ⟨#[]⟩),.nil])⟩]) (.seq (.seq (.reg [⟨some 5,none,.faddr 0 (.t 2)⟩,⟨some 6,none,.load false 1 (.t 5)⟩,⟨some 7,none,.bin .eql false (.t 6) (.c (.int .i64 3))⟩]) (.cond (.t 7) (.seq (.reg [⟨some 8,none,.faddr 1 (.t 2)⟩,⟨some 9,none,.load true 2 (.t 8)⟩,⟨some 10,none,.load false 1 (.t 3)⟩,⟨some 11,none,.call 142 [(.t 9),(.t 10)]⟩,⟨some 12,none,.call 141 [(.t 11)]⟩,⟨none,none,(.store 5 (.t 4) (.t 12))⟩]) .ret) .skip)) (.seq (.reg [⟨some 13,none,.load true 5 (.t 2)⟩,⟨some 14,none,.mkfn 143 [(.t 3)]⟩,⟨some 15,none,.call 96 [(.t 13),(.t 14)]⟩,⟨none,none,(.store 5 (.t 4) (.t 15))⟩]) .ret)))
theorem H3:Ao Tryz.prog 98=some ⟨16,Ej,[(.cell 4 true 5)]⟩:=by kernel_rfl
theorem Dl:modes 98=⟨[],.own [none,none,some (33,2),none,some (36,5)],none,false⟩:=by unfold modes; rfl
def FS:SC:=(.seq (.reg [⟨some 2,none,.boxv 36 5 (.t 0)⟩,⟨(some 3),none,(.alloc 36 [(.int .i64 0),(.str ⟨#[]⟩),.nil,(.str ⟨#[]⟩),.nil])⟩]) (.seq (.reg [⟨some 4,none,.load true 5 (.t 2)⟩,⟨some 5,none,.load false 1 (.t 1)⟩,⟨some 6,none,.call 98 [(.t 4),(.t 5)]⟩,⟨none,none,(.store 5 (.t 3) (.t 6))⟩]) .ret))
theorem K5:Ao Tryz.prog 143=some ⟨7,FS,[(.cell 3 true 5)]⟩:=by kernel_rfl
theorem Cc:modes 143=⟨[],.own [none,none,some (33,2),none,some (36,5)],none,false⟩:=by unfold modes; rfl
theorem K6:E3 Tryz.prog 143=true:=by kernel_rfl
def De:SC:=(.seq (.reg [⟨some 2,none,.boxv 36 5 (.t 0)⟩,⟨some 3,none,.boxv 70 7 (.t 1)⟩,⟨(some 4),none,(.alloc 36 [(.int .i64 0),(.str ⟨#[]⟩),.nil,(.str ⟨#[]⟩),.nil])⟩,⟨some 5,none,.mv (.c (.bool false))⟩]) (.seq (.seq (.reg [⟨some 11,none,.faddr 0 (.t 2)⟩,⟨some 12,none,.load false 1 (.t 11)⟩,⟨some 13,none,.bin .eql false (.t 12) (.c (.int .i64 3))⟩,⟨some 14,none,.mv (.t 13)⟩,⟨(some 15),(some (14,true)),(.faddr 1 (.t 2))⟩,⟨(some 16),(some (14,true)),(.faddr 0 (.t 15))⟩,⟨(some 17),(some (14,true)),(.load false 1 (.t 16))⟩,⟨(some 18),(some (14,true)),(.faddr 0 (.t 3))⟩,⟨(some 19),(some (14,true)),(.load false 1 (.t 18))⟩,⟨(some 20),(some (14,true)),(.bin .eql false (.t 17) (.t 19))⟩,⟨some 21,none,.pick (.t 14) (.t 20) (.c (.bool false))⟩]) (.cond (.t 21) (.seq (.seq (.reg [⟨some 22,none,.faddr 1 (.t 2)⟩,⟨some 23,none,.faddr 1 (.t 22)⟩,⟨some 24,none,.load false 1 (.t 23)⟩,⟨some 25,none,.len false (.t 24)⟩,⟨some 26,none,.faddr 1 (.t 3)⟩,⟨some 27,none,.load false 1 (.t 26)⟩,⟨some 28,none,.len false (.t 27)⟩,⟨some 29,none,.bin .neq false (.t 25) (.t 28)⟩]) (.cond (.t 29) (.seq (.reg [⟨(some 30),none,(.build [(.int .i64 0),(.str ⟨#[]⟩),.nil,(.str ⟨#[]⟩),.nil] [])⟩,⟨none,none,(.store 5 (.t 4) (.t 30))⟩,⟨some 5,none,.mv (.c (.bool false))⟩]) .ret) .skip)) (.seq (.reg [⟨some 31,none,.mkmap true none⟩,⟨some 6,none,.mv (.t 31)⟩]) (.seq (.seq (.reg [⟨some 32,none,.faddr 1 (.t 3)⟩,⟨some 33,none,.load false 1 (.t 32)⟩,⟨some 34,none,.len false (.t 33)⟩,⟨some 35,none,.mv (.c (.int .i64 0))⟩]) (.block 0 (.loop [0,0,1,1,1,0,1,0,0,0,0,0,0,0,0,0,0,0,0,0,0,0,0,0,0,0,0,0,0,0,0,0,0,1,1,1,0,0,0,0,0,0,0,0,0,0,0,0,0,0,0,0,0,0,0,0,0,0] (.seq (.reg [⟨some 36,none,.bin .lss false (.t 35) (.t 34)⟩]) (.seq (.cond (.t 36) .skip (.exit 0)) (.seq (.block 1 (.seq (.reg [⟨some 37,none,.mv (.t 35)⟩,⟨some 38,none,.iaddr 1 (.t 33) (.t 35)⟩,⟨some 39,none,.load false 1 (.t 38)⟩,⟨some 7,none,.mv (.t 37)⟩,⟨some 8,none,.mv (.t 39)⟩]) (.reg [⟨some 40,none,.mv (.t 6)⟩,⟨some 41,none,.mv (.t 8)⟩,⟨some 42,none,.faddr 1 (.t 2)⟩,⟨some 43,none,.faddr 1 (.t 42)⟩,⟨some 44,none,.load false 1 (.t 43)⟩,⟨some 45,none,.mv (.t 7)⟩,⟨some 46,none,.iaddr 2 (.t 44) (.t 45)⟩,⟨some 47,none,.load true 2 (.t 46)⟩,⟨none,none,(.mset true (.t 40) (.t 41) (.t 47))⟩]))) (.reg [⟨some 48,none,.bin .add false (.t 35) (.c (.int .i64 1))⟩,⟨some 35,none,.mv (.t 48)⟩]))))))) (.seq (.reg [⟨some 49,none,.faddr 2 (.t 3)⟩,⟨some 50,none,.load true 5 (.t 49)⟩,⟨some 51,none,.mv (.t 6)⟩,⟨some 52,none,.call 98 [(.t 50),(.t 51)]⟩,⟨none,none,(.store 5 (.t 4) (.t 52))⟩,⟨some 5,none,.mv (.c (.bool true))⟩]) .ret)))) .skip)) (.seq (.reg [⟨some 9,none,.alloc 4 [(.bool false)]⟩,⟨none,none,(.store 1 (.t 9) (.c (.bool true)))⟩]) (.seq (.reg [⟨some 53,none,.load true 5 (.t 2)⟩,⟨some 54,none,.mkfn 99 [(.t 3),(.t 9)]⟩,⟨some 55,none,.call 96 [(.t 53),(.t 54)]⟩,⟨(some 10),none,(.alloc 36 [(.int .i64 0),(.str ⟨#[]⟩),.nil,(.str ⟨#[]⟩),.nil])⟩,⟨none,none,(.store 5 (.t 10) (.t 55))⟩]) (.seq (.dreg [[],[],[0],[1,2,0]] [⟨some 56,none,.load true 5 (.t 10)⟩,⟨some 57,none,.load false 1 (.t 9)⟩,⟨none,none,(.store 5 (.t 4) (.t 56))⟩,⟨some 5,none,.mv (.t 57)⟩]) .ret)))))
theorem DY:Ao Tryz.prog 43=some ⟨58,De,[(.cell 4 true 5),(.tmp 5)]⟩:=by kernel_rfl
theorem BB:modes 43=⟨[],.own [none,none,some (33,2),none,some (36,5),none],none,false⟩:=by unfold modes; rfl
def Ek:SC:=(.seq (.reg [⟨some 3,none,.boxv 36 5 (.t 0)⟩,⟨(some 4),none,(.alloc 36 [(.int .i64 0),(.str ⟨#[]⟩),.nil,(.str ⟨#[]⟩),.nil])⟩]) (.seq (.reg [⟨some 8,none,.load true 5 (.t 3)⟩,⟨some 9,none,.load true 7 (.t 1)⟩,⟨some 10,none,.call 43 [(.t 8),(.t 9)]⟩,⟨some 7,none,.mv (.t 10)⟩,⟨some 11,none,.ext (.t 7) 0⟩,⟨some 12,none,.ext (.t 7) 1⟩,⟨(some 5),none,(.alloc 36 [(.int .i64 0),(.str ⟨#[]⟩),.nil,(.str ⟨#[]⟩),.nil])⟩,⟨none,none,(.store 5 (.t 5) (.t 11))⟩,⟨some 6,none,.mv (.t 12)⟩]) (.seq (.reg [⟨some 13,none,.load false 1 (.t 2)⟩,⟨some 14,none,.mv (.t 13)⟩,⟨(some 15),(some (14,true)),(.mv (.t 6))⟩,⟨some 16,none,.pick (.t 14) (.t 15) (.c (.bool false))⟩,⟨none,none,(.store 1 (.t 2) (.t 16))⟩]) (.seq (.reg [⟨some 17,none,.load true 5 (.t 5)⟩,⟨none,none,(.store 5 (.t 4) (.t 17))⟩]) .ret))))
theorem H4:Ao Tryz.prog 99=some ⟨18,Ek,[(.cell 4 true 5)]⟩:=by kernel_rfl
theorem BZ:modes 99=⟨[],.own [none,none,some (33,2),none,some (36,5)],none,false⟩:=by unfold modes; rfl
theorem Md:E3 Tryz.prog 99=true:=by kernel_rfl
theorem PP (fid:Nat) (m:MF) (g:Fm→Fm) (x:Fm) (hl:x.parts.length≤1099511627776) (hat:x.atom.nodes≤1099511627776) (hg:E3 Tryz.prog fid=true) (hm:(modes fid).hand=[]) (hr:∀ r,El (modes fid).res r=r)
  (hE:∀ y∈x.parts,E fid [y.sv,.ptr 0 0] [.box 135 [.mp true m]]=some (.agg [.int .i64 (g y).op,.str (g y).atom.name,.ref 1,.str (g y).var,.ref 2],[.box 135 [.mp true m],.row 33 2 ((g y).atom.args.map Tm.o),.row 36 5 ((g y).parts.map Fm.o)])) :
  E 96 [x.sv,.fn fid [.ptr 0 0]] [.box 135 [.mp true m]]=some (.agg [.int .i64 x.op,.str x.atom.name,.ref 1,.str x.var,.ref 2],[.box 135 [.mp true m],.row 33 2 (x.atom.args.map Tm.o),.row 36 5 ((x.parts.map g).map Fm.o)]):=by
 have hct:=Fc x.atom hat
 have h10:((1:Int)=0)=False:=by simp
 have hmm:∀ ys:List Fm,(ys.map g).map Fm.o=ys.map fun y=>Fm.o (g y):=fun ys=>by rw [yG]; rfl
 rw [hmm]
 refine Ak Ei B4 (of_decide_eq_true rfl) ?_
 simp (disch:=omega) only [Dk,go_sem,Ab,hct,BY,Tm.osv,Tm.obs]
 refine go_loop (α:=Int) (fun a=>⟨slots 33 0 [(1,.fn fid [.ptr 0 0]),(4,.ptr 1 0),(5,.ptr 2 0),(17,.arr (x.parts.map Fm.d)),(18,.int .i64 x.parts.length),(19,.int .i64 a)],(if a=0 then [.box 135 [.mp true m],.box 36 [.int .i64 0,.str ⟨#[]⟩,.nil,.str ⟨#[]⟩,.nil],.box 36 [.int .i64 x.op,.str x.atom.name,.ref 3,.str x.var,.nil],.row 33 2 (x.atom.args.map Tm.o)] else [.box 135 [.mp true m],.box 36 [.int .i64 0,.str ⟨#[]⟩,.nil,.str ⟨#[]⟩,.nil],.box 36 [.int .i64 x.op,.str x.atom.name,.ref 3,.str x.var,.ref 4],.row 33 2 (x.atom.args.map Tm.o),.row 36 5 ((x.parts.take a.toNat).map fun y=>Fm.o (g y))])⟩) (fun a=>∃ k:Nat,a=k∧k≤(x.parts).length) (fun a=>(x.parts).length-(a).toNat) 0 ⟨0,rfl,zO _⟩ (by simp (disch:=omega) only [go_sem,Ab,eq_self,if_true]) ?_
 rintro i ⟨k,hi,hk⟩
 have hni:i.toNat=k:=by omega
 have hni1:(i+1).toNat=k+1:=by omega
 rcases zH k (x.parts).length with hlt | hge
 ·have hgt:=get_at Fm.d hlt
  rw [Fm.d_eq] at hgt
  have hc:=hE x.parts[k] (zI hlt)
  have hs:=CH (fun y=>Fm.o (g y)) hlt
  rw [Fm.o_eq] at hs
  rcases zD k with h0 | h0
  ·subst h0
   obtain rfl:i=0:=hi
   rw [z9,zN,zK] at hs
   simp (disch:=omega) only [go_sem,Ab,hni,hgt,hc,hg,hm,hr,eq_self,if_true]
   refine ⟨1,⟨1,rfl,hlt⟩,by omega,?_⟩
   simp (disch:=omega) only [go_sem,Ab,h10,if_false,hs]
  ·have hi0:(i=0)=False:=by simp; omega
   have hi1:(i+1=0)=False:=by simp; omega
   have htl:(x.parts.take k).length=k:=by rw [zX]; omega
   simp (disch:=omega) only [go_sem,Ab,hni,hgt,hc,hg,hm,hr,hi0,if_false,htl]
   refine ⟨i+1,⟨k+1,by omega,hlt⟩,by omega,?_⟩
   simp (disch:=omega) only [go_sem,Ab,hni1,hi1,if_false,hs]
 ·obtain rfl:k=x.parts.length:=by omega
  have ht:x.parts.take x.parts.length=x.parts:=zY
  rcases zD x.parts.length with h0 | h0
  ·have hx:x.parts=[]:=zF h0
   obtain rfl:i=0:=by omega
   simp (disch:=omega) only [go_sem,Ab,hni,hx,eq_self,if_true,zN,zL]
  ·have hi0:(i=0)=False:=by simp; omega
   simp (disch:=omega) only [go_sem,Ab,hni,hi0,if_false,ht]
abbrev InC (e:TEnv) (x:Fm):Prop:=E 98 [x.sv,.mp true (Fb e)] []=some ((x.inst e).osv,(x.inst e).obs)
theorem W5 (e:TEnv) (x:Fm) (h:InC e x):E 143 [x.sv,.ptr 0 0] [.box 135 [.mp true (Fb e)]]=some (.agg [.int .i64 (x.inst e).op,.str (x.inst e).atom.name,.ref 1,.str (x.inst e).var,.ref 2],[.box 135 [.mp true (Fb e)],.row 33 2 ((x.inst e).atom.args.map Tm.o),.row 36 5 ((x.inst e).parts.map Fm.o)]):=by
 unfold InC at h
 generalize x.inst e=y at *
 refine Ak K5 Cc (of_decide_eq_true rfl) ?_
 simp (disch:=omega) only [FS,go_sem,Ab,h,Dl]
theorem W6 (e:TEnv) (m:Nat) (hm:m≤1099511627776) (he:TB m e) (x:Fm) (hta:x.atom.nodes≤1099511627776) (hpl:x.parts.length≤1099511627776) (ih:∀ y∈x.parts,InC e y):InC e x:=by
 have hr:=Jn e m hm he x.atom hta
 have hat:=Vg (x.atom.rv e)
 have hmp:=PP 143 (Fb e) (fun y=>y.inst e) x hpl hta K6 (by rw [Cc]) (fun r=>by rw [Cc]; rfl) (fun y hy=>W5 e y (ih y hy))
 have hxs:x.sv=.agg [.int .i64 x.op,.str x.atom.name,.arr (x.atom.args.map Tm.d),.str x.var,.arr (x.parts.map Fm.d)]:=rfl
 have hi:=Fm.Mo e x
 unfold InC
 unfold RvC at hr
 cases ho:dec (x.op=3) with
 | true =>
  rw [ho,cond_true] at hi
  rw [hi]
  generalize x.atom.rv e=z at *
  have e1:(Fm.mk 3 z ⟨#[]⟩ []).osv=.agg [.int .i64 3,.str z.name,.ref 0,.str ⟨#[]⟩,.ref 1]:=rfl
  have e2:(Fm.mk 3 z ⟨#[]⟩ []).obs=[.row 33 2 (z.args.map Tm.o),.row 36 5 []]:=rfl
  rw [e1,e2]
  refine Ak H3 Dl (of_decide_eq_true rfl) ?_
  simp (disch:=omega) only [Ej,go_sem,Ab,ho,hr,hat,hmp,AR,Ge,Cc,B4,Tm.osv,Tm.obs,Fm.osv,Fm.obs]
 | false =>
  rw [ho,cond_false] at hi
  rw [hi]
  have e3:(x.parts.map fun y=>y.inst e)=x.parts.map (Fm.inst e):=rfl
  rw [e3] at hmp
  generalize x.parts.map (Fm.inst e)=ps at *
  have e1:(Fm.mk x.op x.atom x.var ps).osv=.agg [.int .i64 x.op,.str x.atom.name,.ref 0,.str x.var,.ref 1]:=rfl
  have e2:(Fm.mk x.op x.atom x.var ps).obs=[.row 33 2 (x.atom.args.map Tm.o),.row 36 5 (ps.map Fm.o)]:=rfl
  rw [e1,e2]
  refine Ak H3 Dl (of_decide_eq_true rfl) ?_
  simp (disch:=omega) only [Ej,go_sem,Ab,ho,hr,hat,hmp,AR,Ge,Cc,B4,Tm.osv,Tm.obs,Fm.osv,Fm.obs]
theorem Vh (e:TEnv) (m:Nat) (hm:m≤1099511627776) (he:TB m e) (x:Fm) (hta:x.tame) (hn:x.nodes≤1099511627776):InC e x :=
 W6 e m hm he x (by rw [Fm.Hh] at hta; exact hta.1) (by have:=Fm.length_le x.parts; have:=Fm.nodes_eq x; omega) fun y hy=>Vh e m hm he y (Fm.Dv hta hy) (by have:=Fm.nodes_mem hy; have:=Fm.nodes_eq x; omega)
termination_by SizeOf.sizeOf x
decreasing_by exact Fm.lt_of_mem hy
structure Df.fine (d:Df):Prop where
 vars:varsUp d.vars
 len:d.vars.length≤1099511627776
 tame:d.form.tame
 nodes:d.form.nodes≤1099511627776
theorem PQ (fid:Nat) (d:Df) (g:Fm→Fm) (ok:Fm→Bool) (x:Fm) (b0:Bool) (hl:x.parts.length≤1099511627776) (hat:x.atom.nodes≤1099511627776) (hg:E3 Tryz.prog fid=true) (hm:(modes fid).hand=[]) (hr:∀ r,El (modes fid).res r=r)
  (hE:∀ y∈x.parts,∀ b,E fid [y.sv,.ptr 0 0,.ptr 1 0] [.box 70 [.str d.name,.arr (d.vars.map fun s=>[D.str s]),.int .i64 d.form.op,.str d.form.atom.name,.arr (d.form.atom.args.map Tm.d),.str d.form.var,.arr (d.form.parts.map Fm.d)],.box 4 [.bool b]]=some (.agg [.int .i64 (g y).op,.str (g y).atom.name,.ref 2,.str (g y).var,.ref 3],[.box 70 [.str d.name,.arr (d.vars.map fun s=>[D.str s]),.int .i64 d.form.op,.str d.form.atom.name,.arr (d.form.atom.args.map Tm.d),.str d.form.var,.arr (d.form.parts.map Fm.d)],.box 4 [.bool (b&&ok y)],.row 33 2 ((g y).atom.args.map Tm.o),.row 36 5 ((g y).parts.map Fm.o)])) :
  E 96 [x.sv,.fn fid [.ptr 0 0,.ptr 1 0]] [.box 70 [.str d.name,.arr (d.vars.map fun s=>[D.str s]),.int .i64 d.form.op,.str d.form.atom.name,.arr (d.form.atom.args.map Tm.d),.str d.form.var,.arr (d.form.parts.map Fm.d)],.box 4 [.bool b0]]=some (.agg [.int .i64 x.op,.str x.atom.name,.ref 2,.str x.var,.ref 3],[.box 70 [.str d.name,.arr (d.vars.map fun s=>[D.str s]),.int .i64 d.form.op,.str d.form.atom.name,.arr (d.form.atom.args.map Tm.d),.str d.form.var,.arr (d.form.parts.map Fm.d)],.box 4 [.bool (b0&&x.parts.all ok)],.row 33 2 (x.atom.args.map Tm.o),.row 36 5 ((x.parts.map g).map Fm.o)]):=by
 have hct:=Fc x.atom hat
 have h10:((1:Int)=0)=False:=by simp
 have hmm:∀ ys:List Fm,(ys.map g).map Fm.o=ys.map fun y=>Fm.o (g y):=fun ys=>by rw [yG]; rfl
 rw [hmm]
 refine Ak Ei B4 (of_decide_eq_true rfl) ?_
 simp (disch:=omega) only [Dk,go_sem,Ab,hct,BY,Tm.osv,Tm.obs]
 refine go_loop (α:=Int × (Bool)) (fun a=>⟨slots 33 0 [(1,.fn fid [.ptr 0 0,.ptr 1 0]),(4,.ptr 2 0),(5,.ptr 3 0),(17,.arr (x.parts.map Fm.d)),(18,.int .i64 x.parts.length),(19,.int .i64 (a.1))],(if (a.1)=0 then [.box 70 [.str d.name,.arr (d.vars.map fun s=>[D.str s]),.int .i64 d.form.op,.str d.form.atom.name,.arr (d.form.atom.args.map Tm.d),.str d.form.var,.arr (d.form.parts.map Fm.d)],.box 4 [.bool (a.2)],.box 36 [.int .i64 0,.str ⟨#[]⟩,.nil,.str ⟨#[]⟩,.nil],.box 36 [.int .i64 x.op,.str x.atom.name,.ref 4,.str x.var,.nil],.row 33 2 (x.atom.args.map Tm.o)] else [.box 70 [.str d.name,.arr (d.vars.map fun s=>[D.str s]),.int .i64 d.form.op,.str d.form.atom.name,.arr (d.form.atom.args.map Tm.d),.str d.form.var,.arr (d.form.parts.map Fm.d)],.box 4 [.bool (a.2)],.box 36 [.int .i64 0,.str ⟨#[]⟩,.nil,.str ⟨#[]⟩,.nil],.box 36 [.int .i64 x.op,.str x.atom.name,.ref 4,.str x.var,.ref 5],.row 33 2 (x.atom.args.map Tm.o),.row 36 5 ((x.parts.take (a.1).toNat).map fun y=>Fm.o (g y))])⟩) (fun a=>∃ k:Nat,a.1=k∧k≤(x.parts).length∧((a.2)&&(x.parts.drop k).all ok)=(b0&&x.parts.all ok)) (fun a=>(x.parts).length-(a.1).toNat) (0,b0) ⟨0,rfl,zO _,by rw [zU]⟩ (by simp (disch:=omega) only [go_sem,Ab,eq_self,if_true]) ?_
 rintro ⟨i,b⟩ ⟨k,hi,hk,hR⟩
 dsimp only at hi hR
 have hni:i.toNat=k:=by omega
 have hni1:(i+1).toNat=k+1:=by omega
 rcases zH k (x.parts).length with hlt | hge
 ·have hgt:=get_at Fm.d hlt
  rw [Fm.d_eq] at hgt
  have hc:=hE x.parts[k] (zI hlt) b
  have hs:=CH (fun y=>Fm.o (g y)) hlt
  rw [Fm.o_eq] at hs
  rw [zJ hlt,yT] at hR
  have hR':((b&&ok x.parts[k])&&(x.parts.drop (k+1)).all ok)=(b0&&x.parts.all ok):=by rw [←hR,Bool.and_assoc]
  rcases zD k with h0 | h0
  ·subst h0
   obtain rfl:i=0:=hi
   rw [z9,zN,zK] at hs
   simp (disch:=omega) only [go_sem,Ab,hni,hgt,hc,hg,hm,hr,eq_self,if_true]
   refine ⟨(1,b&&ok x.parts[0]),⟨1,rfl,hlt,hR'⟩,by dsimp only; omega,?_⟩
   simp (disch:=omega) only [go_sem,Ab,h10,if_false,hs]
  ·have hi0:(i=0)=False:=by simp; omega
   have hi1:(i+1=0)=False:=by simp; omega
   have htl:(x.parts.take k).length=k:=by rw [zX]; omega
   simp (disch:=omega) only [go_sem,Ab,hni,hgt,hc,hg,hm,hr,hi0,if_false,htl]
   refine ⟨(i+1,b&&ok x.parts[k]),⟨k+1,by dsimp only; omega,hlt,hR'⟩,by dsimp only; omega,?_⟩
   simp (disch:=omega) only [go_sem,Ab,hni1,hi1,if_false,hs]
 ·obtain rfl:k=x.parts.length:=by omega
  have ht:x.parts.take x.parts.length=x.parts:=zY
  rw [zM hge,List.all_nil,yI] at hR
  rw [←hR]
  rcases zD x.parts.length with h0 | h0
  ·have hx:x.parts=[]:=zF h0
   obtain rfl:i=0:=by omega
   simp (disch:=omega) only [go_sem,Ab,hni,hx,eq_self,if_true,zN,zL]
  ·have hi0:(i=0)=False:=by simp; omega
   simp (disch:=omega) only [go_sem,Ab,hni,hi0,if_false,ht]
abbrev UfC (d:Df) (x:Fm):Prop:=E 43 [x.sv,d.sv] []=some (.tup [(x.unfV d).osv,.bool (x.unfB d)],(x.unfV d).obs)
theorem XI (d:Df) (x:Fm) (h:UfC d x) (b:Bool):E 99 [x.sv,.ptr 0 0,.ptr 1 0] [.box 70 [.str d.name,.arr (d.vars.map fun s=>[D.str s]),.int .i64 d.form.op,.str d.form.atom.name,.arr (d.form.atom.args.map Tm.d),.str d.form.var,.arr (d.form.parts.map Fm.d)],.box 4 [.bool b]]=some (.agg [.int .i64 (x.unfV d).op,.str (x.unfV d).atom.name,.ref 2,.str (x.unfV d).var,.ref 3],[.box 70 [.str d.name,.arr (d.vars.map fun s=>[D.str s]),.int .i64 d.form.op,.str d.form.atom.name,.arr (d.form.atom.args.map Tm.d),.str d.form.var,.arr (d.form.parts.map Fm.d)],.box 4 [.bool (b&&x.unfB d)],.row 33 2 ((x.unfV d).atom.args.map Tm.o),.row 36 5 ((x.unfV d).parts.map Fm.o)]):=by
 unfold UfC at h
 generalize x.unfV d=y at *
 generalize x.unfB d=ok at *
 cases b with
 | true =>
  rw [zE]
  refine Ak H4 BZ (of_decide_eq_true rfl) ?_
  simp (disch:=omega) only [Ek,go_sem,Ab,h,BB]
 | false =>
  rw [zA]
  refine Ak H4 BZ (of_decide_eq_true rfl) ?_
  simp (disch:=omega) only [Ek,go_sem,Ab,h,BB]
theorem TI (d:Df) (hd:d.fine) (x:Fm) (hx:x.forms=true) (hta:x.tame) (hn:x.nodes≤1099511627776) (ih:∀ y∈x.parts,UfC d y):UfC d x:=by
 have hpl:x.parts.length≤1099511627776:=by have:=Fm.length_le x.parts; have:=Fm.nodes_eq x; omega
 have hat:x.atom.nodes≤1099511627776:=by rw [Fm.Hh] at hta; exact hta.1
 have hargs:=Tm.length_le x.atom.args
 have hana:=Tm.nodes_eq x.atom
 have hmp:=PQ 99 d (fun y=>y.unfV d) (fun y=>y.unfB d) x true hpl hat Md (by rw [BZ]) (fun r=>by rw [BZ]; rfl) (fun y hy b=>XI d y (ih y hy) b)
 rw [zE] at hmp
 have hxs:x.sv=.agg [.int .i64 x.op,.str x.atom.name,.arr (x.atom.args.map Tm.d),.str x.var,.arr (x.parts.map Fm.d)]:=rfl
 have hds:d.sv=.agg [.str d.name,.arr (d.vars.map fun s=>[D.str s]),.int .i64 d.form.op,.str d.form.atom.name,.arr (d.form.atom.args.map Tm.d),.str d.form.var,.arr (d.form.parts.map Fm.d)]:=rfl
 have hz1:Fm.zero.osv=.agg [.int .i64 0,.str ⟨#[]⟩,.ref 0,.str ⟨#[]⟩,.ref 1]:=rfl
 have hz2:Fm.zero.obs=[.row 33 2 [],.row 36 5 []]:=rfl
 have hV:=Fm.K2 d x
 have hB:=Fm.PL d x
 unfold UfC
 rw [hxs,hds]
 have ho3:dec (x.op=3)=true∨dec (x.op=3)=false:=by cases dec (x.op=3) <;> simp
 cases h3:dec (x.op=3) with
 | false =>
  rw [h3,zA,cond_false] at hV hB
  rw [hV,hB]
  have e3:(x.parts.map fun y=>y.unfV d)=x.parts.map (Fm.unfV d):=rfl
  have e4:(x.parts.all fun y=>y.unfB d)=x.parts.all (Fm.unfB d):=rfl
  rw [e3,e4] at hmp
  generalize x.parts.map (Fm.unfV d)=ps at *
  generalize x.parts.all (Fm.unfB d)=okb at *
  have e1:(Fm.mk x.op x.atom x.var ps).osv=.agg [.int .i64 x.op,.str x.atom.name,.ref 0,.str x.var,.ref 1]:=rfl
  have e2:(Fm.mk x.op x.atom x.var ps).obs=[.row 33 2 (x.atom.args.map Tm.o),.row 36 5 (ps.map Fm.o)]:=rfl
  rw [e1,e2]
  refine Ak DY BB (of_decide_eq_true rfl) ?_
  simp (disch:=omega) only [De,go_sem,Ab,h3,hmp,BZ,B4,Fm.osv,Fm.obs]
 | true =>
 cases h4:dec (x.atom.name=d.name) with
 | false =>
  rw [h3,h4,yF,cond_false] at hV hB
  rw [hV,hB]
  have e3:(x.parts.map fun y=>y.unfV d)=x.parts.map (Fm.unfV d):=rfl
  have e4:(x.parts.all fun y=>y.unfB d)=x.parts.all (Fm.unfB d):=rfl
  rw [e3,e4] at hmp
  generalize x.parts.map (Fm.unfV d)=ps at *
  generalize x.parts.all (Fm.unfB d)=okb at *
  have e1:(Fm.mk x.op x.atom x.var ps).osv=.agg [.int .i64 x.op,.str x.atom.name,.ref 0,.str x.var,.ref 1]:=rfl
  have e2:(Fm.mk x.op x.atom x.var ps).obs=[.row 33 2 (x.atom.args.map Tm.o),.row 36 5 (ps.map Fm.o)]:=rfl
  rw [e1,e2]
  refine Ak DY BB (of_decide_eq_true rfl) ?_
  simp (disch:=omega) only [De,go_sem,Ab,h3,h4,hmp,BZ,B4,Fm.osv,Fm.obs]
 | true =>
 rw [h3,h4,yS,cond_true] at hV hB
 by_cases h5:x.atom.args.length=d.vars.length
 rotate_left
 ·rw [An h5,cond_false] at hV
  rw [An h5] at hB
  rw [hV,hB,hz1,hz2]
  have q5:((x.atom.args.length:Int)=(d.vars.length:Int))=False:=eq_false (by omega)
  refine Ak DY BB (of_decide_eq_true rfl) ?_
  simp (disch:=omega) only [De,go_sem,Ab,h3,h4,q5]
 ·rw [A6 h5,cond_true] at hV
  rw [A6 h5] at hB
  rw [hV,hB]
  have q5:((x.atom.args.length:Int)=(d.vars.length:Int))=True:=eq_true (by omega)
  have hlen:=hd.len
  have he:=fun k (hk:k≤d.vars.length)=>Mn hd.vars (ts:=x.atom.args) (m:=1099511627776) (fun a ha=>by have:=Tm.nodes_mem ha; omega) (by omega) k hk
  have hin:=Vh (G1 d.vars x.atom.args d.vars.length) 1099511627776 (yA _) (he _ (yA _)) d.form hd.tame hd.nodes
  unfold InC at hin
  have hfs:d.form.sv=.agg [.int .i64 d.form.op,.str d.form.atom.name,.arr (d.form.atom.args.map Tm.d),.str d.form.var,.arr (d.form.parts.map Fm.d)]:=rfl
  have e0:nomap=Fb (G1 d.vars x.atom.args 0):=RY.symm
  refine Ak DY BB (of_decide_eq_true rfl) ?_
  simp (disch:=omega) only [De,go_sem,Ab,h3,h4,q5,e0]
  refine go_loop (α:=Int) (fun a=>⟨slots 58 0 [(2,.ptr 0 0),(3,.ptr 1 0),(4,.ptr 2 0),(6,.ref 3),(33,.arr (d.vars.map fun s=>[D.str s])),(34,.int .i64 d.vars.length),(35,.int .i64 a)],[.box 36 [.int .i64 x.op,.str x.atom.name,.arr (x.atom.args.map Tm.d),.str x.var,.arr (x.parts.map Fm.d)],.box 70 [.str d.name,.arr (d.vars.map fun s=>[D.str s]),.int .i64 d.form.op,.str d.form.atom.name,.arr (d.form.atom.args.map Tm.d),.str d.form.var,.arr (d.form.parts.map Fm.d)],.box 36 [.int .i64 0,.str ⟨#[]⟩,.nil,.str ⟨#[]⟩,.nil],.mp true (Fb (G1 d.vars x.atom.args a.toNat))]⟩) (fun a=>∃ k:Nat,a=k∧k≤(d.vars).length) (fun a=>(d.vars).length-(a).toNat) 0 ⟨0,rfl,zO _⟩ (by simp (disch:=omega) only [go_sem,Ab,Int.toNat_zero]) ?_
  rintro i ⟨k,hi,hk⟩
  have hni:i.toNat=k:=by omega
  have hni1:(i+1).toNat=k+1:=by omega
  rcases zH k (d.vars).length with hlt | hge
  ·have hg1:(d.vars.map fun s=>[D.str s])[k]?=some [D.str (d.vars.getD k ⟨#[]⟩)]:=by
    rw [z5,zC hlt,zG,zC hlt]; rfl
   have hka:k<x.atom.args.length:=by omega
   have hg2:(x.atom.args.map Tm.d)[k]?=some (Tm.d (x.atom.args.getD k Tm.zero)):=by
    rw [z5,zC hka,zG,zC hka]; rfl
   rw [Tm.d_eq] at hg2
   have hpt:=TE (G1 d.vars x.atom.args k) (d.vars.getD k ⟨#[]⟩) (x.atom.args.getD k Tm.zero)
   have hb2:(k:Int)<((x.atom.args.map Tm.d).length:Int):=by rw [zV]; omega
   obtain rfl:i=k:=hi
   simp (disch:=omega) only [go_sem,Ab,hg1,hg2,hpt]
   refine ⟨(k:Int)+1,⟨k+1,by omega,hlt⟩,by omega,?_⟩
   have hn1:((k:Int)+1).toNat=k+1:=by omega
   simp (disch:=omega) only [go_sem,Ab,hn1,G1]
  ·obtain rfl:k=d.vars.length:=by omega
   generalize d.form.inst (G1 d.vars x.atom.args d.vars.length)=y at *
   simp (disch:=omega) only [go_sem,Ab,hni,hin,Dl,Fm.osv,Fm.obs]
theorem Rg (d:Df) (hd:d.fine) (x:Fm) (hx:x.forms=true) (hta:x.tame) (hn:x.nodes≤1099511627776):UfC d x :=
 TI d hd x hx hta hn fun y hy=>Rg d hd y (Fm.DS hx hy) (Fm.Dv hta hy) (by have:=Fm.nodes_mem hy; have:=Fm.nodes_eq x; omega)
termination_by SizeOf.sizeOf x
decreasing_by exact Fm.lt_of_mem hy
theorem Fm.Vi:∀ xs:List Fm,(∀ x∈xs,x.vn≤30*x.nodes)→Fm.vnS xs≤30*Fm.nodeS xs
 | [],_=>by simp [Fm.vnS]
 | x :: xs,h=>by
  have h1:=h x (by simp)
  have h2:=Fm.Vi xs fun y hy=>h y (by simp [hy])
  rw [Fm.vnS,Fm.nodeS]; omega
theorem Fm.Vj (x:Fm) (h:x.forms=true):x.vn≤30*x.nodes:=by
 have h1:=Fm.Vi x.parts fun y hy=>Fm.Vj y (Fm.DS h hy)
 have h2:=Fm.PO (Fm.Fp h)
 rw [Fm.HV,Fm.nodes_eq]; omega
termination_by SizeOf.sizeOf x
decreasing_by exact Fm.lt_of_mem hy
def Fs:SC:=(.seq (.reg [⟨some 2,none,.boxv 36 5 (.t 0)⟩,⟨some 3,none,.boxv 124 1 (.t 1)⟩,⟨(some 4),none,(.alloc 36 [(.int .i64 0),(.str ⟨#[]⟩),.nil,(.str ⟨#[]⟩),.nil])⟩]) (.seq (.reg [⟨some 7,none,.faddr 0 (.t 2)⟩,⟨some 8,none,.load false 1 (.t 7)⟩,⟨(some 9),none,(.build [(.int .i64 0),(.str ⟨#[]⟩),.nil,(.str ⟨#[]⟩),.nil] [(0,(1,(.t 8)))])⟩,⟨(some 5),none,(.alloc 36 [(.int .i64 0),(.str ⟨#[]⟩),.nil,(.str ⟨#[]⟩),.nil])⟩,⟨none,none,(.store 5 (.t 5) (.t 9))⟩]) (.seq (.seq (.reg [⟨some 10,none,.faddr 0 (.t 2)⟩,⟨some 11,none,.load false 1 (.t 10)⟩,⟨some 12,none,.bin .eql false (.t 11) (.c (.int .i64 3))⟩]) (.cond (.t 12) (.reg [⟨some 13,none,.load true 1 (.t 3)⟩,⟨some 14,none,.faddr 1 (.t 2)⟩,⟨some 15,none,.load true 2 (.t 14)⟩,⟨some 16,none,.call 126 [(.t 13),(.t 15)]⟩,⟨some 17,none,.faddr 1 (.t 5)⟩,⟨none,none,(.store 2 (.t 17) (.t 16))⟩]) .skip)) (.seq (.seq (.reg [⟨some 6,none,.mv (.c (.int .i64 0))⟩]) (.block 0 (.loop [0,0,1,1,1,1,1,0,0,0,0,0,0,0,0,0,0,0,0,0,0,0,0,0,0,0,0,0,0,0,0,0,0,0,0,0,0,0] (.seq (.seq (.reg [⟨some 18,none,.mv (.t 6)⟩,⟨some 19,none,.faddr 4 (.t 2)⟩,⟨some 20,none,.load false 1 (.t 19)⟩,⟨some 21,none,.len false (.t 20)⟩,⟨some 22,none,.bin .lss false (.t 18) (.t 21)⟩]) (.cond (.t 22) .skip (.exit 0))) (.seq (.block 1 (.dreg [[],[0],[],[2],[],[3,2,4],[5,3,2,4],[],[6,5,3,2,4,7],[8,6,5,3,2,4,7],[1,0,9,8,6,5,3,2,4,7],[0,1,2,3,4,5,6,7,8,9,10],[11,0,1,2,3,4,5,6,7,8,9,10]] [⟨some 25,none,.faddr 4 (.t 5)⟩,⟨some 26,none,.load false 1 (.t 25)⟩,⟨some 27,none,.faddr 4 (.t 2)⟩,⟨some 28,none,.load false 1 (.t 27)⟩,⟨some 29,none,.mv (.t 6)⟩,⟨some 30,none,.iaddr 5 (.t 28) (.t 29)⟩,⟨some 31,none,.load true 5 (.t 30)⟩,⟨some 32,none,.load true 1 (.t 3)⟩,⟨some 33,none,.call 83 [(.t 31),(.t 32)]⟩,⟨(some 34),none,(.mkrow 36 5 [(.int .i64 0),(.str ⟨#[]⟩),.nil,(.str ⟨#[]⟩),.nil] 1 [(0,(.t 33))])⟩,⟨(some 35),none,(.append 36 5 88 [(.int .i64 0),(.str ⟨#[]⟩),.nil,(.str ⟨#[]⟩),.nil] (.t 26) (.t 34))⟩,⟨some 36,none,.faddr 4 (.t 5)⟩,⟨none,none,(.store 1 (.t 36) (.t 35))⟩])) (.reg [⟨some 23,none,.mv (.t 6)⟩,⟨some 24,none,.bin .add false (.t 23) (.c (.int .i64 1))⟩,⟨some 6,none,.mv (.t 24)⟩])))))) (.seq (.reg [⟨some 37,none,.load true 5 (.t 5)⟩,⟨none,none,(.store 5 (.t 4) (.t 37))⟩]) .ret)))))
theorem Io:Ao Tryz.prog 83=some ⟨38,Fs,[(.cell 4 true 5)]⟩:=by kernel_rfl
theorem Cs:modes 83=⟨[],.frz,none,false⟩:=by unfold modes; rfl
theorem Fm.TJ {x:Fm} (h:x.form=true) (ho:x.op≠3):x.atom=.mk ⟨#[]⟩ []:=by
 have key:x.atom.isZ=true:=by
  unfold Fm.form at h
  split at h
  ·rw [zB,zB] at h; exact h.1.2
  ·try simp only [ho,if_false] at h
   split at h
   ·rw [zB,zB] at h; exact h.1.2
   ·split at h
    ·rw [zB,zB] at h; exact h.1.2
    ·split at h
     ·rw [zB,zB] at h; exact h.1.2
     ·cases h
 unfold Tm.isZ at key
 rw [zB,Ap] at key
 generalize x.atom=a at *
 obtain ⟨n,xs⟩:=a
 obtain ⟨h1,h2⟩:=key
 have h1:n=⟨#[]⟩:=h1
 have h2:xs.length=0:=by
  have h2:(xs.length == 0)=true:=h2
  simpa using h2
 rw [h1,zF h2]
def Fm.plain (x:Fm):Prop:=x.has 8=false∧x.has 9=false
theorem Fm.Vl {x:Fm} (h:x.plain):qB x.op=false:=by
 obtain ⟨h1,h2⟩:=h
 rw [Fm.has_eq,yO] at h1 h2
 unfold qB
 rw [An (fun e=>Bv.1 h1.1 e.symm),An (fun e=>Bv.1 h2.1 e.symm)]
 rfl
theorem Fm.Si {x y:Fm} (h:x.plain) (hy:y∈x.parts):y.plain:=by
 obtain ⟨h1,h2⟩:=h
 rw [Fm.has_eq,yO] at h1 h2
 refine ⟨?_,?_⟩
 ·cases h3:y.has 8 with
  | false=>rfl
  | true=>have:=List.any_eq_true.2 ⟨y,hy,h3⟩; rw [h1.2] at this; cases this
 ·cases h3:y.has 9 with
  | false=>rfl
  | true=>have:=List.any_eq_true.2 ⟨y,hy,h3⟩; rw [h2.2] at this; cases this
structure SbE (s:Sb) (e:TEnv):Prop where
 fine:s.fine
 tame:s.tame
 env:∃ m,TB m e
 look:∀ n,(s.look n).getD (.mk n [])=(e n).getD (.mk n [])
abbrev ApC (s:Sb) (e:TEnv) (x:Fm):Prop:=E 83 [x.sv,s.sv] []=some ((x.inst e).sv,[])
theorem Sj (s:Sb) (e:TEnv) (hs:SbE s e) (x:Fm) (hx:x.forms=true) (hp:x.plain) (hta:x.tame) (hn:x.nodes≤1099511627776) (ih:∀ y∈x.parts,ApC s e y):ApC s e x:=by
 have hf:=Fm.Fp hx
 have hx0:=Fm.nodes_eq x
 have hl:=Fm.length_le x.parts
 have hat:=Fm.tame_at hta
 have h10:((1:Int)=0)=False:=by simp
 have hvar:=Fm.RZ hf (Fm.Vl hp)
 have hxs:x.sv=.agg [.int .i64 x.op,.str x.atom.name,.arr (x.atom.args.map Tm.d),.str x.var,.arr (x.parts.map Fm.d)]:=rfl
 have hss:s.sv=.agg [.arr (s.binds.map Bd.d)]:=rfl
 have hi:=Fm.Mo e x
 unfold ApC
 by_cases h3:x.op=3
 ·obtain ⟨hpn,hA,_⟩:=Fm.IF hf h3
  have hap:=OW s hs.fine hs.tame x.atom (by omega)
  have hrv:x.atom.ap s.look=x.atom.rv e:=by
   obtain ⟨m,hm⟩:=hs.env
   rw [Tm.XB hm x.atom hA]
   exact Tm.SO hs.look x.atom
  rw [hrv] at hap
  rw [A6 h3,cond_true] at hi
  rw [hi]
  have d3:dec (x.op=3)=true:=A6 h3
  generalize x.atom.rv e=z at *
  have e1:(Fm.mk 3 z ⟨#[]⟩ []).sv=.agg [.int .i64 x.op,.str z.name,.arr (z.args.map Tm.d),.str ⟨#[]⟩,.arr []]:=by rw [h3]; rfl
  have q0:((0:Int)<(x.parts.length:Int))=False:=by rw [hpn]; simp
  rw [e1,hxs,hss]
  refine Ak Io Cs (of_decide_eq_true rfl) ?_
  simp (disch:=omega) only [Fs,go_sem,Ab,d3,hap,Co]
  refine go_loop (α:=Unit) (fun _=>⟨slots 38 0 [(2,.ptr 0 0),(3,.ptr 1 0),(4,.ptr 2 0),(5,.ptr 3 0),(6,.int .i64 0)],[.box 36 [.int .i64 x.op,.str x.atom.name,.arr (x.atom.args.map Tm.d),.str x.var,.arr (x.parts.map Fm.d)],.box 124 [.arr (s.binds.map Bd.d)],.box 36 [.int .i64 0,.str ⟨#[]⟩,.nil,.str ⟨#[]⟩,.nil],.box 36 [.int .i64 x.op,.str z.name,.arr (z.args.map Tm.d),.str ⟨#[]⟩,.nil]]⟩) (fun _=>True) (fun _=>0) () trivial (by simp (disch:=omega) only [go_sem,Ab]) ?_
  intro _ _
  simp (disch:=omega) only [go_sem,Ab,q0]
 ·have d3:dec (x.op=3)=false:=An h3
  have hz:=Fm.TJ hf h3
  rw [d3,cond_false,hz,hvar] at hi
  rw [hi]
  have e1:(Fm.mk x.op (.mk ⟨#[]⟩ []) ⟨#[]⟩ (x.parts.map (Fm.inst e))).sv=.agg [.int .i64 x.op,.str ⟨#[]⟩,.arr [],.str ⟨#[]⟩,.arr ((x.parts.map (Fm.inst e)).map Fm.d)]:=rfl
  rw [e1,hxs,hss]
  have hfu:OT.A7 (x.parts.map fun y=>(y.inst e).osh)=true:=by
   have:=Fm.osh_full (x.parts.map (Fm.inst e))
   rw [yG] at this
   exact this
  have her:OT.erss (x.parts.map fun y=>(y.inst e).osh)=(x.parts.map (Fm.inst e)).map Fm.d:=by
   have:=Fm.osh_er (x.parts.map (Fm.inst e))
   rw [yG] at this
   exact this
  refine Ak Io Cs (of_decide_eq_true rfl) ?_
  simp (disch:=omega) only [Fs,go_sem,Ab,d3]
  refine go_loop (α:=Int) (fun a=>⟨slots 38 0 [(2,.ptr 0 0),(3,.ptr 1 0),(4,.ptr 2 0),(5,.ptr 3 0),(6,.int .i64 a)],(if a=0 then [.box 36 [.int .i64 x.op,.str x.atom.name,.arr (x.atom.args.map Tm.d),.str x.var,.arr (x.parts.map Fm.d)],.box 124 [.arr (s.binds.map Bd.d)],.box 36 [.int .i64 0,.str ⟨#[]⟩,.nil,.str ⟨#[]⟩,.nil],.box 36 [.int .i64 x.op,.str ⟨#[]⟩,.nil,.str ⟨#[]⟩,.nil]] else [.box 36 [.int .i64 x.op,.str x.atom.name,.arr (x.atom.args.map Tm.d),.str x.var,.arr (x.parts.map Fm.d)],.box 124 [.arr (s.binds.map Bd.d)],.box 36 [.int .i64 0,.str ⟨#[]⟩,.nil,.str ⟨#[]⟩,.nil],.box 36 [.int .i64 x.op,.str ⟨#[]⟩,.nil,.str ⟨#[]⟩,.ref 4],.row 36 5 ((x.parts.take a.toNat).map fun y=>(y.inst e).osh)])⟩) (fun a=>∃ k:Nat,a=k∧k≤(x.parts).length) (fun a=>(x.parts).length-(a).toNat) 0 ⟨0,rfl,zO _⟩ (by simp (disch:=omega) only [go_sem,Ab,eq_self,if_true]) ?_
  rintro i ⟨k,hi,hk⟩
  have hni:i.toNat=k:=by omega
  have hni1:(i+1).toNat=k+1:=by omega
  rcases zH k (x.parts).length with hlt | hge
  ·have hg:=get_at Fm.d hlt
   rw [Fm.d_eq] at hg
   have hc:=ih x.parts[k] (zI hlt)
   have hsn:=CH (fun y:Fm=>(y.inst e).osh) hlt
   rw [Fm.osh_eq] at hsn
   rcases zD k with h0 | h0
   ·subst h0
    obtain rfl:i=0:=hi
    rw [z9,zN,zK] at hsn
    simp (disch:=omega) only [go_sem,Ab,hni,hg,hc,Cs,eq_self,if_true]
    refine ⟨1,⟨1,rfl,hlt⟩,by omega,?_⟩
    simp (disch:=omega) only [go_sem,Ab,h10,if_false,hsn]
   ·have hi0:(i=0)=False:=by simp; omega
    have hi1:(i+1=0)=False:=by simp; omega
    have htl:(x.parts.take k).length=k:=by rw [zX]; omega
    simp (disch:=omega) only [go_sem,Ab,hni,hg,hc,Cs,hi0,if_false,htl]
    refine ⟨i+1,⟨k+1,by omega,hlt⟩,by omega,?_⟩
    simp (disch:=omega) only [go_sem,Ab,hni1,hi1,if_false,hsn]
  ·obtain rfl:k=x.parts.length:=by omega
   have ht2:x.parts.take x.parts.length=x.parts:=zY
   rcases zD x.parts.length with h0 | h0
   ·have hx:x.parts=[]:=zF h0
    obtain rfl:i=0:=by omega
    simp (disch:=omega) only [go_sem,Ab,hni,hx,eq_self,if_true,zN,zL]
   ·have hi0:(i=0)=False:=by simp; omega
    simp (disch:=omega) only [go_sem,Ab,hni,hi0,if_false,ht2,hfu,her]
theorem Pi (s:Sb) (e:TEnv) (hs:SbE s e) (x:Fm) (hx:x.forms=true) (hp:x.plain) (hta:x.tame) (hn:x.nodes≤1099511627776):ApC s e x :=
 Sj s e hs x hx hp hta hn fun y hy=>Pi s e hs y (Fm.DS hx hy) (Fm.Si hp hy) (Fm.Dv hta hy) (by have:=Fm.nodes_mem hy; have:=Fm.nodes_eq x; omega)
termination_by SizeOf.sizeOf x
decreasing_by exact Fm.lt_of_mem hy
def C4:SC:=(.seq (.reg [⟨some 2,none,.boxv 36 5 (.t 0)⟩,⟨some 3,none,.boxv 70 7 (.t 1)⟩,⟨(some 4),none,(.alloc 36 [(.int .i64 0),(.str ⟨#[]⟩),.nil,(.str ⟨#[]⟩),.nil])⟩,⟨some 5,none,.mv (.c (.bool false))⟩]) (.seq (.seq (.reg [⟨some 12,none,.faddr 0 (.t 2)⟩,⟨some 13,none,.load false 1 (.t 12)⟩,⟨some 14,none,.bin .eql false (.t 13) (.c (.int .i64 3))⟩,⟨some 15,none,.mv (.t 14)⟩,⟨(some 16),(some (15,true)),(.faddr 1 (.t 2))⟩,⟨(some 17),(some (15,true)),(.faddr 0 (.t 16))⟩,⟨(some 18),(some (15,true)),(.load false 1 (.t 17))⟩,⟨(some 19),(some (15,true)),(.faddr 0 (.t 3))⟩,⟨(some 20),(some (15,true)),(.load false 1 (.t 19))⟩,⟨(some 21),(some (15,true)),(.bin .eql false (.t 18) (.t 20))⟩,⟨some 22,none,.pick (.t 15) (.t 21) (.c (.bool false))⟩]) (.cond (.t 22) (.seq (.seq (.reg [⟨some 23,none,.faddr 1 (.t 2)⟩,⟨some 24,none,.faddr 1 (.t 23)⟩,⟨some 25,none,.load false 1 (.t 24)⟩,⟨some 26,none,.len false (.t 25)⟩,⟨some 27,none,.faddr 1 (.t 3)⟩,⟨some 28,none,.load false 1 (.t 27)⟩,⟨some 29,none,.len false (.t 28)⟩,⟨some 30,none,.bin .neq false (.t 26) (.t 29)⟩]) (.cond (.t 30) (.seq (.reg [⟨some 31,none,.load true 5 (.t 2)⟩,⟨none,none,(.store 5 (.t 4) (.t 31))⟩,⟨some 5,none,.mv (.c (.bool false))⟩]) .ret) .skip)) (.seq (.reg [⟨some 32,none,.build [.nil] []⟩,⟨some 6,none,.alloc 124 [.nil]⟩,⟨none,none,(.store 1 (.t 6) (.t 32))⟩]) (.seq (.seq (.reg [⟨some 7,none,.mv (.c (.int .i64 0))⟩]) (.block 0 (.loop [0,0,1,1,1,0,1,1,0,0,0,0,0,0,0,0,0,0,0,0,0,0,0,0,0,0,0,0,0,0,0,0,0,0,0,0,0,0,0,0,0,0,0,0,0,0,0,0,0,0,0,0,0,0,0,0,0,0,0,0,0,0,0,0,0,0,0,0,0,0,0,0,0,0,0,0,0,0,0,0,0,0,0,0,0,0,0,0,0,0,0,0] (.seq (.seq (.reg [⟨some 33,none,.mv (.t 7)⟩,⟨some 34,none,.faddr 1 (.t 3)⟩,⟨some 35,none,.load false 1 (.t 34)⟩,⟨some 36,none,.len false (.t 35)⟩,⟨some 37,none,.bin .lss false (.t 33) (.t 36)⟩]) (.cond (.t 37) .skip (.exit 0))) (.seq (.block 1 (.dreg [[],[],[1],[],[2,1,3],[4,2,1,3],[],[6],[7,6],[],[8,7,6,9],[10,8,7,6,9],[0,5,4,2,1,3,11,10,8,7,6,9],[12,0,5,4,2,1,3,11,10,8,7,6,9]] [⟨some 40,none,.load true 1 (.t 6)⟩,⟨some 41,none,.faddr 1 (.t 3)⟩,⟨some 42,none,.load false 1 (.t 41)⟩,⟨some 43,none,.mv (.t 7)⟩,⟨some 44,none,.iaddr 1 (.t 42) (.t 43)⟩,⟨some 45,none,.load false 1 (.t 44)⟩,⟨some 46,none,.faddr 1 (.t 2)⟩,⟨some 47,none,.faddr 1 (.t 46)⟩,⟨some 48,none,.load false 1 (.t 47)⟩,⟨some 49,none,.mv (.t 7)⟩,⟨some 50,none,.iaddr 2 (.t 48) (.t 49)⟩,⟨some 51,none,.load true 2 (.t 50)⟩,⟨some 52,none,.call 82 [(.t 40),(.t 45),(.t 51)]⟩,⟨none,none,(.store 1 (.t 6) (.t 52))⟩])) (.reg [⟨some 38,none,.mv (.t 7)⟩,⟨some 39,none,.bin .add false (.t 38) (.c (.int .i64 1))⟩,⟨some 7,none,.mv (.t 39)⟩])))))) (.seq (.reg [⟨some 53,none,.faddr 2 (.t 3)⟩,⟨some 54,none,.load true 5 (.t 53)⟩,⟨some 55,none,.load true 1 (.t 6)⟩,⟨some 56,none,.call 83 [(.t 54),(.t 55)]⟩,⟨none,none,(.store 5 (.t 4) (.t 56))⟩,⟨some 5,none,.mv (.c (.bool true))⟩]) .ret)))) .skip)) (.seq (.dreg [[],[0],[],[2],[3,2],[],[5],[1,0,4,3,2,6,5],[],[8,7,1,0,4,3,2,6,5]] [⟨some 57,none,.faddr 0 (.t 2)⟩,⟨some 58,none,.load false 1 (.t 57)⟩,⟨some 59,none,.faddr 1 (.t 2)⟩,⟨some 60,none,.load true 2 (.t 59)⟩,⟨some 61,none,.call 81 [(.t 60)]⟩,⟨some 62,none,.faddr 3 (.t 2)⟩,⟨some 63,none,.load false 1 (.t 62)⟩,⟨(some 64),none,(.build [(.int .i64 0),(.str ⟨#[]⟩),.nil,(.str ⟨#[]⟩),.nil] [(0,(1,(.t 58))),(1,(2,(.t 61))),(3,(1,(.t 63)))])⟩,⟨(some 8),none,(.alloc 36 [(.int .i64 0),(.str ⟨#[]⟩),.nil,(.str ⟨#[]⟩),.nil])⟩,⟨none,none,(.store 5 (.t 8) (.t 64))⟩]) (.seq (.seq (.reg [⟨some 9,none,.mv (.c (.int .i64 0))⟩]) (.block 2 (.loop [0,0,1,1,1,0,0,0,1,1,0,0,0,0,0,0,0,0,0,0,0,0,0,0,0,0,0,0,0,0,0,0,0,0,0,0,0,0,0,0,0,0,0,0,0,0,0,0,0,0,0,0,0,0,0,0,0,0,0,0,0,0,0,0,0,0,0,0,0,0,0,0,0,0,0,0,0,0,0,0,0,0,0,0,0,0,0,0,0,0,0,0] (.seq (.seq (.reg [⟨some 65,none,.mv (.t 9)⟩,⟨some 66,none,.faddr 4 (.t 2)⟩,⟨some 67,none,.load false 1 (.t 66)⟩,⟨some 68,none,.len false (.t 67)⟩,⟨some 69,none,.bin .lss false (.t 65) (.t 68)⟩]) (.cond (.t 69) .skip (.exit 2))) (.seq (.block 3 (.seq (.dreg [[],[0],[],[1,0,2],[3,1,0,2],[],[4,3,1,0,2,5],[6,4,3,1,0,2,5],[7,6,4,3,1,0,2,5],[7,6,4,3,1,0,2,5],[],[10,8,7,6,4,3,1,0,2,5],[9,7,6,4,3,1,0,2,5,11,10,8]] [⟨some 73,none,.faddr 4 (.t 2)⟩,⟨some 74,none,.load false 1 (.t 73)⟩,⟨some 75,none,.mv (.t 9)⟩,⟨some 76,none,.iaddr 5 (.t 74) (.t 75)⟩,⟨some 77,none,.load true 5 (.t 76)⟩,⟨some 78,none,.load true 7 (.t 3)⟩,⟨some 79,none,.call 31 [(.t 77),(.t 78)]⟩,⟨some 72,none,.mv (.t 79)⟩,⟨some 80,none,.ext (.t 72) 0⟩,⟨some 81,none,.ext (.t 72) 1⟩,⟨(some 10),none,(.alloc 36 [(.int .i64 0),(.str ⟨#[]⟩),.nil,(.str ⟨#[]⟩),.nil])⟩,⟨none,none,(.store 5 (.t 10) (.t 80))⟩,⟨some 11,none,.mv (.t 81)⟩]) (.seq (.seq (.reg [⟨some 82,none,.mv (.t 11)⟩,⟨some 83,none,.un .not (.t 82)⟩]) (.cond (.t 83) (.seq (.reg [⟨some 84,none,.load true 5 (.t 2)⟩,⟨none,none,(.store 5 (.t 4) (.t 84))⟩,⟨some 5,none,.mv (.c (.bool false))⟩]) .ret) .skip)) (.reg [⟨some 85,none,.faddr 4 (.t 8)⟩,⟨some 86,none,.load false 1 (.t 85)⟩,⟨some 87,none,.load true 5 (.t 10)⟩,⟨(some 88),none,(.mkrow 36 5 [(.int .i64 0),(.str ⟨#[]⟩),.nil,(.str ⟨#[]⟩),.nil] 1 [(0,(.t 87))])⟩,⟨(some 89),none,(.append 36 5 88 [(.int .i64 0),(.str ⟨#[]⟩),.nil,(.str ⟨#[]⟩),.nil] (.t 86) (.t 88))⟩,⟨some 90,none,.faddr 4 (.t 8)⟩,⟨none,none,(.store 1 (.t 90) (.t 89))⟩])))) (.reg [⟨some 70,none,.mv (.t 9)⟩,⟨some 71,none,.bin .add false (.t 70) (.c (.int .i64 1))⟩,⟨some 9,none,.mv (.t 71)⟩])))))) (.seq (.reg [⟨some 91,none,.load true 5 (.t 8)⟩,⟨none,none,(.store 5 (.t 4) (.t 91))⟩,⟨some 5,none,.mv (.c (.bool true))⟩]) .ret)))))
theorem Dm:Ao Tryz.prog 31=some ⟨92,C4,[(.cell 4 true 5),(.tmp 5)]⟩:=by kernel_rfl
theorem Aw:modes 31=⟨[],.frz,none,false⟩:=by unfold modes; rfl
theorem Yk {vs:List ByteArray} {ts:List Tm} (hv:varsUp vs) (hl:vs.length≤ts.length) (hs:vs.length≤1048576) (ha:∀ a∈ts,a.names=true∧a.nodes≤1099511627776):SbE (uSb vs ts vs.length) (G1 vs ts vs.length):=by
 have h:=UY hv hl (fun a h=>(ha a h).1) vs.length (yA _)
 refine ⟨⟨h.up,fun b hb=>?_⟩,⟨by have:=h.len; omega,fun b hb=>?_⟩,⟨1099511627776,Mn hv (fun a h=>(ha a h).2) (by omega) _ (yA _)⟩,h.look⟩
 ·obtain ⟨j,hj,e,_⟩:=h.mem b hb
  rw [e]; exact hv.at hj
 ·obtain ⟨j,hj,_,e⟩:=h.mem b hb
  rw [e,zG,zC (by omega)]
  exact (ha _ (zI _)).2
abbrev UgC (d:Df) (x:Fm):Prop:=E 31 [x.sv,d.sv] []=some (.tup [(bif x.unfB d then x.unfV d else x).sv,.bool (x.unfB d)],[])
theorem Rh (d:Df) (hd:d.fine) (hdf:d.form.forms=true) (hdp:d.form.plain) (x:Fm) (hx:x.forms=true) (hta:x.tame) (hn:x.nodes≤1099511627776) (h3':x.op=3) (h4':x.atom.name=d.name):UgC d x:=by
 have hf:=Fm.Fp hx
 have hat:=Fm.PO hf
 have hargs:=Tm.length_le x.atom.args
 have hana:=Tm.nodes_eq x.atom
 have hA:=(Fm.IF hf h3').2.1
 have hxs:x.sv=.agg [.int .i64 x.op,.str x.atom.name,.arr (x.atom.args.map Tm.d),.str x.var,.arr (x.parts.map Fm.d)]:=rfl
 have hds:d.sv=.agg [.str d.name,.arr (d.vars.map fun s=>[D.str s]),.int .i64 d.form.op,.str d.form.atom.name,.arr (d.form.atom.args.map Tm.d),.str d.form.var,.arr (d.form.parts.map Fm.d)]:=rfl
 have h3:dec (x.op=3)=true:=A6 h3'
 have h4:dec (x.atom.name=d.name)=true:=A6 h4'
 have h10:((1:Int)=0)=False:=by simp
 have hV:=Fm.K2 d x
 have hB:=Fm.PL d x
 rw [h3,h4,yS,cond_true] at hV hB
 unfold UgC
 by_cases h5:x.atom.args.length=d.vars.length
 rotate_left
 ·rw [An h5] at hB
  rw [hB,cond_false,hxs,hds]
  have q5:((x.atom.args.length:Int)=(d.vars.length:Int))=False:=eq_false (by omega)
  refine Ak Dm Aw (of_decide_eq_true rfl) ?_
  simp (disch:=omega) only [C4,go_sem,Ab,h3,h4,q5]
 ·rw [A6 h5,cond_true] at hV
  rw [A6 h5] at hB
  rw [hB,cond_true,hV,hxs,hds]
  have q5:((x.atom.args.length:Int)=(d.vars.length:Int))=True:=eq_true (by omega)
  have ha:∀ a∈x.atom.args,a.names=true∧a.nodes≤1099511627776:=fun a h=>⟨(Tm.OS hA).2 a h,by have:=Tm.nodes_mem h; omega⟩
  have hsb:=Yk hd.vars (by omega) (by omega) ha
  have hap:=Pi (uSb d.vars x.atom.args d.vars.length) (G1 d.vars x.atom.args d.vars.length) hsb d.form hdf hdp hd.tame hd.nodes
  unfold ApC at hap
  have hfs:d.form.sv=.agg [.int .i64 d.form.op,.str d.form.atom.name,.arr (d.form.atom.args.map Tm.d),.str d.form.var,.arr (d.form.parts.map Fm.d)]:=rfl
  have hss:∀ k,(uSb d.vars x.atom.args k).sv=.agg [.arr ((uSb d.vars x.atom.args k).binds.map Bd.d)]:=fun _=>rfl
  refine Ak Dm Aw (of_decide_eq_true rfl) ?_
  simp (disch:=omega) only [C4,go_sem,Ab,h3,h4,q5]
  refine go_loop (α:=Int) (fun a=>⟨slots 92 0 [(2,.ptr 0 0),(3,.ptr 1 0),(4,.ptr 2 0),(6,.ptr 3 0),(7,.int .i64 a)],(if a=0 then [.box 36 [.int .i64 x.op,.str x.atom.name,.arr (x.atom.args.map Tm.d),.str x.var,.arr (x.parts.map Fm.d)],.box 70 [.str d.name,.arr (d.vars.map fun s=>[D.str s]),.int .i64 d.form.op,.str d.form.atom.name,.arr (d.form.atom.args.map Tm.d),.str d.form.var,.arr (d.form.parts.map Fm.d)],.box 36 [.int .i64 0,.str ⟨#[]⟩,.nil,.str ⟨#[]⟩,.nil],.box 124 [.nil]] else [.box 36 [.int .i64 x.op,.str x.atom.name,.arr (x.atom.args.map Tm.d),.str x.var,.arr (x.parts.map Fm.d)],.box 70 [.str d.name,.arr (d.vars.map fun s=>[D.str s]),.int .i64 d.form.op,.str d.form.atom.name,.arr (d.form.atom.args.map Tm.d),.str d.form.var,.arr (d.form.parts.map Fm.d)],.box 36 [.int .i64 0,.str ⟨#[]⟩,.nil,.str ⟨#[]⟩,.nil],.box 124 [.arr ((uSb d.vars x.atom.args a.toNat).binds.map Bd.d)]])⟩) (fun a=>∃ k:Nat,a=k∧k≤(d.vars).length) (fun a=>(d.vars).length-(a).toNat) 0 ⟨0,rfl,zO _⟩ (by simp (disch:=omega) only [go_sem,Ab,eq_self,if_true]) ?_
  rintro i ⟨k,hi,hk⟩
  have hni:i.toNat=k:=by omega
  have hni1:(i+1).toNat=k+1:=by omega
  rcases zH k (d.vars).length with hlt | hge
  ·have hg1:(d.vars.map fun s=>[D.str s])[k]?=some [D.str (d.vars.getD k ⟨#[]⟩)]:=by
    rw [z5,zC hlt,zG,zC hlt]; rfl
   have hka:k<x.atom.args.length:=by omega
   have hg2:(x.atom.args.map Tm.d)[k]?=some (Tm.d (x.atom.args.getD k Tm.zero)):=by
    rw [z5,zC hka,zG,zC hka]; rfl
   rw [Tm.d_eq] at hg2
   have hU:=UY hd.vars (by omega) (fun a h=>(ha a h).1) k (by omega)
   have hpt:=W0 (uSb d.vars x.atom.args k) (d.vars.getD k ⟨#[]⟩) (x.atom.args.getD k Tm.zero) (by have:=hU.len; omega) (by
    rw [zG,zC hka]
    exact (ha _ (zI hka)).2)
   have hu1:(uSb d.vars x.atom.args k).put ⟨d.vars.getD k ⟨#[]⟩,x.atom.args.getD k Tm.zero⟩=uSb d.vars x.atom.args (k+1):=rfl
   rw [hu1,hss,hss] at hpt
   have hb2:(k:Int)<((x.atom.args.map Tm.d).length:Int):=by rw [zV]; omega
   obtain rfl:i=k:=hi
   rcases zD k with h0 | h0
   ·subst h0
    have e0:(uSb d.vars x.atom.args 0).binds.map Bd.d=[]:=rfl
    rw [e0] at hpt
    simp (disch:=omega) only [go_sem,Ab,hg1,hg2,hpt,E8,eq_self,if_true,Int.toNat_natCast,Int.natCast_zero]
    refine ⟨1,⟨1,rfl,hlt⟩,by omega,?_⟩
    simp (disch:=omega) only [go_sem,Ab,h10,if_false,Int.toNat_one]
   ·have hi0:((k:Int)=0)=False:=eq_false (by omega)
    have hi1:((k:Int)+1=0)=False:=eq_false (by omega)
    simp (disch:=omega) only [go_sem,Ab,hg1,hg2,hpt,E8,hi0,if_false,Int.toNat_natCast]
    refine ⟨(k:Int)+1,⟨k+1,by omega,hlt⟩,by omega,?_⟩
    have hn1:((k:Int)+1).toNat=k+1:=by omega
    simp (disch:=omega) only [go_sem,Ab,hn1,hi1,if_false]
  ·obtain rfl:k=d.vars.length:=by omega
   rw [hfs,hss] at hap
   rcases zD d.vars.length with h0 | h0
   ·obtain rfl:i=0:=by omega
    rw [h0] at hap ⊢
    have e0:(uSb d.vars x.atom.args 0).binds.map Bd.d=[]:=rfl
    rw [e0] at hap
    simp (disch:=omega) only [go_sem,Ab,hni,hap,Cs,eq_self,if_true]
   ·have hi0:(i=0)=False:=eq_false (by omega)
    simp (disch:=omega) only [go_sem,Ab,hni,hap,Cs,hi0,if_false]
theorem Ri (d:Df) (x:Fm) (hta:x.tame) (hn:x.nodes≤1099511627776) (hno:(dec (x.op=3)&&dec (x.atom.name=d.name))=false) (ih:∀ y∈x.parts,UgC d y):UgC d x:=by
 have hx0:=Fm.nodes_eq x
 have hl:=Fm.length_le x.parts
 have hat:=Fm.tame_at hta
 have hct:=Kk x.atom (by omega)
 have h10:((1:Int)=0)=False:=by simp
 have hxs:x.sv=.agg [.int .i64 x.op,.str x.atom.name,.arr (x.atom.args.map Tm.d),.str x.var,.arr (x.parts.map Fm.d)]:=rfl
 have hds:d.sv=.agg [.str d.name,.arr (d.vars.map fun s=>[D.str s]),.int .i64 d.form.op,.str d.form.atom.name,.arr (d.form.atom.args.map Tm.d),.str d.form.var,.arr (d.form.parts.map Fm.d)]:=rfl
 have hV:=Fm.K2 d x
 have hB:=Fm.PL d x
 rw [hno,cond_false] at hV hB
 have e1:(Fm.mk x.op x.atom x.var (x.parts.map (Fm.unfV d))).sv=.agg [.int .i64 x.op,.str x.atom.name,.arr (x.atom.args.map Tm.d),.str x.var,.arr ((x.parts.map (Fm.unfV d)).map Fm.d)]:=rfl
 have hfu:OT.A7 (x.parts.map fun y=>(y.unfV d).osh)=true:=by
  have:=Fm.osh_full (x.parts.map (Fm.unfV d))
  rw [yG] at this
  exact this
 have her:OT.erss (x.parts.map fun y=>(y.unfV d).osh)=(x.parts.map (Fm.unfV d)).map Fm.d:=by
  have:=Fm.osh_er (x.parts.map (Fm.unfV d))
  rw [yG] at this
  exact this
 unfold UgC
 rw [hV,hB]
 rw [show E 31 [x.sv,d.sv] []=E 31 [.agg [.int .i64 x.op,.str x.atom.name,.arr (x.atom.args.map Tm.d),.str x.var,.arr (x.parts.map Fm.d)],.agg [.str d.name,.arr (d.vars.map fun s=>[D.str s]),.int .i64 d.form.op,.str d.form.atom.name,.arr (d.form.atom.args.map Tm.d),.str d.form.var,.arr (d.form.parts.map Fm.d)]] [] from rfl]
 cases h3:dec (x.op=3) with
 | false =>
  refine Ak Dm Aw (of_decide_eq_true rfl) ?_
  simp (disch:=omega) only [C4,go_sem,Ab,h3,hct,BN]
  refine go_loop (α:=Int) (fun a=>⟨slots 92 0 [(2,.ptr 0 0),(3,.ptr 1 0),(4,.ptr 2 0),(8,.ptr 3 0),(9,.int .i64 a)],(if a=0 then [.box 36 [.int .i64 x.op,.str x.atom.name,.arr (x.atom.args.map Tm.d),.str x.var,.arr (x.parts.map Fm.d)],.box 70 [.str d.name,.arr (d.vars.map fun s=>[D.str s]),.int .i64 d.form.op,.str d.form.atom.name,.arr (d.form.atom.args.map Tm.d),.str d.form.var,.arr (d.form.parts.map Fm.d)],.box 36 [.int .i64 0,.str ⟨#[]⟩,.nil,.str ⟨#[]⟩,.nil],.box 36 [.int .i64 x.op,.str x.atom.name,.arr (x.atom.args.map Tm.d),.str x.var,.nil]] else [.box 36 [.int .i64 x.op,.str x.atom.name,.arr (x.atom.args.map Tm.d),.str x.var,.arr (x.parts.map Fm.d)],.box 70 [.str d.name,.arr (d.vars.map fun s=>[D.str s]),.int .i64 d.form.op,.str d.form.atom.name,.arr (d.form.atom.args.map Tm.d),.str d.form.var,.arr (d.form.parts.map Fm.d)],.box 36 [.int .i64 0,.str ⟨#[]⟩,.nil,.str ⟨#[]⟩,.nil],.box 36 [.int .i64 x.op,.str x.atom.name,.arr (x.atom.args.map Tm.d),.str x.var,.ref 4],.row 36 5 ((x.parts.take a.toNat).map fun y=>(y.unfV d).osh)])⟩) (fun a=>∃ k:Nat,a=k∧k≤(x.parts).length∧(x.parts.drop k).all (Fm.unfB d)=x.parts.all (Fm.unfB d)) (fun a=>(x.parts).length-(a).toNat) 0 ⟨0,rfl,zO _,by rw [zU]⟩ (by simp (disch:=omega) only [go_sem,Ab,eq_self,if_true]) ?_
  rintro i ⟨k,hi,hk,hR⟩
  have hni:i.toNat=k:=by omega
  have hni1:(i+1).toNat=k+1:=by omega
  rcases zH k (x.parts).length with hlt | hge
  ·have hg:=get_at Fm.d hlt
   rw [Fm.d_eq] at hg
   have hc:=ih x.parts[k] (zI hlt)
   unfold UgC at hc
   have hps:x.parts[k].sv=.agg [.int .i64 x.parts[k].op,.str x.parts[k].atom.name,.arr (x.parts[k].atom.args.map Tm.d),.str x.parts[k].var,.arr (x.parts[k].parts.map Fm.d)]:=rfl
   rw [hps,hds] at hc
   have hsn:=CH (fun y:Fm=>(y.unfV d).osh) hlt
   rw [Fm.osh_eq] at hsn
   rw [zJ hlt,yT] at hR
   cases hb:x.parts[k].unfB d with
   | false =>
    rw [hb] at hc hR
    rw [zA] at hR
    rw [cond_false,hps] at hc
    rw [←hR,cond_false,hxs]
    rcases zD k with h0 | h0
    ·subst h0
     obtain rfl:i=0:=hi
     simp (disch:=omega) only [go_sem,Ab,hni,hg,hc,Aw,eq_self,if_true]
    ·have hi0:(i=0)=False:=by simp; omega
     simp (disch:=omega) only [go_sem,Ab,hni,hg,hc,Aw,hi0,if_false]
   | true =>
    rw [hb] at hc hR
    rw [zE] at hR
    rw [cond_true] at hc
    rcases zD k with h0 | h0
    ·subst h0
     obtain rfl:i=0:=hi
     rw [z9,zN,zK] at hsn
     simp (disch:=omega) only [go_sem,Ab,hni,hg,hc,Aw,eq_self,if_true]
     refine ⟨1,⟨1,rfl,hlt,hR⟩,by omega,?_⟩
     simp (disch:=omega) only [go_sem,Ab,h10,if_false,hsn]
    ·have hi0:(i=0)=False:=by simp; omega
     have hi1:(i+1=0)=False:=by simp; omega
     have htl:(x.parts.take k).length=k:=by rw [zX]; omega
     simp (disch:=omega) only [go_sem,Ab,hni,hg,hc,Aw,hi0,if_false,htl]
     refine ⟨i+1,⟨k+1,by omega,hlt,hR⟩,by omega,?_⟩
     simp (disch:=omega) only [go_sem,Ab,hni1,hi1,if_false,hsn]
  ·obtain rfl:k=x.parts.length:=by omega
   have ht2:x.parts.take x.parts.length=x.parts:=zY
   rw [zM hge,List.all_nil] at hR
   rw [←hR,cond_true,e1]
   rcases zD x.parts.length with h0 | h0
   ·have hx0:x.parts=[]:=zF h0
    obtain rfl:i=0:=by omega
    simp (disch:=omega) only [go_sem,Ab,hni,hx0,eq_self,if_true,zN,zL]
   ·have hi0:(i=0)=False:=by simp; omega
    simp (disch:=omega) only [go_sem,Ab,hni,hi0,if_false,ht2,hfu,her]
 | true =>
  rw [h3,zE] at hno
  refine Ak Dm Aw (of_decide_eq_true rfl) ?_
  simp (disch:=omega) only [C4,go_sem,Ab,h3,hno,hct,BN]
  refine go_loop (α:=Int) (fun a=>⟨slots 92 0 [(2,.ptr 0 0),(3,.ptr 1 0),(4,.ptr 2 0),(8,.ptr 3 0),(9,.int .i64 a)],(if a=0 then [.box 36 [.int .i64 x.op,.str x.atom.name,.arr (x.atom.args.map Tm.d),.str x.var,.arr (x.parts.map Fm.d)],.box 70 [.str d.name,.arr (d.vars.map fun s=>[D.str s]),.int .i64 d.form.op,.str d.form.atom.name,.arr (d.form.atom.args.map Tm.d),.str d.form.var,.arr (d.form.parts.map Fm.d)],.box 36 [.int .i64 0,.str ⟨#[]⟩,.nil,.str ⟨#[]⟩,.nil],.box 36 [.int .i64 x.op,.str x.atom.name,.arr (x.atom.args.map Tm.d),.str x.var,.nil]] else [.box 36 [.int .i64 x.op,.str x.atom.name,.arr (x.atom.args.map Tm.d),.str x.var,.arr (x.parts.map Fm.d)],.box 70 [.str d.name,.arr (d.vars.map fun s=>[D.str s]),.int .i64 d.form.op,.str d.form.atom.name,.arr (d.form.atom.args.map Tm.d),.str d.form.var,.arr (d.form.parts.map Fm.d)],.box 36 [.int .i64 0,.str ⟨#[]⟩,.nil,.str ⟨#[]⟩,.nil],.box 36 [.int .i64 x.op,.str x.atom.name,.arr (x.atom.args.map Tm.d),.str x.var,.ref 4],.row 36 5 ((x.parts.take a.toNat).map fun y=>(y.unfV d).osh)])⟩) (fun a=>∃ k:Nat,a=k∧k≤(x.parts).length∧(x.parts.drop k).all (Fm.unfB d)=x.parts.all (Fm.unfB d)) (fun a=>(x.parts).length-(a).toNat) 0 ⟨0,rfl,zO _,by rw [zU]⟩ (by simp (disch:=omega) only [go_sem,Ab,eq_self,if_true]) ?_
  rintro i ⟨k,hi,hk,hR⟩
  have hni:i.toNat=k:=by omega
  have hni1:(i+1).toNat=k+1:=by omega
  rcases zH k (x.parts).length with hlt | hge
  ·have hg:=get_at Fm.d hlt
   rw [Fm.d_eq] at hg
   have hc:=ih x.parts[k] (zI hlt)
   unfold UgC at hc
   have hps:x.parts[k].sv=.agg [.int .i64 x.parts[k].op,.str x.parts[k].atom.name,.arr (x.parts[k].atom.args.map Tm.d),.str x.parts[k].var,.arr (x.parts[k].parts.map Fm.d)]:=rfl
   rw [hps,hds] at hc
   have hsn:=CH (fun y:Fm=>(y.unfV d).osh) hlt
   rw [Fm.osh_eq] at hsn
   rw [zJ hlt,yT] at hR
   cases hb:x.parts[k].unfB d with
   | false =>
    rw [hb] at hc hR
    rw [zA] at hR
    rw [cond_false,hps] at hc
    rw [←hR,cond_false,hxs]
    rcases zD k with h0 | h0
    ·subst h0
     obtain rfl:i=0:=hi
     simp (disch:=omega) only [go_sem,Ab,hni,hg,hc,Aw,eq_self,if_true]
    ·have hi0:(i=0)=False:=by simp; omega
     simp (disch:=omega) only [go_sem,Ab,hni,hg,hc,Aw,hi0,if_false]
   | true =>
    rw [hb] at hc hR
    rw [zE] at hR
    rw [cond_true] at hc
    rcases zD k with h0 | h0
    ·subst h0
     obtain rfl:i=0:=hi
     rw [z9,zN,zK] at hsn
     simp (disch:=omega) only [go_sem,Ab,hni,hg,hc,Aw,eq_self,if_true]
     refine ⟨1,⟨1,rfl,hlt,hR⟩,by omega,?_⟩
     simp (disch:=omega) only [go_sem,Ab,h10,if_false,hsn]
    ·have hi0:(i=0)=False:=by simp; omega
     have hi1:(i+1=0)=False:=by simp; omega
     have htl:(x.parts.take k).length=k:=by rw [zX]; omega
     simp (disch:=omega) only [go_sem,Ab,hni,hg,hc,Aw,hi0,if_false,htl]
     refine ⟨i+1,⟨k+1,by omega,hlt,hR⟩,by omega,?_⟩
     simp (disch:=omega) only [go_sem,Ab,hni1,hi1,if_false,hsn]
  ·obtain rfl:k=x.parts.length:=by omega
   have ht2:x.parts.take x.parts.length=x.parts:=zY
   rw [zM hge,List.all_nil] at hR
   rw [←hR,cond_true,e1]
   rcases zD x.parts.length with h0 | h0
   ·have hx0:x.parts=[]:=zF h0
    obtain rfl:i=0:=by omega
    simp (disch:=omega) only [go_sem,Ab,hni,hx0,eq_self,if_true,zN,zL]
   ·have hi0:(i=0)=False:=by simp; omega
    simp (disch:=omega) only [go_sem,Ab,hni,hi0,if_false,ht2,hfu,her]
theorem NA (d:Df) (hd:d.fine) (hdf:d.form.forms=true) (hdp:d.form.plain) (x:Fm) (hx:x.forms=true) (hta:x.tame) (hn:x.nodes≤1099511627776):UgC d x:=by
 cases h:(dec (x.op=3)&&dec (x.atom.name=d.name)) with
 | true =>
  rw [zB,Ap,Ap] at h
  exact Rh d hd hdf hdp x hx hta hn h.1 h.2
 | false=>exact Ri d x hta hn h fun y hy=>NA d hd hdf hdp y (Fm.DS hx hy) (Fm.Dv hta hy) (by have:=Fm.nodes_mem hy; have:=Fm.nodes_eq x; omega)
termination_by SizeOf.sizeOf x
decreasing_by exact Fm.lt_of_mem hy
def Hm:SC:=(.seq (.reg [⟨some 2,none,.boxv 36 5 (.t 0)⟩,⟨some 4,none,.mv (.c (.bool false))⟩]) (.seq (.seq (.reg [⟨some 6,none,.faddr 0 (.t 2)⟩,⟨some 7,none,.load false 1 (.t 6)⟩,⟨some 8,none,.mv (.t 1)⟩,⟨some 9,none,.bin .eql false (.t 7) (.t 8)⟩]) (.cond (.t 9) (.seq (.reg [⟨some 4,none,.mv (.c (.bool true))⟩]) .ret) .skip)) (.seq (.seq (.reg [⟨some 5,none,.mv (.c (.int .i64 0))⟩]) (.block 0 (.loop [0,1,1,0,0,1,0,0,0,0,0,0,0,0,0,0,0,0,0,0,0,0,0,0] (.seq (.seq (.reg [⟨some 10,none,.mv (.t 5)⟩,⟨some 11,none,.faddr 4 (.t 2)⟩,⟨some 12,none,.load false 1 (.t 11)⟩,⟨some 13,none,.len false (.t 12)⟩,⟨some 14,none,.bin .lss false (.t 10) (.t 13)⟩]) (.cond (.t 14) .skip (.exit 0))) (.seq (.block 1 (.seq (.reg [⟨some 17,none,.faddr 4 (.t 2)⟩,⟨some 18,none,.load false 1 (.t 17)⟩,⟨some 19,none,.mv (.t 5)⟩,⟨some 20,none,.iaddr 5 (.t 18) (.t 19)⟩,⟨some 21,none,.load true 5 (.t 20)⟩,⟨some 22,none,.mv (.t 1)⟩,⟨some 23,none,.call 78 [(.t 21),(.t 22)]⟩]) (.cond (.t 23) (.seq (.reg [⟨some 4,none,.mv (.c (.bool true))⟩]) .ret) .skip))) (.reg [⟨some 15,none,.mv (.t 5)⟩,⟨some 16,none,.bin .add false (.t 15) (.c (.int .i64 1))⟩,⟨some 5,none,.mv (.t 16)⟩])))))) (.seq (.reg [⟨some 4,none,.mv (.c (.bool false))⟩]) .ret))))
theorem K7:Ao Tryz.prog 78=some ⟨24,Hm,[(.tmp 4)]⟩:=by kernel_rfl
theorem Cd:modes 78=⟨[],.asis,none,false⟩:=by unfold modes; rfl
theorem Vm (n:Int) (x:Fm) (hp:x.nodes≤1099511627776) (ih:∀ y∈x.parts,E 78 [y.sv,.int .i64 n] []=some (.bool (y.has n),[])):E 78 [x.sv,.int .i64 n] []=some (.bool (x.has n),[]):=by
 have hxs:x.sv=.agg [.int .i64 x.op,.str x.atom.name,.arr (x.atom.args.map Tm.d),.str x.var,.arr (x.parts.map Fm.d)]:=rfl
 have hpl:=Fm.length_le x.parts
 have hnq:=Fm.nodes_eq x
 have hie:=Fm.has_eq n x
 rw [hxs]
 by_cases ho:x.op=n
 ·have od:dec (x.op=n)=true:=A6 ho
  rw [hie,A6 ho.symm,Bool.true_or]
  refine Ak K7 Cd (of_decide_eq_true rfl) ?_
  simp (disch:=omega) only [Hm,go_sem,Ab,od]
 have od:dec (x.op=n)=false:=An ho
 rw [hie,An (fun e=>ho e.symm),yQ]
 refine Ak K7 Cd (of_decide_eq_true rfl) ?_
 simp (disch:=omega) only [Hm,go_sem,Ab,od]
 refine go_loop (α:=Int) (fun a=>⟨slots 24 0 [(1,.int .i64 n),(2,.ptr 0 0),(5,.int .i64 a)],[.box 36 [.int .i64 x.op,.str x.atom.name,.arr (x.atom.args.map Tm.d),.str x.var,.arr (x.parts.map Fm.d)]]⟩) (fun a=>∃ k:Nat,a=k∧k≤(x.parts).length∧(x.parts.drop k).any (Fm.has n)=x.parts.any (Fm.has n)) (fun a=>(x.parts).length-(a).toNat) 0 ⟨0,rfl,zO _,by rw [zU]⟩ (by simp (disch:=omega) only [go_sem,Ab]) ?_
 rintro i ⟨k,hi,hk,hR⟩
 have hni:i.toNat=k:=by omega
 have hni1:(i+1).toNat=k+1:=by omega
 rcases zH k (x.parts).length with hlt | hge
 ·have hg:=get_at Fm.d hlt
  rw [Fm.d_eq] at hg
  have hc:=ih x.parts[k] (zI hlt)
  have hps:x.parts[k].sv=.agg [.int .i64 x.parts[k].op,.str x.parts[k].atom.name,.arr (x.parts[k].atom.args.map Tm.d),.str x.parts[k].var,.arr (x.parts[k].parts.map Fm.d)]:=rfl
  rw [hps] at hc
  rw [zJ hlt,List.any_cons] at hR
  cases hb:x.parts[k].has n with
  | false =>
   rw [hb] at hc hR
   rw [yQ] at hR
   simp (disch:=omega) only [go_sem,Ab,hni,hg,hc,Cd]
   exact ⟨i+1,⟨k+1,by omega,hlt,hR⟩,by omega,by first | trivial | rfl⟩
  | true =>
   rw [hb] at hc hR
   rw [Bool.true_or] at hR
   rw [←hR]
   simp (disch:=omega) only [go_sem,Ab,hni,hg,hc,Cd]
 ·rw [zM hge,List.any_nil] at hR
  rw [←hR]
  simp (disch:=omega) only [go_sem,Ab,hni]
theorem PR (n:Int) (x:Fm) (hp:x.nodes≤1099511627776):E 78 [x.sv,.int .i64 n] []=some (.bool (x.has n),[]) :=
 Vm n x hp fun y hy=>PR n y (by have:=Fm.nodes_mem hy; have:=Fm.nodes_eq x; omega)
termination_by SizeOf.sizeOf x
decreasing_by exact Fm.lt_of_mem hy
def D9:SC:=(.seq (.reg [⟨some 4,none,.mv (.c (.int .i64 0))⟩]) (.seq (.seq (.reg [⟨some 6,none,.mv (.t 0)⟩,⟨some 7,none,.len false (.t 6)⟩,⟨some 8,none,.mv (.c (.int .i64 0))⟩]) (.block 0 (.loop [1,1,0,0,0,0,0,1,1,0,0,0,0,0,0,0,0,0,0] (.seq (.reg [⟨some 9,none,.bin .lss false (.t 8) (.t 7)⟩]) (.seq (.cond (.t 9) .skip (.exit 0)) (.seq (.block 1 (.seq (.reg [⟨some 10,none,.mv (.t 8)⟩,⟨some 5,none,.mv (.t 10)⟩]) (.seq (.reg [⟨some 11,none,.mv (.t 1)⟩,⟨some 12,none,.mv (.t 0)⟩,⟨some 13,none,.mv (.t 5)⟩,⟨some 14,none,.iaddr 1 (.t 12) (.t 13)⟩,⟨some 15,none,.load false 1 (.t 14)⟩,⟨some 16,none,.bin .eql false (.t 11) (.t 15)⟩]) (.cond (.t 16) (.seq (.reg [⟨some 17,none,.mv (.t 5)⟩,⟨some 4,none,.mv (.t 17)⟩]) .ret) .skip)))) (.reg [⟨some 18,none,.bin .add false (.t 8) (.c (.int .i64 1))⟩,⟨some 8,none,.mv (.t 18)⟩]))))))) (.seq (.reg [⟨some 4,none,.mv (.c (.int .i64 (-(0+1))))⟩]) .ret)))
theorem Hn:Ao Tryz.prog 133=some ⟨19,D9,[(.tmp 4)]⟩:=by kernel_rfl
theorem DA:modes 133=⟨[],.asis,none,false⟩:=by unfold modes; rfl
def CQ:SC:=(.seq (.reg [⟨some 4,none,.mv (.c (.bool false))⟩]) (.seq (.reg [⟨some 5,none,.mv (.t 0)⟩,⟨some 6,none,.mv (.t 1)⟩,⟨some 7,none,.call 133 [(.t 5),(.t 6)]⟩,⟨some 8,none,.bin .geq false (.t 7) (.c (.int .i64 0))⟩,⟨some 4,none,.mv (.t 8)⟩]) .ret))
theorem Fx:Ao Tryz.prog 90=some ⟨9,CQ,[(.tmp 4)]⟩:=by kernel_rfl
theorem BV:modes 90=⟨[],.asis,none,false⟩:=by unfold modes; rfl
theorem TK (xs:List Int) (n:Int) (hl:xs.length≤1099511627776):E 133 [.arr (xs.map fun s=>[D.int s]),.int .i64 n] []=some (.int .i64 (Ck (fun s=>dec (n=s)) xs 0),[]):=by
 refine Ak Hn DA (of_decide_eq_true rfl) ?_
 simp (disch:=omega) only [D9,go_sem,Ab]
 refine go_loop (α:=Int) (fun a=>⟨slots 19 0 [(0,.arr (xs.map fun s=>[D.int s])),(1,.int .i64 n),(7,.int .i64 xs.length),(8,.int .i64 a)],[]⟩) (fun a=>∃ k:Nat,a=k∧k≤(xs).length∧Ck (fun s=>dec (n=s)) (xs.drop k) a=Ck (fun s=>dec (n=s)) xs 0) (fun a=>(xs).length-(a).toNat) 0 ⟨0,rfl,zO _,by rw [zU]⟩ (by simp (disch:=omega) only [go_sem,Ab]) ?_
 rintro i ⟨k,hi,hk,hR⟩
 have hni:i.toNat=k:=by omega
 have hni1:(i+1).toNat=k+1:=by omega
 rcases zH k (xs).length with hlt | hge
 ·have hg:=get_at (fun s=>[D.int s]) hlt
  rw [zJ hlt,Ck] at hR
  cases hp:dec (n=xs[k]) with
  | true =>
   rw [hp] at hR
   simp (disch:=omega) only [go_sem,Ab,hni,hg,hp]
   simpa using hR
  | false =>
   rw [hp] at hR
   simp (disch:=omega) only [go_sem,Ab,hni,hg,hp]
   exact ⟨i+1,⟨k+1,by omega,hlt,by simpa using hR⟩,by omega,by first | trivial | rfl⟩
 ·rw [zM hge,Ck] at hR
  simp (disch:=omega) only [go_sem,Ab,hni]
  exact hR
theorem PS (xs:List Int) (n:Int) (hl:xs.length≤1099511627776):E 90 [.arr (xs.map fun s=>[D.int s]),.int .i64 n] []=some (.bool (xs.any fun s=>dec (n=s)),[]):=by
 have h:=TK xs n hl
 have hp:=G7 (fun s=>dec (n=s)) xs
 rw [←hp]
 refine Ak Fx BV (of_decide_eq_true rfl) ?_
 simp (disch:=omega) only [CQ,go_sem,Ab,h,DA]
def Ho:SC:=(.seq (.reg [⟨some 2,none,.boxv 36 5 (.t 0)⟩,⟨some 3,none,.boxv 109 1 (.t 1)⟩,⟨some 4,none,.mv (.c (.bool false))⟩]) (.seq (.reg [⟨some 5,none,.load false 1 (.t 3)⟩,⟨some 6,none,.faddr 0 (.t 2)⟩,⟨some 7,none,.load false 1 (.t 6)⟩,⟨some 8,none,.call 90 [(.t 5),(.t 7)]⟩,⟨some 9,none,.mv (.t 8)⟩,⟨(some 10),(some (9,false)),(.faddr 4 (.t 2))⟩,⟨(some 11),(some (9,false)),(.load false 1 (.t 10))⟩,⟨(some 12),(some (9,false)),(.mkfn 92 [(.t 3)])⟩,⟨(some 13),(some (9,false)),(.call 91 [(.t 11),(.t 12)])⟩,⟨some 14,none,.pick (.t 9) (.c (.bool true)) (.t 13)⟩,⟨some 4,none,.mv (.t 14)⟩]) .ret))
theorem K8:Ao Tryz.prog 37=some ⟨15,Ho,[(.tmp 4)]⟩:=by kernel_rfl
theorem BC:modes 37=⟨[],.asis,none,false⟩:=by unfold modes; rfl
def Iq:SC:=(.seq (.reg [⟨some 2,none,.boxv 36 5 (.t 0)⟩,⟨some 3,none,.mv (.c (.bool false))⟩]) (.seq (.reg [⟨some 4,none,.load true 5 (.t 2)⟩,⟨some 5,none,.load false 1 (.t 1)⟩,⟨some 6,none,.call 37 [(.t 4),(.t 5)]⟩,⟨some 3,none,.mv (.t 6)⟩]) .ret))
theorem NB:Ao Tryz.prog 92=some ⟨7,Iq,[(.tmp 3)]⟩:=by kernel_rfl
theorem Ir:modes 92=⟨[],.asis,none,false⟩:=by unfold modes; rfl
theorem NC:E3 Tryz.prog 92=true:=by kernel_rfl
theorem PT (ns:List Int) (p:Fm→Bool) (xs:List Fm) (hl:xs.length≤1099511627776) (hg:E3 Tryz.prog 92=true) (hm:modes 92=⟨[],.asis,none,false⟩) (hE:∀ x∈xs,E 92 [x.sv,.ptr 0 0] [.box 109 [.arr (ns.map fun s=>[D.int s])]]=some (.bool (p x),[.box 109 [.arr (ns.map fun s=>[D.int s])]])):E 134 [.arr (xs.map Fm.d),.fn 92 [.ptr 0 0]] [.box 109 [.arr (ns.map fun s=>[D.int s])]]=some (.int .i64 (Ck p xs 0),[.box 109 [.arr (ns.map fun s=>[D.int s])]]):=by
 refine Ak Br A9 (of_decide_eq_true rfl) ?_
 simp (disch:=omega) only [AP,go_sem,Ab]
 refine go_loop (α:=Int) (fun a=>⟨slots 19 0 [(0,.arr (xs.map Fm.d)),(1,.fn 92 [.ptr 0 0]),(7,.int .i64 xs.length),(8,.int .i64 a)],[.box 109 [.arr (ns.map fun s=>[D.int s])]]⟩) (fun a=>∃ k:Nat,a=k∧k≤(xs).length∧Ck p (xs.drop k) a=Ck p xs 0) (fun a=>(xs).length-(a).toNat) 0 ⟨0,rfl,zO _,by rw [zU]⟩ (by simp (disch:=omega) only [go_sem,Ab]) ?_
 rintro i ⟨k,hi,hk,hR⟩
 have hni:i.toNat=k:=by omega
 have hni1:(i+1).toNat=k+1:=by omega
 rcases zH k (xs).length with hlt | hge
 ·have hg':=get_at Fm.d hlt
  rw [Fm.d_eq] at hg'
  have hc:=hE xs[k] (zI hlt)
  rw [zJ hlt,Ck] at hR
  cases hp:p xs[k] with
  | true =>
   rw [hp] at hc hR
   simp (disch:=omega) only [go_sem,Ab,hni,hg',hc,hg,hm]
   simpa using hR
  | false =>
   rw [hp] at hc hR
   simp (disch:=omega) only [go_sem,Ab,hni,hg',hc,hg,hm]
   exact ⟨i+1,⟨k+1,by omega,hlt,by simpa using hR⟩,by omega,by first | trivial | rfl⟩
 ·rw [zM hge,Ck] at hR
  simp (disch:=omega) only [go_sem,Ab,hni]
  exact hR
theorem Me (ns:List Int) (p:Fm→Bool) (xs:List Fm) (hl:xs.length≤1099511627776) (hg:E3 Tryz.prog 92=true) (hm:modes 92=⟨[],.asis,none,false⟩) (hE:∀ x∈xs,E 92 [x.sv,.ptr 0 0] [.box 109 [.arr (ns.map fun s=>[D.int s])]]=some (.bool (p x),[.box 109 [.arr (ns.map fun s=>[D.int s])]])):E 91 [.arr (xs.map Fm.d),.fn 92 [.ptr 0 0]] [.box 109 [.arr (ns.map fun s=>[D.int s])]]=some (.bool (xs.any p),[.box 109 [.arr (ns.map fun s=>[D.int s])]]):=by
 have h:=PT ns p xs hl hg hm hE
 refine Ak Bi Aa (of_decide_eq_true rfl) ?_
 simp (disch:=omega) only [AN,go_sem,Ab,h,A9]
 rw [G7]
theorem Vn (ns:List Int) (x:Fm) (h:E 37 [x.sv,.arr (ns.map fun s=>[D.int s])] []=some (.bool (x.hasS ns),[])):E 92 [x.sv,.ptr 0 0] [.box 109 [.arr (ns.map fun s=>[D.int s])]]=some (.bool (x.hasS ns),[.box 109 [.arr (ns.map fun s=>[D.int s])]]):=by
 have hxs:x.sv=.agg [.int .i64 x.op,.str x.atom.name,.arr (x.atom.args.map Tm.d),.str x.var,.arr (x.parts.map Fm.d)]:=rfl
 rw [hxs] at h
 rw [hxs]
 refine Ak NB Ir (of_decide_eq_true rfl) ?_
 simp (disch:=omega) only [Iq,go_sem,Ab,h,BC]
theorem TL (ns:List Int) (x:Fm) (hns:ns.length≤1099511627776) (hp:x.nodes≤1099511627776) (ih:∀ y∈x.parts,E 37 [y.sv,.arr (ns.map fun s=>[D.int s])] []=some (.bool (y.hasS ns),[])):E 37 [x.sv,.arr (ns.map fun s=>[D.int s])] []=some (.bool (x.hasS ns),[]):=by
 have hxs:x.sv=.agg [.int .i64 x.op,.str x.atom.name,.arr (x.atom.args.map Tm.d),.str x.var,.arr (x.parts.map Fm.d)]:=rfl
 have hpl:=Fm.length_le x.parts
 have hnq:=Fm.nodes_eq x
 have hie:=Fm.W4 ns x
 have h1:=PS ns x.op hns
 have h2:=Me ns (Fm.hasS ns) x.parts (by omega) NC Ir fun y hy=>Vn ns y (ih y hy)
 rw [hxs,hie]
 cases ho:(ns.any fun n=>dec (x.op=n)) with
 | true =>
  rw [ho] at h1
  rw [Bool.true_or]
  refine Ak K8 BC (of_decide_eq_true rfl) ?_
  simp (disch:=omega) only [Ho,go_sem,Ab,h1,h2,BV,Aa]
 | false =>
  rw [ho] at h1
  rw [yQ]
  refine Ak K8 BC (of_decide_eq_true rfl) ?_
  simp (disch:=omega) only [Ho,go_sem,Ab,h1,h2,BV,Aa]
theorem K9 (ns:List Int) (hns:ns.length≤1099511627776) (x:Fm) (hp:x.nodes≤1099511627776):E 37 [x.sv,.arr (ns.map fun s=>[D.int s])] []=some (.bool (x.hasS ns),[]) :=
 TL ns x hns hp fun y hy=>K9 ns hns y (by have:=Fm.nodes_mem hy; have:=Fm.nodes_eq x; omega)
termination_by SizeOf.sizeOf x
decreasing_by exact Fm.lt_of_mem hy
theorem SS {vs:List ByteArray} {k j:Nat} (h:IK vs k=true) (hj:j<k):NU vs j=true:=by
 induction k with
 | zero=>omega
 | succ k ih =>
  rw [IK,zB] at h
  rcases zH j k with h1 | h1
  ·exact ih h.1 h1
  ·obtain rfl:j=k:=by omega
   exact h.2
theorem ST {vs:List ByteArray} {k n:Nat} (h:IK vs k=false) (hn:k≤n):IK vs n=false:=by
 induction n with
 | zero =>
      obtain rfl:k=0:=by omega
      exact h
 | succ n ih =>
  rcases zH n k with h1 | h1
  ·obtain rfl:k=n+1:=by omega
   exact h
  ·rw [IK,ih h1]; rfl
theorem SU {vs:List ByteArray} (h:IK vs vs.length=true):varsUp vs:=by
 have ha:∀ j (hj:j<vs.length),BI vs[j]=true:=fun j hj=>by
  have:=SS h hj
  unfold NU at this
  rw [zB,zG,zC hj] at this
  exact this.1
 have hs:∀ j (hj:j+1<vs.length),strLt (vs[j]'(by omega)) vs[j+1]=true:=fun j hj=>by
  have:=SS h hj
  unfold NU at this
  rw [zB,Bool.or_eq_true] at this
  rcases this.2 with h1 | h1
  ·simp at h1
  ·rw [yP,zG,zG,zC hj,zC (by omega)] at h1
   exact h1
 refine ⟨fun v hv=>?_,fun i j hij hj=>?_⟩
 ·obtain ⟨j,hj,rfl⟩:=List.getElem_of_mem hv
  exact ha j hj
 ·induction j with
  | zero=>omega
  | succ j ih =>
   rcases zH i j with h1 | h1
   ·exact LF (ih h1 (by omega)) (hs j hj)
   ·obtain rfl:i=j:=by omega
    exact hs i hj
theorem SW (x:Fm):x.hasS [8,9]=(x.has 8 || x.has 9):=by
 unfold Fm.hasS
 simp
theorem Df.SY {d:Df} (h:d.ok=true) (hl:d.vars.length≤1099511627776):d.fine∧d.form.forms=true∧d.form.plain:=by
 unfold Df.ok at h
 simp only [zB,Bool.not_eq_true'] at h
 obtain ⟨h1,_,h3,h4⟩:=h
 obtain ⟨k1,k2⟩:=Ed h3
 rw [SW,yO] at h4
 exact ⟨⟨SU h1,hl,Fm.Fq _ k2,by omega⟩,k2,h4⟩
theorem TM (a b:ByteArray):(strLt a b || dec (a=b))=!strLt b a:=by
 cases h:strLt a b with
 | true=>rw [FA h]; rfl
 | false =>
  rw [yQ]
  cases h2:strLt b a with
  | true =>
   refine An fun e=>?_
   subst e
   rw [h] at h2; cases h2
  | false=>exact A6 (HW h h2)
def Ey:SC:=(.seq (.reg [⟨some 1,none,.boxv 70 7 (.t 0)⟩,⟨some 2,none,.mv (.c (.bool false))⟩]) (.seq (.seq (.reg [⟨some 5,none,.faddr 1 (.t 1)⟩,⟨some 6,none,.load false 1 (.t 5)⟩,⟨some 7,none,.len false (.t 6)⟩,⟨some 8,none,.mv (.c (.int .i64 0))⟩]) (.block 0 (.loop [0,1,0,0,0,0,1,1,1,0,0,0,0,0,0,0,0,0,0,0,0,0,0,0,0,0,0,0,0,0,0,0,0,0,0,0,0,0,0,0,0,0,0,0,0,0] (.seq (.reg [⟨some 9,none,.bin .lss false (.t 8) (.t 7)⟩]) (.seq (.cond (.t 9) .skip (.exit 0)) (.seq (.block 1 (.seq (.reg [⟨some 10,none,.mv (.t 8)⟩,⟨some 11,none,.iaddr 1 (.t 6) (.t 8)⟩,⟨some 12,none,.load false 1 (.t 11)⟩,⟨some 3,none,.mv (.t 10)⟩,⟨some 4,none,.mv (.t 12)⟩]) (.seq (.reg [⟨some 13,none,.mv (.t 4)⟩,⟨some 14,none,.call 94 [(.t 13)]⟩,⟨some 15,none,.un .not (.t 14)⟩,⟨some 16,none,.mv (.t 15)⟩,⟨(some 17),(some (16,false)),(.mv (.t 3))⟩,⟨(some 18),(some (16,false)),(.bin .gtr false (.t 17) (.c (.int .i64 0)))⟩,⟨(some 19),(some (16,false)),(.mv (.t 18))⟩,⟨(some 20),(some (19,true)),(.mv (.t 4))⟩,⟨(some 21),(some (19,true)),(.faddr 1 (.t 1))⟩,⟨(some 22),(some (19,true)),(.load false 1 (.t 21))⟩,⟨(some 23),(some (19,true)),(.mv (.t 3))⟩,⟨(some 24),(some (19,true)),(.bin .sub false (.t 23) (.c (.int .i64 1)))⟩,⟨(some 25),(some (19,true)),(.iaddr 1 (.t 22) (.t 24))⟩,⟨(some 26),(some (19,true)),(.load false 1 (.t 25))⟩,⟨(some 27),(some (19,true)),(.bin .leq false (.t 20) (.t 26))⟩,⟨(some 28),(some (16,false)),(.pick (.t 19) (.t 27) (.c (.bool false)))⟩,⟨some 29,none,.pick (.t 16) (.c (.bool true)) (.t 28)⟩]) (.cond (.t 29) (.seq (.reg [⟨some 2,none,.mv (.c (.bool false))⟩]) .ret) .skip)))) (.reg [⟨some 30,none,.bin .add false (.t 8) (.c (.int .i64 1))⟩,⟨some 8,none,.mv (.t 30)⟩]))))))) (.seq (.reg [⟨some 31,none,.faddr 0 (.t 1)⟩,⟨some 32,none,.load false 1 (.t 31)⟩,⟨some 33,none,.call 95 [(.t 32)]⟩,⟨some 34,none,.mv (.t 33)⟩,⟨(some 35),(some (34,true)),(.faddr 2 (.t 1))⟩,⟨(some 36),(some (34,true)),(.load true 5 (.t 35))⟩,⟨(some 37),(some (34,true)),(.call 36 [(.t 36)])⟩,⟨some 38,none,.pick (.t 34) (.t 37) (.c (.bool false))⟩,⟨some 39,none,.mv (.t 38)⟩,⟨(some 40),(some (39,true)),(.faddr 2 (.t 1))⟩,⟨(some 41),(some (39,true)),(.load true 5 (.t 40))⟩,⟨(some 42),(some (39,true)),(.mkrow 3 1 [(.int .i64 0)] 2 [(0,(.c (.int .i64 8))),(1,(.c (.int .i64 9)))])⟩,⟨(some 43),(some (39,true)),(.call 37 [(.t 41),(.t 42)])⟩,⟨(some 44),(some (39,true)),(.un .not (.t 43))⟩,⟨some 45,none,.pick (.t 39) (.t 44) (.c (.bool false))⟩,⟨some 2,none,.mv (.t 45)⟩]) .ret)))
theorem IR:Ao Tryz.prog 40=some ⟨46,Ey,[(.tmp 2)]⟩:=by kernel_rfl
theorem Ez:modes 40=⟨[],.asis,none,false⟩:=by unfold modes; rfl
theorem ND (d:Df) (hl:d.vars.length≤1099511627776) (hta:d.form.tame) (hn:d.form.nodes≤1099511627776):E 40 [d.sv] []=some (.bool d.ok,[]):=by
 have h1:=J8 d.name
 have h2:=CP d.form hta hn
 have h3:=K9 [8,9] (by simp) d.form hn
 have hfs:d.form.sv=.agg [.int .i64 d.form.op,.str d.form.atom.name,.arr (d.form.atom.args.map Tm.d),.str d.form.var,.arr (d.form.parts.map Fm.d)]:=rfl
 have hds:d.sv=.agg [.str d.name,.arr (d.vars.map fun s=>[D.str s]),.int .i64 d.form.op,.str d.form.atom.name,.arr (d.form.atom.args.map Tm.d),.str d.form.var,.arr (d.form.parts.map Fm.d)]:=rfl
 rw [hfs] at h2 h3
 have h8:([8,9]:List Int).map (fun s=>[D.int s])=[[D.int 8],[D.int 9]]:=rfl
 rw [h8] at h3
 rw [hds]
 refine Ak IR Ez (of_decide_eq_true rfl) ?_
 simp (disch:=omega) only [Ey,go_sem,Ab]
 refine go_loop (α:=Int) (fun a=>⟨slots 46 0 [(1,.ptr 0 0),(6,.arr (d.vars.map fun s=>[D.str s])),(7,.int .i64 d.vars.length),(8,.int .i64 a)],[.box 70 [.str d.name,.arr (d.vars.map fun s=>[D.str s]),.int .i64 d.form.op,.str d.form.atom.name,.arr (d.form.atom.args.map Tm.d),.str d.form.var,.arr (d.form.parts.map Fm.d)]]⟩) (fun a=>∃ k:Nat,a=k∧k≤(d.vars).length∧IK d.vars k=true) (fun a=>(d.vars).length-(a).toNat) 0 ⟨0,rfl,zO _,rfl⟩ (by simp (disch:=omega) only [go_sem,Ab]) ?_
 rintro i ⟨k,hi,hk,hR⟩
 have hni:i.toNat=k:=by omega
 have hni1:(i+1).toNat=k+1:=by omega
 rcases zH k (d.vars).length with hlt | hge
 ·have hg:(d.vars.map fun s=>[D.str s])[k]?=some [D.str (d.vars.getD k ⟨#[]⟩)]:=by
   rw [z5,zC hlt,zG,zC hlt]; rfl
  have hv:=Cb (d.vars.getD k ⟨#[]⟩)
  have hno:NU d.vars k=false→d.ok=false:=fun h=>by
   unfold Df.ok
   rw [ST (k:=k+1) (by rw [IK,hR,h]; rfl) (by omega)]; rfl
  have hye:NU d.vars k=true→IK d.vars (k+1)=true:=fun h=>by rw [IK,hR,h]; rfl
  unfold NU at hno hye
  cases hb:BI (d.vars.getD k ⟨#[]⟩) with
  | false =>
   rw [hb] at hv hno
   rw [hno (by rfl)]
   simp (disch:=omega) only [go_sem,Ab,hni,hg,hv,Ae]
  | true =>
   rw [hb] at hv hno hye
   rcases zD k with h0 | h0
   ·subst h0
    obtain rfl:i=0:=hi
    simp (disch:=omega) only [go_sem,Ab,hni,hg,hv,Ae]
    exact ⟨1,⟨1,rfl,hlt,hye (by rfl)⟩,by omega,by first | trivial | rfl⟩
   ·obtain ⟨j,rfl⟩:∃ j,k=j+1:=⟨k-1,by omega⟩
    have hni2:(i-1).toNat=j:=by omega
    have hg2:(d.vars.map fun s=>[D.str s])[j]?=some [D.str (d.vars.getD j ⟨#[]⟩)]:=by
     rw [z5,zC (by omega),zG,zC (by omega)]; rfl
    have q1:(0<i)=True:=eq_true (by omega)
    have hle:=TM (d.vars.getD (j+1) ⟨#[]⟩) (d.vars.getD j ⟨#[]⟩)
    rw [yP] at hno hye
    cases hs:strLt (d.vars.getD j ⟨#[]⟩) (d.vars.getD (j+1) ⟨#[]⟩) with
    | false =>
     rw [hs] at hno hle
     rw [hno (by simp)]
     simp (disch:=omega) only [go_sem,Ab,hni,hni2,hg,hg2,hv,q1,hle,Ae]
    | true =>
     rw [hs] at hye hle
     simp (disch:=omega) only [go_sem,Ab,hni,hni2,hg,hg2,hv,q1,hle,Ae]
     exact ⟨i+1,⟨j+1+1,by omega,hlt,hye (by simp)⟩,by omega,by first | trivial | rfl⟩
 ·obtain rfl:k=d.vars.length:=by omega
  unfold Df.ok
  rw [hR,zE]
  cases ha:Dw d.name with
  | false =>
   rw [ha] at h1
   simp (disch:=omega) only [go_sem,Ab,hni,h1,h2,h3,AH,A2,BC]
  | true =>
   rw [ha] at h1
   rw [zE]
   cases hc:d.form.valid with
   | false =>
    rw [hc] at h2
    simp (disch:=omega) only [go_sem,Ab,hni,h1,h2,h3,AH,A2,BC]
   | true =>
    rw [hc] at h2
    rw [zE]
    cases he:d.form.hasS [8,9] with
    | false =>
     rw [he] at h3
     simp (disch:=omega) only [go_sem,Ab,hni,h1,h2,h3,AH,A2,BC]
    | true =>
     rw [he] at h3
     simp (disch:=omega) only [go_sem,Ab,hni,h1,h2,h3,AH,A2,BC]
def CI:SC:=(.seq (.reg [⟨some 1,none,.boxv 36 5 (.t 0)⟩,⟨some 2,none,.mv (.c (.bool false))⟩]) (.seq (.reg [⟨some 3,none,.load true 5 (.t 1)⟩,⟨some 4,none,.call 32 [(.t 3)]⟩,⟨some 5,none,.mv (.t 4)⟩,⟨(some 6),(some (5,true)),(.load true 5 (.t 1))⟩,⟨(some 7),(some (5,true)),(.call 78 [(.t 6),(.c (.int .i64 8))])⟩,⟨(some 8),(some (5,true)),(.un .not (.t 7))⟩,⟨some 9,none,.pick (.t 5) (.t 8) (.c (.bool false))⟩,⟨some 10,none,.mv (.t 9)⟩,⟨(some 11),(some (10,true)),(.load true 5 (.t 1))⟩,⟨(some 12),(some (10,true)),(.call 78 [(.t 11),(.c (.int .i64 9))])⟩,⟨(some 13),(some (10,true)),(.un .not (.t 12))⟩,⟨some 14,none,.pick (.t 10) (.t 13) (.c (.bool false))⟩,⟨some 2,none,.mv (.t 14)⟩]) .ret))
theorem DB:Ao Tryz.prog 28=some ⟨15,CI,[(.tmp 2)]⟩:=by kernel_rfl
theorem AD:modes 28=⟨[],.asis,none,false⟩:=by unfold modes; rfl
theorem Pj (x:Fm) (hta:x.tame) (hn:x.nodes≤1099511627776):E 28 [x.sv] []=some (.bool (x.valid&&!x.hasS [8,9]),[]):=by
 have h1:=N7 x hta hn
 have h2:=PR 8 x hn
 have h3:=PR 9 x hn
 rw [SW]
 cases hv:x.valid <;> rw [hv] at h1
 ·refine Ak DB AD (of_decide_eq_true rfl) ?_
  simp (disch:=omega) only [CI,go_sem,Ab,h1,h2,h3,AO,Cd]
 ·cases ha:x.has 8 <;> rw [ha] at h2
  ·cases hb:x.has 9 <;> rw [hb] at h3
   ·refine Ak DB AD (of_decide_eq_true rfl) ?_
    simp (disch:=omega) only [CI,go_sem,Ab,h1,h2,h3,AO,Cd]
   ·refine Ak DB AD (of_decide_eq_true rfl) ?_
    simp (disch:=omega) only [CI,go_sem,Ab,h1,h2,h3,AO,Cd]
  ·refine Ak DB AD (of_decide_eq_true rfl) ?_
   simp (disch:=omega) only [CI,go_sem,Ab,h1,h2,h3,AO,Cd]
def E0:SC:=(.seq (.reg [⟨some 1,none,.boxv 70 7 (.t 0)⟩,⟨some 2,none,.mv (.c (.bool false))⟩]) (.seq (.seq (.reg [⟨some 3,none,.mv (.c (.int .i64 0))⟩]) (.block 0 (.loop [0,1,0,1,0,0,0,0,0,0,0,0,0,0,0,0,0,0,0,0,0,0,0,0,0,0,0,0,0,0,0,0,0,0,0,0,0,0,0,0,0,0,0,0] (.seq (.seq (.reg [⟨some 4,none,.mv (.t 3)⟩,⟨some 5,none,.faddr 1 (.t 1)⟩,⟨some 6,none,.load false 1 (.t 5)⟩,⟨some 7,none,.len false (.t 6)⟩,⟨some 8,none,.bin .lss false (.t 4) (.t 7)⟩]) (.cond (.t 8) .skip (.exit 0))) (.seq (.block 1 (.seq (.dreg [[],[0],[],[1,0,2],[3,1,0,2],[4,3,1,0,2],[5,4,3,1,0,2],[6,5,4,3,1,0,2],[7,6,5,4,3,1,0,2],[8,7,6,5,4,3,1,0,2],[9,8,7,6,5,4,3,1,0,2],[10,9,8,7,6,5,4,3,1,0,2],[11,10,9,8,7,6,5,4,3,1,0,2],[10,9,8,7,6,5,4,3,1,0,2],[13,10,9,8,7,6,5,4,3,1,0,2],[12,11,10,9,8,7,6,5,4,3,1,0,2,14,13],[15,12,11,10,9,8,7,6,5,4,3,1,0,2,14,13],[10,9,8,7,6,5,4,3,1,0,2],[17,10,9,8,7,6,5,4,3,1,0,2],[10,9,8,7,6,5,4,3,1,0,2],[18,17,10,9,8,7,6,5,4,3,1,0,2,19],[20,18,17,10,9,8,7,6,5,4,3,1,0,2,19],[16,15,12,11,10,9,8,7,6,5,4,3,1,0,2,14,13,21,20,18,17,19],[10,9,8,7,6,5,4,3,1,0,2,22,16,15,12,11,14,13,21,20,18,17,19],[7,6,5,4,3,1,0,2,23,10,9,8,22,16,15,12,11,14,13,21,20,18,17,19]] [⟨some 11,none,.faddr 1 (.t 1)⟩,⟨some 12,none,.load false 1 (.t 11)⟩,⟨some 13,none,.mv (.t 3)⟩,⟨some 14,none,.iaddr 1 (.t 12) (.t 13)⟩,⟨some 15,none,.load false 1 (.t 14)⟩,⟨some 16,none,.call 79 [(.t 15)]⟩,⟨some 17,none,.un .not (.t 16)⟩,⟨some 18,none,.mv (.t 17)⟩,⟨(some 19),(some (18,false)),(.mv (.t 3))⟩,⟨(some 20),(some (18,false)),(.bin .gtr false (.t 19) (.c (.int .i64 0)))⟩,⟨(some 21),(some (18,false)),(.mv (.t 20))⟩,⟨(some 22),(some (21,true)),(.faddr 1 (.t 1))⟩,⟨(some 23),(some (21,true)),(.load false 1 (.t 22))⟩,⟨(some 24),(some (21,true)),(.mv (.t 3))⟩,⟨(some 25),(some (21,true)),(.bin .sub false (.t 24) (.c (.int .i64 1)))⟩,⟨(some 26),(some (21,true)),(.iaddr 1 (.t 23) (.t 25))⟩,⟨(some 27),(some (21,true)),(.load false 1 (.t 26))⟩,⟨(some 28),(some (21,true)),(.faddr 1 (.t 1))⟩,⟨(some 29),(some (21,true)),(.load false 1 (.t 28))⟩,⟨(some 30),(some (21,true)),(.mv (.t 3))⟩,⟨(some 31),(some (21,true)),(.iaddr 1 (.t 29) (.t 30))⟩,⟨(some 32),(some (21,true)),(.load false 1 (.t 31))⟩,⟨(some 33),(some (21,true)),(.bin .geq false (.t 27) (.t 32))⟩,⟨(some 34),(some (18,false)),(.pick (.t 21) (.t 33) (.c (.bool false)))⟩,⟨some 35,none,.pick (.t 18) (.c (.bool true)) (.t 34)⟩]) (.cond (.t 35) (.seq (.reg [⟨some 2,none,.mv (.c (.bool false))⟩]) .ret) .skip))) (.reg [⟨some 9,none,.mv (.t 3)⟩,⟨some 10,none,.bin .add false (.t 9) (.c (.int .i64 1))⟩,⟨some 3,none,.mv (.t 10)⟩])))))) (.seq (.reg [⟨some 36,none,.faddr 0 (.t 1)⟩,⟨some 37,none,.load false 1 (.t 36)⟩,⟨some 38,none,.call 80 [(.t 37)]⟩,⟨some 39,none,.mv (.t 38)⟩,⟨(some 40),(some (39,true)),(.faddr 2 (.t 1))⟩,⟨(some 41),(some (39,true)),(.load true 5 (.t 40))⟩,⟨(some 42),(some (39,true)),(.call 28 [(.t 41)])⟩,⟨some 43,none,.pick (.t 39) (.t 42) (.c (.bool false))⟩,⟨some 2,none,.mv (.t 43)⟩]) .ret)))
theorem IS:Ao Tryz.prog 29=some ⟨44,E0,[(.tmp 2)]⟩:=by kernel_rfl
theorem AJ:modes 29=⟨[],.asis,none,false⟩:=by unfold modes; rfl
theorem NE (d:Df) (hl:d.vars.length≤1099511627776) (hta:d.form.tame) (hn:d.form.nodes≤1099511627776):E 29 [d.sv] []=some (.bool d.ok,[]):=by
 have h1:=J9 d.name
 have h2:=Pj d.form hta hn
 have hfs:d.form.sv=.agg [.int .i64 d.form.op,.str d.form.atom.name,.arr (d.form.atom.args.map Tm.d),.str d.form.var,.arr (d.form.parts.map Fm.d)]:=rfl
 have hds:d.sv=.agg [.str d.name,.arr (d.vars.map fun s=>[D.str s]),.int .i64 d.form.op,.str d.form.atom.name,.arr (d.form.atom.args.map Tm.d),.str d.form.var,.arr (d.form.parts.map Fm.d)]:=rfl
 rw [hfs] at h2
 rw [hds]
 refine Ak IS AJ (of_decide_eq_true rfl) ?_
 simp (disch:=omega) only [E0,go_sem,Ab]
 refine go_loop (α:=Int) (fun a=>⟨slots 44 0 [(1,.ptr 0 0),(3,.int .i64 a)],[.box 70 [.str d.name,.arr (d.vars.map fun s=>[D.str s]),.int .i64 d.form.op,.str d.form.atom.name,.arr (d.form.atom.args.map Tm.d),.str d.form.var,.arr (d.form.parts.map Fm.d)]]⟩) (fun a=>∃ k:Nat,a=k∧k≤(d.vars).length∧IK d.vars k=true) (fun a=>(d.vars).length-(a).toNat) 0 ⟨0,rfl,zO _,rfl⟩ (by simp (disch:=omega) only [go_sem,Ab]) ?_
 rintro i ⟨k,hi,hk,hR⟩
 have hni:i.toNat=k:=by omega
 have hni1:(i+1).toNat=k+1:=by omega
 rcases zH k (d.vars).length with hlt | hge
 ·have hg:(d.vars.map fun s=>[D.str s])[k]?=some [D.str (d.vars.getD k ⟨#[]⟩)]:=by
   rw [z5,zC hlt,zG,zC hlt]; rfl
  have hv:=DV (d.vars.getD k ⟨#[]⟩)
  have hno:NU d.vars k=false→d.ok=false:=fun h=>by
   unfold Df.ok
   rw [ST (k:=k+1) (by rw [IK,hR,h]; rfl) (by omega)]; rfl
  have hye:NU d.vars k=true→IK d.vars (k+1)=true:=fun h=>by rw [IK,hR,h]; rfl
  unfold NU at hno hye
  cases hb:BI (d.vars.getD k ⟨#[]⟩) with
  | false =>
   rw [hb] at hv hno
   rw [hno (by rfl)]
   simp (disch:=omega) only [go_sem,Ab,hni,hg,hv,Aj]
  | true =>
   rw [hb] at hv hno hye
   rcases zD k with h0 | h0
   ·subst h0
    obtain rfl:i=0:=hi
    simp (disch:=omega) only [go_sem,Ab,hni,hg,hv,Aj]
    exact ⟨1,⟨1,rfl,hlt,hye (by rfl)⟩,by omega,by first | trivial | rfl⟩
   ·obtain ⟨j,rfl⟩:∃ j,k=j+1:=⟨k-1,by omega⟩
    have hni2:(i-1).toNat=j:=by omega
    have hg2:(d.vars.map fun s=>[D.str s])[j]?=some [D.str (d.vars.getD j ⟨#[]⟩)]:=by
     rw [z5,zC (by omega),zG,zC (by omega)]; rfl
    have q1:(0<i)=True:=eq_true (by omega)
    rw [yP] at hno hye
    cases hs:strLt (d.vars.getD j ⟨#[]⟩) (d.vars.getD (j+1) ⟨#[]⟩) with
    | false =>
     rw [hs] at hno
     rw [hno (by simp)]
     simp (disch:=omega) only [go_sem,Ab,hni,hni2,hg,hg2,hv,q1,hs,Aj]
    | true =>
     rw [hs] at hye
     simp (disch:=omega) only [go_sem,Ab,hni,hni2,hg,hg2,hv,q1,hs,Aj]
     exact ⟨i+1,⟨j+1+1,by omega,hlt,hye (by simp)⟩,by omega,by first | trivial | rfl⟩
 ·obtain rfl:k=d.vars.length:=by omega
  unfold Df.ok
  rw [hR,zE]
  cases ha:Dw d.name with
  | false =>
   rw [ha] at h1
   simp (disch:=omega) only [go_sem,Ab,hni,h1,h2,AK,AD]
  | true =>
   rw [ha] at h1
   rw [zE]
   cases hc:(d.form.valid&&!d.form.hasS [8,9]) with
   | false =>
    rw [hc] at h2
    simp (disch:=omega) only [go_sem,Ab,hni,h1,h2,AK,AD]
   | true =>
    rw [hc] at h2
    simp (disch:=omega) only [go_sem,Ab,hni,h1,h2,AK,AD]
theorem Fm.JL {g:Fm→Fm} {a:Nat}:∀ xs:List Fm,(∀ y∈xs,(g y).nodes≤a*y.nodes)→Fm.nodeS (xs.map g)≤a*Fm.nodeS xs
 | [],_=>by rw [zN,Fm.nodeS]; omega
 | x :: xs,h=>by
  rw [yJ,Fm.nodeS,Fm.nodeS,yL]
  have:=h x (by simp)
  have:=Fm.JL xs fun y hy=>h y (by simp [hy])
  omega
theorem Fm.NF {g:Fm→Fm} {a c:Nat}:∀ xs:List Fm,(∀ y∈xs,(g y).vn≤a*y.vn+c*y.nodes)→Fm.vnS (xs.map g)≤a*Fm.vnS xs+c*Fm.nodeS xs
 | [],_=>by rw [zN,Fm.vnS]; omega
 | x :: xs,h=>by
  rw [yJ,Fm.vnS,Fm.vnS,Fm.nodeS,yL,yL]
  have:=h x (by simp)
  have:=Fm.NF xs fun y hy=>h y (by simp [hy])
  omega
theorem Fm.NG (e:TEnv) (x:Fm):(x.inst e).nodes≤x.nodes:=by
 have ih:∀ y∈x.parts,(y.inst e).nodes≤1*y.nodes:=fun y hy=>by have:=Fm.NG e y; omega
 have hm:=Fm.JL x.parts ih
 rw [Fm.Mo]
 cases dec (x.op=3) with
 | true =>
  rw [cond_true,Fm.nodes_eq,Fm.nodes_eq]
  show 1+Fm.nodeS []≤_
  rw [Fm.nodeS]; omega
 | false =>
  rw [cond_false,Fm.nodes_eq,Fm.nodes_eq x]
  show 1+Fm.nodeS (x.parts.map (Fm.inst e))≤_
  omega
termination_by SizeOf.sizeOf x
decreasing_by exact Fm.lt_of_mem hy
theorem Fm.SZ {m:Nat} (hm:1≤m) {e:TEnv} (he:TB m e) (x:Fm):(x.inst e).vn≤m*x.vn:=by
 have ih:∀ y∈x.parts,(y.inst e).vn≤m*y.vn+0*y.nodes:=fun y hy=>by have:=Fm.SZ hm he y; omega
 have hs:=Fm.NF x.parts ih
 have ha:=Tm.QN hm he x.atom
 have hle:x.atom.nodes≤m*x.atom.nodes:=Nat.le_mul_of_pos_left _ (by omega)
 rw [Fm.Mo]
 cases dec (x.op=3) with
 | true =>
  rw [cond_true,Fm.HV,Fm.HV x,yL]
  show (x.atom.rv e).nodes+Fm.vnS []≤_
  rw [Fm.vnS]; omega
 | false =>
  rw [cond_false,Fm.HV,Fm.HV x,yL]
  show x.atom.nodes+Fm.vnS (x.parts.map (Fm.inst e))≤_
  omega
termination_by SizeOf.sizeOf x
decreasing_by exact Fm.lt_of_mem hy
theorem Fm.PU {y:Fm}:∀ {xs:List Fm},y∈xs→y.vn≤Fm.vnS xs
 | x :: xs,h=>by
  rw [Fm.vnS]
  rcases zS.1 h with rfl | h
  ·omega
  ·have:=Fm.PU h; omega
theorem Vo:Fm.zero.vn=1:=by
 rw [Fm.HV]
 show Tm.zero.nodes+Fm.vnS []=1
 rw [Fm.vnS,Tm.nodes_eq]
 show 1+Tm.nodeS []+0=1
 rw [Tm.nodeS]
theorem Rj:Fm.zero.nodes=1:=by
 rw [Fm.nodes_eq]
 show 1+Fm.nodeS []=1
 rw [Fm.nodeS]
theorem Fm.NH (d:Df) (x:Fm):(x.unfV d).nodes≤d.form.nodes*x.nodes:=by
 have h1:=Fm.nodes_pos d.form
 have h2:=Fm.nodes_pos x
 have ih:∀ y∈x.parts,(y.unfV d).nodes≤d.form.nodes*y.nodes:=fun y hy=>Fm.NH d y
 have hm:=Fm.JL x.parts ih
 have hle:d.form.nodes≤d.form.nodes*x.nodes:=Nat.le_mul_of_pos_right _ h2
 rw [Fm.K2]
 cases (dec (x.op=3)&&dec (x.atom.name=d.name)) with
 | true =>
  rw [cond_true]
  cases dec (x.atom.args.length=d.vars.length) with
  | true =>
   rw [cond_true]
   have:=Fm.NG (G1 d.vars x.atom.args d.vars.length) d.form
   omega
  | false =>
   rw [cond_false,Rj]
   omega
 | false =>
  rw [cond_false,Fm.nodes_eq,Fm.nodes_eq x,yL]
  show 1+Fm.nodeS (x.parts.map (Fm.unfV d))≤_
  omega
termination_by SizeOf.sizeOf x
decreasing_by exact Fm.lt_of_mem hy
theorem Fm.Ta {m:Nat} (hm:1≤m) (d:Df) (hv:varsUp d.vars) (x:Fm) (hx:x.vn≤m):(x.unfV d).vn≤x.vn+(m*d.form.vn+1)*x.nodes:=by
 have h2:=Fm.nodes_pos x
 have ih:∀ y∈x.parts,(y.unfV d).vn≤1*y.vn+(m*d.form.vn+1)*y.nodes:=fun y hy=>by
  have h3:=Fm.PU hy
  have h4:=Fm.HV x
  have:=Fm.Ta hm d hv y (by omega)
  omega
 have hs:=Fm.NF x.parts ih
 have hle:m*d.form.vn+1≤(m*d.form.vn+1)*x.nodes:=Nat.le_mul_of_pos_right _ h2
 rw [Fm.K2]
 cases (dec (x.op=3)&&dec (x.atom.name=d.name)) with
 | true =>
  rw [cond_true]
  cases dec (x.atom.args.length=d.vars.length) with
  | true =>
   rw [cond_true]
   have h5:=Fm.HV x
   have h6:=Tm.nodes_eq x.atom
   have:=Fm.SZ hm (Mn hv (ts:=x.atom.args) (m:=m) (fun a ha=>by have:=Tm.nodes_mem ha; omega) hm d.vars.length (yA _)) d.form
   omega
  | false =>
   rw [cond_false,Vo]
   omega
 | false =>
  have h5:=Fm.HV x
  rw [cond_false,Fm.HV,Fm.nodes_eq x,yL]
  show x.atom.nodes+Fm.vnS (x.parts.map (Fm.unfV d))≤_
  omega
termination_by SizeOf.sizeOf x
decreasing_by exact Fm.lt_of_mem hy
theorem Fm.Rl (x:Fm) (h:x.vn≤1099511627776):x.tame:=by
 have key:∀ xs:List Fm,(∀ y∈xs,y.tame)→Fm.F9 xs:=by
  intro xs
  induction xs with
  | nil=>intro _; rw [Fm.F9]; trivial
  | cons x xs ih=>intro h; rw [Fm.F9]; exact ⟨h x (by simp),ih fun y hy=>h y (by simp [hy])⟩
 have h1:=Fm.HV x
 rw [Fm.Hh]
 exact ⟨by omega,key _ fun y hy=>Fm.Rl y (by have:=Fm.PU hy; omega)⟩
termination_by SizeOf.sizeOf x
decreasing_by exact Fm.lt_of_mem hy
theorem Df.W7 {d:Df} (h:d.ok=true):d.form.valid=true:=by
 unfold Df.ok at h
 simp only [zB] at h
 exact h.2.2.1
theorem NI {d:Df} (hd:d.ok=true) {x:Fm} (hx:x.valid=true):(x.unfV d).nodes≤1600∧(x.unfV d).tame:=by
 obtain ⟨x1,x2⟩:=Ed hx
 obtain ⟨d1,d2⟩:=Ed (Df.W7 hd)
 have h1:=Fm.Vj x x2
 have h2:=Fm.Vj d.form d2
 have hv:varsUp d.vars:=by
  unfold Df.ok at hd
  rw [zB] at hd
  exact SU hd.1
 have h3:=Fm.NH d x
 have h4:=Fm.Ta (m:=1200) (by omega) d hv x (by omega)
 have h5:d.form.nodes*x.nodes≤40*40:=Nat.mul_le_mul d1 x1
 have h6:(1200*d.form.vn+1)*x.nodes≤(1200*1200+1)*40:=Nat.mul_le_mul (by omega) x1
 exact ⟨by omega,Fm.Rl _ (by omega)⟩
theorem Hp {x:Fm} (hx:x.valid=true):∀ (ds:List Df) {y:Fm},AW ds x=some y→y.valid=true
 | [],y,h=>by rw [AW] at h; obtain rfl:=z6 h; exact hx
 | d :: ds,y,h=>by
  rw [AW] at h
  split at h
  ·unfold E6 at h
   obtain ⟨h1,h2⟩:=Aq h
   obtain rfl:=z6 h2
   rw [zB] at h1
   exact h1.2
  ·cases h
theorem Is {x:Fm}:∀ (ds:List Df) (k:Nat),AW (ds.drop k) x=none→AW ds x=none
 | [],k,h=>by rw [List.drop_nil] at h; exact h
 | d :: ds,0,h=>h
 | d :: ds,k+1,h=>by
  rw [List.drop_succ_cons] at h
  rw [AW,Is ds k h]
theorem LN {x:Fm} {ds:List Df} {j:Nat} (hj:j<ds.length):AW (ds.drop j) x=match AW (ds.drop (j+1)) x with | some z=>E6 ds[j] z | none=>none:=by
 rw [zJ hj,AW]
 rfl
variable [Flag]
def wf (ro:Option Nat):Fence:={ Fence.wide with round:=ro }
theorem Sk {ro:Option Nat} {n:Nat} {P:Program} {f:FuncId} {args:Array Value} {w:World} {R:Ending→World→Prop} (h:Calls P f args w R):CallsIn (wf ro) n P f args w R:=by
 have h1:CallsIn Fence.wide n P f args w R:=callsIn_wide.2 h
 exact h1
theorem TN {ro:Option Nat} {n:Nat} {P:Program} {f:String} {args:Array Value} {w:World} {R:Value→World→Prop} (h:Rows P f args w R):RowsIn (wf ro) n P f args w R:=by
 intro c cs _
 obtain ⟨v,w',r,s⟩:=h c cs
 have h1:=stepsIn_wide.2 s
 exact ⟨v,w',r,h1⟩
def RepD (ds:List Deferred) (c:Ctx) (s:Fst) (a:Act) (w:World):Prop:=a.defers=ds∧Rep c s { a with defers:=[] } w
section
variable {P:Program} {c:Ctx} {ops:Array Oper} {Q:Exit→Act→World→Prop} {ro:Option Nat} {n:Nat} {ds:List Deferred}
theorem W8 (a:Act) (d:Option Tmp) (v:Value):{ (({ a with defers:=[] }:Act).put d v) with defers:=a.defers }=a.put d v:=by
 cases d <;> rfl
theorem OpS.inn {o:Oper} {s:Fst} {x:SV} {upd:List (Nat × Ob)} (hd:∀ q,o.op≠.defer q) (h:OpS P c o s x upd) {a:Act} {w:World} {K:Act→World→Prop} (hr:RepD ds c s a w) (hK:∀ a' w',RepD ds c (s.app o.dst x upd) a' w'→K a' w'):o.wpIn (wf ro) n P a w K Q:=by
 obtain ⟨rfl,hr⟩:=hr
 have h0:=h { a with defers:=[] } w (fun b w'=>b.defers=[]∧K { b with defers:=a.defers } w') (fun _ _ _=>False) hr fun b w' hb=>by
  have hbd:b.defers=[]:=by
   obtain ⟨I,V,B,hb⟩:=hb
   exact hb.nd
  refine ⟨hbd,hK _ _ ⟨rfl,?_⟩⟩
  have e:({ ({ b with defers:=a.defers }:Act) with defers:=[] }:Act)=b:=by
   cases b
   simp only at hbd
   subst hbd
   rfl
  rw [e]
  exact hb
 have e1:Act.eval { a with defers:=[] }=a.eval:=by
  funext q
  cases q <;> rfl
 unfold Oper.wp at h0
 rw [e1] at h0
 refine ⟨fun _ _=>trivial,?_⟩
 rw [Oper.semAt_eq _ _ _ hd]
 cases hx:(execOp a.eval o).run P w with
 | ok nx w' =>
  rw [hx] at h0
  cases nx with
  | value v =>
   rw [Oper.upon_value] at h0
   rw [Oper.uponIn_value]
   have:=h0.2
   rwa [W8] at this
  | skip =>
   rw [Oper.upon_skip] at h0
   rw [Oper.uponIn_skip]
   have:=h0.2
   rwa [W8] at this
  | defer d =>
   rw [Oper.upon_defer] at h0
   have:=h0.1
   cases hds:o.dst <;> rw [hds] at this <;> cases this
  | enter f args =>
   rw [Oper.upon_enter] at h0
   rw [Oper.uponIn_enter]
   refine ⟨fun e=>absurd e (by simp [wf,Fence.wide]),(Sk h0).mono ?_⟩
   intro e w2 h2
   cases e with
   | returned v =>
    have:=h2.2
    rwa [W8] at this
   | panicked chain=>exact h2.elim
   | outgrown =>
    obtain ⟨_,_,h3⟩:=h2
    exact h3.elim
  | row row args =>
   rw [Oper.upon_row] at h0
   rw [Oper.uponIn_row]
   refine ⟨fun e=>absurd e (by simp [wf,Fence.wide]),(TN h0).mono ?_⟩
   intro v w2 h2
   have:=h2.2
   rwa [W8] at this
  | _=>exact h0.elim
 | halt x w' =>
  rw [hx] at h0
  cases x <;> exact h0.elim
theorem RepD.putU {s:Fst} {a:Act} {w:World} {d:Option Tmp} (hr:RepD ds c s a w) (hd:AG c.nt d=true):RepD ds c (s.app d (.tup []) []) (a.put d undef) w:=by
 obtain ⟨rfl,I,V,B,hr⟩:=hr
 refine ⟨by cases d <;> rfl,I,V,B,?_⟩
 have h:=RepI.put (s:=s.setO []) (by simpa [Fst.setO,AB] using hr) hd (KG w I V)
 have e:({ (a.put d undef) with defers:=[] }:Act)=({ a with defers:=[] }:Act).put d undef:=by cases d <;> rfl
 rw [e]
 exact h
theorem KA:∀ (l:List Oper) (es:List Ent) (s:Fst) (a:Act) (w:World),(∀ o∈l,∀ q,o.op≠.defer q)→(∀ o∈l,AG c.nt o.dst=true∧KH c.nt ops o=true)→TextOk P c ops l es s→RepD ds c s a w →
  (∀ a' w',RepD ds c (IH l es s) a' w'→Q .normal a' w')→wpListIn (wf ro) n P ops Q l a w
 | [],es,s,a,w,_,_,ht,hr,hq=>by
  simp only [TextOk] at ht
  subst ht
  exact hq a w hr
 | o :: os,es,s,a,w,hnd,hd,ht,hr,hq=>by
  simp only [TextOk] at ht
  obtain ⟨e,r,rfl,hv,ht⟩:=ht
  obtain ⟨hg,hs⟩:=hv s (fun _ _=>rfl) (fun _ _=>rfl) (fun _ _=>rfl)
  have hd0:=hd o (by simp)
  have hw:=E2 hg hr.2 (Iw hd0.2)
  have next:∀ a' w',RepD ds c (s.app o.dst e.x e.upd) a' w'→wpListIn (wf ro) n P ops Q os a' w':=fun a' w' hr' =>
   KA os r _ a' w' (fun o' ho'=>hnd o' (by simp [ho'])) (fun o' ho'=>hd o' (by simp [ho'])) ht hr' fun a'' w'' h=>hq a'' w'' (by simpa [IH] using h)
  unfold wpListIn
  rw [hw]
  cases he:e.run with
  | true =>
   rw [if_pos rfl]
   rw [he,if_pos rfl] at hs
   exact OpS.inn (hnd o (by simp)) hs hr next
  | false =>
   rw [if_neg (by simp)]
   rw [he,if_neg (by simp)] at hs
   refine ⟨fun _ _=>trivial,next _ _ ?_⟩
   rw [hs.1,hs.2]
   exact hr.putU hd0.1
end
section
variable {P:Program} {c:Ctx} {Q:Exit→Act→World→Prop} {ro:Option Nat} {n:Nat} {ds:List Deferred}
variable {l:List Oper} {es:List Ent} {anc:List (List Nat)}
theorem Rm (hnd:∀ o∈l,∀ q,o.op≠.defer q) (h:Conf l es anc) {s:Fst} (hd:∀ o∈l,AG c.nt o.dst=true∧KH c.nt l.toArray o=true) (ht:TextOk P c l.toArray l es s) (hq:∀ a' w',RepD ds c (IH l es s) a' w'→Q .normal a' w') :
  ∀ (f:Nat) (listed:Array Bool) (a:Act) (w:World),listed.size=l.length→TR l (fun j=>listed.getD j false)→open_ (fun j=>listed.getD j false) l.length=f→RepD ds c (stD l es s (fun j=>listed.getD j false) l.length) a w →
   wpAnyIn (wf ro) n P .any l.toArray Q f listed a w:=by
 have fin:∀ (listed:Array Bool) (a:Act) (w:World),open_ (fun j=>listed.getD j false) l.length=0→RepD ds c (stD l es s (fun j=>listed.getD j false) l.length) a w→Q .normal a w:=by
  intro listed a w ho hr
  refine hq a w ?_
  have e1:stD l es s (fun j=>listed.getD j false) l.length=stD l es s (fun _=>true) l.length:=by
   unfold stD
   congr 1
   ·funext k; exact CC _ fun j hj _=>EF ho j hj
   ·funext k; exact CC _ fun j hj _=>EF ho j hj
  have e0:stD l es s (fun _=>true) 0=s:=by unfold stD; rfl
  have e2:=Pn (l0:=l) (es0:=es) (s0:=s) (l:=l) (es:=es) (n:=0) h.len (fun j=>by simp) (fun j=>by simp)
  rw [e0,zW] at e2
  rw [e2,← e1]
  exact hr
 intro f
 induction f with
 | zero =>
  intro listed a w hsz hclo hop hr
  refine ⟨?_,fin listed a w hop hr⟩
  cases hrd:Region.ready .any l.toArray listed with
  | nil=>rfl
  | cons i r =>
   have hi:i∈Region.ready .any l.toArray listed:=by rw [hrd]; simp
   obtain ⟨h1,o,ho,_⟩:=mem_ready.1 hi
   have hlt:i<l.length:=by have:=(yC.1 ho).1; simpa using this
   have:=EF hop i hlt
   have e:listed.getD i true=listed.getD i false:=by simp [zP,yH (show i<listed.size by omega)]
   rw [e,this] at h1; cases h1
 | succ f ih =>
  intro listed a w hsz hclo hop hr
  refine ⟨fun hrd=>?_,fun i hi=>?_⟩
  ·
   exfalso
   obtain ⟨i,hi⟩:∃ i,i∈Region.ready .any l.toArray listed:=by
    have hex:∃ j,j<l.length∧listed.getD j false=false:=by
     refine Classical.byContradiction fun hno=>?_
     have:open_ (fun j=>listed.getD j false) l.length=0:=by
      unfold open_
      rw [List.countP_eq_zero]
      intro j hj
      have hj:=List.mem_range.1 hj
      cases hlj:listed.getD j false with
      | true=>simpa using hlj
      | false=>exact absurd ⟨j,hj,hlj⟩ hno
     omega
    obtain ⟨j,⟨hj1,hj2⟩,hmin⟩:∃ j,(j<l.length∧listed.getD j false=false)∧∀ k,k<j→¬ (k<l.length∧listed.getD k false=false):=by
     obtain ⟨j,hj⟩:=hex
     induction j using Nat.strongRecOn with
     | _ j ih =>
      by_cases hk:∃ k,k<j∧(k<l.length∧listed.getD k false=false)
      ·obtain ⟨k,h1,h2⟩:=hk; exact ih k h1 h2
      ·exact ⟨j,hj,fun k h1 h2=>hk ⟨k,h1,h2⟩⟩
    refine ⟨j,mem_ready.2 ⟨?_,l[j],by simp [hj1],fun e he hb=>?_⟩⟩
    ·simpa [zP,yH (show j<listed.size by omega)] using hj2
    ·have hlt:=(GR h.slot (zC hj1) (zC hj1)).1 e he hb
     cases hle:listed.getD e.on false with
     | true=>rfl
     | false=>exact absurd ⟨by omega,hle⟩ (hmin e.on hlt)
   rw [hrd] at hi
   cases hi
  ·obtain ⟨h1,o,ho',hE⟩:=mem_ready.1 hi
   have ho:l[i]?=some o:=by simpa using ho'
   have hlt:i<l.length:=(List.getElem?_eq_some_iff.1 ho).1
   have hu:listed.getD i false=false:=by simpa [zP,yH (show i<listed.size by omega)] using h1
   obtain ⟨e,he⟩:∃ e,es[i]?=some e:=⟨es[i]'(by rw [h.len]; exact hlt),zC (by rw [h.len]; exact hlt)⟩
   have e0:stD l es s (fun _=>true) 0=s:=by unfold stD; rfl
   have hv:=TextOk.at_ (l0:=l) (es0:=es) (s0:=s) (l:=l) (es:=es) (n:=0) (by rw [e0]; exact ht) (fun j=>by simp) (fun j=>by simp) i o e ho he
   rw [zW] at hv
   obtain ⟨hg,hs⟩:=hv (stD l es s (fun j=>listed.getD j false) l.length) (fun k hk=>h.slotEq hclo ho he hu hE s hk) (fun g hg=>h.obEq hclo ho he hu hE s (.inl hg)) (fun g hg=>h.obEq hclo ho he hu hE s (.inr hg))
   have hd0:=hd o (List.mem_of_getElem? ho)
   have hw:=E2 hg hr.2 (Iw hd0.2)
   have hD':∀ j,(fun j=>(listed.setIfInBounds i true).getD j false) j=(if j=i then true else (fun j=>listed.getD j false) j):=fun j=>by
    simp only [zP]
    by_cases e1:j=i
    ·subst e1; simp [show j<listed.size by omega]
    ·rw [if_neg e1,yM (fun e=>e1 e.symm)]
   have next:∀ a' w',RepD ds c ((stD l es s (fun j=>listed.getD j false) l.length).app o.dst e.x e.upd) a' w'→wpAnyIn (wf ro) n P .any l.toArray Q f (listed.setIfInBounds i true) a' w':=fun a' w' hr'=>by
    refine ih _ a' w' (by simpa using hsz) ?_ ?_ ?_
    ·intro j oj hj hlj e' he' hb
     have hlj:=hD' j▸hlj
     have:=hD' e'.on
     rw [this]
     by_cases e1:e'.on=i
     ·rw [if_pos e1]
     ·rw [if_neg e1]
      by_cases e2:j=i
      ·subst e2
       obtain rfl:o=oj:=z6 (ho.symm.trans hj)
       exact hE e' he' hb
      ·rw [if_neg e2] at hlj
       exact hclo j oj hj hlj e' he' hb
    ·have:=Qc hD' hu l.length hlt
     omega
    ·rw [h.done hclo ho he hu hE s hD'] at hr'
     exact hr'
   unfold wpOpIn
   rw [ho']
   simp only
   rw [hw]
   cases her:e.run with
   | true =>
    rw [if_pos rfl]
    rw [her,if_pos rfl] at hs
    exact OpS.inn (hnd o (List.mem_of_getElem? ho)) hs hr next
   | false =>
    rw [if_neg (by simp)]
    rw [her,if_neg (by simp)] at hs
    refine ⟨fun _ _=>trivial,next _ _ ?_⟩
    rw [hs.1,hs.2]
    exact hr.putU hd0.1
theorem Lp (hnd:∀ o∈l,∀ q,o.op≠.defer q) {id:Nat} {a:Act} {w:World} {s:Fst} (hm:P.follows .mixedOrders=true) (hsl:Oq l anc=true) (hanc:Po l []=anc) (hlen:decide (anc.length=l.length)=true) (hob:obB anc [] (II es) 0=true)
  (hd:∀ o∈l,AG c.nt o.dst=true∧KH c.nt l.toArray o=true) (ht:TextOk P c l.toArray l es s) (hr:RepD ds c s a w) (hq:∀ a' w',RepD ds c (IH l es s) a' w'→Q .normal a' w'):(Code.region id l.toArray true).wpIn (wf ro) n P Q a w:=by
 have hlen:=of_decide_eq_true hlen
 have hconf:Conf l es anc:=⟨by rw [←hanc]; exact Pp l [] (fun j=>by simp) (fun j o A _ hA=>by simp at hA),ht.len,fun j hj=>⟨anc[j]'(by omega),zC _⟩,hsl,hob⟩
 refine wpIn_region_any hm ?_
 have e0:∀ j,(yK l.length false).getD j false=false:=fun j=>by
  rw [zP]
  by_cases hj:j<l.length <;> simp [hj]
 refine Rm hnd hconf hd ht hq _ _ a _ (by simp) ?_ ?_ ?_
 ·intro j oj _ hlj
  simp only [yD] at hlj
  rw [e0 j] at hlj; cases hlj
 ·unfold open_
  simp only [yD]
  have:((List.range l.length).countP fun j=>!(yK l.length false).getD j false)=(List.range l.length).length:=by
   rw [List.countP_eq_length]
   intro j _
   rw [e0 j]; rfl
  rw [this]; simp
 ·have e1:stD l es s (fun j=>(yK l.toArray.size false).getD j false) l.length=s:=by
   have:∀ {α:Type} (wr:Nat→Option α) (n:Nat) (v:α),CB wr (fun j=>(yK l.toArray.size false).getD j false) n v=v:=fun wr n v=>by
    rw [DF 0 n (zO _) (fun j _ _ _=>by simp only [yD]; exact e0 j)]; rfl
   unfold stD
   simp only [this]
  rw [e1]
  exact ⟨hr.1,hr.2.drew 1⟩
end
section
variable {P:Program} {c:Ctx} {ro:Option Nat} {n:Nat} {ds:List Deferred}
theorem TO {ops:Array Oper} {o:Oper} {so:SOper} (h:EO P ops o=some so):∀ q,o.op≠.defer q:=by
 intro q hq
 unfold EO at h
 have e:Ct P o=none:=by unfold Ct; rw [hq]
 rw [e] at h
 split at h
 ·rename_i h2; cases h2
 ·cases h
theorem JM {ops:Array Oper}:∀ {l:List Oper} {sl:List SOper},AS (l.map (EO P ops))=some sl→∀ o∈l,∀ q,o.op≠.defer q
 | [],_,_,o,ho=>by cases ho
 | x :: r,sl,h,o,ho=>by
  rw [yJ] at h
  cases h1:EO P ops x with
  | none=>rw [h1] at h; cases h
  | some y =>
   rw [h1] at h
   simp only [AS] at h
   obtain ⟨sl',h2,_⟩:=zQ.1 h
   rcases zS.1 ho with rfl | ho
   ·exact TO h1
   ·exact JM h2 o ho
def Cx:SC→Bool
 | .seq a b=>Cx a&&Cx b
 | .cond _ a b=>Cx a&&Cx b
 | .block _ b=>Cx b
 | .loop _ _=>false
 | .next _ _ _=>false
 | .mloop _ _ _ _ _ _=>false
 | _=>true
def Yr (ro:Option Nat) (n:Nat) (ds:List Deferred) (P:Program) (c:Ctx) (sc:SC) (K:X→St→Prop) (st:St):Prop :=
 ∀ (code:Code),trC P c.nt code=some sc→∀ (a:Act) (w:World) (Q:Exit→Act→World→Prop),st.sl.length=c.nt→RepD ds c st.f a w →
  (∀ x st' a' w',K x st'→st'.sl.length=c.nt→RepD ds c st'.f a' w'→Q x.exit' a' w')→code.wpIn (wf ro) n P Q a w
theorem Dn (hm:P.follows .mixedOrders=true):∀ (sc:SC) (K:X→St→Prop) (st:St),Cx sc=true→sw P c sc K st→Yr ro n ds P c sc K st
 | .skip,K,st,_,h=>by
  intro code hc a w Q hl hr hq
  cases code <;> simp only [trC] at hc <;> (try (cases hc; done)) <;> (try (split at hc <;> (try split at hc) <;> (try split at hc) <;> (try split at hc) <;> (try split at hc) <;> cases hc; done)) <;> (try (obtain ⟨_,_,e⟩:=zQ.1 hc; cases e; done))
  exact wpIn_skip (hq _ _ _ _ h hl hr)
 | .exit id,K,st,_,h=>by
  intro code hc a w Q hl hr hq
  cases code <;> simp only [trC] at hc <;> (try (cases hc; done)) <;> (try (split at hc <;> (try split at hc) <;> (try split at hc) <;> (try split at hc) <;> (try split at hc) <;> cases hc; done)) <;> (try (obtain ⟨_,_,e⟩:=zQ.1 hc; cases e; done))
  obtain rfl:=SC.exit.inj (z6 hc)
  exact wpIn_exit (hq _ _ _ _ h hl hr)
 | .ret,K,st,_,h=>by
  intro code hc a w Q hl hr hq
  cases code <;> simp only [trC] at hc <;> (try (cases hc; done)) <;> (try (split at hc <;> (try split at hc) <;> (try split at hc) <;> (try split at hc) <;> (try split at hc) <;> cases hc; done)) <;> (try (obtain ⟨_,_,e⟩:=zQ.1 hc; cases e; done))
  exact wpIn_ret (hq _ _ _ _ h hl hr)
 | .loop j b,K,st,hf,h=>by cases hf
 | .mloop _ _ _ _ _ _,K,st,hf,h=>by cases hf
 | .next it nx more,K,st,hf,h=>by cases hf
 | .reg sl,K,st,_,h=>by
  intro code hc a w Q hl hr hq
  cases code <;> simp only [trC] at hc <;> (try (cases hc; done)) <;> (try (obtain ⟨_,_,e⟩:=zQ.1 hc; cases e; done))
  case region id ops draw =>
   split at hc
   ·cases hc
   rename_i hnn
   split at hc
   ·rename_i sl' hsl
    split at hc
    ·rename_i hall
     split at hc
     ·split at hc <;> cases hc
     ·rename_i hdr
      obtain rfl:=SC.reg.inj (z6 hc)
      have hdr:draw=false:=by simpa using hdr
      subst hdr
      have hall:∀ o∈ops.toList,AG c.nt o.dst=true∧KH c.nt ops o=true:=fun o ho=>by
       have:=(yN.1 hall) o ho
       simpa using this
      obtain ⟨es,st',h1,h2,h3,h4⟩:=Jz (c:=c) hsl hl (fun o ho=>(hall o ho).1) h
      exact wpIn_region_list (KA ops.toList es st.f a w (JM hsl) hall h2 hr fun a' w' hr'=>hq .normal st' a' w' h1 h4 (by rw [←h3]; exact hr'))
    ·cases hc
   ·cases hc
  case seq=>split at hc <;> cases hc
  case cond=>split at hc <;> cases hc
 | .dreg anc sl,K,st,_,h=>by
  intro code hc a w Q hl hr hq
  cases code <;> simp only [trC] at hc <;> (try (cases hc; done)) <;> (try (obtain ⟨_,_,e⟩:=zQ.1 hc; cases e; done))
  case region id ops draw =>
   split at hc
   ·cases hc
   rename_i hnn
   split at hc
   ·rename_i sl' hsl
    split at hc
    ·rename_i hall
     split at hc
     ·rename_i hdr
      split at hc
      ·rename_i hsb
       obtain ⟨rfl,rfl⟩:=SC.dreg.inj (z6 hc)
       have hdr:draw=true:=by simpa using hdr
       subst hdr
       have hall:∀ o∈ops.toList,AG c.nt o.dst=true∧KH c.nt ops o=true:=fun o ho=>by
        have:=(yN.1 hall) o ho
        simpa using this
       rw [zB] at hsb
       obtain ⟨es,st',⟨hob,h1⟩,h2,h3,h4⟩:=Jy (c:=c) hsl hl (fun o ho=>(hall o ho).1) h
       have:=Lp (P:=P) (c:=c) (Q:=Q) (l:=ops.toList) (es:=es) (anc:=Po ops.toList []) (id:=id) (a:=a) (w:=w) (s:=st.f) (ro:=ro) (n:=n) (ds:=ds) (JM hsl) hm hsb.1 rfl hsb.2 hob (by simpa using hall) (by simpa using h2) hr (fun a' w' hr'=>hq .normal st' a' w' h1 h4 (by rw [←h3]; exact hr'))
       simpa using this
      ·cases hc
     ·cases hc
    ·cases hc
   ·cases hc
  case seq=>split at hc <;> cases hc
  case cond=>split at hc <;> cases hc
 | .seq x y,K,st,hf,h=>by
  intro code hc a w Q hl hr hq
  simp only [Cx,zB] at hf
  cases code <;> simp only [trC] at hc <;> (try (cases hc; done)) <;> (try (obtain ⟨_,_,e⟩:=zQ.1 hc; cases e; done))
  case region=>split at hc <;> (try split at hc) <;> (try split at hc) <;> (try split at hc) <;> (try split at hc) <;> cases hc
  case cond=>split at hc <;> cases hc
  case seq u v =>
   split at hc
   ·rename_i x' y' hx hy
    obtain ⟨rfl,rfl⟩:=SC.seq.inj (z6 hc)
    simp only [sw] at h
    refine wpIn_seq (Dn hm _ _ st hf.1 h u hx a w _ hl hr fun e st' a' w' hk hl' hr'=>?_)
    cases e with
    | normal=>exact Dn hm _ _ st' hf.2 hk v hy a' w' Q hl' hr' hq
    | exit id=>exact hq _ _ _ _ hk hl' hr'
    | ret=>exact hq _ _ _ _ hk hl' hr'
   ·cases hc
 | .cond cx x y,K,st,hf,h=>by
  intro code hc a w Q hl hr hq
  simp only [Cx,zB] at hf
  cases code <;> simp only [trC] at hc <;> (try (cases hc; done)) <;> (try (obtain ⟨_,_,e⟩:=zQ.1 hc; cases e; done))
  case region=>split at hc <;> (try split at hc) <;> (try split at hc) <;> (try split at hc) <;> (try split at hc) <;> cases hc
  case seq=>split at hc <;> cases hc
  case cond q u v =>
   split at hc
   ·rename_i x' y' hx hy
    obtain ⟨rfl,rfl,rfl⟩:=SC.cond.inj (z6 hc)
    simp only [sw] at h
    split at h
    ·rename_i t ht
     have hv:a.eval q=.bool t:=by
      obtain ⟨_,I,V,B,hr⟩:=hr
      have:=Ar hr q
      have e:As st.f.sl (trX q)=.bool t:=ht
      rw [e] at this
      have e2:Act.eval { a with defers:=[] } q=a.eval q:=by cases q <;> rfl
      rw [e2] at this
      simpa only [RepV] using this
     refine wpIn_cond_split hv (fun e=>?_) (fun e=>?_)
     ·exact Dn hm _ _ st hf.1 (h.1 e) u hx a w Q hl hr hq
     ·exact Dn hm _ _ st hf.2 (h.2 e) v hy a w Q hl hr hq
    ·exact h.elim
   ·cases hc
 | .block id b,K,st,hf,h=>by
  intro code hc a w Q hl hr hq
  simp only [Cx] at hf
  cases code <;> simp only [trC] at hc <;> (try (cases hc; done))
  case region=>split at hc <;> (try split at hc) <;> (try split at hc) <;> (try split at hc) <;> (try split at hc) <;> cases hc
  case seq=>split at hc <;> cases hc
  case cond=>split at hc <;> cases hc
  case loop=>obtain ⟨_,_,e⟩:=zQ.1 hc; cases e
  case block id' u =>
   obtain ⟨x',hx,e⟩:=zQ.1 hc
   obtain ⟨rfl,rfl⟩:=SC.block.inj e
   simp only [sw] at h
   refine wpIn_block (Dn hm _ _ st hf h u hx a w _ hl hr fun e st' a' w' hk hl' hr'=>?_)
   cases e with
   | normal=>exact hq .normal st' a' w' hk hl' hr'
   | ret=>exact hq .ret st' a' w' hk hl' hr'
   | exit i =>
    simp only at hk
    simp only [X.exit',Exit.inBlock]
    by_cases hi:i=id'
    ·rw [if_pos hi] at hk ⊢
     exact hq .normal st' a' w' hk hl' hr'
    ·rw [if_neg hi] at hk ⊢
     exact hq (.exit i) st' a' w' hk hl' hr'
end
structure At (nt:Nat) (w:World) (I:Nat→Prop) (V:Nat→Option Value) (B:Nat→Nat→Prop) (st:St) (tm:Array Value):Prop where
 wf:Wf w I V B (Am st.ob)
 len:st.sl.length=nt
 sz:tm.size=nt
 sl:∀ k,RepV w I V (gets st.sl k) (tm.getD k undef)
def GO (w:World) (I:Nat→Prop) (V:Nat→Option Value) (B:Nat→Nat→Prop) (ob:List Ob) (nt:Nat) (h:Wf w I V B (Am ob)):Ctx:=⟨w,HB B ob,I,V,nt,ob.length,fun g hg=>h.fr g (A8 _ _ hg)⟩
section
variable {P:Program} {nt:Nat} {w w':World} {I I':Nat→Prop} {V V':Nat→Option Value} {B B':Nat→Nat→Prop} {st st':St} {tm tm':Array Value}
theorem At.rep (h:At nt w I V B st tm):RepI (GO w I V B st.ob nt h.wf) I V B st.f { tmps:=tm,defers:=[] } w :=
 ⟨⟨rfl,TapeOk.mk' rfl rfl,rfl,yA _,fun _ _ _=>rfl⟩,fun _ h=>h,fun _ h=>.inl h,VLe.refl _,h.wf,fun g b hl hb=>.inl ⟨g,hl,hb⟩,rfl,h.sz,h.sl⟩
theorem At.post (h:At nt w I V B st tm) {a:Act} (hr:RepI (GO w I V B st.ob nt h.wf) I' V' B' st'.f a w') (hl:st'.sl.length=nt):At nt w' I' V' B' st' a.tmps∧FunPost w I V B st.ob st'.ob w' I' V' B' :=
 ⟨⟨hr.wf,hl,hr.sz,hr.slots⟩,hr.fr,hr.i0,hr.i1,hr.v0,hr.wf,hr.bh⟩
theorem FunPost.trans2 {V0 Vk:Nat→Option Value} {ob ob' ob'':List Ob} {w'':World} {I'':Nat→Prop} {V'':Nat→Option Value} {B'':Nat→Nat→Prop} (h:FunPost w I V B ob ob' w' I' V' B') (k:FunPost w' I' Vk B' ob' ob'' w'' I'' V'' B'') (hv:VLe V0 Vk):FunPost w I V0 B ob ob'' w'' I'' V'' B'':=by
 have hb:∀ b,HB B' ob' b→HB B ob b∨w.heap.size≤b:=fun b ⟨g,hl,hg⟩=>h.bh g b hl hg
 have hs:=h.fr.size
 refine ⟨⟨k.fr.os.trans h.fr.os,TapeOk.trans k.fr.tape h.fr.tape,k.fr.output.trans h.fr.output,Nat.le_trans hs k.fr.size,fun b hlt hn=>?_⟩,fun b hb=>k.i0 b (h.i0 b hb),fun b hb'=>?_,hv.trans k.v,k.wf,fun g b hl hb'=>?_⟩
 ·rw [k.fr.block b (by omega) fun hh=>by rcases hb b hh with h1 | h1; exact hn h1; omega]
  exact h.fr.block b hlt hn
 ·rcases k.i1 b hb' with h1 | h1 | h1
  ·exact h.i1 b h1
  ·exact .inr (.inl (by omega))
  ·rcases hb b h1 with h2 | h2
   ·exact .inr (.inr h2)
   ·exact .inr (.inl h2)
 ·rcases k.bh g b hl hb' with h1 | h1
  ·exact hb b h1
  ·exact .inr (by omega)
theorem FunPost.trans {ob ob' ob'':List Ob} {w'':World} {I'':Nat→Prop} {V'':Nat→Option Value} {B'':Nat→Nat→Prop} (h:FunPost w I V B ob ob' w' I' V' B') (k:FunPost w' I' V' B' ob' ob'' w'' I'' V'' B''):FunPost w I V B ob ob'' w'' I'' V'' B'':=h.trans2 k h.v
theorem FunPost.cut {V0:Nat→Option Value} {ob ob':List Ob} (h:FunPost w I V B ob ob' w' I' V' B') (hv:VLe V0 V):FunPost w I V0 B ob ob' w' I' V' B':=⟨h.fr,h.i0,h.i1,hv.trans h.v,h.wf,h.bh⟩
theorem FunPost.refl (h:Wf w I V B (Am st.ob)):FunPost w I V B st.ob st.ob w I V B :=
 ⟨⟨rfl,TapeOk.mk' rfl rfl,rfl,yA _,fun _ _ _=>rfl⟩,fun _ h=>h,fun _ h=>.inl h,VLe.refl _,h,fun g b hl hb=>.inl ⟨g,hl,hb⟩⟩
theorem FunPost.keepI {V0:Nat→Option Value} {ob ob':List Ob} (h:FunPost w I V0 B ob ob' w' I' V' B') (hw:Wf w I V B (Am ob)):KeepS I w w' :=
 ⟨h.fr.size,fun b hb hl=>h.fr.block b hl fun ⟨g,hg,hB⟩=>hw.dI g b hg hB hb⟩
theorem leg {ro:Option Nat} {n:Nat} {sc:SC} {K:X→St→Prop} {code:Code} {a:Act} {Q:Exit→Act→World→Prop} (hm:P.follows .mixedOrders=true) (h:At nt w I V B st a.tmps) (hc:trC P nt code=some sc) (hf:Cx sc=true)
  (hs:∀ c:Ctx,c.nt=nt→c.m=st.ob.length→sw P c sc K st)
  (hq:∀ x st' a' w' I' V' B',K x st'→a'.defers=a.defers→At nt w' I' V' B' st' a'.tmps→FunPost w I V B st.ob st'.ob w' I' V' B'→Q x.exit' a' w'):code.wpIn (wf ro) n P Q a w:=by
 refine Dn (c:=GO w I V B st.ob nt h.wf) (ds:=a.defers) hm sc K st hf (hs _ rfl rfl) code hc a w Q h.len ⟨rfl,I,V,B,h.rep⟩ fun x st' a' w' hk hl' hr'=>?_
 obtain ⟨hd,I',V',B',hr'⟩:=hr'
 obtain ⟨h1,h2⟩:=h.post hr' hl'
 exact hq x st' a' w' I' V' B' hk hd h1 h2
theorem At.weak {m:List Nat} {st0:St} (h:At nt w' I' V' B' st tm) (hw:WeakC st0.ob.length m st st') (hp:FunPost w I V B st0.ob st.ob w' I' V' B') (hV:∀ g,st0.ob.length≤g→V g=none) :
  At nt w' I' (fun g=>V' (sgp m st.ob.length g)) (fun g=>B' (sgp m st.ob.length g)) st' tm∧FunPost w I V B st0.ob st'.ob w' I' (fun g=>V' (sgp m st.ob.length g)) (fun g=>B' (sgp m st.ob.length g)):=by
 have hwf':=hw.wf h.wf
 have hL:=hw.1
 refine ⟨⟨hwf',(Px hL).trans h.len,h.sz,fun k=>I4 (M9 k hL) (h.sl k)⟩,hp.fr,hp.i0,hp.i1,fun g u hu=>?_,hwf',fun g b hl hb=>?_⟩
 ·have hg:g<st0.ob.length:=by
   rcases zH g st0.ob.length with h1 | h1
   ·exact h1
   ·rw [hV g h1] at hu; cases hu
  rw [EG hw.2.2.2 g hg]
  exact hp.v g u hu
 ·have hlt:g<st'.ob.length:=by
   rcases zH g st'.ob.length with h1 | h1
   ·exact h1
   ·rw [A8 _ _ h1] at hl; exact hl.elim
  have h1:=Ds (j:=g) hw.2.1 hlt
  rw [zW] at h1
  exact hp.bh _ b (CX h1 hl) hb
end
def Off (I:Nat→Prop) (B:Nat→Nat→Prop) (ob:List Ob) (x:Nat):Prop:=¬ I x∧¬ HB B ob x
section
variable {P:Program} {nt:Nat} {w w' W:World} {I I':Nat→Prop} {V V':Nat→Option Value} {B B':Nat→Nat→Prop} {st st':St} {tm:Array Value} {ob ob':List Ob} {x:Nat}
theorem Off.post (h:Off I B ob x) (hx:x<w.heap.size) (k:FunPost w I V B ob ob' w' I' V' B'):Off I' B' ob' x∧w'.heap[x]?=w.heap[x]?:=by
 refine ⟨⟨fun hi=>?_,fun ⟨g,hl,hb⟩=>?_⟩,k.fr.block x hx h.2⟩
 ·rcases k.i1 x hi with h1 | h1 | h1
  ·exact h.1 h1
  ·omega
  ·exact h.2 h1
 ·rcases k.bh g x hl hb with h1 | h1
  ·exact h.2 h1
  ·omega
theorem Wf.keptB {ob:Nat→Ob} (h:Wf w I V B ob) (hk:KeepS I w w') (hB:∀ g b,(ob g).live→B g b→w'.heap[b]?=w.heap[b]?):Wf w' I V B ob :=
 ⟨fun b hb=>Nat.lt_of_lt_of_le (h.ilt b hb) hk.size,fun g hl=>let ⟨val,hv,hr⟩:=h.obj g hl; ⟨val,hv,hr.keep hk (fun _ h=>h) (fun _ _ h=>h) fun b hb _=>hB g b hl hb⟩,fun g b hl hb=>Nat.lt_of_lt_of_le (h.lt g b hl hb) hk.size,h.dI,h.dO,h.fr,h.gl.keep hk fun _ h=>h⟩
theorem Wf.putB (h:Wf w I V B (Am ob)) (ho:Off I B ob x) (o:Obj):Wf (w.putObj x o) I V B (Am ob) :=
 h.keptB ⟨by simp,fun b hb _=>World.putObj_heap_other (fun e=>ho.1 (e▸hb))⟩ fun g b hl hb=>World.putObj_heap_other (fun e=>ho.2 ⟨g,hl,e▸hb⟩)
theorem At.put (h:At nt w I V B st tm) (ho:Off I B st.ob x) (o:Obj):At nt (w.putObj x o) I V B st tm :=
 ⟨h.wf.putB ho o,h.len,h.sz,fun k=>RepV.mono (w:=w) (w':=w.putObj x o) ⟨by simp,fun b hb _=>World.putObj_heap_other (fun e=>by subst e; exact ho.1 hb)⟩ (fun _ h=>h) (VLe.refl _) _ _ (h.sl k)⟩
theorem Wf.allocB (h:Wf w I V B (Am ob)) (o:Obj):Wf (w.alloc o) I V B (Am ob) :=
 h.keptB ⟨by simp,fun b _ hl=>Below.heap_alloc _ _ _ hl⟩ fun g b hl hb=>Below.heap_alloc _ _ _ (h.lt g b hl hb)
theorem At.alloc (h:At nt w I V B st tm) (o:Obj):At nt (w.alloc o) I V B st tm :=
 ⟨h.wf.allocB o,h.len,h.sz,fun k=>RepV.mono ⟨by simp,fun b _ hl=>Below.heap_alloc _ _ _ hl⟩ (fun _ h=>h) (VLe.refl _) _ _ (h.sl k)⟩
theorem FunPost.allocB (h:Wf w I V B (Am ob)) (o:Obj):FunPost w I V B ob ob (w.alloc o) I V B :=
 ⟨⟨rfl,TapeOk.mk' rfl rfl,rfl,by simp,fun b hb _=>Below.heap_alloc _ _ _ hb⟩,fun _ h=>h,fun _ h=>.inl h,VLe.refl _,h.allocB o,fun g b hl hb=>.inl ⟨g,hl,hb⟩⟩
theorem FunPost.putNew (h:FunPost w I V B ob ob' W I' V' B') (hx:w.heap.size≤x) (ho:Off I' B' ob' x) (o:Obj):FunPost w I V B ob ob' (W.putObj x o) I' V' B' :=
 ⟨⟨h.fr.os,TapeOk.trans (TapeOk.mk' rfl rfl) h.fr.tape,h.fr.output,by have:=h.fr.size; simpa using this,fun b hb hn=>(World.putObj_heap_other (by omega)).trans (h.fr.block b hb hn)⟩,h.i0,h.i1,h.v,h.wf.putB ho o,h.bh⟩
theorem FunPost.around {r o:Obj} (h:FunPost (w.putObj x o) I V B ob ob' W I' V' B') (hr:w.heap[x]?=some r) (ho:Off I' B' ob' x):FunPost w I V B ob ob' (W.putObj x r) I' V' B':=by
 have hs:w.heap.size≤W.heap.size:=by have:=h.fr.size; simpa using this
 have hxl:=(yC.1 hr).1
 refine ⟨⟨h.fr.os,TapeOk.trans (TapeOk.mk' rfl rfl) (TapeOk.trans h.fr.tape (TapeOk.mk' rfl rfl)),h.fr.output,by simpa using hs,fun b hb hn=>?_⟩,h.i0,fun b hb=>?_,h.v,h.wf.putB ho r,fun g b hl hb=>?_⟩
 ·by_cases e:b=x
  ·subst e
   rw [World.putObj_heap_same (by omega),hr]
  ·rw [World.putObj_heap_other e,h.fr.block b (by simpa using hb) hn,World.putObj_heap_other e]
 ·have:=h.i1 b hb
  simpa using this
 ·have:=h.bh g b hl hb
  simpa using this
theorem FunPost.weak {n1:Nat} {ob1:List Ob} {m:List Nat} (hp:FunPost w I V B ob ob' W I' V' B') (h0:∀ g u,V g=some u→g<n1) (hw:WeakC n1 m ⟨[],ob'⟩ ⟨[],ob1⟩):FunPost w I V B ob ob1 W I' (fun g=>V' (sgp m ob'.length g)) (fun g=>B' (sgp m ob'.length g)):=by
 have hwf':=hw.wf (st:=⟨[],ob'⟩) hp.wf
 refine ⟨hp.fr,hp.i0,hp.i1,fun g u hu=>?_,hwf',fun g b hl hb=>?_⟩
 ·rw [EG hw.2.2.2 g (h0 g u hu)]
  exact hp.v g u hu
 ·have hlt:g<ob1.length:=by
   rcases zH g ob1.length with h1 | h1
   ·exact h1
   ·rw [A8 _ _ h1] at hl; exact hl.elim
  have h1:=Ds (j:=g) hw.2.1 hlt
  rw [zW] at h1
  exact hp.bh _ b (CX h1 hl) hb
def Sl (n:Nat) (V:Nat→Option Value):Nat→Option Value:=fun g=>if g<n then V g else none
theorem W9 (n:Nat) (V:Nat→Option Value):VLe (Sl n V) V:=fun g u h=>by
 unfold Sl at h
 split at h
 ·exact h
 ·cases h
theorem WA {n:Nat} {V:Nat→Option Value}:∀ g u,Sl n V g=some u→g<n:=fun g u h=>by
 unfold Sl at h
 split at h
 ·assumption
 ·cases h
theorem Tc {n:Nat} {V:Nat→Option Value} {g:Nat} (h:g<n):Sl n V g=V g:=if_pos h
theorem Rn {n:Nat}:∀ (l:List SV) (k:Nat),SV.Gn n l=true→(gets l k).idsB n=true
 | [],k,_=>by simp [gets,SV.idsB]
 | x :: r,0,h=>by
  simp only [SV.Gn,zB] at h
  exact h.1
 | x :: r,k+1,h=>by
  simp only [SV.Gn,zB] at h
  exact Rn r k h.2
theorem At.setS {k:Nat} {y:SV} {v:Value} {sl:List SV} (h:At nt w I V B ⟨sl,ob⟩ tm) (hk:k<nt) (hy:RepV w I V y v):At nt w I V B ⟨DH sl k y,ob⟩ (tm.setIfInBounds k v):=by
 refine ⟨h.wf,by simp [HC]; exact h.len,by simp [h.sz],fun j=>?_⟩
 show RepV w I V (gets (DH sl k y) j) _
 have h1:=h.sl j
 have hl:sl.length=nt:=h.len
 rw [KN _ _ _ _ (by omega)]
 by_cases e:k=j
 ·subst e
  have:k<tm.size:=by rw [h.sz]; exact hk
  rw [if_pos rfl]
  simpa [zP,this] using hy
 ·rw [if_neg e]
  simpa [zP,yM e] using h1
def E1 (hs:List Nat) (ob:List Ob):List Ob:=hs.foldl (fun l g=>CZ l g .gone) ob
def Ft (hs:List Nat) (ob0 ob:List Ob):List Ob:=hs.foldl (fun l g=>CZ l g (Am ob0 g)) ob
theorem NJ:∀ (l:List Ob) (g:Nat) (o:Ob),(CZ l g o).length=l.length
 | [],_,_=>rfl
 | _ :: _,0,_=>rfl
 | _ :: r,g+1,o=>by simp only [CZ,zR,NJ r g o]
theorem JN:∀ (hs:List Nat) (ob:List Ob) (k:Nat),Am (E1 hs ob) k=if k∈hs∧k<ob.length then .gone else Am ob k
 | [],ob,k=>by simp [E1]
 | g :: r,ob,k=>by
  show Am (E1 r (CZ ob g .gone)) k=_
  rw [JN r,NJ,CM]
  by_cases h1:k∈r∧k<ob.length
  ·rw [if_pos h1,if_pos ⟨by simp [h1.1],h1.2⟩]
  ·rw [if_neg h1]
   by_cases h2:k=g∧g<ob.length
   ·rw [if_pos h2,if_pos ⟨by simp [h2.1],by omega⟩]
   ·rw [if_neg h2,if_neg]
    rintro ⟨h3,h4⟩
    rcases zS.1 h3 with h3 | h3
    ·exact h2 ⟨h3,by omega⟩
    ·exact h1 ⟨h3,h4⟩
theorem JO:∀ (hs:List Nat) (ob0 ob:List Ob) (k:Nat),Am (Ft hs ob0 ob) k=if k∈hs∧k<ob.length then Am ob0 k else Am ob k
 | [],ob0,ob,k=>by simp [Ft]
 | g :: r,ob0,ob,k=>by
  show Am (Ft r ob0 (CZ ob g (Am ob0 g))) k=_
  rw [JO r,NJ,CM]
  by_cases h1:k∈r∧k<ob.length
  ·rw [if_pos h1,if_pos ⟨by simp [h1.1],h1.2⟩]
  ·rw [if_neg h1]
   by_cases h2:k=g∧g<ob.length
   ·rw [if_pos h2,if_pos ⟨by simp [h2.1],by omega⟩,h2.1]
   ·rw [if_neg h2,if_neg]
    rintro ⟨h3,h4⟩
    rcases zS.1 h3 with h3 | h3
    ·exact h2 ⟨h3,by omega⟩
    ·exact h1 ⟨h3,h4⟩
theorem GP {hs:List Nat} {g:Nat} (h:(Am (E1 hs ob) g).live):¬ g∈hs∧Am (E1 hs ob) g=Am ob g:=by
 rw [JN] at h ⊢
 split at h
 ·exact h.elim
 ·rename_i hn
  rw [if_neg hn]
  refine ⟨fun hg=>?_,rfl⟩
  rcases zH g ob.length with h1 | h1
  ·exact hn ⟨hg,h1⟩
  ·rw [A8 _ _ h1] at h; exact h
theorem Wf.hold (h:Wf w I V B (Am ob)) (hs:List Nat):Wf w I V B (Am (E1 hs ob)):=by
 have hl:∀ g,(Am (E1 hs ob) g).live→(Am ob g).live:=fun g hg=>by rw [←(GP hg).2]; exact hg
 refine ⟨h.ilt,fun g hg=>?_,fun g b hg=>h.lt g b (hl g hg),fun g b hg=>h.dI g b (hl g hg),fun g g' b hg hg'=>h.dO g g' b (hl g hg) (hl g' hg'),fun g hf=>?_,h.gl⟩
 ·rw [(GP hg).2]
  exact h.obj g (hl g hg)
 ·rw [JN] at hf
  split at hf
  ·cases hf
  ·exact h.fr g hf
theorem HB.hold {hs:List Nat} {b:Nat} (h:HB B (E1 hs ob) b):HB B ob b:=by
 obtain ⟨g,hl,hb⟩:=h
 exact ⟨g,by rw [←(GP hl).2]; exact hl,hb⟩
theorem At.rest {Vc:Nat→Option Value} {hs:List Nat} {sl:List SV} (h0:Wf w I V B (Am ob)) (hlv:∀ g∈hs,(Am ob g).live) {n1:Nat} (hcut:∀ g,g<n1→Vc g=V g) (hlt:∀ g∈hs,g<n1) (hob:∀ g∈hs,(Am ob g).idsB n1=true) (hp:FunPost w I Vc B (E1 hs ob) ob' W I' V' B') (h1:At nt W I' V' B' ⟨sl,ob'⟩ tm) :
  At nt W I' V' (fun g=>if g∈hs then B g else B' g) ⟨sl,Ft hs ob ob'⟩ tm∧FunPost w I Vc B ob (Ft hs ob ob') W I' V' (fun g=>if g∈hs then B g else B' g):=by
 have hVc:∀ g∈hs,Vc g=V g:=fun g hg=>hcut g (hlt g hg)
 have hV:∀ g∈hs,g<ob'.length:=fun g hg=>by
  rcases zH g ob'.length with h2 | h2
  ·exact h2
  ·obtain ⟨u,hu,_⟩:=h0.obj g (hlv g hg)
   have:=hp.v g u ((hVc g hg).trans hu)
   rw [h1.wf.fr g (A8 _ _ h2)] at this
   cases this
 have hr:∀ g,Am (Ft hs ob ob') g=if g∈hs then Am ob g else Am ob' g:=fun g=>by
  rw [JO]
  by_cases hg:g∈hs
  ·rw [if_pos ⟨hg,hV g hg⟩,if_pos hg]
  ·rw [if_neg (fun h=>hg h.1),if_neg hg]
 have hnh:∀ g∈hs,∀ b,B g b→¬ HB B (E1 hs ob) b:=fun g hg b hb ⟨g',hl,hb'⟩=>by
  obtain ⟨h3,h4⟩:=GP hl
  have h5:(Am ob g').live:=by rw [←h4]; exact hl
  exact h3 (h0.dO g g' b (hlv g hg) h5 hb hb'▸hg)
 have hsame:∀ g∈hs,∀ b,B g b→W.heap[b]?=w.heap[b]?:=fun g hg b hb=>hp.fr.block b (h0.lt g b (hlv g hg) hb) (hnh g hg b hb)
 have hnI:∀ g∈hs,∀ b,B g b→¬ I' b:=fun g hg b hb hi=>by
  rcases hp.i1 b hi with h3 | h3 | h3
  ·exact h0.dI g b (hlv g hg) hb h3
  ·have:=h0.lt g b (hlv g hg) hb; omega
  ·exact hnh g hg b hb h3
 have hcl:∀ g∈hs,∀ b,B g b→∀ g',(Am ob' g').live→¬ B' g' b:=fun g hg b hb g' hl hb'=>by
  rcases hp.bh g' b hl hb' with h3 | h3
  ·exact hnh g hg b hb h3
  ·have:=h0.lt g b (hlv g hg) hb; omega
 have hsz:=hp.fr.size
 have hwf:Wf W I' V' (fun g=>if g∈hs then B g else B' g) (Am (Ft hs ob ob')):=by
  refine ⟨h1.wf.ilt,fun g hg=>?_,fun g b hg hb=>?_,fun g b hg hb=>?_,fun g g' b hg hg' hb hb'=>?_,fun g hf=>?_,h1.wf.gl⟩
  ·rw [hr] at hg ⊢
   by_cases hm:g∈hs
   ·rw [if_pos hm]
    obtain ⟨u,hu,ho⟩:=h0.obj g (hlv g hm)
    refine ⟨u,hp.v g u ((hVc g hm).trans hu),?_⟩
    simp only [if_pos hm]
    have hn0:=hob g hm
    have ho:=ObR.idsB (n:=n1) (V':=Vc) (fun g hg=>hcut g hg) hn0 ho
    exact ho.keep ⟨hsz,fun b hb hl=>hp.fr.block b hl fun hh=>by obtain ⟨g',hl',hb'⟩:=HB.hold hh; exact h0.dI g' b hl' hb' hb⟩ hp.i0 hp.v fun b hb _=>hsame g hm b hb
   ·rw [if_neg hm] at hg ⊢
    simp only [if_neg hm]
    exact h1.wf.obj g hg
  ·by_cases hm:g∈hs
   ·simp only [if_pos hm] at hb
    have:=h0.lt g b (hlv g hm) hb; omega
   ·rw [hr,if_neg hm] at hg
    simp only [if_neg hm] at hb
    exact h1.wf.lt g b hg hb
  ·by_cases hm:g∈hs
   ·simp only [if_pos hm] at hb
    exact hnI g hm b hb
   ·rw [hr,if_neg hm] at hg
    simp only [if_neg hm] at hb
    exact h1.wf.dI g b hg hb
  ·by_cases hm:g∈hs <;> by_cases hm':g'∈hs
   ·simp only [if_pos hm] at hb
    simp only [if_pos hm'] at hb'
    exact h0.dO g g' b (hlv g hm) (hlv g' hm') hb hb'
   ·simp only [if_pos hm] at hb
    rw [hr,if_neg hm'] at hg'
    simp only [if_neg hm'] at hb'
    exact (hcl g hm b hb g' hg' hb').elim
   ·simp only [if_pos hm'] at hb'
    rw [hr,if_neg hm] at hg
    simp only [if_neg hm] at hb
    exact (hcl g' hm' b hb' g hg hb).elim
   ·rw [hr,if_neg hm] at hg
    rw [hr,if_neg hm'] at hg'
    simp only [if_neg hm] at hb
    simp only [if_neg hm'] at hb'
    exact h1.wf.dO g g' b hg hg' hb hb'
  ·rw [hr] at hf
   by_cases hm:g∈hs
   ·rw [if_pos hm] at hf
    have:=hlv g hm
    rw [hf] at this
    exact this.elim
   ·rw [if_neg hm] at hf
    exact h1.wf.fr g hf
 refine ⟨⟨hwf,h1.len,h1.sz,h1.sl⟩,⟨hp.fr.os,hp.fr.tape,hp.fr.output,hsz,fun b hb hn=>hp.fr.block b hb fun hh=>hn hh.hold⟩,hp.i0,fun b hb=>?_,hp.v,hwf,fun g b hl hb=>?_⟩
 ·rcases hp.i1 b hb with h3 | h3 | h3
  ·exact .inl h3
  ·exact .inr (.inl h3)
  ·exact .inr (.inr h3.hold)
 ·by_cases hm:g∈hs
  ·simp only [if_pos hm] at hb
   exact .inl ⟨g,hlv g hm,hb⟩
  ·rw [hr,if_neg hm] at hl
   simp only [if_neg hm] at hb
   exact (hp.bh g b hl hb).imp HB.hold id
end
def KBx (p q:Nat) (A B:World):Prop:=B.heap[p]?=A.heap[p]?∧B.heap[q]?=A.heap[q]?
theorem KBx.refl (p q:Nat) (A:World):KBx p q A A:=⟨rfl,rfl⟩
theorem KBx.trans {p q:Nat} {A B C:World} (h:KBx p q A B) (k:KBx p q B C):KBx p q A C:=⟨k.1.trans h.1,k.2.trans h.2⟩
def XJ (P:Program) (gf N:Nat) (enc:Nat→Value) (w:World) (Bs b:Nat):Prop :=
 ∀ (lb n:Nat) (J Jx:Nat→World→Prop) (W:World),2≤n→W.heap[Bs]?=w.heap[Bs]?→W.heap[b]?=w.heap[b]? →
  (∀ k W1,k<N→J k W1→YieldAt Fence.wide (n-1) P lb #[.int .i64 ((N-1-k:Nat):Int),enc (N-1-k)] W1 fun e W' =>
   (e=.returned (.bool true)∧J (k+1) W'∧KBx Bs b W1 W')∨(e=.returned (.bool false)∧Jx k W')) →
  J 0 W→CallsIn Fence.wide n P gf #[.func (.yield lb) #[] #[],.pointer (some ⟨Bs,0,none⟩)] W fun e W'=>(∃ v,e=.returned v)∧(J N W'∨∃ k,k<N∧Jx k W')
def Vp (P:Program) (gf:Nat) (el:List D→SV) (es:List (List D)):Prop :=
 ∀ (w:World) (I:Nat→Prop) (V:Nat→Option Value) (Bs:Nat) (v:Value),w.cell? ⟨Bs,0,none⟩=some v→DRep false w I (.arr es) v →
  ∃ (b:Nat) (enc:Nat→Value),b<w.heap.size∧(0<es.length→I b)∧(∀ j (h:j<es.length),RepV w I V (el es[j]) (enc j))∧XJ P gf es.length enc w Bs b
def XK (n1:Nat) (obs obx:Nat→List Ob) (Rk Xk:Nat→Prop) (k:Nat) (e:X) (st:St):Prop :=
 (e=.normal∧Rk (k+1)∧∃ m,WeakC n1 m ⟨[],st.ob⟩ ⟨[],obs (k+1)⟩)∨(e=.ret∧Xk k∧∃ m,WeakC n1 m ⟨[],st.ob⟩ ⟨[],obx k⟩)
def Td (P:Program) (nt n1:Nat) (scB:SC) (obs obx:Nat→List Ob) (Rk Xk:Nat→Prop) (k:Nat) (e:X) (st:St):Prop :=
 e=.normal∧∀ c:Ctx,c.nt=nt→c.m=st.ob.length→sw P c scB (XK n1 obs obx Rk Xk k) st
def Vq (D:Nat):Deferred:={ target:=.collected D,args:=#[] }
theorem PV (w:World) (x:Nat) (o o':Obj):(w.putObj x o).putObj x o'=w.putObj x o':=by
 unfold World.putObj
 simp
theorem Vr {P:Program} (hm:P.follows .mixedOrders=true) {nt n n1:Nat} (hn:3≤n) {w:World} {I:Nat→Prop} {V:Nat→Option Value} {B:Nat→Nat→Prop} {st:St} {a:Act} {Q:Exit→Act→World→Prop}
  (hA:At nt w I V B st a.tmps) (hd:a.defers=[]) {g:Operand} {p1 p2 gf p:Nat} {asg body:Code} {scA scB:SC} {es:List (List D)} {el:List D→SV} {t:TypeId} {hs:List Nat} {obs obx:Nat→List Ob} {Rk Xk:Nat→Prop}
  (hg:As (gets st.sl) (trX g)=.fn gf [.ptr p 0]) (hp:Am st.ob p=.box t [.arr es]) (hps:p∈hs) (hlv:∀ g∈hs,(Am st.ob g).live) (hn1:∀ g∈hs,g<n1) (hids:SV.Gn n1 st.sl=true) (hobi:∀ g∈hs,(Am st.ob g).idsB n1=true) (h1:p1<nt) (h2:p2<nt)
  (eg:∀ args w,(callFunc gf args).run P w=.ok (.enter gf args) w)
  (hB:Vp P gf el es) (hcA:trC P nt asg=some scA) (hfA:Cx scA=true) (hcB:trC P nt body=some scB) (hfB:Cx scB=true)
  (h0:obs 0=E1 hs st.ob) (hR0:Rk 0)
  (round:∀ k (hk:k<es.length),Rk k→∀ c:Ctx,c.nt=nt→c.m=(obs k).length→sw P c scA (Td P nt n1 scB obs obx Rk Xk k) ⟨DH (DH st.sl p1 (.int .i64 ((es.length-1-k:Nat):Int))) p2 (el (es[es.length-1-k]'(by omega))),obs k⟩)
  (done:∀ (x:X) (ob':List Ob) (W:World) (I':Nat→Prop) (V':Nat→Option Value) (B':Nat→Nat→Prop) (D:Nat),(x=.normal∧Rk es.length∧ob'=Ft hs st.ob (obs es.length))∨(x=.ret∧∃ k,k<es.length∧Xk k∧ob'=Ft hs st.ob (obx k)) →
   At nt W I' V' B' ⟨st.sl,ob'⟩ a.tmps→FunPost w I (Sl n1 V) B st.ob ob' W I' V' B'→w.heap.size≤D→D<W.heap.size→W.heap[D]?=some (.deferred (some []))→Off I' B' ob' D→Q x.exit' { a with defers:=[Vq D] } W) :
  (Code.rangeFunc g #[p1,p2] asg body).wpIn Fence.wide n P Q a w:=by
 have hwf:=hA.wf
 obtain ⟨Vc,hVc⟩:∃ Vc,Vc=Sl n1 V:=⟨_,rfl⟩
 have hcle:VLe Vc V:=hVc▸W9 n1 V
 have hclt:∀ g u,Vc g=some u→g<n1:=hVc▸WA
 have hceq:∀ g,g<n1→Vc g=V g:=fun g hg=>by rw [hVc]; exact Tc hg
 have hS:∀ k,RepV w I Vc (gets st.sl k) (a.tmps.getD k undef):=fun k=>RepV.idsB hceq _ _ (Rn _ k hids) (hA.sl k)
 rw [←hVc] at done
 obtain ⟨val,hVp,hob⟩:=hwf.obj p (by rw [hp]; trivial)
 rw [hp] at hob
 obtain ⟨Bs,vs,rfl,hBs,hbox,hvs⟩:=hob
 simp only [RepVs] at hvs
 obtain ⟨v,r,rfl,hv,rfl⟩:=hvs
 simp only [RepV] at hv
 have hBB:B p Bs:=(hBs Bs).2 rfl
 have hcell:w.cell? ⟨Bs,0,none⟩=some v:=by simp [World.cell?,hbox]
 obtain ⟨b,enc,hbl,hIb,henc,hback⟩:=hB w I Vc Bs v hcell hv
 have hBsl:Bs<w.heap.size:=hwf.lt p Bs (by rw [hp]; trivial) hBB
 have hev:a.eval g=.func (.func gf) #[] #[.pointer (some ⟨Bs,0,none⟩)]:=by
  have h3:=Ar hA.rep g
  have e0:As st.f.sl (trX g)=.fn gf [.ptr p 0]:=hg
  rw [e0] at h3
  simp only [RepV,RepVs] at h3
  obtain ⟨us,h4,u,q,rfl,⟨b',h5,rfl⟩,rfl⟩:=h3
  rw [hVp] at h5
  injection h5 with h5; injection h5 with h5; injection h5 with h5; injection h5 with h5 _ _
  subst h5
  have e2:Act.eval { tmps:=a.tmps,defers:=[] } g=a.eval g:=by cases g <;> rfl
  rw [←e2]; exact h4
 have hwh:=hwf.hold hs
 have oBs:Off I B (E1 hs st.ob) Bs:=⟨hwf.dI p Bs (by rw [hp]; trivial) hBB,fun ⟨g',hl,hb'⟩=>by
  obtain ⟨h3,h4⟩:=GP hl
  have h5:(Am st.ob g').live:=by rw [←h4]; exact hl
  exact h3 (hwf.dO p g' Bs (by rw [hp]; trivial) h5 hBB hb'▸hps)⟩
 refine wpIn_rangeFunc ?_
 intro fn hfn
 obtain ⟨rec,hrec⟩:∃ rec:LoopState→Option Code→Loop,rec=fun s pe=>{ state:=s,pending:=pe,fn,tmps:=a.tmps,params:=#[p1,p2],assign:=asg,body,defers:=w.heap.size }:=⟨_,rfl⟩
 obtain ⟨W1,hW1⟩:∃ W1,(w.alloc (.deferred (some []))).alloc (.loop (rec .ready none))=W1:=⟨_,rfl⟩
 have hs1:W1.heap.size=w.heap.size+2:=by rw [←hW1]; simp
 have hL1:W1.heap[w.heap.size+1]?=some (.loop (rec .ready none)):=by
  rw [←hW1]; have:=World.alloc_heap_new (w.alloc (.deferred (some []))) (.loop (rec .ready none)); rwa [World.size_alloc] at this
 have hK1:W1.heap[w.heap.size]?=some (.deferred (some [])):=by
  rw [←hW1]; exact (Below.heap_alloc _ _ _ (by simp)).trans (World.alloc_heap_new w _)
 have hlow:∀ x,x<w.heap.size→W1.heap[x]?=w.heap[x]?:=fun x hx=>by
  rw [←hW1,Below.heap_alloc _ _ _ (by simp; omega),Below.heap_alloc _ _ _ hx]
 have hAh:At nt w I V B ⟨st.sl,E1 hs st.ob⟩ a.tmps:=⟨hwh,hA.len,hA.sz,hA.sl⟩
 have hA1:At nt W1 I V B ⟨st.sl,obs 0⟩ a.tmps:=by rw [←hW1,h0]; exact (hAh.alloc _).alloc _
 have hPw:FunPost w I V B (E1 hs st.ob) (obs 0) W1 I V B:=by
  rw [←hW1,h0]
  exact (FunPost.allocB hwh _).trans (FunPost.allocB (hwh.allocB _) _)
 have off1:∀ x,w.heap.size≤x→Off I B (obs 0) x:=fun x hx=>by
  rw [h0]
  exact ⟨fun hi=>by have:=hwf.ilt x hi; omega,fun ⟨g',hl,hb'⟩=>by have:=hwh.lt g' x hl hb'; omega⟩
 have oBs1:Off I B (obs 0) Bs:=by rw [h0]; exact oBs
 refine ⟨w.heap.size+1,[Vq w.heap.size],W1,{ target:=.fn (.func gf) #[.pointer (some ⟨Bs,0,none⟩)],args:=#[.func (.yield (w.heap.size+1)) #[] #[]] },W1,gf,
  #[.func (.yield (w.heap.size+1)) #[] #[]]++#[.pointer (some ⟨Bs,0,none⟩)],W1,?_,?_,?_,?_,fun _=>by omega,?_⟩
 ·rw [←hW1,hrec]; exact run_enterLoop_outer _ _ _ _ _
 ·simp only [resolve,hev]
  simp [go_sem]
 ·intro f' hf'; trivial
 ·simp [invoke,go_sem,eg]
 ·refine (hback (w.heap.size+1) (n-1)
   (fun k W=>Rk k∧∃ I' V' B',At nt W I' V' B' ⟨st.sl,obs k⟩ a.tmps∧FunPost W1 I Vc B (obs 0) (obs k) W I' V' B')
   (fun k W=>Xk k∧∃ I' V' B',At nt W I' V' B' ⟨st.sl,obx k⟩ a.tmps∧FunPost w I Vc B (E1 hs st.ob) (obx k) W I' V' B'∧Off I' B' (obx k) (w.heap.size+1)∧Off I' B' (obx k) w.heap.size∧W.heap[w.heap.size+1]?=some (.loop (rec .done (some .ret)))∧W.heap[w.heap.size]?=some (.deferred (some [])))
   W1 (by omega) (hlow Bs hBsl) ?_ ?_ ⟨hR0,I,V,B,hA1,(FunPost.refl (st:=⟨[],obs 0⟩) hA1.wf).cut hcle⟩).mono ?_
  ·exact hlow b hbl
  ·rintro k W hk ⟨hRk,I',V',B',hAk,hPk⟩
   obtain ⟨oL,eL⟩:=(off1 _ (by omega)).post (x:=w.heap.size+1) (by omega) hPk
   obtain ⟨oD,eD⟩:=(off1 _ (yA _)).post (x:=w.heap.size) (by omega) hPk
   obtain ⟨oB,eB⟩:=oBs1.post (x:=Bs) (by omega) hPk
   have hLk:=eL.trans hL1
   have hy:=run_yield (P:=P) (args:=#[.int .i64 ((es.length-1-k:Nat):Int),enc (es.length-1-k)]) hLk (by rw [hrec]; rfl)
   rw [hrec] at hy
   refine ⟨fn,_,asg,body,hy,roundIn_of_wpIn hfn ?_⟩
   have hj:es.length-1-k<es.length:=by omega
   have hsz1:=hPk.fr.size
   have hvk:RepV W I' V' (el (es[es.length-1-k])) (enc (es.length-1-k)):=by
    have q1:=henc _ hj
    refine RepV.mono ⟨by omega,fun x hx hl=>?_⟩ hPk.i0 hPk.v _ _ q1
    rw [hPk.fr.block x (by omega) fun hh=>by rw [h0] at hh; obtain ⟨g',hl',hb'⟩:=hh.hold; exact hwf.dI g' x hl' hb' hx]
    exact hlow x hl
   have hAs:=(hAk.setS (v:=.int .i64 ((es.length-1-k:Nat):Int)) h1 (y:=.int .i64 ((es.length-1-k:Nat):Int)) (by simp only [RepV])).setS h2 hvk
   have etm:∀ v1 v2:Value,(#[p1,p2].zip #[v1,v2]).foldl (fun (tmps:Array Value) (x:Nat × Value)=>tmps.setIfInBounds x.1 x.2) a.tmps=(a.tmps.setIfInBounds p1 v1).setIfInBounds p2 v2:=fun _ _=>by simp
   refine Eq.mpr (congrArg (fun t=>Code.wpIn _ _ P asg _ { tmps:=t,defers:=[] } W) (etm _ _)) ?_
   refine leg (ro:=some (w.heap.size+1)) (a:={ tmps:=(a.tmps.setIfInBounds p1 (.int .i64 ((es.length-1-k:Nat):Int))).setIfInBounds p2 (enc (es.length-1-k)),defers:=[] }) hm hAs hcA hfA (round k hk hRk) ?_
   rintro x st1 a1 w1 I1 V1 B1 ⟨rfl,hbody⟩ hd1 hA1' hP1
   obtain ⟨oL1,eL1⟩:=oL.post (by omega) hP1
   obtain ⟨oD1,eD1⟩:=oD.post (by omega) hP1
   obtain ⟨oB1,eB1⟩:=oB.post (by omega) hP1
   have hLw:=eL1.trans hLk
   have hws:=hP1.fr.size
   refine ⟨_,run_beginRound hLw (by rw [hrec]),?_⟩
   refine leg (ro:=some (w.heap.size+1)) hm (hA1'.put oL1 _) hcB hfB hbody ?_
   intro x st3 a3 w3 I3 V3 B3 hk3 hd3 hA3 hP3
   have hws3:=hP3.fr.size
   have hws3':w1.heap.size≤w3.heap.size:=by simpa using hws3
   obtain ⟨oL3,eL3⟩:=oL1.post (w:=w1.putObj (w.heap.size+1) _) (by simpa using (by omega:w.heap.size+1<w1.heap.size)) hP3
   obtain ⟨oD3,eD3⟩:=oD1.post (w:=w1.putObj (w.heap.size+1) _) (by simpa using (by omega:w.heap.size<w1.heap.size)) hP3
   have hL3:w3.heap[w.heap.size+1]?=some (.loop { rec .ready none with state:=.busy }):=by
    rw [eL3]; exact World.putObj_heap_same (by omega)
   have hP3':=hP3.around hLw oL3
   have hPW:=hP1.trans hP3'
   have hTot:=hPk.trans hPW
   have hS1:∀ j,RepV W1 I Vc (gets st.sl j) (a.tmps.getD j undef):=fun j=>RepV.mono ⟨by omega,fun x hx hl=>hlow x hl⟩ (fun _ h=>h) (VLe.refl _) _ _ (hS j)
   have hIk:I' b:=hPk.i0 b (hIb (by omega))
   have hKB:KBx Bs b W (w3.putObj (w.heap.size+1) (.loop (rec .ready none))):=⟨hPW.fr.block Bs (by omega) oB.2,hPW.fr.block b (hAk.wf.ilt b hIk) fun ⟨g',hl',hb'⟩=>hAk.wf.dI g' b hl' hb' hIk⟩
   rcases hk3 with ⟨rfl,hR1,m,hwk⟩ | ⟨rfl,hX1,m,hwk⟩
   ·have hT:=hTot.weak hclt hwk
    have hr:=run_endRound (P:=P) none hL3
    have e:(w3.putObj (w.heap.size+1) (.loop { ({ rec .ready none with state:=.busy }:Loop) with state:=if (none:Option Code).isNone then .ready else .done,pending:=none }))=w3.putObj (w.heap.size+1) (.loop (rec .ready none)):=by rw [hrec]; rfl
    rw [e] at hr
    exact ⟨_,_,hr,.inl ⟨rfl,⟨hR1,_,_,_,⟨hT.wf,hA.len,hA.sz,fun j=>RepV.mono (hT.keepI hA1.wf) hT.i0 hT.v _ _ (hS1 j)⟩,hT⟩,hKB⟩⟩
   ·have hT:=hTot.weak hclt hwk
    have hr:=run_endRound (P:=P) (some .ret) hL3
    refine ⟨_,_,hr,.inr ⟨rfl,?_⟩⟩
    obtain ⟨oL4,_⟩:=(off1 _ (by omega)).post (x:=w.heap.size+1) (by omega) hT
    obtain ⟨oD4,eD4⟩:=(off1 _ (yA _)).post (x:=w.heap.size) (by omega) hT
    have hA4:At nt _ _ _ _ ⟨st.sl,obx k⟩ a.tmps:=⟨hT.wf,hA.len,hA.sz,fun j=>RepV.mono (hT.keepI hA1.wf) hT.i0 hT.v _ _ (hS1 j)⟩
    have hA4:=hA4.put oL4 (.loop (rec .done (some .ret)))
    have hP4:=(hPw.trans2 hT (VLe.refl Vc)).putNew (by omega) oL4 (.loop (rec .done (some .ret)))
    rw [PV] at hA4 hP4
    have e:(w3.putObj (w.heap.size+1) (.loop { ({ rec .ready none with state:=.busy }:Loop) with state:=if (some Code.ret).isNone then .ready else .done,pending:=some Code.ret }))=w3.putObj (w.heap.size+1) (.loop (rec .done (some .ret))):=by rw [hrec]; rfl
    rw [e]
    refine ⟨hX1,_,_,_,hA4,hP4,oL4,oD4,World.putObj_heap_same (by omega),?_⟩
    rw [World.putObj_heap_other (by omega)]
    rw [World.putObj_heap_other (by omega)] at eD4
    exact eD4.trans hK1
  ·have offR:∀ (ob':List Ob) (I':Nat→Prop) (B':Nat→Nat→Prop),Off I' B' ob' w.heap.size→Off I' (fun g=>if g∈hs then B g else B' g) (Ft hs st.ob ob') w.heap.size:=fun ob' I' B' ho=>⟨ho.1,fun ⟨g',hl,hb'⟩=>by
    by_cases hmem:g'∈hs
    ·simp only [if_pos hmem] at hb'
     have:=hwf.lt g' _ (hlv g' hmem) hb'
     omega
    ·simp only [if_neg hmem] at hb'
     rw [JO,if_neg (fun h=>hmem h.1)] at hl
     exact ho.2 ⟨g',hl,hb'⟩⟩
   rintro e W2 ⟨⟨v',rfl⟩,⟨hRN,I',V',B',hAN,hPN⟩ | ⟨k,hk,hXk,I',V',B',hAN,hPN,oL,oD,eL,eD⟩⟩
   ·obtain ⟨oL,eL⟩:=(off1 _ (by omega)).post (x:=w.heap.size+1) (by omega) hPN
    obtain ⟨oD,eD⟩:=(off1 _ (yA _)).post (x:=w.heap.size) (by omega) hPN
    have hsz2:=hPN.fr.size
    refine ⟨none,_,by have:=run_endLoop (P:=P) (eL.trans hL1) (by rw [hrec]; simp); rw [hrec] at this; exact this,?_⟩
    rw [hd]
    obtain ⟨q1,q2⟩:=At.rest hwf hlv hceq hn1 hobi ((hPw.trans2 hPN (VLe.refl Vc)).putNew (x:=w.heap.size+1) (by omega) oL _) (hAN.put oL _)
    exact done .normal _ _ _ _ _ w.heap.size (.inl ⟨rfl,hRN,rfl⟩) q1 q2 (yA _) (by simp; omega) (by rw [World.putObj_heap_other (by omega)]; exact eD.trans hK1) (offR _ _ _ oD)
   ·have hl2:=(yC.1 eD).1
    refine ⟨some .ret,_,by have:=run_endLoop (P:=P) eL (by rw [hrec]; simp); rw [hrec] at this; exact this,?_⟩
    rw [hd]
    obtain ⟨q1,q2⟩:=At.rest hwf hlv hceq hn1 hobi (hPN.putNew (x:=w.heap.size+1) (by omega) oL _) (hAN.put oL _)
    exact wpIn_ret (done .ret _ _ _ _ _ w.heap.size (.inr ⟨rfl,k,hk,hXk,rfl⟩) q1 q2 (yA _) (by simp; omega) (by rw [World.putObj_heap_other (by omega)]; exact eD) (offR _ _ _ oD))
section
variable {P:Program}
def WB (P:Program) (fn:Func) (w:World) (I:Nat→Prop) (V:Nat→Option Value) (B:Nat→Nat→Prop) (ob:List Ob) (r:SV) (ob':List Ob):Exit→Act→World→Prop :=
 bodyPostM Fence.wide 5 P fn (fun e w'=>∃ v I' V' B',e=.returned v∧RepV w' I' V' r v∧FunPost w I V B ob ob' w' I' V' B')
theorem Pk {f:FuncId} {fn:Func} {code:Code} {args:List SV} {ob:List Ob} {r:SV} {ob':List Ob} (hf:P.funcs[f]?=some fn) (hb:fn.body=some code) (hn:args.length≤fn.ntmps)
  (h:∀ w I V B tm,At fn.ntmps w I V B ⟨args++HE (fn.ntmps-args.length),ob⟩ tm→code.wpIn Fence.wide 5 P (WB P fn w I V B ob r ob') { tmps:=tm,defers:=[] } w):Fun P f args ob r ob':=by
 intro w I V B vs hwf hvs
 have hvl:=hvs.len
 refine (callsIn_wide (n:=5)).1 ?_
 refine callsIn_of_wp_marks hf hb trivial (h w I V B _ ⟨hwf,?_,?_,fun k=>?_⟩) rfl
 ·simp only [List.length_append,MD]
  omega
 ·simp only [Array.size_append,yD,Array.size_replicate]
  omega
 ·show RepV w I V (gets (args++HE (fn.ntmps-args.length)) k) _
  rw [MC]
  by_cases hk:k<args.length
  ·rw [if_pos hk]
   have:=hvs.gets k hk
   have e:(vs.toArray++yK (fn.ntmps-vs.toArray.size) undef).getD k undef=vs.getD k undef:=by
    rw [zP,Array.getElem?_append_left (by simp; omega)]
    simp [zG]
   rw [e]; exact this
  ·rw [if_neg hk,KT]; simp [RepV]
theorem IG {fn:Func} {w W:World} {I I':Nat→Prop} {V V':Nat→Option Value} {B B':Nat→Nat→Prop} {ob:List Ob} {r:SV} {ob':List Ob} {st:St} {a:Act} {rs:List RX} {e:X} (hrs:AS (fn.results.toList.map (KS P fn.ntmps))=some rs)
  (h0:Wf w I V B (Am ob)) (hA:At fn.ntmps W I' V' B' st a.tmps) (hP:FunPost w I V B ob st.ob W I' V' B') (hk:Fin rs ob.length r ob' e st)
  (hd:a.defers=[]∨∃ D,a.defers=[Vq D]∧w.heap.size≤D∧W.heap[D]?=some (.deferred (some []))∧Off I' B' st.ob D):WB P fn w I V B ob r ob' e.exit' a W:=by
 obtain ⟨hx,r0,m,hres,hweak⟩:=hk
 have key:∀ W2,At fn.ntmps W2 I' V' B' st a.tmps→FunPost w I V B ob st.ob W2 I' V' B'→∃ v,(results fn a.tmps).run P W2=.ok v W2∧∃ v2 I2 V2 B2,Ending.returned v=.returned v2∧RepV W2 I2 V2 r v2∧FunPost w I V B ob ob' W2 I2 V2 B2:=fun W2 hA2 hP2=>by
  obtain ⟨v,hrun,hv⟩:=L3 (P:=P) hA2.rep hrs hres
  have hwk:WeakC ob.length m ⟨[],st.ob⟩ ⟨[],ob'⟩:=⟨trivial,hweak.2.1,hweak.2.2.1,hweak.2.2.2⟩
  have hP3:=hP2.weak (n1:=ob.length) (fun g u hu=>by
   rcases zH g ob.length with h1 | h1
   ·exact h1
   ·rw [h0.fr g (A8 _ _ h1)] at hu; cases hu) hwk
  have hv':RepV W2 I' (fun g=>V' (sgp m st.ob.length g)) r v:=by
   have h1:=hweak.1
   simp only [leL] at h1
   exact I4 h1.1 hv
  exact ⟨v,hrun,v,_,_,_,rfl,hv',hP3⟩
 have goal:LeavesInM Fence.wide 5 P fn a.tmps (fun e w'=>∃ v I' V' B',e=.returned v∧RepV w' I' V' r v∧FunPost w I V B ob ob' w' I' V' B') a.defers .returning W:=by
  rcases hd with hd | ⟨D,hd,hD,hh,ho⟩
  ·rw [hd]
   obtain ⟨v,h1,h2⟩:=key W hA hP
   exact ⟨v,h1,h2⟩
  ·rw [hd]
   obtain ⟨v,h1,h2⟩:=key _ (hA.put ho (.deferred none)) (hP.putNew hD ho _)
   exact ⟨by simp,.inl ⟨D,_,rfl,run_takeDeferred (ds:=[]) hh,v,h1,h2⟩⟩
 rcases hx with rfl | rfl
 ·exact goal
 ·exact goal
def Yl (rs:List RX) (n0:Nat) (r:SV) (ob':List Ob) (st1:St) (x:X) (st:St):Prop:=(x=.normal∧∃ m,WeakC n0 m st st1)∨(x=.ret∧Fin rs n0 r ob' .ret st)
theorem Vs (hm:P.follows .mixedOrders=true) {f:FuncId} {fn:Func} {nt n1 id:Nat} {args:List SV} {ob:List Ob} {r:SV} {ob':List Ob} {r0 rc r3 r4 tl asg bd:Code} {s0 s1 s3 s4 sT scA scB:SC} {rs:List RX} {g:Operand} {p1 p2 gf p:Nat} {st1:St} {es:List (List D)} {el:List D→SV} {t:TypeId} {hs:List Nat} {obs obx:Nat→List Ob} {Rk Xk:Nat→Prop}
  (hf:P.funcs[f]?=some fn) (hb:fn.body=some (.seq r0 (.seq rc (.seq r3 (.seq (.seq r4 (.block id (.rangeFunc g #[p1,p2] asg bd))) tl))))) (hnt:fn.ntmps=nt)
  (t0:trC P nt r0=some s0) (t1:trC P nt rc=some s1) (t3:trC P nt r3=some s3) (t4:trC P nt r4=some s4) (tT:trC P nt tl=some sT) (tA:trC P nt asg=some scA) (tB:trC P nt bd=some scB)
  (hfl:(Cx s0&&Cx s1&&Cx s3&&Cx s4&&Cx sT&&Cx scA&&Cx scB)=true) (hrs:AS (fn.results.toList.map (KS P nt))=some rs) (hn:args.length≤nt)
  (head:∀ c:Ctx,c.nt=nt→c.m=ob.length→sw P c (.seq s0 (.seq s1 (.seq s3 s4))) (Yl rs ob.length r ob' st1) ⟨args++HE (nt-args.length),ob⟩)
  (hg:As (gets st1.sl) (trX g)=.fn gf [.ptr p 0]) (hp:Am st1.ob p=.box t [.arr es]) (hps:p∈hs) (hlv:∀ g∈hs,(Am st1.ob g).live) (hn1:∀ g∈hs,g<n1) (hids:SV.Gn n1 st1.sl=true) (hobi:∀ g∈hs,(Am st1.ob g).idsB n1=true) (hon:ob.length≤n1) (h1:p1<nt) (h2:p2<nt)
  (eg:∀ args w,(callFunc gf args).run P w=.ok (.enter gf args) w) (hB:Vp P gf el es) (h0:obs 0=E1 hs st1.ob) (hR0:Rk 0)
  (round:∀ k (hk:k<es.length),Rk k→∀ c:Ctx,c.nt=nt→c.m=(obs k).length→sw P c scA (Td P nt n1 scB obs obx Rk Xk k) ⟨DH (DH st1.sl p1 (.int .i64 ((es.length-1-k:Nat):Int))) p2 (el (es[es.length-1-k]'(by omega))),obs k⟩)
  (tail:Rk es.length→∀ c:Ctx,c.nt=nt→c.m=(Ft hs st1.ob (obs es.length)).length→sw P c sT (Fin rs ob.length r ob') ⟨st1.sl,Ft hs st1.ob (obs es.length)⟩)
  (stop:∀ k,k<es.length→Xk k→Fin rs ob.length r ob' .ret ⟨st1.sl,Ft hs st1.ob (obx k)⟩):Fun P f args ob r ob':=by
 subst hnt
 simp only [zB] at hfl
 obtain ⟨⟨⟨⟨⟨⟨f0,f1⟩,f3⟩,f4⟩,fT⟩,fA⟩,fB⟩:=hfl
 refine Pk hf hb hn fun w I V B tm hA=>?_
 have wfn:wf none=Fence.wide:=rfl
 rw [←wfn]
 have hend:∀ (st:St) (a:Act) (W:World),Fin rs ob.length r ob' .ret st→RepD [] (GO w I V B ob fn.ntmps hA.wf) st.f a W→st.sl.length=fn.ntmps→WB P fn w I V B ob r ob' .ret a W:=fun st a W hk hr hl=>by
  obtain ⟨hd,I',V',B',hr⟩:=hr
  obtain ⟨q1,q2⟩:=hA.post hr hl
  exact IG (e:=.ret) hrs hA.wf q1 q2 hk (.inl hd)
 have hh:=head (GO w I V B ob fn.ntmps hA.wf) rfl rfl
 simp only [sw] at hh
 refine wpIn_seq (Dn (c:=GO w I V B ob fn.ntmps hA.wf) (ds:=[]) hm _ _ _ f0 hh _ t0 _ w _ hA.len ⟨rfl,I,V,B,hA.rep⟩ fun x st a W hk hl hr=>?_)
 cases x with
 | exit i=>rcases hk with ⟨h,_⟩ | ⟨h,_⟩ <;> cases h
 | ret =>
  rcases hk with ⟨h,_⟩ | ⟨_,h⟩
  ·cases h
  ·exact hend st a W h hr hl
 | normal =>
 refine wpIn_seq (Dn (c:=GO w I V B ob fn.ntmps hA.wf) (ds:=[]) hm _ _ _ f1 hk _ t1 _ W _ hl hr fun x st a W hk hl hr=>?_)
 cases x with
 | exit i=>rcases hk with ⟨h,_⟩ | ⟨h,_⟩ <;> cases h
 | ret =>
  rcases hk with ⟨h,_⟩ | ⟨_,h⟩
  ·cases h
  ·exact hend st a W h hr hl
 | normal =>
 refine wpIn_seq (Dn (c:=GO w I V B ob fn.ntmps hA.wf) (ds:=[]) hm _ _ _ f3 hk _ t3 _ W _ hl hr fun x st a W hk hl hr=>?_)
 cases x with
 | exit i=>rcases hk with ⟨h,_⟩ | ⟨h,_⟩ <;> cases h
 | ret =>
  rcases hk with ⟨h,_⟩ | ⟨_,h⟩
  ·cases h
  ·exact hend st a W h hr hl
 | normal =>
 refine wpIn_seq (wpIn_seq (Dn (c:=GO w I V B ob fn.ntmps hA.wf) (ds:=[]) hm _ _ _ f4 hk _ t4 _ W _ hl hr fun x st a W hk hl hr=>?_))
 cases x with
 | exit i=>rcases hk with ⟨h,_⟩ | ⟨h,_⟩ <;> cases h
 | ret =>
  rcases hk with ⟨h,_⟩ | ⟨_,h⟩
  ·cases h
  ·exact hend st a W h hr hl
 | normal =>
 rcases hk with ⟨_,mk,hwk⟩ | ⟨h,_⟩
 rotate_left
 ·cases h
 obtain ⟨hd,I1,V1',B1',hr⟩:=hr
 obtain ⟨q1',q2'⟩:=hA.post hr hl
 have hVn:∀ g,ob.length≤g→V g=none:=fun g hg=>hA.wf.fr g (A8 _ _ hg)
 obtain ⟨q1,q2⟩:=q1'.weak (st0:=⟨[],ob⟩) hwk q2' hVn
 obtain ⟨V1,hV1⟩:∃ V1,V1=fun g=>V1' (sgp mk st.ob.length g):=⟨_,rfl⟩
 obtain ⟨B1,hB1⟩:∃ B1,B1=fun g=>B1' (sgp mk st.ob.length g):=⟨_,rfl⟩
 rw [←hV1,← hB1] at q1 q2
 refine wpIn_block (Vr (n:=5) (a:=a) hm (by omega) q1 hd hg hp hps hlv hn1 hids hobi h1 h2 eg hB tA fA tB fB h0 hR0 round ?_)
 intro x ob2 W2 I2 V2 B2 D hx hA2 hP2 hD hDl hh2 ho
 have hP:=q2.trans2 (V0:=V) hP2 fun g u hu=>by
  have hg:g<ob.length:=by
   rcases zH g ob.length with h | h
   ·exact h
   ·rw [hVn g h] at hu; cases hu
  rw [Tc (by omega)]
  exact q2.v g u hu
 have hwD:w.heap.size≤D:=Nat.le_trans q2.fr.size hD
 rcases hx with ⟨rfl,hRN,rfl⟩ | ⟨rfl,k,hk,hXk,rfl⟩
 ·have htl:=tail hRN
  refine leg (ro:=none) hm hA2 tT fT htl fun x st' a' W3 I3 V3 B3 hk3 hd3 hA3 hP3=>?_
  obtain ⟨o3,e3⟩:=ho.post hDl hP3
  exact IG hrs hA.wf hA3 (hP.trans hP3) hk3 (.inr ⟨D,hd3,hwD,e3.trans hh2,o3⟩)
 ·exact IG (e:=.ret) hrs hA.wf hA2 hP (stop k hk hXk) (.inr ⟨D,rfl,hwD,hh2,ho⟩)
theorem Sm (hm:P.follows .mixedOrders=true) {f:FuncId} {fn:Func} {nt:Nat} {args:List SV} {ob:List Ob} {r:SV} {ob':List Ob} {r0 rc rr:Code} {s0 s1:SC} {rs:List RX}
  (hf:P.funcs[f]?=some fn) (hb:fn.body=some (.seq r0 (.seq rc rr))) (hnt:fn.ntmps=nt)
  (t0:trC P nt r0=some s0) (t1:trC P nt rc=some s1) (hfl:(Cx s0&&Cx s1)=true) (hrs:AS (fn.results.toList.map (KS P nt))=some rs) (hn:args.length≤nt)
  (head:∀ c:Ctx,c.nt=nt→c.m=ob.length→sw P c (.seq s0 s1) (fun x st=>x=.ret∧Fin rs ob.length r ob' .ret st) ⟨args++HE (nt-args.length),ob⟩):Fun P f args ob r ob':=by
 subst hnt
 simp only [zB] at hfl
 refine Pk hf hb hn fun w I V B tm hA=>?_
 have wfn:wf none=Fence.wide:=rfl
 rw [←wfn]
 have hend:∀ (st:St) (a:Act) (W:World),Fin rs ob.length r ob' .ret st→RepD [] (GO w I V B ob fn.ntmps hA.wf) st.f a W→st.sl.length=fn.ntmps→WB P fn w I V B ob r ob' .ret a W:=fun st a W hk hr hl=>by
  obtain ⟨hd,I',V',B',hr⟩:=hr
  obtain ⟨q1,q2⟩:=hA.post hr hl
  exact IG (e:=.ret) hrs hA.wf q1 q2 hk (.inl hd)
 have hh:=head (GO w I V B ob fn.ntmps hA.wf) rfl rfl
 simp only [sw] at hh
 refine wpIn_seq (Dn (c:=GO w I V B ob fn.ntmps hA.wf) (ds:=[]) hm _ _ _ hfl.1 hh _ t0 _ w _ hA.len ⟨rfl,I,V,B,hA.rep⟩ fun x st a W hk hl hr=>?_)
 cases x with
 | exit i=>cases hk.1
 | ret=>exact hend st a W hk.2 hr hl
 | normal =>
 refine wpIn_seq (Dn (c:=GO w I V B ob fn.ntmps hA.wf) (ds:=[]) hm _ _ _ hfl.2 hk _ t1 _ W _ hl hr fun x st a W hk hl hr=>?_)
 cases x with
 | exit i=>cases hk.1
 | ret=>exact hend st a W hk.2 hr hl
 | normal=>cases hk.1
def XL:Code→List Code
 | .seq r0 (.seq rc (.seq r3 (.seq (.seq r4 (.block _ (.rangeFunc _ _ asg bd))) tl)))=>[r0,rc,r3,r4,tl,asg,bd]
 | _=>[]
def KB (fn:Func) (i:Nat):Code:=(XL (fn.body.getD .skip)).getD i .skip
end
end Go.Proofs.YtmhjhclgihoaeaaGreat
set_option maxRecDepth 100000
set_option linter.unusedSimpArgs false
set_option linter.unusedVariables false
set_option linter.unusedSectionVars false
namespace Go.Proofs.YtmhjhclgihoaeaaGreat
open Go.RowKit Go.Shelf
attribute [local go_sem] Oper.semAt_some
theorem Ch {A B:World} {x o:Nat} (h:B.heap[x]?=A.heap[x]?):B.cell? ⟨x,o,none⟩=A.cell? ⟨x,o,none⟩:=by
 unfold World.cell?
 simp only [h]
theorem KC [Flag] (N:Nat) (cv:Nat→Nat→Value) (Bs b off cap:Nat) (hreach:N*128≤140737488351232) (w:World) (hBs:w.cell? ⟨Bs,0,none⟩=some (.slice (some ⟨b,off,none⟩) N cap)) (hc0:∀ j,j<N→w.cell? ⟨b,off+j*7,none⟩=some (cv j 0)) (hc1:∀ j,j<N→w.cell? ⟨b,off+j*7+1,none⟩=some (cv j 1)) (hc2:∀ j,j<N→w.cell? ⟨b,off+j*7+2,none⟩=some (cv j 2)) (hc3:∀ j,j<N→w.cell? ⟨b,off+j*7+3,none⟩=some (cv j 3)) (hc4:∀ j,j<N→w.cell? ⟨b,off+j*7+4,none⟩=some (cv j 4)) (hc5:∀ j,j<N→w.cell? ⟨b,off+j*7+5,none⟩=some (cv j 5)) (hc6:∀ j,j<N→w.cell? ⟨b,off+j*7+6,none⟩=some (cv j 6)) :
  XJ Tryz.prog 97 N (fun j=>.agg #[cv j 0,cv j 1,cv j 2,cv j 3,cv j 4,cv j 5,cv j 6]) w Bs b:=by
 intro lb n J Jx W hn eBs eb hY h0
 refine callsIn_of_wp Tryz.func97 rfl trivial ?_ rfl
 simp only [Tryz.ntmps97,yD,zR,zL,z4,Nat.reduceSub,Array.replicate_succ,Array.replicate_zero,List.push_toArray,List.append_toArray,zK,List.cons_append]
 have hB0:=(Ch (o:=0) eBs).trans hBs
 gi_wp2
 gi_loopw [3] (fun i wr=>∃ k:Nat,k≤N∧i=.int .i64 ((N:Int)-1-k)∧J k wr∧KBx Bs b W wr)
  (fun i _=>(intOf i+1).toNat)
 case atStart=>exact ⟨0,zO _,by simp,h0,KBx.refl _ _ _⟩
 case round =>
  obtain ⟨k,hk,rfl,hJs,hnx⟩:=hrel
  by_cases hlt:k<N
  ·have hj:N-1-k<N:=by omega
   have hbk:wr.cell? ⟨Bs,0,none⟩=some (.slice (some ⟨b,off,none⟩) N cap):=(Ch hnx.1).trans hB0
   have hb:wr.heap[b]?=w.heap[b]?:=hnx.2.trans eb
   have hx0:=(Ch (o:=off+(N-1-k)*7) hb).trans (hc0 _ hj)
   have hx1:=(Ch (o:=off+(N-1-k)*7+1) hb).trans (hc1 _ hj)
   have hx2:=(Ch (o:=off+(N-1-k)*7+2) hb).trans (hc2 _ hj)
   have hx3:=(Ch (o:=off+(N-1-k)*7+3) hb).trans (hc3 _ hj)
   have hx4:=(Ch (o:=off+(N-1-k)*7+4) hb).trans (hc4 _ hj)
   have hx5:=(Ch (o:=off+(N-1-k)*7+5) hb).trans (hc5 _ hj)
   have hx6:=(Ch (o:=off+(N-1-k)*7+6) hb).trans (hc6 _ hj)
   have hji:(N:Int)-1-k=((N-1-k:Nat):Int):=by omega
   obtain ⟨fn,tmps,assign,body,hy,hR⟩:=hY k wr hlt hJs
   rw [hji]
   gi_wp2
   refine ⟨fun _=>by omega,hR.mono ?_⟩
   rintro e W3 (⟨rfl,hJ3,hk3⟩ | ⟨rfl,hJx3⟩)
   ·gi_wp2
    go_roundw
    case rel=>exact ⟨k+1,by omega,by congr 1; omega,hJ3,hnx.trans hk3⟩
    case measure=>simp [intOf] <;> omega
   ·gi_wp2
    refine bodyPost_ret (results_none rfl _ _ _) rfl ?_
    exact ⟨⟨_,rfl⟩,.inr ⟨k,hlt,hJx3⟩⟩
  ·obtain rfl:k=N:=by omega
   gi_wp2
   go_end0
   exact ⟨⟨_,rfl⟩,.inl hJs⟩
theorem JP [Flag] (enc:Nat→Value) (Bs b:Nat) (a:Option Addr) (cap:Nat) (w:World) (hBs:w.cell? ⟨Bs,0,none⟩=some (.slice a 0 cap)):XJ Tryz.prog 97 0 enc w Bs b:=by
 intro lb n J Jx W hn eBs eb hY h0
 refine callsIn_of_wp Tryz.func97 rfl trivial ?_ rfl
 simp only [Tryz.ntmps97,yD,zR,zL,z4,Nat.reduceSub,Array.replicate_succ,Array.replicate_zero,List.push_toArray,List.append_toArray,zK,List.cons_append]
 have hB0:=(Ch (o:=0) eBs).trans hBs
 gi_wp2
 gi_loopw [3] (fun i wr=>i=.int .i64 (-1)∧J 0 wr) (fun _ _=>0)
 case atStart=>exact ⟨by rfl,h0⟩
 case round =>
  obtain ⟨rfl,hJs⟩:=hrel
  gi_wp2
  go_end0
  exact ⟨⟨_,rfl⟩,.inl hJs⟩
theorem IT [Flag] (es:List (List D)) (hl:∀ l∈es,l.length=7) (hreach:es.length*128≤140737488351232):Vp Tryz.prog 97 (fun l=>.agg (l.map D.sv)) es:=by
 intro w I V Bs v hc hd
 have hd0:=hd
 cases hd with
 | arr S sz es a cap f Sub h1 h2 h3 h4 h5 h6 h7 =>
  rcases zD es.length with hz | hz
  ·obtain rfl:es=[]:=zF hz
   refine ⟨Bs,fun _=>undef,?_,fun h=>absurd h (by simp),fun j h=>absurd h (by simp),?_⟩
   ·obtain ⟨o,ho,_⟩:=cells_of_cell hc
    exact (yC.1 ho).1
   ·exact JP _ _ _ a cap w (by simpa using hc)
  ·rcases h3 with h3 | ⟨b,off,rfl,hS,hlt,hcs,_⟩
   ·omega
   have hsz:sz=7:=by
    have:=h4 0 hz
    rw [hl _ (zI hz)] at this
    omega
   subst hsz
   have hq:∀ j i (hj:j<es.length) (hi:i<7),w.cell? ⟨b,off+j*7+i,none⟩=some (f j i):=fun j i hj hi=>hcs j i hj hi
   refine ⟨b,fun j=>.agg #[f j 0,f j 1,f j 2,f j 3,f j 4,f j 5,f j 6],hlt,fun _=>hS,fun j hj=>?_,KC es.length f Bs b off cap hreach w hc (fun j hj=>hq j 0 hj (by omega)) (fun j hj=>hq j 1 hj (by omega)) (fun j hj=>hq j 2 hj (by omega)) (fun j hj=>hq j 3 hj (by omega)) (fun j hj=>hq j 4 hj (by omega)) (fun j hj=>hq j 5 hj (by omega)) (fun j hj=>hq j 6 hj (by omega))⟩
   have hlen:=h4 j hj
   obtain ⟨x,hx⟩:∃ x,x=es[j]:=⟨_,rfl⟩
   have hd7:∀ i (hi:i<x.length),RepV w I V (x[i]).sv (f j i):=fun i hi=>by
    subst hx
    exact D.rep_sv ((h7 j i hj hi).up fun y hy=>h5 j i y hy)
   rw [←hx] at hlen ⊢
   match x,hlen,hd7 with
   | [d0,d1,d2,d3,d4,d5,d6],_,hd7 =>
    simp only [yJ,zN,RepV]
    refine ⟨[f j 0,f j 1,f j 2,f j 3,f j 4,f j 5,f j 6],rfl,?_⟩
    simp only [RepVs]
    exact ⟨f j 0,_,rfl,hd7 0 (by simp),⟨f j 1,_,rfl,hd7 1 (by simp),⟨f j 2,_,rfl,hd7 2 (by simp),⟨f j 3,_,rfl,hd7 3 (by simp),⟨f j 4,_,rfl,hd7 4 (by simp),⟨f j 5,_,rfl,hd7 5 (by simp),⟨f j 6,_,rfl,hd7 6 (by simp),rfl⟩⟩⟩⟩⟩⟩⟩
end Go.Proofs.YtmhjhclgihoaeaaGreat
set_option maxRecDepth 100000
set_option linter.unusedSimpArgs false
set_option linter.unusedVariables false
set_option linter.unusedSectionVars false
namespace Go.Proofs.YtmhjhclgihoaeaaGreat
open Go.RowKit
theorem DT:∀ sc:SC,Cx sc=true→BK sc sc
 | .skip,_=>by simp [BK]
 | .exit _,_=>by simp [BK]
 | .ret,_=>by simp [BK]
 | .reg _,_=>by simp [BK]
 | .dreg _ _,_=>by simp [BK]
 | .seq a b,h=>by
  simp only [Cx,zB] at h
  simp only [BK]
  exact ⟨DT a h.1,DT b h.2⟩
 | .cond _ a b,h=>by
  simp only [Cx,zB] at h
  simp only [BK]
  exact ⟨trivial,DT a h.1,DT b h.2⟩
 | .block _ b,h=>by
  simp only [Cx] at h
  simp only [BK]
  exact ⟨trivial,DT b h⟩
 | .loop _ _,h=>by cases h
 | .next _ _ _,h=>by cases h
 | .mloop _ _ _ _ _ _,h=>by cases h
theorem Ro {c:Ctx} {sc:SC} {st:St} {K:X→St→Prop} (hf:Cx sc=true) (h:go c.m sc st K):sw Tryz.prog c sc K st:=by
 obtain ⟨x,st',h1,hk⟩:=h
 obtain ⟨n,h2⟩:=CN sc st (x,st') h1
 exact Gw (MM (MX MG Nf n)) (L9 MG n) sc sc st (x,st') (DT sc hf) h2 K hk
def CJ:SC:=(.seq (.reg [⟨some 1,none,.boxv 70 7 (.t 0)⟩,⟨some 2,none,.mv (.c (.bool false))⟩]) (.seq (.reg [⟨some 3,none,.load true 7 (.t 1)⟩,⟨some 4,none,.call 40 [(.t 3)]⟩,⟨some 5,none,.un .not (.t 4)⟩,⟨some 2,none,.mv (.t 5)⟩]) .ret))
theorem Fu:Ao Tryz.prog 39=some ⟨6,CJ,[(.tmp 2)]⟩:=by kernel_rfl
theorem CK:modes 39=⟨[],.asis,none,false⟩:=by unfold modes; rfl
theorem Fv:E3 Tryz.prog 39=true:=by kernel_rfl
theorem Ok (d:Df) (hl:d.vars.length≤1099511627776) (hta:d.form.tame) (hn:d.form.nodes≤1099511627776):E 39 [d.sv] []=some (.bool (!d.ok),[]):=by
 have h1:=ND d hl hta hn
 have hds:d.sv=.agg [.str d.name,.arr (d.vars.map fun s=>[D.str s]),.int .i64 d.form.op,.str d.form.atom.name,.arr (d.form.atom.args.map Tm.d),.str d.form.var,.arr (d.form.parts.map Fm.d)]:=rfl
 rw [hds] at h1 ⊢
 refine Ak Fu CK (of_decide_eq_true rfl) ?_
 simp (disch:=omega) only [CJ,go_sem,Ab,h1,Ez]
def Bb:SC:=(.seq (.reg [⟨some 4,none,.mv (.c (.int .i64 0))⟩]) (.seq (.seq (.reg [⟨some 6,none,.mv (.t 0)⟩,⟨some 7,none,.len false (.t 6)⟩,⟨some 8,none,.mv (.c (.int .i64 0))⟩]) (.block 0 (.loop [1,1,0,0,0,0,0,1,1,0,0,0,0,0,0,0,0,0,0] (.seq (.reg [⟨some 9,none,.bin .lss false (.t 8) (.t 7)⟩]) (.seq (.cond (.t 9) .skip (.exit 0)) (.seq (.block 1 (.seq (.reg [⟨some 10,none,.mv (.t 8)⟩,⟨some 5,none,.mv (.t 10)⟩]) (.seq (.reg [⟨some 11,none,.mv (.t 1)⟩,⟨some 12,none,.mv (.t 0)⟩,⟨some 13,none,.mv (.t 5)⟩,⟨some 14,none,.iaddr 7 (.t 12) (.t 13)⟩,⟨some 15,none,.load true 7 (.t 14)⟩,⟨some 16,none,.callv (.t 11) [(.t 15)]⟩]) (.cond (.t 16) (.seq (.reg [⟨some 17,none,.mv (.t 5)⟩,⟨some 4,none,.mv (.t 17)⟩]) .ret) .skip)))) (.reg [⟨some 18,none,.bin .add false (.t 8) (.c (.int .i64 1))⟩,⟨some 8,none,.mv (.t 18)⟩]))))))) (.seq (.reg [⟨some 4,none,.mv (.c (.int .i64 (-(0+1))))⟩]) .ret)))
theorem BR:Ao Tryz.prog 93=some ⟨19,Bb,[(.tmp 4)]⟩:=by kernel_rfl
theorem Be:modes 93=⟨[],.asis,none,false⟩:=by unfold modes; rfl
def AV:SC:=(.seq (.reg [⟨some 4,none,.mv (.c (.bool false))⟩]) (.seq (.reg [⟨some 5,none,.mv (.t 0)⟩,⟨some 6,none,.mv (.t 1)⟩,⟨some 7,none,.call 93 [(.t 5),(.t 6)]⟩,⟨some 8,none,.bin .geq false (.t 7) (.c (.int .i64 0))⟩,⟨some 4,none,.mv (.t 8)⟩]) .ret))
theorem BM:Ao Tryz.prog 38=some ⟨9,AV,[(.tmp 4)]⟩:=by kernel_rfl
theorem AE:modes 38=⟨[],.asis,none,false⟩:=by unfold modes; rfl
theorem PW (fid:Nat) (p:Df→Bool) (xs:List Df) (hl:xs.length≤1099511627776) (hg:E3 Tryz.prog fid=true) (hm:(modes fid).hand=[]) (hE:∀ x∈xs,E fid [x.sv] []=some (.bool (p x),[])):E 93 [.arr (xs.map Df.d),.fn fid []] []=some (.int .i64 (Ck p xs 0),[]):=by
 refine Ak BR Be (of_decide_eq_true rfl) ?_
 simp (disch:=omega) only [Bb,go_sem,Ab]
 refine go_loop (α:=Int) (fun a=>⟨slots 19 0 [(0,.arr (xs.map Df.d)),(1,.fn fid []),(7,.int .i64 xs.length),(8,.int .i64 a)],[]⟩) (fun a=>∃ k:Nat,a=k∧k≤(xs).length∧Ck p (xs.drop k) a=Ck p xs 0) (fun a=>(xs).length-(a).toNat) 0 ⟨0,rfl,zO _,by rw [zU]⟩ (by simp (disch:=omega) only [go_sem,Ab]) ?_
 rintro i ⟨k,hi,hk,hR⟩
 have hni:i.toNat=k:=by omega
 have hni1:(i+1).toNat=k+1:=by omega
 rcases zH k (xs).length with hlt | hge
 ·have hg':=get_at Df.d hlt
  rw [Df.d_eq] at hg'
  have hc:=hE xs[k] (zI hlt)
  rw [zJ hlt,Ck] at hR
  cases hp:p xs[k] with
  | true =>
   rw [hp] at hc hR
   simp (disch:=omega) only [go_sem,Ab,hni,hg',hc,hg,hm]
   simpa using hR
  | false =>
   rw [hp] at hc hR
   simp (disch:=omega) only [go_sem,Ab,hni,hg',hc,hg,hm]
   exact ⟨i+1,⟨k+1,by omega,hlt,by simpa using hR⟩,by omega,by first | trivial | rfl⟩
 ·rw [zM hge,Ck] at hR
  simp (disch:=omega) only [go_sem,Ab,hni]
  exact hR
theorem Mf (fid:Nat) (p:Df→Bool) (xs:List Df) (hl:xs.length≤1099511627776) (hg:E3 Tryz.prog fid=true) (hm:(modes fid).hand=[]) (hE:∀ x∈xs,E fid [x.sv] []=some (.bool (p x),[])):E 38 [.arr (xs.map Df.d),.fn fid []] []=some (.bool (xs.any p),[]):=by
 have h:=PW fid p xs hl hg hm hE
 refine Ak BM AE (of_decide_eq_true rfl) ?_
 simp (disch:=omega) only [AV,go_sem,Ab,h,Be]
 rw [G7]
def Bf:SC:=(.seq (.reg [⟨some 1,none,.boxv 40 1 (.t 0)⟩,⟨some 2,none,.mv (.c .any)⟩]) (.seq (.reg [⟨some 3,none,.mkfn 97 [(.t 1)]⟩,⟨some 2,none,.mv (.t 3)⟩]) .ret))
theorem BS:Ao Tryz.prog 42=some ⟨4,Bf,[(.tmp 2)]⟩:=by kernel_rfl
theorem Bg:modes 42=⟨[],.asis,none,false⟩:=by unfold modes; rfl
def d_impl_UnfoldDefinitions_0:SC:=(.reg [⟨(some 2),none,(.boxv 36 5 (.t 0))⟩,⟨(some 4),none,(.alloc 36 [(.int .i64 0),(.str ⟨#[]⟩),.nil,(.str ⟨#[]⟩),.nil])⟩,⟨(some 5),none,(.alloc 4 [(.bool false)])⟩])
theorem C9:trC Tryz.prog 46 (KB Tryz.f10 0)=some d_impl_UnfoldDefinitions_0:=by kernel_rfl
def d_impl_UnfoldDefinitions_1:SC:=(.seq (.reg [⟨(some 11),none,(.load true 5 (.t 2))⟩,⟨(some 12),none,(.call 36 [(.t 11)])⟩,⟨(some 13),none,(.un .not (.t 12))⟩,⟨(some 14),none,(.mv (.t 13))⟩,⟨(some 15),(some (14,false)),(.load true 5 (.t 2))⟩,⟨(some 16),(some (14,false)),(.mkrow 3 1 [(.int .i64 0)] 2 [(0,(.c (.int .i64 8))),(1,(.c (.int .i64 9)))])⟩,⟨(some 17),(some (14,false)),(.call 37 [(.t 15),(.t 16)])⟩,⟨(some 18),none,(.pick (.t 14) (.c (.bool true)) (.t 17))⟩,⟨(some 19),none,(.mv (.t 18))⟩,⟨(some 20),(some (19,false)),(.mv (.t 1))⟩,⟨(some 21),(some (19,false)),(.call 38 [(.t 20),(.c (.fn 39 []))])⟩,⟨(some 22),none,(.pick (.t 19) (.c (.bool true)) (.t 21))⟩]) (.cond (.t 22) (.seq (.reg [⟨(some 23),none,(.build [(.int .i64 0),(.str ⟨#[]⟩),.nil,(.str ⟨#[]⟩),.nil] [])⟩,⟨none,none,(.store 5 (.t 4) (.t 23))⟩,⟨none,none,(.store 1 (.t 5) (.c (.bool false)))⟩]) .ret) .skip))
theorem CA:trC Tryz.prog 46 (KB Tryz.f10 1)=some d_impl_UnfoldDefinitions_1:=by kernel_rfl
def d_impl_UnfoldDefinitions_2:SC:=(.reg [⟨(some 24),none,(.load true 5 (.t 2))⟩,⟨(some 25),none,(.call 41 [(.t 24)])⟩,⟨(some 6),none,(.alloc 36 [(.int .i64 0),(.str ⟨#[]⟩),.nil,(.str ⟨#[]⟩),.nil])⟩,⟨none,none,(.store 5 (.t 6) (.t 25))⟩])
theorem EA:trC Tryz.prog 46 (KB Tryz.f10 2)=some d_impl_UnfoldDefinitions_2:=by kernel_rfl
def d_impl_UnfoldDefinitions_3:SC:=(.reg [⟨(some 26),none,(.mv (.t 1))⟩,⟨(some 27),none,(.call 42 [(.t 26)])⟩])
theorem EB:trC Tryz.prog 46 (KB Tryz.f10 3)=some d_impl_UnfoldDefinitions_3:=by kernel_rfl
def d_impl_UnfoldDefinitions_4:SC:=(.seq (.reg [⟨(some 45),none,(.load true 5 (.t 6))⟩,⟨none,none,(.store 5 (.t 4) (.t 45))⟩,⟨none,none,(.store 1 (.t 5) (.c (.bool true)))⟩]) .ret)
theorem EC:trC Tryz.prog 46 (KB Tryz.f10 4)=some d_impl_UnfoldDefinitions_4:=by kernel_rfl
def d_impl_UnfoldDefinitions_5:SC:=(.reg [⟨(some 8),none,(.alloc 70 [(.str ⟨#[]⟩),.nil,(.int .i64 0),(.str ⟨#[]⟩),.nil,(.str ⟨#[]⟩),.nil])⟩,⟨none,none,(.store 7 (.t 8) (.t 29))⟩])
theorem ED:trC Tryz.prog 46 (KB Tryz.f10 5)=some d_impl_UnfoldDefinitions_5:=by kernel_rfl
def d_impl_UnfoldDefinitions_6:SC:=(.block 1 (.seq (.reg [⟨(some 31),none,(.load true 5 (.t 6))⟩,⟨(some 32),none,(.load true 7 (.t 8))⟩,⟨(some 33),none,(.call 43 [(.t 31),(.t 32)])⟩,⟨(some 30),none,(.mv (.t 33))⟩,⟨(some 34),none,(.ext (.t 30) 0)⟩,⟨(some 35),none,(.ext (.t 30) 1)⟩,⟨(some 9),none,(.alloc 36 [(.int .i64 0),(.str ⟨#[]⟩),.nil,(.str ⟨#[]⟩),.nil])⟩,⟨none,none,(.store 5 (.t 9) (.t 34))⟩,⟨(some 10),none,(.mv (.t 35))⟩]) (.seq (.seq (.reg [⟨(some 36),none,(.mv (.t 10))⟩,⟨(some 37),none,(.un .not (.t 36))⟩,⟨(some 38),none,(.mv (.t 37))⟩,⟨(some 39),(some (38,false)),(.load true 5 (.t 9))⟩,⟨(some 40),(some (38,false)),(.call 36 [(.t 39)])⟩,⟨(some 41),(some (38,false)),(.un .not (.t 40))⟩,⟨(some 42),none,(.pick (.t 38) (.c (.bool true)) (.t 41))⟩]) (.cond (.t 42) (.seq (.reg [⟨(some 43),none,(.build [(.int .i64 0),(.str ⟨#[]⟩),.nil,(.str ⟨#[]⟩),.nil] [])⟩,⟨none,none,(.store 5 (.t 4) (.t 43))⟩,⟨none,none,(.store 1 (.t 5) (.c (.bool false)))⟩]) .ret) .skip)) (.reg [⟨(some 44),none,(.load true 5 (.t 9))⟩,⟨none,none,(.store 5 (.t 6) (.t 44))⟩]))))
theorem EE:trC Tryz.prog 46 (KB Tryz.f10 6)=some d_impl_UnfoldDefinitions_6:=by kernel_rfl
theorem CR:AS (Tryz.f10.results.toList.map (KS Tryz.prog 46))=some [(.cell 4 true 5),(.cell 5 false 1)]:=by kernel_rfl
theorem WC (es:List (List D)):E 42 [.arr es] []=some (.fn 97 [.ptr 0 0],[.box 40 [.arr es]]):=by
 refine Ak BS Bg (of_decide_eq_true rfl) ?_
 simp (disch:=omega) only [Bf,go_sem,Ab]
noncomputable def bo_impl_UnfoldDefinitions:Code:=.seq (KB Tryz.f10 0) (.seq (KB Tryz.f10 1) (.seq (KB Tryz.f10 2) (.seq (.seq (KB Tryz.f10 3) (.block 0 (.rangeFunc (.tmp 27) #[28,29] (KB Tryz.f10 5) (KB Tryz.f10 6)))) (KB Tryz.f10 4))))
theorem CS:Tryz.f10.body=some bo_impl_UnfoldDefinitions:=by rfl
structure DsOk (x:Fm) (ds:List Df):Prop where
 len:ds.length≤1048576
 tame:x.tame
 nodes:x.nodes≤1099511627776
 vars:∀ d∈ds,d.vars.length≤1099511627776
 dtame:∀ d∈ds,d.form.tame
 dnodes:∀ d∈ds,d.form.nodes≤1099511627776
theorem KD {x:Fm} {ds:List Df} (h:DsOk x ds):E 38 [.arr (ds.map Df.d),.fn 39 []] []=some (.bool (!ds.all Df.ok),[]):=by
 have h1:=Mf 39 (fun d=>!d.ok) ds (by have:=h.len; omega) Fv (by rw [CK]) fun d hd=>Ok d (h.vars d hd) (h.dtame d hd) (h.dnodes d hd)
 rw [h1]
 have:(ds.any fun d=>!d.ok)=!ds.all Df.ok:=(List.not_all_eq_any_not).symm
 rw [this]
theorem XM (x:Fm) (ds:List Df) (h:DsOk x ds) (hno:HQ x ds=false):Fun Tryz.prog 10 [x.sv,.arr (ds.map Df.d)] [] (.tup [.agg [.int .i64 0,.str ⟨#[]⟩,.nil,.str ⟨#[]⟩,.nil],.bool false]) []:=by
 have h1:=CP x h.tame h.nodes
 have h2:=K9 [8,9] (by simp) x h.nodes
 have h3:=KD h
 have hxs:x.sv=.agg [.int .i64 x.op,.str x.atom.name,.arr (x.atom.args.map Tm.d),.str x.var,.arr (x.parts.map Fm.d)]:=rfl
 have h8:([8,9]:List Int).map (fun s=>[D.int s])=[[D.int 8],[D.int 9]]:=rfl
 rw [h8] at h2
 rw [hxs] at h1 h2 ⊢
 refine Sm (nt:=46) MG Tryz.func10 CS rfl C9 CA (by rfl) CR (by simp) fun c hnt hm=>?_
 refine Ro (by rfl) ?_
 unfold HQ at hno
 cases hv:x.valid with
 | false =>
  rw [hv] at h1
  simp (disch:=omega) only [d_impl_UnfoldDefinitions_0,d_impl_UnfoldDefinitions_1,h1,A2,go_sem,Ab]
  refine ⟨.inl rfl,.tup [.agg [.int .i64 0,.str ⟨#[]⟩,.nil,.str ⟨#[]⟩,.nil],.bool false],[],rfl,?_⟩
  simp only [WeakC,leL,leV,leO,KO,KP,Am,sgp,SV.ren,SV.EP,Ob.ren,GV,Dx,HF,DH,Dt,Dt.setO1,zR,zL,z4,z7,yB,zS,zT,or_false,false_or,not_false_eq_true,not_true_eq_false,true_and,and_true,and_self,zZ,reduceCtorEq,zK,z8,yE,zW]
 | true =>
  rw [hv] at h1 hno
  rw [zE] at hno
  cases hw:x.hasS [8,9] with
  | true =>
   rw [hw] at h2
   simp (disch:=omega) only [d_impl_UnfoldDefinitions_0,d_impl_UnfoldDefinitions_1,h1,h2,A2,BC,go_sem,Ab]
   refine ⟨.inl rfl,.tup [.agg [.int .i64 0,.str ⟨#[]⟩,.nil,.str ⟨#[]⟩,.nil],.bool false],[],rfl,?_⟩
   simp only [WeakC,leL,leV,leO,KO,KP,Am,sgp,SV.ren,SV.EP,Ob.ren,GV,Dx,HF,DH,Dt,Dt.setO1,zR,zL,z4,z7,yB,zS,zT,or_false,false_or,not_false_eq_true,not_true_eq_false,true_and,and_true,and_self,zZ,reduceCtorEq,zK,z8,yE,zW]
  | false =>
   rw [hw] at h2 hno
   rw [Bool.not_false,zE] at hno
   rw [hno] at h3
   simp (disch:=omega) only [d_impl_UnfoldDefinitions_0,d_impl_UnfoldDefinitions_1,h1,h2,h3,A2,BC,AE,go_sem,Ab]
   refine ⟨.inl rfl,.tup [.agg [.int .i64 0,.str ⟨#[]⟩,.nil,.str ⟨#[]⟩,.nil],.bool false],[],rfl,?_⟩
   simp only [WeakC,leL,leV,leO,KO,KP,Am,sgp,SV.ren,SV.EP,Ob.ren,GV,Dx,HF,DH,Dt,Dt.setO1,zR,zL,z4,z7,yB,zS,zT,or_false,false_or,not_false_eq_true,not_true_eq_false,true_and,and_true,and_self,zZ,reduceCtorEq,zK,z8,yE,zW]
theorem Te (x:Fm) (ds:List Df) (h:DsOk x ds) (hyes:HQ x ds=true) (r1:SV) (ob1:List Ob) (hS:∀ y,AW ds x=some y→r1=.tup [y.osv,.bool true]∧ob1=y.obs) (hF:AW ds x=none→r1=.tup [.agg [.int .i64 0,.str ⟨#[]⟩,.nil,.str ⟨#[]⟩,.nil],.bool false]∧ob1=[]):Fun Tryz.prog 10 [x.sv,.arr (ds.map Df.d)] [] r1 ob1:=by
 have h1:=CP x h.tame h.nodes
 have h2:=K9 [8,9] (by simp) x h.nodes
 have h3:=KD h
 have h4:=Js x h.tame h.nodes
 have hxs:x.sv=.agg [.int .i64 x.op,.str x.atom.name,.arr (x.atom.args.map Tm.d),.str x.var,.arr (x.parts.map Fm.d)]:=rfl
 have h8:([8,9]:List Int).map (fun s=>[D.int s])=[[D.int 8],[D.int 9]]:=rfl
 rw [h8] at h2
 rw [hxs] at h1 h2 h4 ⊢
 unfold HQ at hyes
 simp only [zB,Bool.not_eq_true'] at hyes
 obtain ⟨hv,hw,hd⟩:=hyes
 rw [hv] at h1
 rw [hw] at h2
 rw [hd] at h3
 obtain ⟨n,hn0⟩:∃ n,n=ds.length:=⟨_,rfl⟩
 obtain ⟨es,hes⟩:∃ es,es=ds.map Df.d:=⟨_,rfl⟩
 have hel:es.length=n:=by rw [hes,zV,hn0]
 have hlen:=h.len
 have hdr:AW (ds.drop n) x=some x:=by rw [hn0,List.drop_length,AW]
 obtain ⟨y,hy⟩:∃ y:Nat→Fm,y=fun k=>(AW (ds.drop (n-k)) x).getD Fm.zero:=⟨_,rfl⟩
 have hy0:y 0=x:=by
  rw [hy]
  show (AW (ds.drop (n-0)) x).getD Fm.zero=x
  rw [Nat.sub_zero,hdr]; rfl
 have hyk:∀ k,(AW (ds.drop (n-k)) x).isSome=true→AW (ds.drop (n-k)) x=some (y k):=fun k hk=>by
  rw [hy]
  show AW (ds.drop (n-k)) x=some ((AW (ds.drop (n-k)) x).getD Fm.zero)
  revert hk
  cases AW (ds.drop (n-k)) x with
  | some z=>intro _; rfl
  | none=>intro hk; cases hk
 refine Vs (nt:=46) (n1:=4) (p:=3) (t:=40) (hs:=[3]) (es:=es) (el:=fun l=>.agg (l.map D.sv)) (obs:=fun k=>[.box 36 [.int .i64 0,.str ⟨#[]⟩,.nil,.str ⟨#[]⟩,.nil],.box 4 [.bool false],.box 36 [.int .i64 ((y k)).op,.str ((y k)).atom.name,.ref 4,.str ((y k)).var,.ref 5],.gone,.row 33 2 (((y k)).atom.args.map Tm.o),.row 36 5 (((y k)).parts.map Fm.o)]) (obx:=fun _=>[.box 36 [.int .i64 0,.str ⟨#[]⟩,.nil,.str ⟨#[]⟩,.nil],.box 4 [.bool false],.gone,.gone]) (Rk:=fun k=>(AW (ds.drop (n-k)) x).isSome=true) (Xk:=fun k=>AW (ds.drop (n-(k+1))) x=none)
  (st1:=⟨slots 46 0 [(4,.ptr 0 0),(5,.ptr 1 0),(6,.ptr 2 0),(27,.fn 97 [.ptr 3 0])],[.box 36 [.int .i64 0,.str ⟨#[]⟩,.nil,.str ⟨#[]⟩,.nil],.box 4 [.bool false],.box 36 [.int .i64 ((y 0)).op,.str ((y 0)).atom.name,.ref 4,.str ((y 0)).var,.ref 5],.box 40 [.arr es],.row 33 2 (((y 0)).atom.args.map Tm.o),.row 36 5 (((y 0)).parts.map Fm.o)]⟩)
  MG Tryz.func10 CS rfl C9 CA EA EB EC ED EE (by rfl) CR (by simp) ?head (by rfl) (by rfl) (by simp) ?hlv (by simp) (by rfl) ?hobi (by simp) (by omega) (by omega) (enters_of Tryz.func97 (by kernel_rfl) rfl) (IT es ?hw ?hr) ?h0 ?hr0 ?round ?tail ?stop
 case head =>
  intro c hnt hm
  refine Ro (by rfl) ?_
  have hb:=WC es
  rw [hes] at hb ⊢
  rw [hy0]
  simp (disch:=omega) only [d_impl_UnfoldDefinitions_0,d_impl_UnfoldDefinitions_1,d_impl_UnfoldDefinitions_2,d_impl_UnfoldDefinitions_3,h1,h2,h3,h4,hb,Fm.osv,Fm.obs,A2,BC,C0,AE,Bg,go_sem,Ab]
  refine .inl ⟨rfl,[1,2,6,7,4,5],?_⟩
  simp only [WeakC,leL,leV,leO,KO,KP,Am,sgp,SV.ren,SV.EP,Ob.ren,GV,Dx,HF,DH,Dt,Dt.setO1,zR,zL,z4,z7,yB,zS,zT,or_false,false_or,not_false_eq_true,not_true_eq_false,true_and,and_true,and_self,zZ,reduceCtorEq,zK,z8,yE,zW]
 case hlv =>
  intro g hg
  simp only [zS,zT,or_false] at hg
  subst hg; trivial
 case hobi =>
  intro g hg
  simp only [zS,zT,or_false] at hg
  subst hg; rfl
 case hw =>
  intro l hm
  rw [hes] at hm
  obtain ⟨x,_,rfl⟩:=List.mem_map.1 hm
  rfl
 case hr=>rw [hel]; omega
 case h0=>rfl
 case hr0 =>
  show (AW (ds.drop (n-0)) x).isSome=true
  rw [Nat.sub_zero,hdr]; rfl
 case stop =>
  intro k hk hX
  obtain ⟨rfl,rfl⟩:=hF (Is ds _ hX)
  simp only [Ft,List.foldl_cons,List.foldl_nil,CZ,Am]
  refine ⟨.inl rfl,.tup [.agg [.int .i64 0,.str ⟨#[]⟩,.nil,.str ⟨#[]⟩,.nil],.bool false],[],rfl,?_⟩
  simp only [WeakC,leL,leV,leO,KO,KP,Am,sgp,SV.ren,SV.EP,Ob.ren,GV,Dx,HF,DH,Dt,Dt.setO1,zR,zL,z4,z7,yB,zS,zT,or_false,false_or,not_false_eq_true,not_true_eq_false,true_and,and_true,and_self,zZ,reduceCtorEq,zK,z8,yE,zW]
 case round =>
  intro k hk hR c hnt hm
  have hkn:k<n:=by rw [←hel]; exact hk
  have hj:n-1-k<ds.length:=by omega
  have hje:n-(k+1)=n-1-k:=by omega
  have hjs:n-1-k+1=n-k:=by omega
  have hst:=LN (x:=x) hj
  rw [hjs,hyk k hR] at hst
  have hst:AW (ds.drop (n-1-k)) x=E6 ds[n-1-k] (y k):=hst
  have he:(SV.agg ((es[es.length-1-k]'(by omega)).map D.sv))=(ds[n-1-k]).sv:=by
   simp only [hes,yR,zV]
   have e1:ds.length-1-k=n-1-k:=by omega
   simp only [e1]
   rfl
  rw [he]
  have hdk:=yN.1 hd _ (zI hj)
  have hyv:=Hp hv _ (hyk k hR)
  obtain ⟨b1,b2⟩:=NI hdk hyv
  obtain ⟨y1,y2⟩:=Ed hyv
  have hu:=Rg ds[n-1-k] (Df.SY hdk (h.vars _ (zI hj))).1 (y k) y2 (Fm.Fq _ y2) (by omega)
  unfold UfC at hu
  have hi:=CP ((y k).unfV ds[n-1-k]) b2 (by omega)
  have hyn:y (k+1)=(E6 ds[n-1-k] (y k)).getD Fm.zero:=by
   have e:y (k+1)=(AW (ds.drop (n-(k+1))) x).getD Fm.zero:=by rw [hy]
   rw [e,hje,hst]
  have hys:(y k).sv=.agg [.int .i64 (y k).op,.str (y k).atom.name,.arr ((y k).atom.args.map Tm.d),.str (y k).var,.arr ((y k).parts.map Fm.d)]:=rfl
  unfold E6 at hyn hst
  generalize ds[n-1-k]=d at *
  have hds:d.sv=.agg [.str d.name,.arr (d.vars.map fun s=>[D.str s]),.int .i64 d.form.op,.str d.form.atom.name,.arr (d.form.atom.args.map Tm.d),.str d.form.var,.arr (d.form.parts.map Fm.d)]:=rfl
  generalize (y k).unfV d=z at *
  have hzs:z.sv=.agg [.int .i64 z.op,.str z.atom.name,.arr (z.atom.args.map Tm.d),.str z.var,.arr (z.parts.map Fm.d)]:=rfl
  rw [hys,hds] at hu
  rw [hzs] at hi
  rw [hds]
  refine Ro (by rfl) ?_
  simp (disch:=omega) only [d_impl_UnfoldDefinitions_5,go_sem,Ab]
  refine ⟨rfl,fun c' hnt' hm'=>?_⟩
  refine Ro (by rfl) ?_
  cases hB:(y k).unfB d with
  | false =>
   rw [hB] at hu hst
   have hX:AW (ds.drop (n-(k+1))) x=none:=by rw [hje,hst]; rfl
   simp (disch:=omega) only [d_impl_UnfoldDefinitions_6,hu,Fm.osv,Fm.obs,Tm.erss,Fm.erss,Tm.noss,Fm.noss,BB,go_sem,Ab]
   refine .inr ⟨rfl,hX,[0,1,2,3],?_⟩
   simp only [WeakC,leL,leV,leO,KO,KP,Am,sgp,SV.ren,SV.EP,Ob.ren,GV,Dx,HF,DH,Dt,Dt.setO1,zR,zL,z4,z7,yB,zS,zT,or_false,false_or,not_false_eq_true,not_true_eq_false,true_and,and_true,and_self,zZ,reduceCtorEq,zK,z8,yE,zW]
  | true =>
   rw [hB] at hu hst hyn
   cases hV:z.valid with
   | false =>
    rw [hV] at hi hst
    have hX:AW (ds.drop (n-(k+1))) x=none:=by rw [hje,hst]; rfl
    simp (disch:=omega) only [d_impl_UnfoldDefinitions_6,hu,hi,Fm.osv,Fm.obs,Tm.erss,Fm.erss,Tm.noss,Fm.noss,BB,A2,go_sem,Ab]
    refine .inr ⟨rfl,hX,[0,1,2,3],?_⟩
    simp only [WeakC,leL,leV,leO,KO,KP,Am,sgp,SV.ren,SV.EP,Ob.ren,GV,Dx,HF,DH,Dt,Dt.setO1,zR,zL,z4,z7,yB,zS,zT,or_false,false_or,not_false_eq_true,not_true_eq_false,true_and,and_true,and_self,zZ,reduceCtorEq,zK,z8,yE,zW]
   | true =>
    rw [hV] at hi hst hyn
    have hX:(AW (ds.drop (n-(k+1))) x).isSome=true:=by rw [hje,hst]; rfl
    have hyz:y (k+1)=z:=hyn
    simp (disch:=omega) only [d_impl_UnfoldDefinitions_6,hu,hi,Fm.osv,Fm.obs,Tm.erss,Fm.erss,Tm.noss,Fm.noss,BB,A2,go_sem,Ab]
    refine .inl ⟨rfl,hX,[0,1,2,3,7,8],?_⟩
    simp only [hyz,WeakC,leL,leV,leO,KO,KP,Am,sgp,SV.ren,SV.EP,Ob.ren,GV,Dx,HF,DH,Dt,Dt.setO1,zR,zL,z4,z7,yB,zS,zT,or_false,false_or,not_false_eq_true,not_true_eq_false,true_and,and_true,and_self,zZ,reduceCtorEq,zK,z8,yE,zW]
 case tail =>
  intro hR c hnt hm
  rw [hel] at hR ⊢
  have hyn:=hyk n hR
  rw [Nat.sub_self,zU] at hyn
  obtain ⟨rfl,rfl⟩:=hS _ hyn
  simp only [Ft,List.foldl_cons,List.foldl_nil,CZ,Am]
  refine Ro (by rfl) ?_
  simp (disch:=omega) only [d_impl_UnfoldDefinitions_4,go_sem,Ab]
  refine ⟨.inl rfl,.tup [.agg [.int .i64 (y n).op,.str (y n).atom.name,.ref 4,.str (y n).var,.ref 5],.bool true],[4,5],rfl,?_⟩
  simp only [Fm.osv,Fm.obs,WeakC,leL,leV,leO,KO,KP,Am,sgp,SV.ren,SV.EP,Ob.ren,GV,Dx,HF,DH,Dt,Dt.setO1,zR,zL,z4,z7,yB,zS,zT,or_false,false_or,not_false_eq_true,not_true_eq_false,true_and,and_true,and_self,zZ,reduceCtorEq,zK,z8,yE,zW]
theorem WD (x:Fm) (ds:List Df) (h:DsOk x ds):Fun Tryz.prog 10 [x.sv,.arr (ds.map Df.d)] [] (.tup [(Du x ds).osv,.bool (F4 x ds)]) (Du x ds).obs:=by
 have hz:∀ r ob,r=SV.tup [.agg [.int .i64 0,.str ⟨#[]⟩,.nil,.str ⟨#[]⟩,.nil],.bool false]→ob=[]→order (.own [none,none,some (33,2),none,some (36,5),none]) 0 r ob=some (.tup [Fm.zero.osv,.bool false],Fm.zero.obs):=fun r ob h1 h2=>by
  subst h1; subst h2
  simp (disch:=omega) only [go_sem,Ab]
  repeat' (first | rfl | refine And.intro ?_ ?_)
 unfold Du F4
 cases hi:HQ x ds with
 | false =>
  rw [zA,cond_false]
  exact KW (XM x ds h hi) (hz _ _ rfl rfl)
 | true =>
  rw [zE]
  cases ha:AW ds x with
  | none =>
   exact KW (Te x ds h hi _ _ (fun y hy=>by rw [ha] at hy; cases hy) fun _=>⟨rfl,rfl⟩) (hz _ _ rfl rfl)
  | some y =>
   exact Te x ds h hi _ _ (fun y' hy=>by rw [ha] at hy; obtain rfl:=z6 hy; exact ⟨rfl,rfl⟩) fun hn=>by rw [ha] at hn; cases hn
theorem Bk:modes 10=⟨[],.asis,some RL,false⟩:=by unfold modes; rfl
theorem IU (x:Fm) (ds:List Df) (h:DsOk x ds):E 10 [x.sv,.arr (ds.map Df.d)] []=some (.tup [(Du x ds).osv,.bool (F4 x ds)],(Du x ds).obs):=by
 rw [UJ (g:=RL) (congrArg FM.ext Bk)]
 exact Wb x ds (WD x ds h)
end Go.Proofs.YtmhjhclgihoaeaaGreat
