/-
  Texts of this claim, one behind the other, each built on those ahead of it. No condition.
-/
import Derived.Test.YtbcljemengiocaaGreatDoorK42b
import Derived.Test.YtbcljemengiocaaGreatDoorK42c
import Derived.CallsIn
import Derived.ControlIn
import Derived.OrdersIn
import Derived.TacticsIn
import Derived.RangeFuncCalls
import Derived.RangeFuncBox
import Derived.RangeFuncLeaves
import Derived.RangeFuncKeeps
import Derived.RangeFuncFrom
import Derived.Shelf.Abstract
import Derived.WalkKit
import Derived.OwnWalkIn
import Derived.TacticsInMore
import Derived.LoopNIn
import Derived.LoopIn
set_option maxHeartbeats 16000000
open List renaming drop_eq_getElem_cons → zA, drop_eq_nil_of_le → zD, drop_zero → zE, getElem_mem → zF, length_append → zJ, nil_append → zK, length_nil → zN, append_nil → zO, length_cons → zP, append_assoc → zQ, length_map → zU, cons_append → zV, not_mem_nil → zW, mem_cons → zX, map_nil → zY, map_cons → z6, getElem?_eq_getElem → z7, eq_nil_of_length_eq_zero → z8, all_eq_true → yB, getElem?_eq_some_iff → yD, mem_append → yE, length_set → yG, set_cons_zero → yH, set_cons_succ → yI, size_toArray → yJ, length_singleton → yK, map_append → yO, nodup_cons → yP, nodup_nil → yR, mem_flatMap → yS, length → yW
open Nat renaming lt_or_ge → zB, zero_le → zH, not_lt → zL, zero_add → zT, eq_zero_or_pos → zZ, reduceEqDiff → yL, reduceAdd → yN, lt_of_lt_of_le → yQ, add_zero → yT, le_refl → yX
open Bool renaming false_and → zC, true_and → zG, and_eq_true → zS, and_false → yA, and_true → yM, not_false → yV
open Option.some renaming inj → zI
open Option renaming map_eq_some_iff → zM
open Array renaming getD_eq_getD_getElem? → zR, getElem?_eq_getElem → yC, replicate → yF
open Int renaming toNat_zero → yU
open List.Pairwise renaming nil → yY
set_option maxRecDepth 100000
set_option linter.unusedSimpArgs false
set_option linter.unusedVariables false
set_option linter.unusedSectionVars false
namespace Go.Proofs.YtbcljemengiocaaGreatDoor
open Go.RowKit
theorem Rk {o:Ob} {es:List (List OT)} (h:toTree [o]=[.tree es []]):(∃ a b,o=.row a b es)∨o=.tree es []:=by
 cases o with
 | row a b e=>obtain ⟨h1,h2⟩:=List.cons.inj h; cases h1; exact .inl ⟨a,b,rfl⟩
 | tree e hs=>obtain ⟨h1,h2⟩:=List.cons.inj h; cases h1; exact .inr rfl
 | _=>simp [toTree] at h
noncomputable def Tm.mkr (x:Tm) (k:Int):Tm × Int:=((Tm.mk (x.name) ((Tm.mkS x.args k).1)),(Tm.mkS x.args k).2)
def HM:SC:=(.seq (.reg [⟨some 2,none,.boxv 31 2 (.t 0)⟩,⟨some 4,none,.mv (.c (.int .i64 0))⟩]) (.seq (.reg [⟨some 5,none,.faddr 1 (.t 2)⟩,⟨some 6,none,.load false 1 (.t 5)⟩,⟨some 7,none,.mv (.t 1)⟩,⟨some 8,none,.call 35 [(.t 6),(.t 7)]⟩,⟨some 1,none,.mv (.t 8)⟩]) (.seq (.reg [⟨some 9,none,.mv (.t 1)⟩,⟨some 4,none,.mv (.t 9)⟩]) .ret)))
theorem MD:Ap Tryz.prog 31=some ⟨10,HM,[(.tmp 4)]⟩:=by kernel_rfl
theorem HN:modes 31=⟨[true],.asis,none,false⟩:=by unfold modes; rfl
theorem Uu (x:Tm) (k:Int) (o0:Ob) (h1:1≤k) (h2:k+(Tm.wtS x.args:Nat)≤1099511627776) (t0:toTree [o0]=[.tree (x.args.map Tm.o) []]):E 31 [.agg [.str x.name,.ref 0],.int .i64 k] [o0]=some (.int .i64 (x.mkr k).2,[.tree ((Tm.mkS x.args k).1.map Tm.o) []]):=by
 have e0:=Tm.mkS_end x.args k
 rw [Tm.mkr]
 dsimp only
 have c0:=I7 x.args k [o0] (by omega) (by omega) t0
 rcases Rk t0 with ⟨a0,b0,rfl⟩ | rfl <;>
  (
  refine Ai MD HN (of_decide_eq_true rfl) ?_
  simp (disch:=omega) only [HM,go_sem,Ab,c0,Cy])
def HO:SC:=(.seq (.reg [⟨some 2,none,.boxv 31 2 (.t 0)⟩,⟨some 4,none,.mv (.c (.int .i64 0))⟩]) (.seq (.reg [⟨some 5,none,.faddr 1 (.t 2)⟩,⟨some 6,none,.load false 1 (.t 5)⟩,⟨some 7,none,.mv (.t 1)⟩,⟨some 8,none,.call 39 [(.t 6),(.t 7)]⟩,⟨some 1,none,.mv (.t 8)⟩]) (.seq (.seq (.reg [⟨some 9,none,.mv (.t 1)⟩,⟨some 10,none,.bin .lss false (.t 9) (.c (.int .i64 0))⟩]) (.cond (.t 10) (.seq (.reg [⟨some 4,none,.mv (.c (.int .i64 (-(0+1))))⟩]) .ret) .skip)) (.seq (.reg [⟨some 11,none,.mv (.t 1)⟩,⟨some 4,none,.mv (.t 11)⟩]) .ret))))
theorem ME:Ap Tryz.prog 36=some ⟨12,HO,[(.tmp 4)]⟩:=by kernel_rfl
theorem HP:modes 36=⟨[],.asis,none,false⟩:=by unfold modes; rfl
theorem Uv (x:Tm) (k:Int) (h1:1≤k) (h2:k+(Tm.wtS x.args:Nat)≤1099511627776):E 36 [.agg [.str x.name,.arr ((Tm.mkS x.args k).1.map Tm.d)],.int .i64 k] []=some (.int .i64 (x.mkr k).2,[]):=by
 have e0:=Tm.mkS_end x.args k
 rw [Tm.mkr]
 dsimp only
 have p0:(Tm.mk (x.name) ((Tm.mkS x.args k).1)).name=x.name:=rfl
 have p1:(Tm.mk (x.name) ((Tm.mkS x.args k).1)).args=(Tm.mkS x.args k).1:=rfl
 have c0:=IB x.args k (by omega) (by omega)
 refine Ai ME HP (of_decide_eq_true rfl) ?_
 simp (disch:=omega) only [HO,go_sem,Ab,c0,Cz,p0,p1]
noncomputable def Fm.mkr (x:Fm) (k:Int):Fm × Int:=((Fm.mk (x.op) (Tm.mk (x.atom.name) ((Tm.mkS x.atom.args k).1)) (x.var) ((Fm.mkS x.parts (Tm.mkS x.atom.args k).2).1)),(Fm.mkS x.parts (Tm.mkS x.atom.args k).2).2)
def F9:SC:=(.seq (.reg [⟨some 2,none,.boxv 34 5 (.t 0)⟩,⟨some 4,none,.mv (.c (.int .i64 0))⟩]) (.seq (.reg [⟨some 5,none,.faddr 1 (.t 2)⟩,⟨some 6,none,.load true 2 (.t 5)⟩,⟨some 7,none,.mv (.t 1)⟩,⟨some 8,none,.call 31 [(.t 6),(.t 7)]⟩,⟨some 1,none,.mv (.t 8)⟩]) (.seq (.reg [⟨some 9,none,.faddr 4 (.t 2)⟩,⟨some 10,none,.load false 1 (.t 9)⟩,⟨some 11,none,.mv (.t 1)⟩,⟨some 12,none,.call 32 [(.t 10),(.t 11)]⟩,⟨some 1,none,.mv (.t 12)⟩]) (.seq (.reg [⟨some 13,none,.mv (.t 1)⟩,⟨some 4,none,.mv (.t 13)⟩]) .ret))))
theorem Kk:Ap Tryz.prog 10=some ⟨14,F9,[(.tmp 4)]⟩:=by kernel_rfl
theorem Cb:modes 10=⟨[true],.asis,none,false⟩:=by unfold modes; rfl
theorem JA (x:Fm) (k:Int) (o0 o1:Ob) (h1:1≤k) (h2:k+(Tm.wtS x.atom.args+Fm.wtS x.parts:Nat)≤1099511627776) (t0:toTree [o0]=[.tree (x.atom.args.map Tm.o) []]) (t1:toTree [o1]=[.tree (x.parts.map Fm.o) []]):E 10 [.agg [.int .i64 x.op,.str x.atom.name,.ref 0,.str x.var,.ref 1],.int .i64 k] [o0,o1]=some (.int .i64 (x.mkr k).2,[.tree ((Tm.mkS x.atom.args k).1.map Tm.o) [],.tree ((Fm.mkS x.parts (Tm.mkS x.atom.args k).2).1.map Fm.o) []]):=by
 have e0:=Tm.mkS_end x.atom.args k
 have e1:=Fm.mkS_end x.parts (Tm.mkS x.atom.args k).2
 rw [Fm.mkr]
 dsimp only
 have c0:=Uu x.atom k o0 (by omega) (by omega) t0
 rw [Tm.mkr] at c0
 dsimp only at c0
 have c1:=I8 x.parts (Tm.mkS x.atom.args k).2 [o1] (by omega) (by omega) t1
 rcases Rk t0 with ⟨a0,b0,rfl⟩ | rfl <;>
 rcases Rk t1 with ⟨a1,b1,rfl⟩ | rfl <;>
  (
  refine Ai Kk Cb (of_decide_eq_true rfl) ?_
  simp (disch:=omega) only [F9,go_sem,Ab,c0,HN,c1,Ct])
def FA:SC:=(.seq (.reg [⟨some 2,none,.boxv 34 5 (.t 0)⟩,⟨some 4,none,.mv (.c (.int .i64 0))⟩]) (.seq (.reg [⟨some 5,none,.faddr 1 (.t 2)⟩,⟨some 6,none,.load true 2 (.t 5)⟩,⟨some 7,none,.mv (.t 1)⟩,⟨some 8,none,.call 36 [(.t 6),(.t 7)]⟩,⟨some 1,none,.mv (.t 8)⟩]) (.seq (.seq (.reg [⟨some 9,none,.mv (.t 1)⟩,⟨some 10,none,.bin .lss false (.t 9) (.c (.int .i64 0))⟩]) (.cond (.t 10) (.seq (.reg [⟨some 4,none,.mv (.c (.int .i64 (-(0+1))))⟩]) .ret) .skip)) (.seq (.reg [⟨some 11,none,.faddr 4 (.t 2)⟩,⟨some 12,none,.load false 1 (.t 11)⟩,⟨some 13,none,.mv (.t 1)⟩,⟨some 14,none,.call 37 [(.t 12),(.t 13)]⟩,⟨some 1,none,.mv (.t 14)⟩]) (.seq (.seq (.reg [⟨some 15,none,.mv (.t 1)⟩,⟨some 16,none,.bin .lss false (.t 15) (.c (.int .i64 0))⟩]) (.cond (.t 16) (.seq (.reg [⟨some 4,none,.mv (.c (.int .i64 (-(0+1))))⟩]) .ret) .skip)) (.seq (.reg [⟨some 17,none,.mv (.t 1)⟩,⟨some 4,none,.mv (.t 17)⟩]) .ret))))))
theorem Kl:Ap Tryz.prog 12=some ⟨18,FA,[(.tmp 4)]⟩:=by kernel_rfl
theorem Cc:modes 12=⟨[],.asis,none,false⟩:=by unfold modes; rfl
theorem Pg (x:Fm) (k:Int) (h1:1≤k) (h2:k+(Tm.wtS x.atom.args+Fm.wtS x.parts:Nat)≤1099511627776):E 12 [.agg [.int .i64 x.op,.str x.atom.name,.arr ((Tm.mkS x.atom.args k).1.map Tm.d),.str x.var,.arr ((Fm.mkS x.parts (Tm.mkS x.atom.args k).2).1.map Fm.d)],.int .i64 k] []=some (.int .i64 (x.mkr k).2,[]):=by
 have e0:=Tm.mkS_end x.atom.args k
 have e1:=Fm.mkS_end x.parts (Tm.mkS x.atom.args k).2
 rw [Fm.mkr]
 dsimp only
 have p0:(Fm.mk (x.op) (Tm.mk (x.atom.name) ((Tm.mkS x.atom.args k).1)) (x.var) ((Fm.mkS x.parts (Tm.mkS x.atom.args k).2).1)).op=x.op:=rfl
 have p1:(Fm.mk (x.op) (Tm.mk (x.atom.name) ((Tm.mkS x.atom.args k).1)) (x.var) ((Fm.mkS x.parts (Tm.mkS x.atom.args k).2).1)).atom=(Tm.mk (x.atom.name) ((Tm.mkS x.atom.args k).1)):=rfl
 have p2:(Tm.mk (x.atom.name) ((Tm.mkS x.atom.args k).1)).name=x.atom.name:=rfl
 have p3:(Tm.mk (x.atom.name) ((Tm.mkS x.atom.args k).1)).args=(Tm.mkS x.atom.args k).1:=rfl
 have p4:(Fm.mk (x.op) (Tm.mk (x.atom.name) ((Tm.mkS x.atom.args k).1)) (x.var) ((Fm.mkS x.parts (Tm.mkS x.atom.args k).2).1)).var=x.var:=rfl
 have p5:(Fm.mk (x.op) (Tm.mk (x.atom.name) ((Tm.mkS x.atom.args k).1)) (x.var) ((Fm.mkS x.parts (Tm.mkS x.atom.args k).2).1)).parts=(Fm.mkS x.parts (Tm.mkS x.atom.args k).2).1:=rfl
 have c0:=Uv x.atom k (by omega) (by omega)
 rw [Tm.mkr] at c0
 dsimp only at c0
 have c1:=IC x.parts (Tm.mkS x.atom.args k).2 (by omega) (by omega)
 refine Ai Kl Cc (of_decide_eq_true rfl) ?_
 simp (disch:=omega) only [FA,go_sem,Ab,c0,HP,c1,Cu,p0,p1,p2,p3,p4,p5]
def JB:SC:=(.seq (.reg [⟨some 2,none,.boxv 24 2 (.t 0)⟩,⟨some 4,none,.mv (.c (.int .i64 0))⟩]) (.seq (.reg [⟨some 5,none,.mv (.t 1)⟩,⟨some 6,none,.faddr 0 (.t 2)⟩,⟨some 7,none,.load false 1 (.t 6)⟩,⟨some 8,none,.len true (.t 7)⟩,⟨some 9,none,.bin .sub false (.t 5) (.t 8)⟩,⟨some 1,none,.mv (.t 9)⟩]) (.seq (.seq (.reg [⟨some 10,none,.mv (.t 1)⟩,⟨some 11,none,.bin .lss false (.t 10) (.c (.int .i64 0))⟩]) (.cond (.t 11) (.seq (.reg [⟨some 4,none,.mv (.c (.int .i64 (-(0+1))))⟩]) .ret) .skip)) (.seq (.reg [⟨some 12,none,.faddr 1 (.t 2)⟩,⟨some 13,none,.load false 1 (.t 12)⟩,⟨some 14,none,.mv (.t 1)⟩,⟨some 15,none,.call 40 [(.t 13),(.t 14)]⟩,⟨some 1,none,.mv (.t 15)⟩]) (.seq (.seq (.reg [⟨some 16,none,.mv (.t 1)⟩,⟨some 17,none,.bin .lss false (.t 16) (.c (.int .i64 0))⟩]) (.cond (.t 17) (.seq (.reg [⟨some 4,none,.mv (.c (.int .i64 (-(0+1))))⟩]) .ret) .skip)) (.seq (.reg [⟨some 18,none,.mv (.t 1)⟩,⟨some 4,none,.mv (.t 18)⟩]) .ret))))))
theorem Ph:Ap Tryz.prog 14=some ⟨19,JB,[(.tmp 4)]⟩:=by kernel_rfl
theorem E2:modes 14=⟨[],.asis,none,false⟩:=by unfold modes; rfl
def IE:SC:=(.seq (.reg [⟨some 4,none,.mv (.c (.int .i64 0))⟩]) (.seq (.reg [⟨some 6,none,.mv (.t 1)⟩,⟨some 7,none,.mv (.t 0)⟩,⟨some 8,none,.len false (.t 7)⟩,⟨some 9,none,.bin .sub false (.t 6) (.t 8)⟩,⟨some 1,none,.mv (.t 9)⟩]) (.seq (.seq (.reg [⟨some 10,none,.mv (.t 1)⟩,⟨some 11,none,.bin .lss false (.t 10) (.c (.int .i64 0))⟩]) (.cond (.t 11) (.seq (.reg [⟨some 4,none,.mv (.c (.int .i64 (-(0+1))))⟩]) .ret) .skip)) (.seq (.seq (.reg [⟨some 5,none,.mv (.c (.int .i64 0))⟩]) (.block 0 (.loop [1,1,0,0,0,1,0,0,0,0,0,0,0,0,0,0,0,0,0,0,0,0,0,0,0,0,0] (.seq (.seq (.reg [⟨some 12,none,.mv (.t 5)⟩,⟨some 13,none,.mv (.t 0)⟩,⟨some 14,none,.len false (.t 13)⟩,⟨some 15,none,.bin .lss false (.t 12) (.t 14)⟩]) (.cond (.t 15) .skip (.exit 0))) (.seq (.block 1 (.seq (.reg [⟨some 18,none,.mv (.t 0)⟩,⟨some 19,none,.mv (.t 5)⟩,⟨some 20,none,.iaddr 2 (.t 18) (.t 19)⟩,⟨some 21,none,.load true 2 (.t 20)⟩,⟨some 22,none,.mv (.t 1)⟩,⟨some 23,none,.call 14 [(.t 21),(.t 22)]⟩,⟨some 1,none,.mv (.t 23)⟩]) (.seq (.reg [⟨some 24,none,.mv (.t 1)⟩,⟨some 25,none,.bin .lss false (.t 24) (.c (.int .i64 0))⟩]) (.cond (.t 25) (.seq (.reg [⟨some 4,none,.mv (.c (.int .i64 (-(0+1))))⟩]) .ret) .skip)))) (.reg [⟨some 16,none,.mv (.t 5)⟩,⟨some 17,none,.bin .add false (.t 16) (.c (.int .i64 1))⟩,⟨some 5,none,.mv (.t 17)⟩])))))) (.seq (.reg [⟨some 26,none,.mv (.t 1)⟩,⟨some 4,none,.mv (.t 26)⟩]) .ret)))))
theorem Ow:Ap Tryz.prog 40=some ⟨27,IE,[(.tmp 4)]⟩:=by kernel_rfl
theorem FB:modes 40=⟨[],.asis,none,false⟩:=by unfold modes; rfl
abbrev KM (x:Tm):Prop:=D.fits x.d→∀ left:Int,0≤left→left≤1048576→E 14 [x.sv,.int .i64 left] []=some (.int .i64 (szR left x.bulk),[])
abbrev Qe (xs:List Tm):Prop:=D.fit (.arr (xs.map Tm.d))→∀ left:Int,0≤left→left≤1048576→E 40 [.arr (xs.map Tm.d),.int .i64 left] []=some (.int .i64 (szR left (xs.length+Tm.sumB xs:Nat)),[])
theorem Rl (xs:List Tm) (h:∀ x∈xs,KM x):Qe xs:=by
 intro hfit left h0 h1
 simp only [D.fit,zU] at hfit
 have q0:=B8 left (xs.length+Tm.sumB xs)
 refine Ai Ow FB (of_decide_eq_true rfl) ?_
 simp (disch:=omega) only [IE,go_sem,Ab]
 repeat' (refine CX (fun hq=>?_) (fun hq=>?_) <;> (first | replace hq:=Ar.1 hq | replace hq:=CN.1 hq) <;> (try simp (disch:=omega) only [go_sem,Ab]))
 ·omega
 refine go_loop (α:=Int × Int) (fun a=>⟨slots 27 0 [(0,.arr (xs.map Tm.d)),(1,.int .i64 a.2),(5,.int .i64 a.1)],[]⟩) (fun a=>∃ k:Nat,a.1=k∧k≤xs.length∧0≤a.2∧a.2≤1048576∧szR a.2 (Tm.sumB (xs.drop k))=szR left (xs.length+Tm.sumB xs:Nat)) (fun a=>xs.length-a.1.toNat) (0,left-xs.length) ⟨0,rfl,zH _,by omega,by omega,?_⟩ (by simp (disch:=omega) only [go_sem,Ab]) ?_
 ·have q1:=B8 (left-xs.length) (Tm.sumB xs)
  rw [zE]
  dsimp only
  omega
 ·rintro ⟨i,l⟩ ⟨k,hi,hk,hl0,hl1,hs⟩
  dsimp only at hi hl0 hl1 hs
  rcases zB k xs.length with hlt | hge
  ·have hg:=get_at Tm.d hlt
   rw [Tm.d_eq] at hg
   have hd:Tm.sumB (xs.drop k)=xs[k].bulk+Tm.sumB (xs.drop (k+1)):=by rw [zA hlt,Tm.sumB]
   rw [hd] at hs
   have hc:=h xs[k] (zF hlt) (D.LB hfit.2 _ (zF hlt)) l hl0 hl1
   have q1:=B8 l xs[k].bulk
   have q2:=B8 l (xs[k].bulk+Tm.sumB (xs.drop (k+1)))
   have q3:=B8 (l-xs[k].bulk) (Tm.sumB (xs.drop (k+1)))
   have hn:i.toNat=k:=by omega
   simp (disch:=omega) only [go_sem,Ab,hn,hg,hc,E2]
   repeat' (refine CX (fun hq=>?_) (fun hq=>?_) <;> (first | replace hq:=Ar.1 hq | replace hq:=CN.1 hq) <;> (try simp (disch:=omega) only [go_sem,Ab]))
   ·omega
   ·refine ⟨(i+1,l-xs[k].bulk),⟨k+1,by dsimp only; omega,hlt,by dsimp only; omega,by dsimp only; omega,by dsimp only; omega⟩,by dsimp only; omega,?_⟩
    have e:szR l xs[k].bulk=l-xs[k].bulk:=by omega
    simp only [e,and_self]
  ·have hd:xs.drop k=[]:=zD hge
   rw [hd] at hs
   have q1:=B8 l (Tm.sumB [])
   simp only [Tm.sumB] at hs q1
   simp (disch:=omega) only [go_sem,Ab]
   omega
theorem S8 (x:Tm) (h_args:Qe x.args):KM x:=by
 intro hfit left h0 h1
 rw [Tm.d_eq] at hfit
 simp only [D.fits,D.fit] at hfit
 replace h_args:=h_args (by simp only [D.fit,zU]; simp only [zU] at hfit; simp only [hfit,and_self])
 have q:=B8 left x.bulk
 have qb:=Tm.bulk_eq x
 have q0:=B8 (left-(x.name.size:Int)) ((x.args.length+Tm.sumB x.args))
 refine Ai Ph E2 (of_decide_eq_true rfl) ?_
 simp (disch:=omega) only [JB,go_sem,Ab,h_args,FB]
 repeat' (refine CX (fun hq=>?_) (fun hq=>?_) <;> (first | replace hq:=Ar.1 hq | replace hq:=CN.1 hq) <;> (try simp (disch:=omega) only [go_sem,Ab,h_args,FB]))
 all_goals omega
theorem S9 (x:Tm):KM x:=S8 x (Rl x.args fun y hy=>S9 y)
termination_by SizeOf.sizeOf x
decreasing_by exact Tm.lt_of_mem hy
def Hd:SC:=(.seq (.reg [⟨some 2,none,.boxv 27 5 (.t 0)⟩,⟨some 4,none,.mv (.c (.int .i64 0))⟩]) (.seq (.reg [⟨some 5,none,.faddr 1 (.t 2)⟩,⟨some 6,none,.load true 2 (.t 5)⟩,⟨some 7,none,.mv (.t 1)⟩,⟨some 8,none,.call 14 [(.t 6),(.t 7)]⟩,⟨some 1,none,.mv (.t 8)⟩]) (.seq (.seq (.reg [⟨some 9,none,.mv (.t 1)⟩,⟨some 10,none,.bin .lss false (.t 9) (.c (.int .i64 0))⟩]) (.cond (.t 10) (.seq (.reg [⟨some 4,none,.mv (.c (.int .i64 (-(0+1))))⟩]) .ret) .skip)) (.seq (.reg [⟨some 11,none,.mv (.t 1)⟩,⟨some 12,none,.faddr 3 (.t 2)⟩,⟨some 13,none,.load false 1 (.t 12)⟩,⟨some 14,none,.len true (.t 13)⟩,⟨some 15,none,.bin .sub false (.t 11) (.t 14)⟩,⟨some 1,none,.mv (.t 15)⟩]) (.seq (.seq (.reg [⟨some 16,none,.mv (.t 1)⟩,⟨some 17,none,.bin .lss false (.t 16) (.c (.int .i64 0))⟩]) (.cond (.t 17) (.seq (.reg [⟨some 4,none,.mv (.c (.int .i64 (-(0+1))))⟩]) .ret) .skip)) (.seq (.reg [⟨some 18,none,.faddr 4 (.t 2)⟩,⟨some 19,none,.load false 1 (.t 18)⟩,⟨some 20,none,.mv (.t 1)⟩,⟨some 21,none,.call 15 [(.t 19),(.t 20)]⟩,⟨some 1,none,.mv (.t 21)⟩]) (.seq (.seq (.reg [⟨some 22,none,.mv (.t 1)⟩,⟨some 23,none,.bin .lss false (.t 22) (.c (.int .i64 0))⟩]) (.cond (.t 23) (.seq (.reg [⟨some 4,none,.mv (.c (.int .i64 (-(0+1))))⟩]) .ret) .skip)) (.seq (.reg [⟨some 24,none,.mv (.t 1)⟩,⟨some 4,none,.mv (.t 24)⟩]) .ret))))))))
theorem LQ:Ap Tryz.prog 4=some ⟨25,Hd,[(.tmp 4)]⟩:=by kernel_rfl
theorem BA:modes 4=⟨[],.asis,none,false⟩:=by unfold modes; rfl
def Gg:SC:=(.seq (.reg [⟨some 4,none,.mv (.c (.int .i64 0))⟩]) (.seq (.reg [⟨some 6,none,.mv (.t 1)⟩,⟨some 7,none,.mv (.t 0)⟩,⟨some 8,none,.len false (.t 7)⟩,⟨some 9,none,.bin .sub false (.t 6) (.t 8)⟩,⟨some 1,none,.mv (.t 9)⟩]) (.seq (.seq (.reg [⟨some 10,none,.mv (.t 1)⟩,⟨some 11,none,.bin .lss false (.t 10) (.c (.int .i64 0))⟩]) (.cond (.t 11) (.seq (.reg [⟨some 4,none,.mv (.c (.int .i64 (-(0+1))))⟩]) .ret) .skip)) (.seq (.seq (.reg [⟨some 5,none,.mv (.c (.int .i64 0))⟩]) (.block 0 (.loop [1,1,0,0,0,1,0,0,0,0,0,0,0,0,0,0,0,0,0,0,0,0,0,0,0,0,0] (.seq (.seq (.reg [⟨some 12,none,.mv (.t 5)⟩,⟨some 13,none,.mv (.t 0)⟩,⟨some 14,none,.len false (.t 13)⟩,⟨some 15,none,.bin .lss false (.t 12) (.t 14)⟩]) (.cond (.t 15) .skip (.exit 0))) (.seq (.block 1 (.seq (.reg [⟨some 18,none,.mv (.t 0)⟩,⟨some 19,none,.mv (.t 5)⟩,⟨some 20,none,.iaddr 5 (.t 18) (.t 19)⟩,⟨some 21,none,.load true 5 (.t 20)⟩,⟨some 22,none,.mv (.t 1)⟩,⟨some 23,none,.call 4 [(.t 21),(.t 22)]⟩,⟨some 1,none,.mv (.t 23)⟩]) (.seq (.reg [⟨some 24,none,.mv (.t 1)⟩,⟨some 25,none,.bin .lss false (.t 24) (.c (.int .i64 0))⟩]) (.cond (.t 25) (.seq (.reg [⟨some 4,none,.mv (.c (.int .i64 (-(0+1))))⟩]) .ret) .skip)))) (.reg [⟨some 16,none,.mv (.t 5)⟩,⟨some 17,none,.bin .add false (.t 16) (.c (.int .i64 1))⟩,⟨some 5,none,.mv (.t 17)⟩])))))) (.seq (.reg [⟨some 26,none,.mv (.t 1)⟩,⟨some 4,none,.mv (.t 26)⟩]) .ret)))))
theorem KN:Ap Tryz.prog 15=some ⟨27,Gg,[(.tmp 4)]⟩:=by kernel_rfl
theorem DV:modes 15=⟨[],.asis,none,false⟩:=by unfold modes; rfl
abbrev IF (x:Fm):Prop:=D.fits x.d→∀ left:Int,0≤left→left≤1048576→E 4 [x.sv,.int .i64 left] []=some (.int .i64 (szR left x.bulk),[])
abbrev KO (xs:List Fm):Prop:=D.fit (.arr (xs.map Fm.d))→∀ left:Int,0≤left→left≤1048576→E 15 [.arr (xs.map Fm.d),.int .i64 left] []=some (.int .i64 (szR left (xs.length+Fm.sumB xs:Nat)),[])
theorem MG (xs:List Fm) (h:∀ x∈xs,IF x):KO xs:=by
 intro hfit left h0 h1
 simp only [D.fit,zU] at hfit
 have q0:=B8 left (xs.length+Fm.sumB xs)
 refine Ai KN DV (of_decide_eq_true rfl) ?_
 simp (disch:=omega) only [Gg,go_sem,Ab]
 repeat' (refine CX (fun hq=>?_) (fun hq=>?_) <;> (first | replace hq:=Ar.1 hq | replace hq:=CN.1 hq) <;> (try simp (disch:=omega) only [go_sem,Ab]))
 ·omega
 refine go_loop (α:=Int × Int) (fun a=>⟨slots 27 0 [(0,.arr (xs.map Fm.d)),(1,.int .i64 a.2),(5,.int .i64 a.1)],[]⟩) (fun a=>∃ k:Nat,a.1=k∧k≤xs.length∧0≤a.2∧a.2≤1048576∧szR a.2 (Fm.sumB (xs.drop k))=szR left (xs.length+Fm.sumB xs:Nat)) (fun a=>xs.length-a.1.toNat) (0,left-xs.length) ⟨0,rfl,zH _,by omega,by omega,?_⟩ (by simp (disch:=omega) only [go_sem,Ab]) ?_
 ·have q1:=B8 (left-xs.length) (Fm.sumB xs)
  rw [zE]
  dsimp only
  omega
 ·rintro ⟨i,l⟩ ⟨k,hi,hk,hl0,hl1,hs⟩
  dsimp only at hi hl0 hl1 hs
  rcases zB k xs.length with hlt | hge
  ·have hg:=get_at Fm.d hlt
   rw [Fm.d_eq] at hg
   have hd:Fm.sumB (xs.drop k)=xs[k].bulk+Fm.sumB (xs.drop (k+1)):=by rw [zA hlt,Fm.sumB]
   rw [hd] at hs
   have hc:=h xs[k] (zF hlt) (D.LB hfit.2 _ (zF hlt)) l hl0 hl1
   have q1:=B8 l xs[k].bulk
   have q2:=B8 l (xs[k].bulk+Fm.sumB (xs.drop (k+1)))
   have q3:=B8 (l-xs[k].bulk) (Fm.sumB (xs.drop (k+1)))
   have hn:i.toNat=k:=by omega
   simp (disch:=omega) only [go_sem,Ab,hn,hg,hc,BA]
   repeat' (refine CX (fun hq=>?_) (fun hq=>?_) <;> (first | replace hq:=Ar.1 hq | replace hq:=CN.1 hq) <;> (try simp (disch:=omega) only [go_sem,Ab]))
   ·omega
   ·refine ⟨(i+1,l-xs[k].bulk),⟨k+1,by dsimp only; omega,hlt,by dsimp only; omega,by dsimp only; omega,by dsimp only; omega⟩,by dsimp only; omega,?_⟩
    have e:szR l xs[k].bulk=l-xs[k].bulk:=by omega
    simp only [e,and_self]
  ·have hd:xs.drop k=[]:=zD hge
   rw [hd] at hs
   have q1:=B8 l (Fm.sumB [])
   simp only [Fm.sumB] at hs q1
   simp (disch:=omega) only [go_sem,Ab]
   omega
theorem Ox (x:Fm) (h_atom:KM x.atom) (h_parts:KO x.parts):IF x:=by
 intro hfit left h0 h1
 rw [Fm.d_eq] at hfit
 simp only [D.fits,D.fit] at hfit
 replace h_atom:=h_atom (by rw [Tm.d_eq]; simp only [D.fits,D.fit,hfit,and_self])
 replace h_parts:=h_parts (by simp only [D.fit,zU]; simp only [zU] at hfit; simp only [hfit,and_self])
 have q:=B8 left x.bulk
 have qb:=Fm.bulk_eq x
 have q0:=B8 left (x.atom.bulk)
 have q41:=B8 ((szR left (x.atom.bulk:Nat))-(x.var.size:Int)) ((x.parts.length+Fm.sumB x.parts))
 refine Ai LQ BA (of_decide_eq_true rfl) ?_
 simp (disch:=omega) only [Hd,go_sem,Ab,h_atom,E2,h_parts,DV]
 repeat' (refine CX (fun hq=>?_) (fun hq=>?_) <;> (first | replace hq:=Ar.1 hq | replace hq:=CN.1 hq) <;> (try simp (disch:=omega) only [go_sem,Ab,h_atom,E2,h_parts,DV]))
 all_goals omega
theorem M2 (x:Fm):IF x:=Ox x (S9 x.atom) (MG x.parts fun y hy=>M2 y)
termination_by SizeOf.sizeOf x
decreasing_by exact Fm.lt_of_mem hy
def JC:SC:=(.seq (.reg [⟨some 1,none,.boxv 24 2 (.t 0)⟩,⟨(some 2),none,(.alloc 31 [(.str ⟨#[]⟩),.nil])⟩]) (.seq (.reg [⟨(some 3),none,(.alloc 31 [(.str ⟨#[]⟩),.nil])⟩]) (.seq (.reg [⟨some 4,none,.faddr 0 (.t 1)⟩,⟨some 5,none,.load false 1 (.t 4)⟩,⟨some 6,none,.faddr 0 (.t 3)⟩,⟨none,none,(.store 1 (.t 6) (.t 5))⟩]) (.seq (.reg [⟨some 7,none,.faddr 1 (.t 1)⟩,⟨some 8,none,.load false 1 (.t 7)⟩,⟨some 9,none,.call 47 [(.t 8)]⟩,⟨some 10,none,.faddr 1 (.t 3)⟩,⟨none,none,(.store 1 (.t 10) (.t 9))⟩]) (.seq (.reg [⟨some 11,none,.load true 2 (.t 3)⟩,⟨none,none,(.store 2 (.t 2) (.t 11))⟩]) .ret)))))
theorem Pi:Ap Tryz.prog 21=some ⟨12,JC,[(.cell 2 true 2)]⟩:=by kernel_rfl
theorem G7:modes 21=⟨[],.asis,none,false⟩:=by unfold modes; rfl
def IG:SC:=(.seq (.reg [⟨some 2,none,.mv (.c .nil)⟩]) (.seq (.reg [⟨some 5,none,.mv (.t 0)⟩,⟨some 6,none,.len false (.t 5)⟩,⟨(some 7),none,(.mkslice 31 2 40 [(.str ⟨#[]⟩),.nil] (.t 6))⟩,⟨some 3,none,.mv (.t 7)⟩]) (.seq (.seq (.reg [⟨some 4,none,.mv (.c (.int .i64 0))⟩]) (.block 0 (.loop [1,0,0,1,1,0,0,0,0,0,0,0,0,0,0,0,0,0,0,0,0,0,0] (.seq (.seq (.reg [⟨some 8,none,.mv (.t 4)⟩,⟨some 9,none,.mv (.t 0)⟩,⟨some 10,none,.len false (.t 9)⟩,⟨some 11,none,.bin .lss false (.t 8) (.t 10)⟩]) (.cond (.t 11) .skip (.exit 0))) (.seq (.block 1 (.reg [⟨some 14,none,.mv (.t 3)⟩,⟨some 15,none,.mv (.t 4)⟩,⟨some 16,none,.mv (.t 0)⟩,⟨some 17,none,.mv (.t 4)⟩,⟨some 18,none,.iaddr 2 (.t 16) (.t 17)⟩,⟨some 19,none,.load true 2 (.t 18)⟩,⟨some 20,none,.call 21 [(.t 19)]⟩,⟨some 21,none,.iaddr 2 (.t 14) (.t 15)⟩,⟨none,none,(.store 2 (.t 21) (.t 20))⟩])) (.reg [⟨some 12,none,.mv (.t 4)⟩,⟨some 13,none,.bin .add false (.t 12) (.c (.int .i64 1))⟩,⟨some 4,none,.mv (.t 13)⟩])))))) (.seq (.reg [⟨some 22,none,.mv (.t 3)⟩,⟨some 2,none,.mv (.t 22)⟩]) .ret))))
theorem Oy:Ap Tryz.prog 47=some ⟨23,IG,[(.tmp 2)]⟩:=by kernel_rfl
theorem IH:modes 47=⟨[],.asis,none,false⟩:=by unfold modes; rfl
abbrev KP (x:Tm):Prop:=x.bulk≤1048576→E 21 [x.sv] []=some (x.osv,x.obs)
abbrev Qf (xs:List Tm):Prop:=xs.length+Tm.sumB xs≤1048576→E 47 [.arr (xs.map Tm.d)] []=some (.ref 0,[.row 31 2 (xs.map Tm.o)])
theorem Rm (xs:List Tm) (h:∀ x∈xs,KP x):Qf xs:=by
 intro hb
 refine Ai Oy IH (of_decide_eq_true rfl) ?_
 simp (disch:=omega) only [IG,go_sem,Ab]
 refine go_loop (α:=Int) (fun i=>⟨slots 23 0 [(0,.arr (xs.map Tm.d)),(3,.ref 0),(4,.int .i64 i)],[.row 31 2 (FU Tm.o [.str ⟨#[]⟩,.ow []] xs i.toNat)]⟩) (fun i=>∃ k:Nat,i=k∧k≤xs.length) (fun i=>xs.length-i.toNat) 0 ⟨0,rfl,zH _⟩ (by simp (disch:=omega) only [go_sem,Ab,Kd,yU]) ?_
 ·rintro i ⟨k,rfl,hk⟩
  obtain ⟨i,hi⟩:∃ i:Int,i=(k:Int):=⟨_,rfl⟩
  rw [←hi]
  have hn:i.toNat=k:=by omega
  have hn1:(i+1).toNat=k+1:=by omega
  rcases zB k xs.length with hlt | hge
  ·have hg:=get_at Tm.d hlt
   rw [Tm.d_eq] at hg
   have hz:=LF Tm.o [.str ⟨#[]⟩,.ow []] hlt
   have hle:=Tm.bulk_le xs k hlt
   have hc:=h xs[k] (zF hlt) (by omega)
   have hs:=LG Tm.o [.str ⟨#[]⟩,.ow []] hlt
   rw [Tm.o_eq] at hs
   simp (disch:=omega) only [go_sem,Ab,hn,hg,hc,hz,LC,G7,Tm.osv,Tm.obs]
   refine ⟨i+1,⟨k+1,by omega,hlt⟩,by omega,?_⟩
   simp (disch:=omega) only [go_sem,Ab,hn1,hs]
  ·obtain rfl:k=xs.length:=by omega
   simp (disch:=omega) only [go_sem,Ab,hn,LE]
theorem SA (x:Tm) (h_args:Qf x.args):KP x:=by
 intro hb
 have qb:=Tm.bulk_eq x
 replace h_args:=h_args (by omega)
 refine Ai Pi G7 (of_decide_eq_true rfl) ?_
 simp (disch:=omega) only [JC,go_sem,Ab,h_args,IH]
theorem SB (x:Tm):KP x:=SA x (Rm x.args fun y hy=>SB y)
termination_by SizeOf.sizeOf x
decreasing_by exact Tm.lt_of_mem hy
def He:SC:=(.seq (.reg [⟨some 1,none,.boxv 27 5 (.t 0)⟩,⟨(some 2),none,(.alloc 34 [(.int .i64 0),(.str ⟨#[]⟩),.nil,(.str ⟨#[]⟩),.nil])⟩]) (.seq (.reg [⟨(some 3),none,(.alloc 34 [(.int .i64 0),(.str ⟨#[]⟩),.nil,(.str ⟨#[]⟩),.nil])⟩]) (.seq (.reg [⟨some 4,none,.faddr 0 (.t 1)⟩,⟨some 5,none,.load false 1 (.t 4)⟩,⟨some 6,none,.faddr 0 (.t 3)⟩,⟨none,none,(.store 1 (.t 6) (.t 5))⟩]) (.seq (.reg [⟨some 7,none,.faddr 1 (.t 1)⟩,⟨some 8,none,.load true 2 (.t 7)⟩,⟨some 9,none,.call 21 [(.t 8)]⟩,⟨some 10,none,.faddr 1 (.t 3)⟩,⟨none,none,(.store 2 (.t 10) (.t 9))⟩]) (.seq (.reg [⟨some 11,none,.faddr 3 (.t 1)⟩,⟨some 12,none,.load false 1 (.t 11)⟩,⟨some 13,none,.faddr 3 (.t 3)⟩,⟨none,none,(.store 1 (.t 13) (.t 12))⟩]) (.seq (.reg [⟨some 14,none,.faddr 4 (.t 1)⟩,⟨some 15,none,.load false 1 (.t 14)⟩,⟨some 16,none,.call 22 [(.t 15)]⟩,⟨some 17,none,.faddr 4 (.t 3)⟩,⟨none,none,(.store 1 (.t 17) (.t 16))⟩]) (.seq (.reg [⟨some 18,none,.load true 5 (.t 3)⟩,⟨none,none,(.store 5 (.t 2) (.t 18))⟩]) .ret)))))))
theorem LR:Ap Tryz.prog 6=some ⟨19,He,[(.cell 2 true 5)]⟩:=by kernel_rfl
theorem BY:modes 6=⟨[],.asis,none,false⟩:=by unfold modes; rfl
def Gh:SC:=(.seq (.reg [⟨some 2,none,.mv (.c .nil)⟩]) (.seq (.reg [⟨some 5,none,.mv (.t 0)⟩,⟨some 6,none,.len false (.t 5)⟩,⟨(some 7),none,(.mkslice 34 5 88 [(.int .i64 0),(.str ⟨#[]⟩),.nil,(.str ⟨#[]⟩),.nil] (.t 6))⟩,⟨some 3,none,.mv (.t 7)⟩]) (.seq (.seq (.reg [⟨some 4,none,.mv (.c (.int .i64 0))⟩]) (.block 0 (.loop [1,0,0,1,1,0,0,0,0,0,0,0,0,0,0,0,0,0,0,0,0,0,0] (.seq (.seq (.reg [⟨some 8,none,.mv (.t 4)⟩,⟨some 9,none,.mv (.t 0)⟩,⟨some 10,none,.len false (.t 9)⟩,⟨some 11,none,.bin .lss false (.t 8) (.t 10)⟩]) (.cond (.t 11) .skip (.exit 0))) (.seq (.block 1 (.reg [⟨some 14,none,.mv (.t 3)⟩,⟨some 15,none,.mv (.t 4)⟩,⟨some 16,none,.mv (.t 0)⟩,⟨some 17,none,.mv (.t 4)⟩,⟨some 18,none,.iaddr 5 (.t 16) (.t 17)⟩,⟨some 19,none,.load true 5 (.t 18)⟩,⟨some 20,none,.call 6 [(.t 19)]⟩,⟨some 21,none,.iaddr 5 (.t 14) (.t 15)⟩,⟨none,none,(.store 5 (.t 21) (.t 20))⟩])) (.reg [⟨some 12,none,.mv (.t 4)⟩,⟨some 13,none,.bin .add false (.t 12) (.c (.int .i64 1))⟩,⟨some 4,none,.mv (.t 13)⟩])))))) (.seq (.reg [⟨some 22,none,.mv (.t 3)⟩,⟨some 2,none,.mv (.t 22)⟩]) .ret))))
theorem KQ:Ap Tryz.prog 22=some ⟨23,Gh,[(.tmp 2)]⟩:=by kernel_rfl
theorem Gi:modes 22=⟨[],.asis,none,false⟩:=by unfold modes; rfl
abbrev II (x:Fm):Prop:=x.bulk≤1048576→E 6 [x.sv] []=some (x.osv,x.obs)
abbrev KR (xs:List Fm):Prop:=xs.length+Fm.sumB xs≤1048576→E 22 [.arr (xs.map Fm.d)] []=some (.ref 0,[.row 34 5 (xs.map Fm.o)])
theorem MH (xs:List Fm) (h:∀ x∈xs,II x):KR xs:=by
 intro hb
 refine Ai KQ Gi (of_decide_eq_true rfl) ?_
 simp (disch:=omega) only [Gh,go_sem,Ab]
 refine go_loop (α:=Int) (fun i=>⟨slots 23 0 [(0,.arr (xs.map Fm.d)),(3,.ref 0),(4,.int .i64 i)],[.row 34 5 (FU Fm.o [.int 0,.str ⟨#[]⟩,.ow [],.str ⟨#[]⟩,.ow []] xs i.toNat)]⟩) (fun i=>∃ k:Nat,i=k∧k≤xs.length) (fun i=>xs.length-i.toNat) 0 ⟨0,rfl,zH _⟩ (by simp (disch:=omega) only [go_sem,Ab,Kd,yU]) ?_
 ·rintro i ⟨k,rfl,hk⟩
  obtain ⟨i,hi⟩:∃ i:Int,i=(k:Int):=⟨_,rfl⟩
  rw [←hi]
  have hn:i.toNat=k:=by omega
  have hn1:(i+1).toNat=k+1:=by omega
  rcases zB k xs.length with hlt | hge
  ·have hg:=get_at Fm.d hlt
   rw [Fm.d_eq] at hg
   have hz:=LF Fm.o [.int 0,.str ⟨#[]⟩,.ow [],.str ⟨#[]⟩,.ow []] hlt
   have hle:=Fm.bulk_le xs k hlt
   have hc:=h xs[k] (zF hlt) (by omega)
   have hs:=LG Fm.o [.int 0,.str ⟨#[]⟩,.ow [],.str ⟨#[]⟩,.ow []] hlt
   rw [Fm.o_eq] at hs
   simp (disch:=omega) only [go_sem,Ab,hn,hg,hc,hz,LC,BY,Fm.osv,Fm.obs]
   refine ⟨i+1,⟨k+1,by omega,hlt⟩,by omega,?_⟩
   simp (disch:=omega) only [go_sem,Ab,hn1,hs]
  ·obtain rfl:k=xs.length:=by omega
   simp (disch:=omega) only [go_sem,Ab,hn,LE]
theorem Oz (x:Fm) (h_atom:KP x.atom) (h_parts:KR x.parts):II x:=by
 intro hb
 have qb:=Fm.bulk_eq x
 replace h_atom:=h_atom (by omega)
 replace h_parts:=h_parts (by omega)
 refine Ai LR BY (of_decide_eq_true rfl) ?_
 simp (disch:=omega) only [He,go_sem,Ab,h_atom,G7,h_parts,Gi]
theorem M3 (x:Fm):II x:=Oz x (SB x.atom) (MH x.parts fun y hy=>M3 y)
termination_by SizeOf.sizeOf x
decreasing_by exact Fm.lt_of_mem hy
def Hf:SC:=(.seq (.reg [⟨some 4,none,.mv (.c (.bool false))⟩]) (.seq (.seq (.reg [⟨some 6,none,.mv (.t 0)⟩,⟨some 7,none,.len false (.t 6)⟩,⟨some 8,none,.mv (.t 1)⟩,⟨some 9,none,.len false (.t 8)⟩,⟨some 10,none,.bin .neq false (.t 7) (.t 9)⟩]) (.cond (.t 10) (.seq (.reg [⟨some 4,none,.mv (.c (.bool false))⟩]) .ret) .skip)) (.seq (.seq (.reg [⟨some 5,none,.mv (.c (.int .i64 0))⟩]) (.block 0 (.loop [1,1,0,0,0,1,0,0,0,0,0,0,0,0,0,0,0,0,0,0,0,0,0,0,0,0] (.seq (.seq (.reg [⟨some 11,none,.mv (.t 5)⟩,⟨some 12,none,.mv (.t 0)⟩,⟨some 13,none,.len false (.t 12)⟩,⟨some 14,none,.bin .lss false (.t 11) (.t 13)⟩]) (.cond (.t 14) .skip (.exit 0))) (.seq (.block 1 (.seq (.dreg [[],[],[0,1],[2,0,1],[],[],[4,5],[6,4,5],[3,2,0,1,7,6,4,5]] [⟨some 17,none,.mv (.t 0)⟩,⟨some 18,none,.mv (.t 5)⟩,⟨some 19,none,.iaddr 1 (.t 17) (.t 18)⟩,⟨some 20,none,.load false 1 (.t 19)⟩,⟨some 21,none,.mv (.t 1)⟩,⟨some 22,none,.mv (.t 5)⟩,⟨some 23,none,.iaddr 1 (.t 21) (.t 22)⟩,⟨some 24,none,.load false 1 (.t 23)⟩,⟨some 25,none,.bin .neq false (.t 20) (.t 24)⟩]) (.cond (.t 25) (.seq (.reg [⟨some 4,none,.mv (.c (.bool false))⟩]) .ret) .skip))) (.reg [⟨some 15,none,.mv (.t 5)⟩,⟨some 16,none,.bin .add false (.t 15) (.c (.int .i64 1))⟩,⟨some 5,none,.mv (.t 16)⟩])))))) (.seq (.reg [⟨some 4,none,.mv (.c (.bool true))⟩]) .ret))))
theorem LS:Ap Tryz.prog 63=some ⟨26,Hf,[(.tmp 4)]⟩:=by kernel_rfl
theorem Hg:modes 63=⟨[],.asis,none,false⟩:=by unfold modes; rfl
abbrev M4 (xs:List ByteArray):Prop:=xs.length+Rz xs≤1048576→E 63 [.arr (xs.map (fun s=>[D.str s])),.arr (xs.map (fun s=>[D.str s]))] []=some (.bool true,[])
theorem SD (xs:List ByteArray):M4 xs:=by
 intro hb
 refine Ai LS Hg (of_decide_eq_true rfl) ?_
 simp (disch:=omega) only [Hf,go_sem,Ab]
 refine go_loop (α:=Int) (fun i=>⟨slots 26 0 [(0,.arr (xs.map (fun s=>[D.str s]))),(1,.arr (xs.map (fun s=>[D.str s]))),(5,.int .i64 i)],[]⟩) (fun i=>∃ k:Nat,i=k∧k≤xs.length) (fun i=>xs.length-i.toNat) 0 ⟨0,rfl,zH _⟩ (by simp (disch:=omega) only [go_sem,Ab]) ?_
 ·rintro i ⟨k,rfl,hk⟩
  obtain ⟨i,hi⟩:∃ i:Int,i=(k:Int):=⟨_,rfl⟩
  rw [←hi]
  have hn:i.toNat=k:=by omega
  rcases zB k xs.length with hlt | hge
  ·have hg:=get_at (fun s=>[D.str s]) hlt
   simp (disch:=omega) only [go_sem,Ab,hn,hg,Cw]
   refine ⟨i+1,⟨k+1,by omega,hlt⟩,by omega,?_⟩
   trivial
  ·obtain rfl:k=xs.length:=by omega
   simp (disch:=omega) only [go_sem,Ab,hn]
def JD:SC:=(.seq (.reg [⟨some 2,none,.boxv 31 2 (.t 0)⟩,⟨some 3,none,.boxv 31 2 (.t 1)⟩,⟨some 4,none,.mv (.c (.bool false))⟩]) (.seq (.seq (.reg [⟨some 5,none,.faddr 0 (.t 2)⟩,⟨some 6,none,.load false 1 (.t 5)⟩,⟨some 7,none,.faddr 0 (.t 3)⟩,⟨some 8,none,.load false 1 (.t 7)⟩,⟨some 9,none,.bin .neq false (.t 6) (.t 8)⟩]) (.cond (.t 9) (.seq (.reg [⟨some 4,none,.mv (.c (.bool false))⟩]) .ret) .skip)) (.seq (.seq (.reg [⟨some 10,none,.faddr 1 (.t 2)⟩,⟨some 11,none,.load false 1 (.t 10)⟩,⟨some 12,none,.faddr 1 (.t 3)⟩,⟨some 13,none,.load false 1 (.t 12)⟩,⟨some 14,none,.call 62 [(.t 11),(.t 13)]⟩,⟨some 15,none,.un .not (.t 14)⟩]) (.cond (.t 15) (.seq (.reg [⟨some 4,none,.mv (.c (.bool false))⟩]) .ret) .skip)) (.seq (.reg [⟨some 4,none,.mv (.c (.bool true))⟩]) .ret))))
theorem Pj:Ap Tryz.prog 28=some ⟨16,JD,[(.tmp 4)]⟩:=by kernel_rfl
theorem G8:modes 28=⟨[],.asis,none,false⟩:=by unfold modes; rfl
def IJ:SC:=(.seq (.reg [⟨some 4,none,.mv (.c (.bool false))⟩]) (.seq (.seq (.reg [⟨some 6,none,.mv (.t 0)⟩,⟨some 7,none,.len false (.t 6)⟩,⟨some 8,none,.mv (.t 1)⟩,⟨some 9,none,.len false (.t 8)⟩,⟨some 10,none,.bin .neq false (.t 7) (.t 9)⟩]) (.cond (.t 10) (.seq (.reg [⟨some 4,none,.mv (.c (.bool false))⟩]) .ret) .skip)) (.seq (.seq (.reg [⟨some 5,none,.mv (.c (.int .i64 0))⟩]) (.block 0 (.loop [1,1,0,0,0,1,0,0,0,0,0,0,0,0,0,0,0,0,0,0,0,0,0,0,0,0,0] (.seq (.seq (.reg [⟨some 11,none,.mv (.t 5)⟩,⟨some 12,none,.mv (.t 0)⟩,⟨some 13,none,.len false (.t 12)⟩,⟨some 14,none,.bin .lss false (.t 11) (.t 13)⟩]) (.cond (.t 14) .skip (.exit 0))) (.seq (.block 1 (.seq (.dreg [[],[],[0,1],[2,0,1],[],[],[4,5],[6,4,5],[3,2,0,1,7,6,4,5],[8,3,2,0,1,7,6,4,5]] [⟨some 17,none,.mv (.t 0)⟩,⟨some 18,none,.mv (.t 5)⟩,⟨some 19,none,.iaddr 2 (.t 17) (.t 18)⟩,⟨some 20,none,.load true 2 (.t 19)⟩,⟨some 21,none,.mv (.t 1)⟩,⟨some 22,none,.mv (.t 5)⟩,⟨some 23,none,.iaddr 2 (.t 21) (.t 22)⟩,⟨some 24,none,.load true 2 (.t 23)⟩,⟨some 25,none,.call 28 [(.t 20),(.t 24)]⟩,⟨some 26,none,.un .not (.t 25)⟩]) (.cond (.t 26) (.seq (.reg [⟨some 4,none,.mv (.c (.bool false))⟩]) .ret) .skip))) (.reg [⟨some 15,none,.mv (.t 5)⟩,⟨some 16,none,.bin .add false (.t 15) (.c (.int .i64 1))⟩,⟨some 5,none,.mv (.t 16)⟩])))))) (.seq (.reg [⟨some 4,none,.mv (.c (.bool true))⟩]) .ret))))
theorem O0:Ap Tryz.prog 62=some ⟨27,IJ,[(.tmp 4)]⟩:=by kernel_rfl
theorem IK:modes 62=⟨[],.asis,none,false⟩:=by unfold modes; rfl
abbrev KS (x:Tm):Prop:=x.bulk≤1048576→E 28 [x.sv,x.sv] []=some (.bool true,[])
abbrev Qg (xs:List Tm):Prop:=xs.length+Tm.sumB xs≤1048576→E 62 [.arr (xs.map Tm.d),.arr (xs.map Tm.d)] []=some (.bool true,[])
theorem Rn (xs:List Tm) (h:∀ x∈xs,KS x):Qg xs:=by
 intro hb
 refine Ai O0 IK (of_decide_eq_true rfl) ?_
 simp (disch:=omega) only [IJ,go_sem,Ab]
 refine go_loop (α:=Int) (fun i=>⟨slots 27 0 [(0,.arr (xs.map Tm.d)),(1,.arr (xs.map Tm.d)),(5,.int .i64 i)],[]⟩) (fun i=>∃ k:Nat,i=k∧k≤xs.length) (fun i=>xs.length-i.toNat) 0 ⟨0,rfl,zH _⟩ (by simp (disch:=omega) only [go_sem,Ab]) ?_
 ·rintro i ⟨k,rfl,hk⟩
  obtain ⟨i,hi⟩:∃ i:Int,i=(k:Int):=⟨_,rfl⟩
  rw [←hi]
  have hn:i.toNat=k:=by omega
  rcases zB k xs.length with hlt | hge
  ·have hg:=get_at Tm.d hlt
   rw [Tm.d_eq] at hg
   have hle:=Tm.bulk_le xs k hlt
   have hc:=h xs[k] (zF hlt) (by omega)
   simp (disch:=omega) only [go_sem,Ab,hn,hg,hc,G8]
   refine ⟨i+1,⟨k+1,by omega,hlt⟩,by omega,?_⟩
   trivial
  ·obtain rfl:k=xs.length:=by omega
   simp (disch:=omega) only [go_sem,Ab,hn]
theorem SE (x:Tm) (h_args:Qg x.args):KS x:=by
 intro hb
 have qb:=Tm.bulk_eq x
 replace h_args:=h_args (by omega)
 refine Ai Pj G8 (of_decide_eq_true rfl) ?_
 simp (disch:=omega) only [JD,go_sem,Ab,h_args,IK,Cw]
theorem SF (x:Tm):KS x:=SE x (Rn x.args fun y hy=>SF y)
termination_by SizeOf.sizeOf x
decreasing_by exact Tm.lt_of_mem hy
def Hh:SC:=(.seq (.reg [⟨some 2,none,.boxv 34 5 (.t 0)⟩,⟨some 3,none,.boxv 34 5 (.t 1)⟩,⟨some 4,none,.mv (.c (.bool false))⟩]) (.seq (.seq (.reg [⟨some 5,none,.faddr 0 (.t 2)⟩,⟨some 6,none,.load false 1 (.t 5)⟩,⟨some 7,none,.faddr 0 (.t 3)⟩,⟨some 8,none,.load false 1 (.t 7)⟩,⟨some 9,none,.bin .neq false (.t 6) (.t 8)⟩]) (.cond (.t 9) (.seq (.reg [⟨some 4,none,.mv (.c (.bool false))⟩]) .ret) .skip)) (.seq (.seq (.reg [⟨some 10,none,.faddr 1 (.t 2)⟩,⟨some 11,none,.load true 2 (.t 10)⟩,⟨some 12,none,.faddr 1 (.t 3)⟩,⟨some 13,none,.load true 2 (.t 12)⟩,⟨some 14,none,.call 28 [(.t 11),(.t 13)]⟩,⟨some 15,none,.un .not (.t 14)⟩]) (.cond (.t 15) (.seq (.reg [⟨some 4,none,.mv (.c (.bool false))⟩]) .ret) .skip)) (.seq (.seq (.reg [⟨some 16,none,.faddr 3 (.t 2)⟩,⟨some 17,none,.load false 1 (.t 16)⟩,⟨some 18,none,.faddr 3 (.t 3)⟩,⟨some 19,none,.load false 1 (.t 18)⟩,⟨some 20,none,.bin .neq false (.t 17) (.t 19)⟩]) (.cond (.t 20) (.seq (.reg [⟨some 4,none,.mv (.c (.bool false))⟩]) .ret) .skip)) (.seq (.seq (.reg [⟨some 21,none,.faddr 4 (.t 2)⟩,⟨some 22,none,.load false 1 (.t 21)⟩,⟨some 23,none,.faddr 4 (.t 3)⟩,⟨some 24,none,.load false 1 (.t 23)⟩,⟨some 25,none,.call 29 [(.t 22),(.t 24)]⟩,⟨some 26,none,.un .not (.t 25)⟩]) (.cond (.t 26) (.seq (.reg [⟨some 4,none,.mv (.c (.bool false))⟩]) .ret) .skip)) (.seq (.reg [⟨some 4,none,.mv (.c (.bool true))⟩]) .ret))))))
theorem LT:Ap Tryz.prog 8=some ⟨27,Hh,[(.tmp 4)]⟩:=by kernel_rfl
theorem BB:modes 8=⟨[],.asis,none,false⟩:=by unfold modes; rfl
def Gj:SC:=(.seq (.reg [⟨some 4,none,.mv (.c (.bool false))⟩]) (.seq (.seq (.reg [⟨some 6,none,.mv (.t 0)⟩,⟨some 7,none,.len false (.t 6)⟩,⟨some 8,none,.mv (.t 1)⟩,⟨some 9,none,.len false (.t 8)⟩,⟨some 10,none,.bin .neq false (.t 7) (.t 9)⟩]) (.cond (.t 10) (.seq (.reg [⟨some 4,none,.mv (.c (.bool false))⟩]) .ret) .skip)) (.seq (.seq (.reg [⟨some 5,none,.mv (.c (.int .i64 0))⟩]) (.block 0 (.loop [1,1,0,0,0,1,0,0,0,0,0,0,0,0,0,0,0,0,0,0,0,0,0,0,0,0,0] (.seq (.seq (.reg [⟨some 11,none,.mv (.t 5)⟩,⟨some 12,none,.mv (.t 0)⟩,⟨some 13,none,.len false (.t 12)⟩,⟨some 14,none,.bin .lss false (.t 11) (.t 13)⟩]) (.cond (.t 14) .skip (.exit 0))) (.seq (.block 1 (.seq (.dreg [[],[],[0,1],[2,0,1],[],[],[4,5],[6,4,5],[3,2,0,1,7,6,4,5],[8,3,2,0,1,7,6,4,5]] [⟨some 17,none,.mv (.t 0)⟩,⟨some 18,none,.mv (.t 5)⟩,⟨some 19,none,.iaddr 5 (.t 17) (.t 18)⟩,⟨some 20,none,.load true 5 (.t 19)⟩,⟨some 21,none,.mv (.t 1)⟩,⟨some 22,none,.mv (.t 5)⟩,⟨some 23,none,.iaddr 5 (.t 21) (.t 22)⟩,⟨some 24,none,.load true 5 (.t 23)⟩,⟨some 25,none,.call 8 [(.t 20),(.t 24)]⟩,⟨some 26,none,.un .not (.t 25)⟩]) (.cond (.t 26) (.seq (.reg [⟨some 4,none,.mv (.c (.bool false))⟩]) .ret) .skip))) (.reg [⟨some 15,none,.mv (.t 5)⟩,⟨some 16,none,.bin .add false (.t 15) (.c (.int .i64 1))⟩,⟨some 5,none,.mv (.t 16)⟩])))))) (.seq (.reg [⟨some 4,none,.mv (.c (.bool true))⟩]) .ret))))
theorem KT:Ap Tryz.prog 29=some ⟨27,Gj,[(.tmp 4)]⟩:=by kernel_rfl
theorem Gk:modes 29=⟨[],.asis,none,false⟩:=by unfold modes; rfl
abbrev Gl (x:Fm):Prop:=x.bulk≤1048576→E 8 [x.sv,x.sv] []=some (.bool true,[])
abbrev KU (xs:List Fm):Prop:=xs.length+Fm.sumB xs≤1048576→E 29 [.arr (xs.map Fm.d),.arr (xs.map Fm.d)] []=some (.bool true,[])
theorem MJ (xs:List Fm) (h:∀ x∈xs,Gl x):KU xs:=by
 intro hb
 refine Ai KT Gk (of_decide_eq_true rfl) ?_
 simp (disch:=omega) only [Gj,go_sem,Ab]
 refine go_loop (α:=Int) (fun i=>⟨slots 27 0 [(0,.arr (xs.map Fm.d)),(1,.arr (xs.map Fm.d)),(5,.int .i64 i)],[]⟩) (fun i=>∃ k:Nat,i=k∧k≤xs.length) (fun i=>xs.length-i.toNat) 0 ⟨0,rfl,zH _⟩ (by simp (disch:=omega) only [go_sem,Ab]) ?_
 ·rintro i ⟨k,rfl,hk⟩
  obtain ⟨i,hi⟩:∃ i:Int,i=(k:Int):=⟨_,rfl⟩
  rw [←hi]
  have hn:i.toNat=k:=by omega
  rcases zB k xs.length with hlt | hge
  ·have hg:=get_at Fm.d hlt
   rw [Fm.d_eq] at hg
   have hle:=Fm.bulk_le xs k hlt
   have hc:=h xs[k] (zF hlt) (by omega)
   simp (disch:=omega) only [go_sem,Ab,hn,hg,hc,BB]
   refine ⟨i+1,⟨k+1,by omega,hlt⟩,by omega,?_⟩
   trivial
  ·obtain rfl:k=xs.length:=by omega
   simp (disch:=omega) only [go_sem,Ab,hn]
theorem O1 (x:Fm) (h_atom:KS x.atom) (h_parts:KU x.parts):Gl x:=by
 intro hb
 have qb:=Fm.bulk_eq x
 replace h_atom:=h_atom (by omega)
 replace h_parts:=h_parts (by omega)
 refine Ai LT BB (of_decide_eq_true rfl) ?_
 simp (disch:=omega) only [Hh,go_sem,Ab,h_atom,G8,h_parts,Gk,Cw]
theorem Gm (x:Fm):Gl x:=O1 x (SF x.atom) (MJ x.parts fun y hy=>Gm y)
termination_by SizeOf.sizeOf x
decreasing_by exact Fm.lt_of_mem hy
def ER:SC:=(.seq (.reg [⟨some 2,none,.boxv 56 7 (.t 0)⟩,⟨some 3,none,.boxv 56 7 (.t 1)⟩,⟨some 4,none,.mv (.c (.bool false))⟩]) (.seq (.seq (.reg [⟨some 5,none,.faddr 0 (.t 2)⟩,⟨some 6,none,.load false 1 (.t 5)⟩,⟨some 7,none,.faddr 0 (.t 3)⟩,⟨some 8,none,.load false 1 (.t 7)⟩,⟨some 9,none,.bin .neq false (.t 6) (.t 8)⟩]) (.cond (.t 9) (.seq (.reg [⟨some 4,none,.mv (.c (.bool false))⟩]) .ret) .skip)) (.seq (.seq (.reg [⟨some 10,none,.faddr 1 (.t 2)⟩,⟨some 11,none,.load false 1 (.t 10)⟩,⟨some 12,none,.faddr 1 (.t 3)⟩,⟨some 13,none,.load false 1 (.t 12)⟩,⟨some 14,none,.call 63 [(.t 11),(.t 13)]⟩,⟨some 15,none,.un .not (.t 14)⟩]) (.cond (.t 15) (.seq (.reg [⟨some 4,none,.mv (.c (.bool false))⟩]) .ret) .skip)) (.seq (.seq (.reg [⟨some 16,none,.faddr 2 (.t 2)⟩,⟨some 17,none,.load true 5 (.t 16)⟩,⟨some 18,none,.faddr 2 (.t 3)⟩,⟨some 19,none,.load true 5 (.t 18)⟩,⟨some 20,none,.call 8 [(.t 17),(.t 19)]⟩,⟨some 21,none,.un .not (.t 20)⟩]) (.cond (.t 21) (.seq (.reg [⟨some 4,none,.mv (.c (.bool false))⟩]) .ret) .skip)) (.seq (.reg [⟨some 4,none,.mv (.c (.bool true))⟩]) .ret)))))
theorem Jw:Ap Tryz.prog 30=some ⟨22,ER,[(.tmp 4)]⟩:=by kernel_rfl
theorem ES:modes 30=⟨[],.asis,none,false⟩:=by unfold modes; rfl
def EG:SC:=(.seq (.reg [⟨some 4,none,.mv (.c (.bool false))⟩]) (.seq (.seq (.reg [⟨some 6,none,.mv (.t 0)⟩,⟨some 7,none,.len false (.t 6)⟩,⟨some 8,none,.mv (.t 1)⟩,⟨some 9,none,.len false (.t 8)⟩,⟨some 10,none,.bin .neq false (.t 7) (.t 9)⟩]) (.cond (.t 10) (.seq (.reg [⟨some 4,none,.mv (.c (.bool false))⟩]) .ret) .skip)) (.seq (.seq (.reg [⟨some 5,none,.mv (.c (.int .i64 0))⟩]) (.block 0 (.loop [1,1,0,0,0,1,0,0,0,0,0,0,0,0,0,0,0,0,0,0,0,0,0,0,0,0,0] (.seq (.seq (.reg [⟨some 11,none,.mv (.t 5)⟩,⟨some 12,none,.mv (.t 0)⟩,⟨some 13,none,.len false (.t 12)⟩,⟨some 14,none,.bin .lss false (.t 11) (.t 13)⟩]) (.cond (.t 14) .skip (.exit 0))) (.seq (.block 1 (.seq (.dreg [[],[],[0,1],[2,0,1],[],[],[4,5],[6,4,5],[3,2,0,1,7,6,4,5],[8,3,2,0,1,7,6,4,5]] [⟨some 17,none,.mv (.t 0)⟩,⟨some 18,none,.mv (.t 5)⟩,⟨some 19,none,.iaddr 7 (.t 17) (.t 18)⟩,⟨some 20,none,.load true 7 (.t 19)⟩,⟨some 21,none,.mv (.t 1)⟩,⟨some 22,none,.mv (.t 5)⟩,⟨some 23,none,.iaddr 7 (.t 21) (.t 22)⟩,⟨some 24,none,.load true 7 (.t 23)⟩,⟨some 25,none,.call 30 [(.t 20),(.t 24)]⟩,⟨some 26,none,.un .not (.t 25)⟩]) (.cond (.t 26) (.seq (.reg [⟨some 4,none,.mv (.c (.bool false))⟩]) .ret) .skip))) (.reg [⟨some 15,none,.mv (.t 5)⟩,⟨some 16,none,.bin .add false (.t 15) (.c (.int .i64 1))⟩,⟨some 5,none,.mv (.t 16)⟩])))))) (.seq (.reg [⟨some 4,none,.mv (.c (.bool true))⟩]) .ret))))
theorem IL:Ap Tryz.prog 9=some ⟨27,EG,[(.tmp 4)]⟩:=by kernel_rfl
theorem BM:modes 9=⟨[],.asis,none,false⟩:=by unfold modes; rfl
abbrev FD (x:Df):Prop:=x.bulk≤1048576→E 30 [x.sv,x.sv] []=some (.bool true,[])
abbrev HQ (xs:List Df):Prop:=xs.length+Df.sumB xs≤1048576→E 9 [.arr (xs.map Df.d),.arr (xs.map Df.d)] []=some (.bool true,[])
theorem Km (xs:List Df) (h:∀ x∈xs,FD x):HQ xs:=by
 intro hb
 refine Ai IL BM (of_decide_eq_true rfl) ?_
 simp (disch:=omega) only [EG,go_sem,Ab]
 refine go_loop (α:=Int) (fun i=>⟨slots 27 0 [(0,.arr (xs.map Df.d)),(1,.arr (xs.map Df.d)),(5,.int .i64 i)],[]⟩) (fun i=>∃ k:Nat,i=k∧k≤xs.length) (fun i=>xs.length-i.toNat) 0 ⟨0,rfl,zH _⟩ (by simp (disch:=omega) only [go_sem,Ab]) ?_
 ·rintro i ⟨k,rfl,hk⟩
  obtain ⟨i,hi⟩:∃ i:Int,i=(k:Int):=⟨_,rfl⟩
  rw [←hi]
  have hn:i.toNat=k:=by omega
  rcases zB k xs.length with hlt | hge
  ·have hg:=get_at Df.d hlt
   rw [Df.d_eq] at hg
   have hle:=Df.bulk_le xs k hlt
   have hc:=h xs[k] (zF hlt) (by omega)
   simp (disch:=omega) only [go_sem,Ab,hn,hg,hc,ES]
   refine ⟨i+1,⟨k+1,by omega,hlt⟩,by omega,?_⟩
   trivial
  ·obtain rfl:k=xs.length:=by omega
   simp (disch:=omega) only [go_sem,Ab,hn]
theorem KV (x:Df) (h_vars:M4 x.vars) (h_form:Gl x.form):FD x:=by
 intro hb
 have qb:=Df.bulk_eq x
 replace h_vars:=h_vars (by omega)
 replace h_form:=h_form (by omega)
 refine Ai Jw ES (of_decide_eq_true rfl) ?_
 simp (disch:=omega) only [ER,go_sem,Ab,h_vars,Hg,h_form,BB,Cw]
theorem O2 (x:Df):FD x:=KV x (SD x.vars) (Gm x.form)
theorem ML (xs:List Df):HQ xs:=Km xs fun x _=>O2 x
noncomputable def ZY (s u:Sb):Bool:=(ZX s u).ok
def Sb.idem (s:Sb):Prop:=∀ w t,s.look w=some t→∀ v∈t.vs,s.look v=none
noncomputable def XH (x y:Tm):Bd:=bif Ba x.name&&!(Ba y.name&&strLt x.name y.name) then ⟨x.name,y⟩ else ⟨y.name,x⟩
noncomputable def ZZ (b:Bd):Bool:=!dec (b.var∈b.term.vs)&&(Sb.mk [b]).ok
noncomputable def Z7:Nat→Sb→List (Tm × Tm)→Option (Option Sb)
 | 0,_,_=>none
 | n+1,s,l=>match l with
  | []=>some (some s)
  | p :: l=>bif Z4 s p.1&&Z4 s p.2 then
    (bif dec (Jt s p.1=Jt s p.2) then Z7 n s l
    else bif Ba (Jt s p.1).name || Ba (Jt s p.2).name then
     (bif ZZ (XH (Jt s p.1) (Jt s p.2))&&ZY s ⟨[XH (Jt s p.1) (Jt s p.2)]⟩ then Z7 n (ZX s ⟨[XH (Jt s p.1) (Jt s p.2)]⟩) l else some none)
    else bif dec ((Jt s p.1).name=(Jt s p.2).name)&&dec ((Jt s p.1).args.length=(Jt s p.2).args.length) then Z7 n s ((Jt s p.1).args.zip (Jt s p.2).args++l)
    else some none)
   else some none
def Qaa:List (Tm × Tm)→Nat
 | []=>0
 | p :: l=>p.1.nodes+Qaa l
structure uInv (s:Sb) (l:List (Tm × Tm)):Prop where
 ok:s.ok=true
 idem:s.idem
 ex:∀ p∈l,p.1.expr=true∧p.2.expr=true
 pq:∃ P Q,l=P++Q∧(∀ p∈P,p.1.ap s.look=p.1)∧Qaa P≤30∧Q.length≤1+30*s.binds.length
theorem SG:∀ l:List ByteArray,Tm.nodeS (vT l)=l.length
 | []=>by simp [vT,Tm.nodeS]
 | v :: l=>by
  have ih:=SG l
  unfold vT at ih ⊢
  rw [z6,Tm.nodeS,ih,Tm.nodes_eq]
  show 1+Tm.nodeS []+_=_
  rw [Tm.nodeS,zP]; omega
theorem Zh {l:List ByteArray} {k:Nat} (h:k<l.length) (h2:k<(vT l).length):(vT l)[k]=.mk l[k] []:=by simp only [vT,List.getElem_map]
def V7:List Fm→Fm
 | []=>Fm.zero
 | x :: _=>x
theorem KW {p:ByteArray} {t u:List ByteArray} (h:∀ k:Int,pre p k∈t ↔ pre p k∈u):∀ (n:Nat) (c:Int),CL p t n c=CL p u n c
 | 0,c=>rfl
 | n+1,c=>by
  rw [CL,CL,KW h n,show (pre p (c+1)∈t)=(pre p (c+1)∈u) from propext (h _)]
theorem SH {p:ByteArray} {t u:List ByteArray} (h:∀ k:Int,pre p k∈t ↔ pre p k∈u) {c:Int} (hc:0≤c):fresh p t c=fresh p u c:=by
 have h1:=LH p t c
 have h2:=LH p u c
 have h3:fresh p t c=CL p t (t.length+u.length+1) c:=FV _ _ _ hc (by omega) (by omega)
 have h4:fresh p u c=CL p u (t.length+u.length+1) c:=FV _ _ _ hc (by omega) (by omega)
 rw [h3,h4,KW h]
def JE:SC:=(.seq (.reg [⟨some 1,none,.boxv 34 5 (.t 0)⟩,⟨some 2,none,.mv (.c (.int .i64 0))⟩]) (.seq (.reg [⟨some 3,none,.mv (.c (.int .i64 1))⟩]) (.seq (.seq (.reg [⟨some 6,none,.faddr 4 (.t 1)⟩,⟨some 7,none,.load false 1 (.t 6)⟩,⟨some 8,none,.len false (.t 7)⟩,⟨some 9,none,.mv (.c (.int .i64 0))⟩]) (.block 0 (.loop [0,0,0,1,0,0,0,1,1,1,0,0,0,0,0,0,0,0,0,0,0,0] (.seq (.reg [⟨some 10,none,.bin .lss false (.t 9) (.t 8)⟩]) (.seq (.cond (.t 10) .skip (.exit 0)) (.seq (.block 1 (.seq (.reg [⟨some 11,none,.iaddr 5 (.t 7) (.t 9)⟩,⟨some 12,none,.load true 5 (.t 11)⟩,⟨(some 5),none,(.alloc 34 [(.int .i64 0),(.str ⟨#[]⟩),.nil,(.str ⟨#[]⟩),.nil])⟩,⟨none,none,(.store 5 (.t 5) (.t 12))⟩]) (.seq (.seq (.reg [⟨some 13,none,.mv (.t 3)⟩,⟨some 14,none,.bin .gtr false (.t 13) (.c (.int .i64 40))⟩]) (.cond (.t 14) (.seq (.reg [⟨some 15,none,.mv (.t 3)⟩,⟨some 2,none,.mv (.t 15)⟩]) .ret) .skip)) (.reg [⟨some 16,none,.mv (.t 3)⟩,⟨some 17,none,.load true 5 (.t 5)⟩,⟨some 18,none,.call 48 [(.t 17)]⟩,⟨some 19,none,.bin .add false (.t 16) (.t 18)⟩,⟨some 3,none,.mv (.t 19)⟩])))) (.reg [⟨some 20,none,.bin .add false (.t 9) (.c (.int .i64 1))⟩,⟨some 9,none,.mv (.t 20)⟩]))))))) (.seq (.reg [⟨some 21,none,.mv (.t 3)⟩,⟨some 2,none,.mv (.t 21)⟩]) .ret))))
theorem Pk:Ap Tryz.prog 48=some ⟨22,JE,[(.tmp 2)]⟩:=by kernel_rfl
theorem Dw:modes 48=⟨[],.asis,none,false⟩:=by unfold modes; rfl
theorem XI (x:Fm) (hn:x.nodes≤1099511627776) (ih:∀ y∈x.parts,E 48 [y.sv] []=some (.int .i64 y.cap,[])):E 48 [x.sv] []=some (.int .i64 x.cap,[]):=by
 have hl:=Fm.length_le x.parts
 have hx:=Fm.nodes_eq x
 rw [Fm.cap_eq]
 refine Ai Pk Dw (of_decide_eq_true rfl) ?_
 simp (disch:=omega) only [JE,go_sem,Ab]
 refine go_loop (α:=Int × Int) (fun a=>⟨slots 22 0 [(3,.int .i64 a.2),(7,.arr (x.parts.map Fm.d)),(8,.int .i64 x.parts.length),(9,.int .i64 a.1)],[]⟩) (fun a=>∃ k:Nat,a.1=k∧k≤x.parts.length∧1≤a.2∧a.2+Fm.nodeS (x.parts.drop k)≤x.nodes∧Fm.capL (x.parts.drop k) a.2=Fm.capL x.parts 1) (fun a=>x.parts.length-a.1.toNat) (0,1) ⟨0,rfl,zH _,by dsimp only; omega,by rw [zE]; dsimp only; omega,rfl⟩ (by simp (disch:=omega) only [go_sem,Ab]) ?_
 rintro ⟨i,n⟩ ⟨k,hi,hk,hn0,hn1,hs⟩
 dsimp only at hi hn0 hn1 hs
 have hni:i.toNat=k:=by omega
 rcases zB k x.parts.length with hlt | hge
 ·have hg:=get_at Fm.d hlt
  rw [Fm.d_eq] at hg
  have hd:x.parts.drop k=x.parts[k] :: x.parts.drop (k+1):=zA hlt
  have hc:=ih x.parts[k] (zF hlt)
  have hp:=Fm.cap_spec x.parts[k]
  rw [hd,Fm.capL] at hs
  rw [hd,Fm.nodeS] at hn1
  rcases Int.lt_or_le 40 n with h30 | h30
  ·rw [if_pos h30] at hs
   simp (disch:=omega) only [go_sem,Ab,hni,hg,hc,Dw]
   exact hs
  ·rw [if_neg (by omega)] at hs
   simp (disch:=omega) only [go_sem,Ab,hni,hg,hc,Dw]
   refine ⟨(i+1,n+x.parts[k].cap),⟨k+1,by dsimp only; omega,hlt,by dsimp only; omega,by dsimp only; omega,hs⟩,by dsimp only; omega,?_⟩
   simp only [and_self]
 ·have hd:x.parts.drop k=[]:=zD hge
  rw [hd,Fm.capL] at hs
  simp (disch:=omega) only [go_sem,Ab,hni]
  exact hs
theorem V8 (x:Fm) (hn:x.nodes≤1099511627776):E 48 [x.sv] []=some (.int .i64 x.cap,[]) :=
 XI x hn fun y hy=>V8 y (by have:=Fm.nodes_mem hy; have:=Fm.nodes_eq x; omega)
termination_by SizeOf.sizeOf x
decreasing_by exact Fm.lt_of_mem hy
def JF:SC:=(.seq (.reg [⟨some 2,none,.boxv 34 5 (.t 0)⟩,⟨some 4,none,.mv (.c (.int .i64 0))⟩]) (.seq (.reg [⟨some 5,none,.mv (.c (.int .i64 1))⟩]) (.seq (.seq (.reg [⟨some 6,none,.mv (.c (.int .i64 0))⟩]) (.block 0 (.loop [0,1,1,0,0,1,1,0,0,0,0,0,0,0,0,0,0,0,0,0,0,0,0,0,0,0,0,0,0,0,0] (.seq (.seq (.reg [⟨some 7,none,.mv (.t 6)⟩,⟨some 8,none,.faddr 4 (.t 2)⟩,⟨some 9,none,.load false 1 (.t 8)⟩,⟨some 10,none,.len false (.t 9)⟩,⟨some 11,none,.bin .lss false (.t 7) (.t 10)⟩,⟨some 12,none,.mv (.t 11)⟩,⟨(some 13),(some (12,true)),(.mv (.t 5))⟩,⟨(some 14),(some (12,true)),(.mv (.t 1))⟩,⟨(some 15),(some (12,true)),(.bin .leq false (.t 13) (.t 14))⟩,⟨some 16,none,.pick (.t 12) (.t 15) (.c (.bool false))⟩]) (.cond (.t 16) .skip (.exit 0))) (.seq (.block 1 (.reg [⟨some 19,none,.mv (.t 5)⟩,⟨some 20,none,.faddr 4 (.t 2)⟩,⟨some 21,none,.load false 1 (.t 20)⟩,⟨some 22,none,.mv (.t 6)⟩,⟨some 23,none,.iaddr 5 (.t 21) (.t 22)⟩,⟨some 24,none,.load true 5 (.t 23)⟩,⟨some 25,none,.mv (.t 1)⟩,⟨some 26,none,.mv (.t 5)⟩,⟨some 27,none,.bin .sub false (.t 25) (.t 26)⟩,⟨some 28,none,.call 41 [(.t 24),(.t 27)]⟩,⟨some 29,none,.bin .add false (.t 19) (.t 28)⟩,⟨some 5,none,.mv (.t 29)⟩])) (.reg [⟨some 17,none,.mv (.t 6)⟩,⟨some 18,none,.bin .add false (.t 17) (.c (.int .i64 1))⟩,⟨some 6,none,.mv (.t 18)⟩])))))) (.seq (.reg [⟨some 30,none,.mv (.t 5)⟩,⟨some 4,none,.mv (.t 30)⟩]) .ret))))
theorem Pl:Ap Tryz.prog 41=some ⟨31,JF,[(.tmp 4)]⟩:=by kernel_rfl
theorem Dx:modes 41=⟨[],.asis,none,false⟩:=by unfold modes; rfl
theorem XJ (x:Fm) (m:Int) (hm:0≤m) (hm1:m≤1099511627776) (hn:x.nodes≤1099511627776) (ih:∀ y∈x.parts,∀ m:Int,0≤m→m≤1099511627776→E 41 [y.sv,.int .i64 m] []=some (.int .i64 (y.many m),[])):E 41 [x.sv,.int .i64 m] []=some (.int .i64 (x.many m),[]):=by
 have hl:=Fm.length_le x.parts
 have hx:=Fm.nodes_eq x
 rw [Fm.many_eq]
 refine Ai Pl Dx (of_decide_eq_true rfl) ?_
 simp (disch:=omega) only [JF,go_sem,Ab]
 refine go_loop (α:=Int × Int) (fun a=>⟨slots 31 0 [(1,.int .i64 m),(2,.ptr 0 0),(5,.int .i64 a.2),(6,.int .i64 a.1)],[.box 34 [.int .i64 x.op,.str x.atom.name,.arr (x.atom.args.map Tm.d),.str x.var,.arr (x.parts.map Fm.d)]]⟩) (fun a=>∃ k:Nat,a.1=k∧k≤x.parts.length∧1≤a.2∧a.2+Fm.nodeS (x.parts.drop k)≤x.nodes∧Fm.manyL (x.parts.drop k) m a.2=Fm.manyL x.parts m 1) (fun a=>x.parts.length-a.1.toNat) (0,1) ⟨0,rfl,zH _,by dsimp only; omega,by rw [zE]; dsimp only; omega,rfl⟩ (by simp (disch:=omega) only [go_sem,Ab]) ?_
 rintro ⟨i,n⟩ ⟨k,hi,hk,hn0,hn1,hs⟩
 dsimp only at hi hn0 hn1 hs
 have hni:i.toNat=k:=by omega
 rcases zB k x.parts.length with hlt | hge
 ·have hg:=get_at Fm.d hlt
  rw [Fm.d_eq] at hg
  have hd:x.parts.drop k=x.parts[k] :: x.parts.drop (k+1):=zA hlt
  rw [hd,Fm.manyL] at hs
  rw [hd,Fm.nodeS] at hn1
  rcases Int.lt_or_le m n with h30 | h30
  ·rw [if_neg (by omega)] at hs
   simp (disch:=omega) only [go_sem,Ab,hni,hg,Dx]
   exact hs
  ·rw [if_pos h30] at hs
   have hc:=ih x.parts[k] (zF hlt) (m-n) (by omega) (by omega)
   have hp:=Fm.many_spec x.parts[k] (m-n)
   simp (disch:=omega) only [go_sem,Ab,hni,hg,hc,Dx]
   refine ⟨(i+1,n+x.parts[k].many (m-n)),⟨k+1,by dsimp only; omega,hlt,by dsimp only; omega,by dsimp only; omega,hs⟩,by dsimp only; omega,?_⟩
   simp only [and_self]
 ·have hd:x.parts.drop k=[]:=zD hge
  rw [hd,Fm.manyL] at hs
  simp (disch:=omega) only [go_sem,Ab,hni]
  exact hs
theorem V9 (x:Fm) (m:Int) (hm:0≤m) (hm1:m≤1099511627776) (hn:x.nodes≤1099511627776):E 41 [x.sv,.int .i64 m] []=some (.int .i64 (x.many m),[]) :=
 XJ x m hm hm1 hn fun y hy m hm hm1=>V9 y m hm hm1 (by have:=Fm.nodes_mem hy; have:=Fm.nodes_eq x; omega)
termination_by SizeOf.sizeOf x
decreasing_by exact Fm.lt_of_mem hy
def Dp:SC:=(.seq (.reg [⟨some 2,none,.mv (.c (.bool false))⟩]) (.seq (.reg [⟨some 3,none,.mv (.t 0)⟩,⟨some 4,none,.bin .eql false (.t 3) (.c (.int .i64 8))⟩,⟨some 5,none,.mv (.t 4)⟩,⟨(some 6),(some (5,false)),(.mv (.t 0))⟩,⟨(some 7),(some (5,false)),(.bin .eql false (.t 6) (.c (.int .i64 9)))⟩,⟨some 8,none,.pick (.t 5) (.c (.bool true)) (.t 7)⟩,⟨some 2,none,.mv (.t 8)⟩]) .ret))
theorem ET:Ap Tryz.prog 69=some ⟨9,Dp,[(.tmp 2)]⟩:=by kernel_rfl
theorem Ac:modes 69=⟨[],.asis,none,false⟩:=by unfold modes; rfl
def HR:SC:=(.seq (.reg [⟨some 2,none,.mv (.c (.bool false))⟩]) (.seq (.reg [⟨some 3,none,.mv (.t 0)⟩,⟨some 4,none,.bin .eql false (.t 3) (.c (.int .i64 5))⟩,⟨some 5,none,.mv (.t 4)⟩,⟨(some 6),(some (5,false)),(.mv (.t 0))⟩,⟨(some 7),(some (5,false)),(.bin .eql false (.t 6) (.c (.int .i64 6)))⟩,⟨some 8,none,.pick (.t 5) (.c (.bool true)) (.t 7)⟩,⟨some 9,none,.mv (.t 8)⟩,⟨(some 10),(some (9,false)),(.mv (.t 0))⟩,⟨(some 11),(some (9,false)),(.bin .eql false (.t 10) (.c (.int .i64 7)))⟩,⟨some 12,none,.pick (.t 9) (.c (.bool true)) (.t 11)⟩,⟨some 2,none,.mv (.t 12)⟩]) .ret))
theorem MM:Ap Tryz.prog 70=some ⟨13,HR,[(.tmp 2)]⟩:=by kernel_rfl
theorem Ah:modes 70=⟨[],.asis,none,false⟩:=by unfold modes; rfl
def DW:SC:=(.seq (.reg [⟨some 1,none,.boxv 31 2 (.t 0)⟩,⟨some 2,none,.mv (.c (.bool false))⟩]) (.seq (.reg [⟨some 3,none,.faddr 0 (.t 1)⟩,⟨some 4,none,.load false 1 (.t 3)⟩,⟨(some 5),none,(.bin .eql false (.t 4) (.c (.str ⟨#[]⟩)))⟩,⟨some 6,none,.mv (.t 5)⟩,⟨(some 7),(some (6,true)),(.faddr 1 (.t 1))⟩,⟨(some 8),(some (6,true)),(.load false 1 (.t 7))⟩,⟨(some 9),(some (6,true)),(.len false (.t 8))⟩,⟨(some 10),(some (6,true)),(.bin .eql false (.t 9) (.c (.int .i64 0)))⟩,⟨some 11,none,.pick (.t 6) (.t 10) (.c (.bool false))⟩,⟨some 2,none,.mv (.t 11)⟩]) .ret))
theorem Gn:Ap Tryz.prog 73=some ⟨12,DW,[(.tmp 2)]⟩:=by kernel_rfl
theorem Af:modes 73=⟨[],.asis,none,false⟩:=by unfold modes; rfl
def G9:SC:=(.seq (.reg [⟨some 1,none,.boxv 31 2 (.t 0)⟩,⟨some 2,none,.mv (.c (.bool false))⟩]) (.seq (.reg [⟨some 3,none,.faddr 0 (.t 1)⟩,⟨some 4,none,.load false 1 (.t 3)⟩,⟨(some 5),none,(.bin .eql false (.t 4) (.c (.str ⟨#[]⟩)))⟩,⟨some 6,none,.mv (.t 5)⟩,⟨(some 7),(some (6,true)),(.faddr 1 (.t 1))⟩,⟨(some 8),(some (6,true)),(.load false 1 (.t 7))⟩,⟨(some 9),(some (6,true)),(.len false (.t 8))⟩,⟨(some 10),(some (6,true)),(.bin .eql false (.t 9) (.c (.int .i64 0)))⟩,⟨some 11,none,.pick (.t 6) (.t 10) (.c (.bool false))⟩,⟨some 2,none,.mv (.t 11)⟩]) .ret))
theorem JG:Ap Tryz.prog 83=some ⟨12,G9,[(.tmp 2)]⟩:=by kernel_rfl
theorem Am:modes 83=⟨[],.asis,none,false⟩:=by unfold modes; rfl
def AP:SC:=(.seq (.reg [⟨some 4,none,.mv (.c (.int .i64 0))⟩]) (.seq (.seq (.reg [⟨some 6,none,.mv (.t 0)⟩,⟨some 7,none,.len false (.t 6)⟩,⟨some 8,none,.mv (.c (.int .i64 0))⟩]) (.block 0 (.loop [1,1,0,0,0,0,0,1,1,0,0,0,0,0,0,0,0,0,0] (.seq (.reg [⟨some 9,none,.bin .lss false (.t 8) (.t 7)⟩]) (.seq (.cond (.t 9) .skip (.exit 0)) (.seq (.block 1 (.seq (.reg [⟨some 10,none,.mv (.t 8)⟩,⟨some 5,none,.mv (.t 10)⟩]) (.seq (.reg [⟨some 11,none,.mv (.t 1)⟩,⟨some 12,none,.mv (.t 0)⟩,⟨some 13,none,.mv (.t 5)⟩,⟨some 14,none,.iaddr 5 (.t 12) (.t 13)⟩,⟨some 15,none,.load true 5 (.t 14)⟩,⟨some 16,none,.callv (.t 11) [(.t 15)]⟩]) (.cond (.t 16) (.seq (.reg [⟨some 17,none,.mv (.t 5)⟩,⟨some 4,none,.mv (.t 17)⟩]) .ret) .skip)))) (.reg [⟨some 18,none,.bin .add false (.t 8) (.c (.int .i64 1))⟩,⟨some 8,none,.mv (.t 18)⟩]))))))) (.seq (.reg [⟨some 4,none,.mv (.c (.int .i64 (-(0+1))))⟩]) .ret)))
theorem Bp:Ap Tryz.prog 76=some ⟨19,AP,[(.tmp 4)]⟩:=by kernel_rfl
theorem AA:modes 76=⟨[],.asis,none,false⟩:=by unfold modes; rfl
def AM:SC:=(.seq (.reg [⟨some 4,none,.mv (.c (.bool false))⟩]) (.seq (.reg [⟨some 5,none,.mv (.t 0)⟩,⟨some 6,none,.mv (.t 1)⟩,⟨some 7,none,.call 76 [(.t 5),(.t 6)]⟩,⟨some 8,none,.bin .geq false (.t 7) (.c (.int .i64 0))⟩,⟨some 4,none,.mv (.t 8)⟩]) .ret))
theorem Bh:Ap Tryz.prog 51=some ⟨9,AM,[(.tmp 4)]⟩:=by kernel_rfl
theorem Aa:modes 51=⟨[],.asis,none,false⟩:=by unfold modes; rfl
theorem MN (fid:Nat) (p:Fm→Bool) (xs:List Fm) (hl:xs.length≤1099511627776) (hg:HV Tryz.prog fid=true) (hm:(modes fid).hand=[]) (hE:∀ x∈xs,E fid [x.sv] []=some (.bool (p x),[])):E 76 [.arr (xs.map Fm.d),.fn fid []] []=some (.int .i64 (D9 p xs 0),[]):=by
 refine Ai Bp AA (of_decide_eq_true rfl) ?_
 simp (disch:=omega) only [AP,go_sem,Ab]
 refine go_loop (α:=Int) (fun a=>⟨slots 19 0 [(0,.arr (xs.map Fm.d)),(1,.fn fid []),(7,.int .i64 xs.length),(8,.int .i64 a)],[]⟩) (fun a=>∃ k:Nat,a=k∧k≤(xs).length∧D9 p (xs.drop k) a=D9 p xs 0) (fun a=>(xs).length-(a).toNat) 0 ⟨0,rfl,zH _,by rw [zE]⟩ (by simp (disch:=omega) only [go_sem,Ab]) ?_
 rintro i ⟨k,hi,hk,hR⟩
 have hni:i.toNat=k:=by omega
 have hni1:(i+1).toNat=k+1:=by omega
 rcases zB k (xs).length with hlt | hge
 ·have hg':=get_at Fm.d hlt
  rw [Fm.d_eq] at hg'
  have hc:=hE xs[k] (zF hlt)
  rw [zA hlt,D9] at hR
  cases hp:p xs[k] with
  | true =>
   rw [hp] at hc hR
   simp (disch:=omega) only [go_sem,Ab,hni,hg',hc,hg,hm]
   simpa using hR
  | false =>
   rw [hp] at hc hR
   simp (disch:=omega) only [go_sem,Ab,hni,hg',hc,hg,hm]
   exact ⟨i+1,⟨k+1,by omega,hlt,by simpa using hR⟩,by omega,by first | trivial | rfl⟩
 ·rw [zD hge,D9] at hR
  simp (disch:=omega) only [go_sem,Ab,hni]
  exact hR
theorem FE (fid:Nat) (p:Fm→Bool) (xs:List Fm) (hl:xs.length≤1099511627776) (hg:HV Tryz.prog fid=true) (hm:(modes fid).hand=[]) (hE:∀ x∈xs,E fid [x.sv] []=some (.bool (p x),[])):E 51 [.arr (xs.map Fm.d),.fn fid []] []=some (.bool (xs.any p),[]):=by
 have h:=MN fid p xs hl hg hm hE
 refine Ai Bh Aa (of_decide_eq_true rfl) ?_
 simp (disch:=omega) only [AM,go_sem,Ab,h,AA]
 rw [Iu]
def Ax:SC:=(.seq (.reg [⟨some 1,none,.boxv 34 5 (.t 0)⟩,⟨some 2,none,.mv (.c (.bool false))⟩]) (.seq (.reg [⟨some 3,none,.mv (.c (.int .i64 0))⟩]) (.seq (.block 0 (.seq (.seq (.reg [⟨some 5,none,.faddr 0 (.t 1)⟩,⟨some 6,none,.load false 1 (.t 5)⟩,⟨some 7,none,.bin .eql false (.t 6) (.c (.int .i64 1))⟩,⟨some 4,none,.mv (.t 7)⟩]) (.cond (.t 4) .skip (.seq (.reg [⟨some 8,none,.faddr 0 (.t 1)⟩,⟨some 9,none,.load false 1 (.t 8)⟩,⟨some 10,none,.bin .eql false (.t 9) (.c (.int .i64 2))⟩,⟨some 4,none,.mv (.t 10)⟩]) (.cond (.t 4) .skip (.reg [⟨some 11,none,.faddr 0 (.t 1)⟩,⟨some 12,none,.load false 1 (.t 11)⟩,⟨some 13,none,.bin .eql false (.t 12) (.c (.int .i64 3))⟩,⟨some 4,none,.mv (.t 13)⟩]))))) (.cond (.t 4) .skip (.seq (.seq (.reg [⟨some 15,none,.faddr 0 (.t 1)⟩,⟨some 16,none,.load false 1 (.t 15)⟩,⟨some 17,none,.bin .eql false (.t 16) (.c (.int .i64 4))⟩,⟨some 14,none,.mv (.t 17)⟩]) (.cond (.t 14) .skip (.reg [⟨some 18,none,.faddr 0 (.t 1)⟩,⟨some 19,none,.load false 1 (.t 18)⟩,⟨some 20,none,.call 69 [(.t 19)]⟩,⟨some 14,none,.mv (.t 20)⟩]))) (.cond (.t 14) (.reg [⟨some 3,none,.mv (.c (.int .i64 1))⟩]) (.seq (.reg [⟨some 22,none,.faddr 0 (.t 1)⟩,⟨some 23,none,.load false 1 (.t 22)⟩,⟨some 24,none,.call 70 [(.t 23)]⟩,⟨some 21,none,.mv (.t 24)⟩]) (.cond (.t 21) (.reg [⟨some 3,none,.mv (.c (.int .i64 2))⟩]) (.seq (.reg [⟨some 2,none,.mv (.c (.bool false))⟩]) .ret)))))))) (.seq (.seq (.reg [⟨some 25,none,.faddr 4 (.t 1)⟩,⟨some 26,none,.load false 1 (.t 25)⟩,⟨some 27,none,.len false (.t 26)⟩,⟨some 28,none,.mv (.t 3)⟩,⟨some 29,none,.bin .neq false (.t 27) (.t 28)⟩,⟨some 30,none,.mv (.t 29)⟩,⟨(some 31),(some (30,false)),(.faddr 0 (.t 1))⟩,⟨(some 32),(some (30,false)),(.load false 1 (.t 31))⟩,⟨(some 33),(some (30,false)),(.call 69 [(.t 32)])⟩,⟨(some 34),(some (30,false)),(.mv (.t 33))⟩,⟨(some 35),(some (34,true)),(.faddr 3 (.t 1))⟩,⟨(some 36),(some (34,true)),(.load false 1 (.t 35))⟩,⟨(some 37),(some (34,true)),(.call 71 [(.t 36)])⟩,⟨(some 38),(some (34,true)),(.un .not (.t 37))⟩,⟨(some 39),(some (30,false)),(.pick (.t 34) (.t 38) (.c (.bool false)))⟩,⟨some 40,none,.pick (.t 30) (.c (.bool true)) (.t 39)⟩,⟨some 41,none,.mv (.t 40)⟩,⟨(some 42),(some (41,false)),(.faddr 0 (.t 1))⟩,⟨(some 43),(some (41,false)),(.load false 1 (.t 42))⟩,⟨(some 44),(some (41,false)),(.call 69 [(.t 43)])⟩,⟨(some 45),(some (41,false)),(.un .not (.t 44))⟩,⟨(some 46),(some (41,false)),(.mv (.t 45))⟩,⟨(some 47),(some (46,true)),(.faddr 3 (.t 1))⟩,⟨(some 48),(some (46,true)),(.load false 1 (.t 47))⟩,⟨(some 49),(some (46,true)),(.bin .neq false (.t 48) (.c (.str ⟨#[]⟩)))⟩,⟨(some 50),(some (41,false)),(.pick (.t 46) (.t 49) (.c (.bool false)))⟩,⟨some 51,none,.pick (.t 41) (.c (.bool true)) (.t 50)⟩]) (.cond (.t 51) (.seq (.reg [⟨some 2,none,.mv (.c (.bool false))⟩]) .ret) .skip)) (.seq (.seq (.reg [⟨some 52,none,.faddr 0 (.t 1)⟩,⟨some 53,none,.load false 1 (.t 52)⟩,⟨some 54,none,.bin .eql false (.t 53) (.c (.int .i64 3))⟩,⟨some 55,none,.mv (.t 54)⟩,⟨(some 56),(some (55,true)),(.faddr 1 (.t 1))⟩,⟨(some 57),(some (55,true)),(.load true 2 (.t 56))⟩,⟨(some 58),(some (55,true)),(.call 72 [(.t 57)])⟩,⟨(some 59),(some (55,true)),(.un .not (.t 58))⟩,⟨some 60,none,.pick (.t 55) (.t 59) (.c (.bool false))⟩,⟨some 61,none,.mv (.t 60)⟩,⟨(some 62),(some (61,false)),(.faddr 0 (.t 1))⟩,⟨(some 63),(some (61,false)),(.load false 1 (.t 62))⟩,⟨(some 64),(some (61,false)),(.bin .neq false (.t 63) (.c (.int .i64 3)))⟩,⟨(some 65),(some (61,false)),(.mv (.t 64))⟩,⟨(some 66),(some (65,true)),(.faddr 1 (.t 1))⟩,⟨(some 67),(some (65,true)),(.load true 2 (.t 66))⟩,⟨(some 68),(some (65,true)),(.call 73 [(.t 67)])⟩,⟨(some 69),(some (65,true)),(.un .not (.t 68))⟩,⟨(some 70),(some (61,false)),(.pick (.t 65) (.t 69) (.c (.bool false)))⟩,⟨some 71,none,.pick (.t 61) (.c (.bool true)) (.t 70)⟩]) (.cond (.t 71) (.seq (.reg [⟨some 2,none,.mv (.c (.bool false))⟩]) .ret) .skip)) (.seq (.reg [⟨some 72,none,.faddr 4 (.t 1)⟩,⟨some 73,none,.load false 1 (.t 72)⟩,⟨some 74,none,.call 51 [(.t 73),(.c (.fn 74 []))]⟩,⟨some 75,none,.un .not (.t 74)⟩,⟨some 2,none,.mv (.t 75)⟩]) .ret))))))
theorem Az:Ap Tryz.prog 49=some ⟨76,Ax,[(.tmp 2)]⟩:=by kernel_rfl
theorem Aw:modes 49=⟨[],.asis,none,false⟩:=by unfold modes; rfl
def Hi:SC:=(.seq (.reg [⟨some 1,none,.boxv 34 5 (.t 0)⟩,⟨some 2,none,.mv (.c (.bool false))⟩]) (.seq (.reg [⟨some 3,none,.load true 5 (.t 1)⟩,⟨some 4,none,.call 49 [(.t 3)]⟩,⟨some 5,none,.un .not (.t 4)⟩,⟨some 2,none,.mv (.t 5)⟩]) .ret))
theorem LU:Ap Tryz.prog 74=some ⟨6,Hi,[(.tmp 2)]⟩:=by kernel_rfl
theorem Hj:modes 74=⟨[],.asis,none,false⟩:=by unfold modes; rfl
theorem LV:HV Tryz.prog 74=true:=by kernel_rfl
def AD:SC:=(.seq (.reg [⟨some 1,none,.boxv 34 5 (.t 0)⟩,⟨some 2,none,.mv (.c (.bool false))⟩]) (.seq (.reg [⟨some 4,none,.faddr 4 (.t 1)⟩,⟨some 5,none,.load false 1 (.t 4)⟩,⟨some 6,none,.len false (.t 5)⟩,⟨some 3,none,.mv (.t 6)⟩]) (.seq (.seq (.reg [⟨some 7,none,.faddr 0 (.t 1)⟩,⟨some 8,none,.load false 1 (.t 7)⟩]) (.block 0 (.seq (.seq (.reg [⟨some 10,none,.bin .eql false (.t 8) (.c (.int .i64 1))⟩,⟨some 9,none,.mv (.t 10)⟩]) (.cond (.t 9) .skip (.reg [⟨some 11,none,.bin .eql false (.t 8) (.c (.int .i64 2))⟩,⟨some 9,none,.mv (.t 11)⟩]))) (.cond (.t 9) (.seq (.reg [⟨some 12,none,.mv (.t 3)⟩,⟨some 13,none,.bin .eql false (.t 12) (.c (.int .i64 0))⟩,⟨some 14,none,.mv (.t 13)⟩,⟨(some 15),(some (14,true)),(.faddr 1 (.t 1))⟩,⟨(some 16),(some (14,true)),(.load true 2 (.t 15))⟩,⟨(some 17),(some (14,true)),(.call 83 [(.t 16)])⟩,⟨some 18,none,.pick (.t 14) (.t 17) (.c (.bool false))⟩,⟨some 19,none,.mv (.t 18)⟩,⟨(some 20),(some (19,true)),(.faddr 3 (.t 1))⟩,⟨(some 21),(some (19,true)),(.load false 1 (.t 20))⟩,⟨(some 22),(some (19,true)),(.bin .eql false (.t 21) (.c (.str ⟨#[]⟩)))⟩,⟨some 23,none,.pick (.t 19) (.t 22) (.c (.bool false))⟩,⟨some 2,none,.mv (.t 23)⟩]) .ret) (.seq (.reg [⟨some 25,none,.bin .eql false (.t 8) (.c (.int .i64 3))⟩,⟨some 24,none,.mv (.t 25)⟩]) (.cond (.t 24) (.seq (.reg [⟨some 26,none,.mv (.t 3)⟩,⟨some 27,none,.bin .eql false (.t 26) (.c (.int .i64 0))⟩,⟨some 28,none,.mv (.t 27)⟩,⟨(some 29),(some (28,true)),(.faddr 1 (.t 1))⟩,⟨(some 30),(some (28,true)),(.load true 2 (.t 29))⟩,⟨(some 31),(some (28,true)),(.call 84 [(.t 30)])⟩,⟨some 32,none,.pick (.t 28) (.t 31) (.c (.bool false))⟩,⟨some 33,none,.mv (.t 32)⟩,⟨(some 34),(some (33,true)),(.faddr 3 (.t 1))⟩,⟨(some 35),(some (33,true)),(.load false 1 (.t 34))⟩,⟨(some 36),(some (33,true)),(.bin .eql false (.t 35) (.c (.str ⟨#[]⟩)))⟩,⟨some 37,none,.pick (.t 33) (.t 36) (.c (.bool false))⟩,⟨some 2,none,.mv (.t 37)⟩]) .ret) (.seq (.reg [⟨some 39,none,.bin .eql false (.t 8) (.c (.int .i64 4))⟩,⟨some 38,none,.mv (.t 39)⟩]) (.cond (.t 38) (.seq (.reg [⟨some 40,none,.mv (.t 3)⟩,⟨some 41,none,.bin .eql false (.t 40) (.c (.int .i64 1))⟩,⟨some 42,none,.mv (.t 41)⟩,⟨(some 43),(some (42,true)),(.faddr 1 (.t 1))⟩,⟨(some 44),(some (42,true)),(.load true 2 (.t 43))⟩,⟨(some 45),(some (42,true)),(.call 83 [(.t 44)])⟩,⟨some 46,none,.pick (.t 42) (.t 45) (.c (.bool false))⟩,⟨some 47,none,.mv (.t 46)⟩,⟨(some 48),(some (47,true)),(.faddr 3 (.t 1))⟩,⟨(some 49),(some (47,true)),(.load false 1 (.t 48))⟩,⟨(some 50),(some (47,true)),(.bin .eql false (.t 49) (.c (.str ⟨#[]⟩)))⟩,⟨some 51,none,.pick (.t 47) (.t 50) (.c (.bool false))⟩,⟨some 2,none,.mv (.t 51)⟩]) .ret) (.seq (.seq (.reg [⟨some 53,none,.bin .eql false (.t 8) (.c (.int .i64 5))⟩,⟨some 52,none,.mv (.t 53)⟩]) (.cond (.t 52) .skip (.seq (.reg [⟨some 54,none,.bin .eql false (.t 8) (.c (.int .i64 6))⟩,⟨some 52,none,.mv (.t 54)⟩]) (.cond (.t 52) .skip (.reg [⟨some 55,none,.bin .eql false (.t 8) (.c (.int .i64 7))⟩,⟨some 52,none,.mv (.t 55)⟩]))))) (.cond (.t 52) (.seq (.reg [⟨some 56,none,.mv (.t 3)⟩,⟨some 57,none,.bin .eql false (.t 56) (.c (.int .i64 2))⟩,⟨some 58,none,.mv (.t 57)⟩,⟨(some 59),(some (58,true)),(.faddr 1 (.t 1))⟩,⟨(some 60),(some (58,true)),(.load true 2 (.t 59))⟩,⟨(some 61),(some (58,true)),(.call 83 [(.t 60)])⟩,⟨some 62,none,.pick (.t 58) (.t 61) (.c (.bool false))⟩,⟨some 63,none,.mv (.t 62)⟩,⟨(some 64),(some (63,true)),(.faddr 3 (.t 1))⟩,⟨(some 65),(some (63,true)),(.load false 1 (.t 64))⟩,⟨(some 66),(some (63,true)),(.bin .eql false (.t 65) (.c (.str ⟨#[]⟩)))⟩,⟨some 67,none,.pick (.t 63) (.t 66) (.c (.bool false))⟩,⟨some 2,none,.mv (.t 67)⟩]) .ret) (.seq (.seq (.reg [⟨some 69,none,.bin .eql false (.t 8) (.c (.int .i64 8))⟩,⟨some 68,none,.mv (.t 69)⟩]) (.cond (.t 68) .skip (.reg [⟨some 70,none,.bin .eql false (.t 8) (.c (.int .i64 9))⟩,⟨some 68,none,.mv (.t 70)⟩]))) (.cond (.t 68) (.seq (.reg [⟨some 71,none,.mv (.t 3)⟩,⟨some 72,none,.bin .eql false (.t 71) (.c (.int .i64 1))⟩,⟨some 73,none,.mv (.t 72)⟩,⟨(some 74),(some (73,true)),(.faddr 1 (.t 1))⟩,⟨(some 75),(some (73,true)),(.load true 2 (.t 74))⟩,⟨(some 76),(some (73,true)),(.call 83 [(.t 75)])⟩,⟨some 77,none,.pick (.t 73) (.t 76) (.c (.bool false))⟩,⟨some 78,none,.mv (.t 77)⟩,⟨(some 79),(some (78,true)),(.faddr 3 (.t 1))⟩,⟨(some 80),(some (78,true)),(.load false 1 (.t 79))⟩,⟨(some 81),(some (78,true)),(.call 68 [(.t 80)])⟩,⟨some 82,none,.pick (.t 78) (.t 81) (.c (.bool false))⟩,⟨some 2,none,.mv (.t 82)⟩]) .ret) .skip)))))))))))) (.seq (.reg [⟨some 2,none,.mv (.c (.bool false))⟩]) .ret))))
theorem AH:Ap Tryz.prog 64=some ⟨83,AD,[(.tmp 2)]⟩:=by kernel_rfl
theorem AB:modes 64=⟨[],.asis,none,false⟩:=by unfold modes; rfl
def FF:SC:=(.seq (.reg [⟨some 1,none,.boxv 34 5 (.t 0)⟩,⟨some 2,none,.mv (.c (.bool false))⟩]) (.seq (.seq (.reg [⟨some 4,none,.load true 5 (.t 1)⟩,⟨some 5,none,.call 64 [(.t 4)]⟩,⟨some 6,none,.un .not (.t 5)⟩]) (.cond (.t 6) (.seq (.reg [⟨some 2,none,.mv (.c (.bool false))⟩]) .ret) .skip)) (.seq (.seq (.reg [⟨some 3,none,.mv (.c (.int .i64 0))⟩]) (.block 0 (.loop [0,1,0,1,0,0,0,0,0,0,0,0,0,0,0,0,0,0,0,0,0] (.seq (.seq (.reg [⟨some 7,none,.mv (.t 3)⟩,⟨some 8,none,.faddr 4 (.t 1)⟩,⟨some 9,none,.load false 1 (.t 8)⟩,⟨some 10,none,.len false (.t 9)⟩,⟨some 11,none,.bin .lss false (.t 7) (.t 10)⟩]) (.cond (.t 11) .skip (.exit 0))) (.seq (.block 1 (.seq (.reg [⟨some 14,none,.faddr 4 (.t 1)⟩,⟨some 15,none,.load false 1 (.t 14)⟩,⟨some 16,none,.mv (.t 3)⟩,⟨some 17,none,.iaddr 5 (.t 15) (.t 16)⟩,⟨some 18,none,.load true 5 (.t 17)⟩,⟨some 19,none,.call 42 [(.t 18)]⟩,⟨some 20,none,.un .not (.t 19)⟩]) (.cond (.t 20) (.seq (.reg [⟨some 2,none,.mv (.c (.bool false))⟩]) .ret) .skip))) (.reg [⟨some 12,none,.mv (.t 3)⟩,⟨some 13,none,.bin .add false (.t 12) (.c (.int .i64 1))⟩,⟨some 3,none,.mv (.t 13)⟩])))))) (.seq (.reg [⟨some 2,none,.mv (.c (.bool true))⟩]) .ret))))
theorem IM:Ap Tryz.prog 42=some ⟨21,FF,[(.tmp 2)]⟩:=by kernel_rfl
theorem C0:modes 42=⟨[],.asis,none,false⟩:=by unfold modes; rfl
def CM:SC:=(.seq (.reg [⟨some 1,none,.boxv 34 5 (.t 0)⟩,⟨some 2,none,.mv (.c (.bool false))⟩]) (.seq (.reg [⟨some 3,none,.load true 5 (.t 1)⟩,⟨some 4,none,.call 48 [(.t 3)]⟩,⟨some 5,none,.bin .leq false (.t 4) (.c (.int .i64 40))⟩,⟨some 6,none,.mv (.t 5)⟩,⟨(some 7),(some (6,true)),(.load true 5 (.t 1))⟩,⟨(some 8),(some (6,true)),(.call 49 [(.t 7)])⟩,⟨some 9,none,.pick (.t 6) (.t 8) (.c (.bool false))⟩,⟨some 2,none,.mv (.t 9)⟩]) .ret))
theorem Ef:Ap Tryz.prog 23=some ⟨10,CM,[(.tmp 2)]⟩:=by kernel_rfl
theorem AN:modes 23=⟨[],.asis,none,false⟩:=by unfold modes; rfl
def GA:SC:=(.seq (.reg [⟨some 1,none,.boxv 34 5 (.t 0)⟩,⟨some 2,none,.mv (.c (.bool false))⟩]) (.seq (.reg [⟨some 3,none,.load true 5 (.t 1)⟩,⟨some 4,none,.call 41 [(.t 3),(.c (.int .i64 40))]⟩,⟨some 5,none,.bin .leq false (.t 4) (.c (.int .i64 40))⟩,⟨some 6,none,.mv (.t 5)⟩,⟨(some 7),(some (6,true)),(.load true 5 (.t 1))⟩,⟨(some 8),(some (6,true)),(.call 42 [(.t 7)])⟩,⟨some 9,none,.pick (.t 6) (.t 8) (.c (.bool false))⟩,⟨some 2,none,.mv (.t 9)⟩]) .ret))
theorem JH:Ap Tryz.prog 16=some ⟨10,GA,[(.tmp 2)]⟩:=by kernel_rfl
theorem BH:modes 16=⟨[],.asis,none,false⟩:=by unfold modes; rfl
theorem C1 (n:Int):E 69 [.int .i64 n] []=some (.bool (dec (n=8) || dec (n=9)),[]):=by
 cases h1:dec (n=8) with
 | true =>
  refine Ai ET Ac (of_decide_eq_true rfl) ?_
  simp (disch:=omega) only [Dp,go_sem,Ab,h1]
 | false =>
  refine Ai ET Ac (of_decide_eq_true rfl) ?_
  simp (disch:=omega) only [Dp,go_sem,Ab,h1]
theorem Ev (n:Int):E 70 [.int .i64 n] []=some (.bool (dec (n=5) || dec (n=6) || dec (n=7)),[]):=by
 cases h1:dec (n=5) <;> cases h2:dec (n=6)
 all_goals
  refine Ai MM Ah (of_decide_eq_true rfl) ?_
  simp (disch:=omega) only [HR,go_sem,Ab,h1,h2]
theorem EZ (x:Tm):E 73 [x.sv] []=some (.bool x.isZ,[]):=by
 unfold Tm.isZ
 have hl:dec ((x.args.length:Int)=0)=(x.args.length == 0):=by
  rw [JS]
  cases x.args <;> simp <;> omega
 cases h1:dec (x.name=⟨#[]⟩) with
 | true =>
  refine Ai Gn Af (of_decide_eq_true rfl) ?_
  simp (disch:=omega) only [DW,go_sem,Ab,h1]
  try rw [hl]
 | false =>
  refine Ai Gn Af (of_decide_eq_true rfl) ?_
  simp (disch:=omega) only [DW,go_sem,Ab,h1]
theorem KX (x:Tm):E 83 [x.sv] []=some (.bool x.isZ,[]):=by
 unfold Tm.isZ
 have hl:dec ((x.args.length:Int)=0)=(x.args.length == 0):=by
  rw [JS]
  cases x.args <;> simp <;> omega
 cases h1:dec (x.name=⟨#[]⟩) with
 | true =>
  refine Ai JG Am (of_decide_eq_true rfl) ?_
  simp (disch:=omega) only [G9,go_sem,Ab,h1]
  try rw [hl]
 | false =>
  refine Ai JG Am (of_decide_eq_true rfl) ?_
  simp (disch:=omega) only [G9,go_sem,Ab,h1]
theorem SI (x:Fm) (hn:x.atom.nodes≤1099511627776) (ho:x.op=1∨x.op=2):E 64 [x.sv] []=some (.bool x.form,[]):=by
 have hf:x.form=(x.parts.length == 0&&x.atom.isZ&&dec (x.var=⟨#[]⟩)):=by unfold Fm.form; rcases ho with ho | ho <;> simp [ho]
 rcases ho with ho | ho
 all_goals
  first
   |(have o1:dec (x.op=1)=true:=Ao ho)
   |(have o1:dec (x.op=1)=false:=Aj (by omega))
  first
   |(have o2:dec (x.op=2)=true:=Ao ho)
   |(have o2:dec (x.op=2)=false:=Aj (by omega))
  have o3:dec (x.op=3)=false:=Aj (by omega)
  have o4:dec (x.op=4)=false:=Aj (by omega)
  have o5:dec (x.op=5)=false:=Aj (by omega)
  have o6:dec (x.op=6)=false:=Aj (by omega)
  have o7:dec (x.op=7)=false:=Aj (by omega)
  have o8:dec (x.op=8)=false:=Aj (by omega)
  have o9:dec (x.op=9)=false:=Aj (by omega)
  have ha:=KX x.atom
  have hv:=E0 x.var
  rw [hf]
  by_cases hl:x.parts.length=0
  ·have hl2:dec ((x.parts.length:Int)=0)=true:=Ao (by omega)
   rw [hl,beq_self_eq_true,zG]
   cases hq:x.atom.isZ with
   | true =>
    rw [hq] at ha
    rw [zG]
    refine Ai AH AB (of_decide_eq_true rfl) ?_
    simp (disch:=omega) only [AD,go_sem,o1,o2,o3,o4,o5,o6,o7,o8,o9,hl2,ha,hv,Ak,Am,Al]
    repeat ((first | (refine A6 ?_ ?_; (focus (simp (disch:=omega) only [go_sem,o1,o2,o3,o4,o5,o6,o7,o8,o9,hl2,ha,hv,Ak,Am,Al]; done))) | (refine A7 ?_ ?_; (focus (simp (disch:=omega) only [go_sem,o1,o2,o3,o4,o5,o6,o7,o8,o9,hl2,ha,hv,Ak,Am,Al]; done)))); (try simp (disch:=omega) only [go_sem,o1,o2,o3,o4,o5,o6,o7,o8,o9,hl2,ha,hv,Ak,Am,Al]))
   | false =>
    rw [hq] at ha
    rw [zC]
    refine Ai AH AB (of_decide_eq_true rfl) ?_
    simp (disch:=omega) only [AD,go_sem,o1,o2,o3,o4,o5,o6,o7,o8,o9,hl2,ha,hv,Ak,Am,Al]
    repeat ((first | (refine A6 ?_ ?_; (focus (simp (disch:=omega) only [go_sem,o1,o2,o3,o4,o5,o6,o7,o8,o9,hl2,ha,hv,Ak,Am,Al]; done))) | (refine A7 ?_ ?_; (focus (simp (disch:=omega) only [go_sem,o1,o2,o3,o4,o5,o6,o7,o8,o9,hl2,ha,hv,Ak,Am,Al]; done)))); (try simp (disch:=omega) only [go_sem,o1,o2,o3,o4,o5,o6,o7,o8,o9,hl2,ha,hv,Ak,Am,Al]))
  ·have hl2:dec ((x.parts.length:Int)=0)=false:=Aj (by omega)
   have hl3:(x.parts.length == 0)=false:=by simpa using hl
   rw [hl3,zC,zC]
   refine Ai AH AB (of_decide_eq_true rfl) ?_
   simp (disch:=omega) only [AD,go_sem,o1,o2,o3,o4,o5,o6,o7,o8,o9,hl2,ha,hv,Ak,Am,Al]
   repeat ((first | (refine A6 ?_ ?_; (focus (simp (disch:=omega) only [go_sem,o1,o2,o3,o4,o5,o6,o7,o8,o9,hl2,ha,hv,Ak,Am,Al]; done))) | (refine A7 ?_ ?_; (focus (simp (disch:=omega) only [go_sem,o1,o2,o3,o4,o5,o6,o7,o8,o9,hl2,ha,hv,Ak,Am,Al]; done)))); (try simp (disch:=omega) only [go_sem,o1,o2,o3,o4,o5,o6,o7,o8,o9,hl2,ha,hv,Ak,Am,Al]))
theorem XK (x:Fm) (hn:x.atom.nodes≤1099511627776) (ho:x.op=3):E 64 [x.sv] []=some (.bool x.form,[]):=by
 have hf:x.form=(x.parts.length == 0&&x.atom.atom&&dec (x.var=⟨#[]⟩)):=by unfold Fm.form; rcases ho with ho <;> simp [ho]
 rcases ho with ho
 all_goals
  have o1:dec (x.op=1)=false:=Aj (by omega)
  have o2:dec (x.op=2)=false:=Aj (by omega)
  have o3:dec (x.op=3)=true:=Ao ho
  have o4:dec (x.op=4)=false:=Aj (by omega)
  have o5:dec (x.op=5)=false:=Aj (by omega)
  have o6:dec (x.op=6)=false:=Aj (by omega)
  have o7:dec (x.op=7)=false:=Aj (by omega)
  have o8:dec (x.op=8)=false:=Aj (by omega)
  have o9:dec (x.op=9)=false:=Aj (by omega)
  have ha:=Xy x.atom (by omega)
  have hv:=E0 x.var
  rw [hf]
  by_cases hl:x.parts.length=0
  ·have hl2:dec ((x.parts.length:Int)=0)=true:=Ao (by omega)
   rw [hl,beq_self_eq_true,zG]
   cases hq:x.atom.atom with
   | true =>
    rw [hq] at ha
    rw [zG]
    refine Ai AH AB (of_decide_eq_true rfl) ?_
    simp (disch:=omega) only [AD,go_sem,o1,o2,o3,o4,o5,o6,o7,o8,o9,hl2,ha,hv,Ak,Am,Al]
    repeat ((first | (refine A6 ?_ ?_; (focus (simp (disch:=omega) only [go_sem,o1,o2,o3,o4,o5,o6,o7,o8,o9,hl2,ha,hv,Ak,Am,Al]; done))) | (refine A7 ?_ ?_; (focus (simp (disch:=omega) only [go_sem,o1,o2,o3,o4,o5,o6,o7,o8,o9,hl2,ha,hv,Ak,Am,Al]; done)))); (try simp (disch:=omega) only [go_sem,o1,o2,o3,o4,o5,o6,o7,o8,o9,hl2,ha,hv,Ak,Am,Al]))
   | false =>
    rw [hq] at ha
    rw [zC]
    refine Ai AH AB (of_decide_eq_true rfl) ?_
    simp (disch:=omega) only [AD,go_sem,o1,o2,o3,o4,o5,o6,o7,o8,o9,hl2,ha,hv,Ak,Am,Al]
    repeat ((first | (refine A6 ?_ ?_; (focus (simp (disch:=omega) only [go_sem,o1,o2,o3,o4,o5,o6,o7,o8,o9,hl2,ha,hv,Ak,Am,Al]; done))) | (refine A7 ?_ ?_; (focus (simp (disch:=omega) only [go_sem,o1,o2,o3,o4,o5,o6,o7,o8,o9,hl2,ha,hv,Ak,Am,Al]; done)))); (try simp (disch:=omega) only [go_sem,o1,o2,o3,o4,o5,o6,o7,o8,o9,hl2,ha,hv,Ak,Am,Al]))
  ·have hl2:dec ((x.parts.length:Int)=0)=false:=Aj (by omega)
   have hl3:(x.parts.length == 0)=false:=by simpa using hl
   rw [hl3,zC,zC]
   refine Ai AH AB (of_decide_eq_true rfl) ?_
   simp (disch:=omega) only [AD,go_sem,o1,o2,o3,o4,o5,o6,o7,o8,o9,hl2,ha,hv,Ak,Am,Al]
   repeat ((first | (refine A6 ?_ ?_; (focus (simp (disch:=omega) only [go_sem,o1,o2,o3,o4,o5,o6,o7,o8,o9,hl2,ha,hv,Ak,Am,Al]; done))) | (refine A7 ?_ ?_; (focus (simp (disch:=omega) only [go_sem,o1,o2,o3,o4,o5,o6,o7,o8,o9,hl2,ha,hv,Ak,Am,Al]; done)))); (try simp (disch:=omega) only [go_sem,o1,o2,o3,o4,o5,o6,o7,o8,o9,hl2,ha,hv,Ak,Am,Al]))
theorem XL (x:Fm) (hn:x.atom.nodes≤1099511627776) (ho:x.op=4):E 64 [x.sv] []=some (.bool x.form,[]):=by
 have hf:x.form=(x.parts.length == 1&&x.atom.isZ&&dec (x.var=⟨#[]⟩)):=by unfold Fm.form; rcases ho with ho <;> simp [ho]
 rcases ho with ho
 all_goals
  have o1:dec (x.op=1)=false:=Aj (by omega)
  have o2:dec (x.op=2)=false:=Aj (by omega)
  have o3:dec (x.op=3)=false:=Aj (by omega)
  have o4:dec (x.op=4)=true:=Ao ho
  have o5:dec (x.op=5)=false:=Aj (by omega)
  have o6:dec (x.op=6)=false:=Aj (by omega)
  have o7:dec (x.op=7)=false:=Aj (by omega)
  have o8:dec (x.op=8)=false:=Aj (by omega)
  have o9:dec (x.op=9)=false:=Aj (by omega)
  have ha:=KX x.atom
  have hv:=E0 x.var
  rw [hf]
  by_cases hl:x.parts.length=1
  ·have hl2:dec ((x.parts.length:Int)=1)=true:=Ao (by omega)
   rw [hl,beq_self_eq_true,zG]
   cases hq:x.atom.isZ with
   | true =>
    rw [hq] at ha
    rw [zG]
    refine Ai AH AB (of_decide_eq_true rfl) ?_
    simp (disch:=omega) only [AD,go_sem,o1,o2,o3,o4,o5,o6,o7,o8,o9,hl2,ha,hv,Ak,Am,Al]
    repeat ((first | (refine A6 ?_ ?_; (focus (simp (disch:=omega) only [go_sem,o1,o2,o3,o4,o5,o6,o7,o8,o9,hl2,ha,hv,Ak,Am,Al]; done))) | (refine A7 ?_ ?_; (focus (simp (disch:=omega) only [go_sem,o1,o2,o3,o4,o5,o6,o7,o8,o9,hl2,ha,hv,Ak,Am,Al]; done)))); (try simp (disch:=omega) only [go_sem,o1,o2,o3,o4,o5,o6,o7,o8,o9,hl2,ha,hv,Ak,Am,Al]))
   | false =>
    rw [hq] at ha
    rw [zC]
    refine Ai AH AB (of_decide_eq_true rfl) ?_
    simp (disch:=omega) only [AD,go_sem,o1,o2,o3,o4,o5,o6,o7,o8,o9,hl2,ha,hv,Ak,Am,Al]
    repeat ((first | (refine A6 ?_ ?_; (focus (simp (disch:=omega) only [go_sem,o1,o2,o3,o4,o5,o6,o7,o8,o9,hl2,ha,hv,Ak,Am,Al]; done))) | (refine A7 ?_ ?_; (focus (simp (disch:=omega) only [go_sem,o1,o2,o3,o4,o5,o6,o7,o8,o9,hl2,ha,hv,Ak,Am,Al]; done)))); (try simp (disch:=omega) only [go_sem,o1,o2,o3,o4,o5,o6,o7,o8,o9,hl2,ha,hv,Ak,Am,Al]))
  ·have hl2:dec ((x.parts.length:Int)=1)=false:=Aj (by omega)
   have hl3:(x.parts.length == 1)=false:=by simpa using hl
   rw [hl3,zC,zC]
   refine Ai AH AB (of_decide_eq_true rfl) ?_
   simp (disch:=omega) only [AD,go_sem,o1,o2,o3,o4,o5,o6,o7,o8,o9,hl2,ha,hv,Ak,Am,Al]
   repeat ((first | (refine A6 ?_ ?_; (focus (simp (disch:=omega) only [go_sem,o1,o2,o3,o4,o5,o6,o7,o8,o9,hl2,ha,hv,Ak,Am,Al]; done))) | (refine A7 ?_ ?_; (focus (simp (disch:=omega) only [go_sem,o1,o2,o3,o4,o5,o6,o7,o8,o9,hl2,ha,hv,Ak,Am,Al]; done)))); (try simp (disch:=omega) only [go_sem,o1,o2,o3,o4,o5,o6,o7,o8,o9,hl2,ha,hv,Ak,Am,Al]))
theorem O3 (x:Fm) (hn:x.atom.nodes≤1099511627776) (ho:x.op=5∨x.op=6∨x.op=7):E 64 [x.sv] []=some (.bool x.form,[]):=by
 have hf:x.form=(x.parts.length == 2&&x.atom.isZ&&dec (x.var=⟨#[]⟩)):=by unfold Fm.form; rcases ho with ho | ho | ho <;> simp [ho]
 rcases ho with ho | ho | ho
 all_goals
  have o1:dec (x.op=1)=false:=Aj (by omega)
  have o2:dec (x.op=2)=false:=Aj (by omega)
  have o3:dec (x.op=3)=false:=Aj (by omega)
  have o4:dec (x.op=4)=false:=Aj (by omega)
  first
   |(have o5:dec (x.op=5)=true:=Ao ho)
   |(have o5:dec (x.op=5)=false:=Aj (by omega))
  first
   |(have o6:dec (x.op=6)=true:=Ao ho)
   |(have o6:dec (x.op=6)=false:=Aj (by omega))
  first
   |(have o7:dec (x.op=7)=true:=Ao ho)
   |(have o7:dec (x.op=7)=false:=Aj (by omega))
  have o8:dec (x.op=8)=false:=Aj (by omega)
  have o9:dec (x.op=9)=false:=Aj (by omega)
  have ha:=KX x.atom
  have hv:=E0 x.var
  rw [hf]
  by_cases hl:x.parts.length=2
  ·have hl2:dec ((x.parts.length:Int)=2)=true:=Ao (by omega)
   rw [hl,beq_self_eq_true,zG]
   cases hq:x.atom.isZ with
   | true =>
    rw [hq] at ha
    rw [zG]
    refine Ai AH AB (of_decide_eq_true rfl) ?_
    simp (disch:=omega) only [AD,go_sem,o1,o2,o3,o4,o5,o6,o7,o8,o9,hl2,ha,hv,Ak,Am,Al]
    repeat ((first | (refine A6 ?_ ?_; (focus (simp (disch:=omega) only [go_sem,o1,o2,o3,o4,o5,o6,o7,o8,o9,hl2,ha,hv,Ak,Am,Al]; done))) | (refine A7 ?_ ?_; (focus (simp (disch:=omega) only [go_sem,o1,o2,o3,o4,o5,o6,o7,o8,o9,hl2,ha,hv,Ak,Am,Al]; done)))); (try simp (disch:=omega) only [go_sem,o1,o2,o3,o4,o5,o6,o7,o8,o9,hl2,ha,hv,Ak,Am,Al]))
   | false =>
    rw [hq] at ha
    rw [zC]
    refine Ai AH AB (of_decide_eq_true rfl) ?_
    simp (disch:=omega) only [AD,go_sem,o1,o2,o3,o4,o5,o6,o7,o8,o9,hl2,ha,hv,Ak,Am,Al]
    repeat ((first | (refine A6 ?_ ?_; (focus (simp (disch:=omega) only [go_sem,o1,o2,o3,o4,o5,o6,o7,o8,o9,hl2,ha,hv,Ak,Am,Al]; done))) | (refine A7 ?_ ?_; (focus (simp (disch:=omega) only [go_sem,o1,o2,o3,o4,o5,o6,o7,o8,o9,hl2,ha,hv,Ak,Am,Al]; done)))); (try simp (disch:=omega) only [go_sem,o1,o2,o3,o4,o5,o6,o7,o8,o9,hl2,ha,hv,Ak,Am,Al]))
  ·have hl2:dec ((x.parts.length:Int)=2)=false:=Aj (by omega)
   have hl3:(x.parts.length == 2)=false:=by simpa using hl
   rw [hl3,zC,zC]
   refine Ai AH AB (of_decide_eq_true rfl) ?_
   simp (disch:=omega) only [AD,go_sem,o1,o2,o3,o4,o5,o6,o7,o8,o9,hl2,ha,hv,Ak,Am,Al]
   repeat ((first | (refine A6 ?_ ?_; (focus (simp (disch:=omega) only [go_sem,o1,o2,o3,o4,o5,o6,o7,o8,o9,hl2,ha,hv,Ak,Am,Al]; done))) | (refine A7 ?_ ?_; (focus (simp (disch:=omega) only [go_sem,o1,o2,o3,o4,o5,o6,o7,o8,o9,hl2,ha,hv,Ak,Am,Al]; done)))); (try simp (disch:=omega) only [go_sem,o1,o2,o3,o4,o5,o6,o7,o8,o9,hl2,ha,hv,Ak,Am,Al]))
theorem SJ (x:Fm) (hn:x.atom.nodes≤1099511627776) (ho:x.op=8∨x.op=9):E 64 [x.sv] []=some (.bool x.form,[]):=by
 have hf:x.form=(x.parts.length == 1&&x.atom.isZ&&Ba x.var):=by unfold Fm.form; rcases ho with ho | ho <;> simp [ho]
 rcases ho with ho | ho
 all_goals
  have o1:dec (x.op=1)=false:=Aj (by omega)
  have o2:dec (x.op=2)=false:=Aj (by omega)
  have o3:dec (x.op=3)=false:=Aj (by omega)
  have o4:dec (x.op=4)=false:=Aj (by omega)
  have o5:dec (x.op=5)=false:=Aj (by omega)
  have o6:dec (x.op=6)=false:=Aj (by omega)
  have o7:dec (x.op=7)=false:=Aj (by omega)
  first
   |(have o8:dec (x.op=8)=true:=Ao ho)
   |(have o8:dec (x.op=8)=false:=Aj (by omega))
  first
   |(have o9:dec (x.op=9)=true:=Ao ho)
   |(have o9:dec (x.op=9)=false:=Aj (by omega))
  have ha:=KX x.atom
  have hv:=E0 x.var
  rw [hf]
  by_cases hl:x.parts.length=1
  ·have hl2:dec ((x.parts.length:Int)=1)=true:=Ao (by omega)
   rw [hl,beq_self_eq_true,zG]
   cases hq:x.atom.isZ with
   | true =>
    rw [hq] at ha
    rw [zG]
    refine Ai AH AB (of_decide_eq_true rfl) ?_
    simp (disch:=omega) only [AD,go_sem,o1,o2,o3,o4,o5,o6,o7,o8,o9,hl2,ha,hv,Ak,Am,Al]
    repeat ((first | (refine A6 ?_ ?_; (focus (simp (disch:=omega) only [go_sem,o1,o2,o3,o4,o5,o6,o7,o8,o9,hl2,ha,hv,Ak,Am,Al]; done))) | (refine A7 ?_ ?_; (focus (simp (disch:=omega) only [go_sem,o1,o2,o3,o4,o5,o6,o7,o8,o9,hl2,ha,hv,Ak,Am,Al]; done)))); (try simp (disch:=omega) only [go_sem,o1,o2,o3,o4,o5,o6,o7,o8,o9,hl2,ha,hv,Ak,Am,Al]))
   | false =>
    rw [hq] at ha
    rw [zC]
    refine Ai AH AB (of_decide_eq_true rfl) ?_
    simp (disch:=omega) only [AD,go_sem,o1,o2,o3,o4,o5,o6,o7,o8,o9,hl2,ha,hv,Ak,Am,Al]
    repeat ((first | (refine A6 ?_ ?_; (focus (simp (disch:=omega) only [go_sem,o1,o2,o3,o4,o5,o6,o7,o8,o9,hl2,ha,hv,Ak,Am,Al]; done))) | (refine A7 ?_ ?_; (focus (simp (disch:=omega) only [go_sem,o1,o2,o3,o4,o5,o6,o7,o8,o9,hl2,ha,hv,Ak,Am,Al]; done)))); (try simp (disch:=omega) only [go_sem,o1,o2,o3,o4,o5,o6,o7,o8,o9,hl2,ha,hv,Ak,Am,Al]))
  ·have hl2:dec ((x.parts.length:Int)=1)=false:=Aj (by omega)
   have hl3:(x.parts.length == 1)=false:=by simpa using hl
   rw [hl3,zC,zC]
   refine Ai AH AB (of_decide_eq_true rfl) ?_
   simp (disch:=omega) only [AD,go_sem,o1,o2,o3,o4,o5,o6,o7,o8,o9,hl2,ha,hv,Ak,Am,Al]
   repeat ((first | (refine A6 ?_ ?_; (focus (simp (disch:=omega) only [go_sem,o1,o2,o3,o4,o5,o6,o7,o8,o9,hl2,ha,hv,Ak,Am,Al]; done))) | (refine A7 ?_ ?_; (focus (simp (disch:=omega) only [go_sem,o1,o2,o3,o4,o5,o6,o7,o8,o9,hl2,ha,hv,Ak,Am,Al]; done)))); (try simp (disch:=omega) only [go_sem,o1,o2,o3,o4,o5,o6,o7,o8,o9,hl2,ha,hv,Ak,Am,Al]))
theorem XM (x:Fm) (hn:x.atom.nodes≤1099511627776):E 64 [x.sv] []=some (.bool x.form,[]):=by
 rcases Sx x.op with h | h | h | h | h | h | h | h | h | h
 ·exact SI x hn (.inl h)
 ·exact SI x hn (.inr h)
 ·exact XK x hn h
 ·exact XL x hn h
 ·exact O3 x hn (.inl h)
 ·exact O3 x hn (.inr (.inl h))
 ·exact O3 x hn (.inr (.inr h))
 ·exact SJ x hn (.inl h)
 ·exact SJ x hn (.inr h)
 ·obtain ⟨h1,h2,h3,h4,h5,h6,h7,h8,h9⟩:=h
  have hf:x.form=false:=by unfold Fm.form; simp [h1,h2,h3,h4,h5,h6,h7,h8,h9]
  have o1:=Aj h1
  have o2:=Aj h2
  have o3:=Aj h3
  have o4:=Aj h4
  have o5:=Aj h5
  have o6:=Aj h6
  have o7:=Aj h7
  have o8:=Aj h8
  have o9:=Aj h9
  rw [hf]
  refine Ai AH AB (of_decide_eq_true rfl) ?_
  simp (disch:=omega) only [AD,go_sem,o1,o2,o3,o4,o5,o6,o7,o8,o9]
  repeat ((first | (refine A6 ?_ ?_; (focus (simp (disch:=omega) only [go_sem,o1,o2,o3,o4,o5,o6,o7,o8,o9]; done))) | (refine A7 ?_ ?_; (focus (simp (disch:=omega) only [go_sem,o1,o2,o3,o4,o5,o6,o7,o8,o9]; done)))); (try simp (disch:=omega) only [go_sem,o1,o2,o3,o4,o5,o6,o7,o8,o9]))
theorem Uw (x:Fm) (ht:x.tame) (hn:x.nodes≤1099511627776) (ih:∀ y∈x.parts,E 42 [y.sv] []=some (.bool y.forms,[])):E 42 [x.sv] []=some (.bool x.forms,[]):=by
 have hl:=Fm.length_le x.parts
 have hx:=Fm.nodes_eq x
 have hf:=XM x (Fm.Vv ht)
 rw [Fm.DO]
 cases hq:x.form with
 | false =>
  rw [hq] at hf
  rw [zC]
  refine Ai IM C0 (of_decide_eq_true rfl) ?_
  simp (disch:=omega) only [FF,go_sem,Ab,hf,AB]
 | true =>
  rw [hq] at hf
  rw [zG]
  refine Ai IM C0 (of_decide_eq_true rfl) ?_
  simp (disch:=omega) only [FF,go_sem,Ab,hf,AB]
  refine go_loop (α:=Int) (fun a=>⟨slots 21 0 [(1,.ptr 0 0),(3,.int .i64 a)],[.box 34 [.int .i64 x.op,.str x.atom.name,.arr (x.atom.args.map Tm.d),.str x.var,.arr (x.parts.map Fm.d)]]⟩) (fun a=>∃ k:Nat,a=k∧k≤(x.parts).length∧Fm.J3 (x.parts.drop k)=Fm.J3 x.parts) (fun a=>(x.parts).length-(a).toNat) 0 ⟨0,rfl,zH _,by rw [zE]⟩ (by simp (disch:=omega) only [go_sem,Ab]) ?_
  rintro i ⟨k,hi,hk,hR⟩
  have hni:i.toNat=k:=by omega
  have hni1:(i+1).toNat=k+1:=by omega
  rcases zB k (x.parts).length with hlt | hge
  ·have hg:=get_at Fm.d hlt
   rw [Fm.d_eq] at hg
   have hc:=ih x.parts[k] (zF hlt)
   rw [zA hlt,Fm.J3] at hR
   cases hp:x.parts[k].forms with
   | true =>
    rw [hp] at hc hR
    rw [zG] at hR
    simp (disch:=omega) only [go_sem,Ab,hni,hg,hc,C0]
    exact ⟨i+1,⟨k+1,by omega,hlt,hR⟩,by omega,by first | trivial | rfl⟩
   | false =>
    rw [hp] at hc hR
    rw [zC] at hR
    simp (disch:=omega) only [go_sem,Ab,hni,hg,hc,C0]
    exact hR
  ·rw [zD hge,Fm.J3] at hR
   simp (disch:=omega) only [go_sem,Ab,hni]
   exact hR
theorem Qh (x:Fm) (ht:x.tame) (hn:x.nodes≤1099511627776):E 42 [x.sv] []=some (.bool x.forms,[]) :=
 Uw x ht hn fun y hy=>Qh y (Fm.PX ht hy) (by have:=Fm.nodes_mem hy; have:=Fm.nodes_eq x; omega)
termination_by SizeOf.sizeOf x
decreasing_by exact Fm.lt_of_mem hy
theorem Qi (x:Fm) (hn:x.atom.nodes≤1099511627776) (hl0:x.parts.length≤1099511627776) (ho:x.op=1∨x.op=2) (h2:E 51 [.arr (x.parts.map Fm.d),.fn 74 []] []=some (.bool (x.parts.any fun y=>!y.forms),[])):E 49 [x.sv] []=some (.bool x.forms,[]):=by
 have hf:x.form=(x.parts.length == 0&&x.atom.isZ&&dec (x.var=⟨#[]⟩)):=by unfold Fm.form; rcases ho with ho | ho <;> simp [ho]
 rcases ho with ho | ho
 all_goals
  first
   |(have o1:dec (x.op=1)=true:=Ao ho)
   |(have o1:dec (x.op=1)=false:=Aj (by omega))
  first
   |(have o2:dec (x.op=2)=true:=Ao ho)
   |(have o2:dec (x.op=2)=false:=Aj (by omega))
  have o3:dec (x.op=3)=false:=Aj (by omega)
  have o4:dec (x.op=4)=false:=Aj (by omega)
  have o5:dec (x.op=5)=false:=Aj (by omega)
  have o6:dec (x.op=6)=false:=Aj (by omega)
  have o7:dec (x.op=7)=false:=Aj (by omega)
  have o8:dec (x.op=8)=false:=Aj (by omega)
  have o9:dec (x.op=9)=false:=Aj (by omega)
  have ha:=EZ x.atom
  have hv:=C9 x.var
  have hb:=Ev x.op
  have hu:=C1 x.op
  rw [o5,o6,o7] at hb
  rw [o8,o9] at hu
  rw [Fm.DO,hf,← Fm.any_not]
  by_cases hl:x.parts.length=0
  ·have hl2:dec ((x.parts.length:Int)=0)=true:=Ao (by omega)
   rw [hl,beq_self_eq_true,zG]
   cases hw:dec (x.var=⟨#[]⟩) with
   | false =>
    try rw [hw] at hv
    rw [yA,zC]
    refine Ai Az Aw (of_decide_eq_true rfl) ?_
    simp (disch:=omega) only [Ax,go_sem,o1,o2,o3,o4,o5,o6,o7,o8,o9,hl2,ha,hv,hb,hu,hw,h2,Ad,Af,Ae,Ac,Ah,Aa]
    repeat ((first | (refine A6 ?_ ?_; (focus (simp (disch:=omega) only [go_sem,o1,o2,o3,o4,o5,o6,o7,o8,o9,hl2,ha,hv,hb,hu,hw,h2,Ad,Af,Ae,Ac,Ah,Aa]; done))) | (refine A7 ?_ ?_; (focus (simp (disch:=omega) only [go_sem,o1,o2,o3,o4,o5,o6,o7,o8,o9,hl2,ha,hv,hb,hu,hw,h2,Ad,Af,Ae,Ac,Ah,Aa]; done)))); (try simp (disch:=omega) only [go_sem,o1,o2,o3,o4,o5,o6,o7,o8,o9,hl2,ha,hv,hb,hu,hw,h2,Ad,Af,Ae,Ac,Ah,Aa]))
   | true =>
    try rw [hw] at hv
    rw [yM]
    cases hq:x.atom.isZ with
    | true =>
     rw [hq] at ha
     rw [zG]
     refine Ai Az Aw (of_decide_eq_true rfl) ?_
     simp (disch:=omega) only [Ax,go_sem,o1,o2,o3,o4,o5,o6,o7,o8,o9,hl2,ha,hv,hb,hu,hw,h2,Ad,Af,Ae,Ac,Ah,Aa]
     repeat ((first | (refine A6 ?_ ?_; (focus (simp (disch:=omega) only [go_sem,o1,o2,o3,o4,o5,o6,o7,o8,o9,hl2,ha,hv,hb,hu,hw,h2,Ad,Af,Ae,Ac,Ah,Aa]; done))) | (refine A7 ?_ ?_; (focus (simp (disch:=omega) only [go_sem,o1,o2,o3,o4,o5,o6,o7,o8,o9,hl2,ha,hv,hb,hu,hw,h2,Ad,Af,Ae,Ac,Ah,Aa]; done)))); (try simp (disch:=omega) only [go_sem,o1,o2,o3,o4,o5,o6,o7,o8,o9,hl2,ha,hv,hb,hu,hw,h2,Ad,Af,Ae,Ac,Ah,Aa]))
    | false =>
     rw [hq] at ha
     rw [zC]
     refine Ai Az Aw (of_decide_eq_true rfl) ?_
     simp (disch:=omega) only [Ax,go_sem,o1,o2,o3,o4,o5,o6,o7,o8,o9,hl2,ha,hv,hb,hu,hw,h2,Ad,Af,Ae,Ac,Ah,Aa]
     repeat ((first | (refine A6 ?_ ?_; (focus (simp (disch:=omega) only [go_sem,o1,o2,o3,o4,o5,o6,o7,o8,o9,hl2,ha,hv,hb,hu,hw,h2,Ad,Af,Ae,Ac,Ah,Aa]; done))) | (refine A7 ?_ ?_; (focus (simp (disch:=omega) only [go_sem,o1,o2,o3,o4,o5,o6,o7,o8,o9,hl2,ha,hv,hb,hu,hw,h2,Ad,Af,Ae,Ac,Ah,Aa]; done)))); (try simp (disch:=omega) only [go_sem,o1,o2,o3,o4,o5,o6,o7,o8,o9,hl2,ha,hv,hb,hu,hw,h2,Ad,Af,Ae,Ac,Ah,Aa]))
  ·have hl2:dec ((x.parts.length:Int)=0)=false:=Aj (by omega)
   have hl3:(x.parts.length == 0)=false:=by simpa using hl
   rw [hl3,zC,zC,zC]
   refine Ai Az Aw (of_decide_eq_true rfl) ?_
   simp (disch:=omega) only [Ax,go_sem,o1,o2,o3,o4,o5,o6,o7,o8,o9,hl2,ha,hv,hb,hu, h2,Ad,Af,Ae,Ac,Ah,Aa]
   repeat ((first | (refine A6 ?_ ?_; (focus (simp (disch:=omega) only [go_sem,o1,o2,o3,o4,o5,o6,o7,o8,o9,hl2,ha,hv,hb,hu, h2,Ad,Af,Ae,Ac,Ah,Aa]; done))) | (refine A7 ?_ ?_; (focus (simp (disch:=omega) only [go_sem,o1,o2,o3,o4,o5,o6,o7,o8,o9,hl2,ha,hv,hb,hu, h2,Ad,Af,Ae,Ac,Ah,Aa]; done)))); (try simp (disch:=omega) only [go_sem,o1,o2,o3,o4,o5,o6,o7,o8,o9,hl2,ha,hv,hb,hu, h2,Ad,Af,Ae,Ac,Ah,Aa]))
theorem Wt (x:Fm) (hn:x.atom.nodes≤1099511627776) (hl0:x.parts.length≤1099511627776) (ho:x.op=3) (h2:E 51 [.arr (x.parts.map Fm.d),.fn 74 []] []=some (.bool (x.parts.any fun y=>!y.forms),[])):E 49 [x.sv] []=some (.bool x.forms,[]):=by
 have hf:x.form=(x.parts.length == 0&&x.atom.atom&&dec (x.var=⟨#[]⟩)):=by unfold Fm.form; rcases ho with ho <;> simp [ho]
 rcases ho with ho
 all_goals
  have o1:dec (x.op=1)=false:=Aj (by omega)
  have o2:dec (x.op=2)=false:=Aj (by omega)
  have o3:dec (x.op=3)=true:=Ao ho
  have o4:dec (x.op=4)=false:=Aj (by omega)
  have o5:dec (x.op=5)=false:=Aj (by omega)
  have o6:dec (x.op=6)=false:=Aj (by omega)
  have o7:dec (x.op=7)=false:=Aj (by omega)
  have o8:dec (x.op=8)=false:=Aj (by omega)
  have o9:dec (x.op=9)=false:=Aj (by omega)
  have ha:=Pc x.atom (by omega)
  have hv:=C9 x.var
  have hb:=Ev x.op
  have hu:=C1 x.op
  rw [o5,o6,o7] at hb
  rw [o8,o9] at hu
  rw [Fm.DO,hf,← Fm.any_not]
  by_cases hl:x.parts.length=0
  ·have hl2:dec ((x.parts.length:Int)=0)=true:=Ao (by omega)
   rw [hl,beq_self_eq_true,zG]
   cases hw:dec (x.var=⟨#[]⟩) with
   | false =>
    try rw [hw] at hv
    rw [yA,zC]
    refine Ai Az Aw (of_decide_eq_true rfl) ?_
    simp (disch:=omega) only [Ax,go_sem,o1,o2,o3,o4,o5,o6,o7,o8,o9,hl2,ha,hv,hb,hu,hw,h2,Ad,Af,Ae,Ac,Ah,Aa]
    repeat ((first | (refine A6 ?_ ?_; (focus (simp (disch:=omega) only [go_sem,o1,o2,o3,o4,o5,o6,o7,o8,o9,hl2,ha,hv,hb,hu,hw,h2,Ad,Af,Ae,Ac,Ah,Aa]; done))) | (refine A7 ?_ ?_; (focus (simp (disch:=omega) only [go_sem,o1,o2,o3,o4,o5,o6,o7,o8,o9,hl2,ha,hv,hb,hu,hw,h2,Ad,Af,Ae,Ac,Ah,Aa]; done)))); (try simp (disch:=omega) only [go_sem,o1,o2,o3,o4,o5,o6,o7,o8,o9,hl2,ha,hv,hb,hu,hw,h2,Ad,Af,Ae,Ac,Ah,Aa]))
   | true =>
    try rw [hw] at hv
    rw [yM]
    cases hq:x.atom.atom with
    | true =>
     rw [hq] at ha
     rw [zG]
     refine Ai Az Aw (of_decide_eq_true rfl) ?_
     simp (disch:=omega) only [Ax,go_sem,o1,o2,o3,o4,o5,o6,o7,o8,o9,hl2,ha,hv,hb,hu,hw,h2,Ad,Af,Ae,Ac,Ah,Aa]
     repeat ((first | (refine A6 ?_ ?_; (focus (simp (disch:=omega) only [go_sem,o1,o2,o3,o4,o5,o6,o7,o8,o9,hl2,ha,hv,hb,hu,hw,h2,Ad,Af,Ae,Ac,Ah,Aa]; done))) | (refine A7 ?_ ?_; (focus (simp (disch:=omega) only [go_sem,o1,o2,o3,o4,o5,o6,o7,o8,o9,hl2,ha,hv,hb,hu,hw,h2,Ad,Af,Ae,Ac,Ah,Aa]; done)))); (try simp (disch:=omega) only [go_sem,o1,o2,o3,o4,o5,o6,o7,o8,o9,hl2,ha,hv,hb,hu,hw,h2,Ad,Af,Ae,Ac,Ah,Aa]))
    | false =>
     rw [hq] at ha
     rw [zC]
     refine Ai Az Aw (of_decide_eq_true rfl) ?_
     simp (disch:=omega) only [Ax,go_sem,o1,o2,o3,o4,o5,o6,o7,o8,o9,hl2,ha,hv,hb,hu,hw,h2,Ad,Af,Ae,Ac,Ah,Aa]
     repeat ((first | (refine A6 ?_ ?_; (focus (simp (disch:=omega) only [go_sem,o1,o2,o3,o4,o5,o6,o7,o8,o9,hl2,ha,hv,hb,hu,hw,h2,Ad,Af,Ae,Ac,Ah,Aa]; done))) | (refine A7 ?_ ?_; (focus (simp (disch:=omega) only [go_sem,o1,o2,o3,o4,o5,o6,o7,o8,o9,hl2,ha,hv,hb,hu,hw,h2,Ad,Af,Ae,Ac,Ah,Aa]; done)))); (try simp (disch:=omega) only [go_sem,o1,o2,o3,o4,o5,o6,o7,o8,o9,hl2,ha,hv,hb,hu,hw,h2,Ad,Af,Ae,Ac,Ah,Aa]))
  ·have hl2:dec ((x.parts.length:Int)=0)=false:=Aj (by omega)
   have hl3:(x.parts.length == 0)=false:=by simpa using hl
   rw [hl3,zC,zC,zC]
   refine Ai Az Aw (of_decide_eq_true rfl) ?_
   simp (disch:=omega) only [Ax,go_sem,o1,o2,o3,o4,o5,o6,o7,o8,o9,hl2,ha,hv,hb,hu, h2,Ad,Af,Ae,Ac,Ah,Aa]
   repeat ((first | (refine A6 ?_ ?_; (focus (simp (disch:=omega) only [go_sem,o1,o2,o3,o4,o5,o6,o7,o8,o9,hl2,ha,hv,hb,hu, h2,Ad,Af,Ae,Ac,Ah,Aa]; done))) | (refine A7 ?_ ?_; (focus (simp (disch:=omega) only [go_sem,o1,o2,o3,o4,o5,o6,o7,o8,o9,hl2,ha,hv,hb,hu, h2,Ad,Af,Ae,Ac,Ah,Aa]; done)))); (try simp (disch:=omega) only [go_sem,o1,o2,o3,o4,o5,o6,o7,o8,o9,hl2,ha,hv,hb,hu, h2,Ad,Af,Ae,Ac,Ah,Aa]))
theorem Wu (x:Fm) (hn:x.atom.nodes≤1099511627776) (hl0:x.parts.length≤1099511627776) (ho:x.op=4) (h2:E 51 [.arr (x.parts.map Fm.d),.fn 74 []] []=some (.bool (x.parts.any fun y=>!y.forms),[])):E 49 [x.sv] []=some (.bool x.forms,[]):=by
 have hf:x.form=(x.parts.length == 1&&x.atom.isZ&&dec (x.var=⟨#[]⟩)):=by unfold Fm.form; rcases ho with ho <;> simp [ho]
 rcases ho with ho
 all_goals
  have o1:dec (x.op=1)=false:=Aj (by omega)
  have o2:dec (x.op=2)=false:=Aj (by omega)
  have o3:dec (x.op=3)=false:=Aj (by omega)
  have o4:dec (x.op=4)=true:=Ao ho
  have o5:dec (x.op=5)=false:=Aj (by omega)
  have o6:dec (x.op=6)=false:=Aj (by omega)
  have o7:dec (x.op=7)=false:=Aj (by omega)
  have o8:dec (x.op=8)=false:=Aj (by omega)
  have o9:dec (x.op=9)=false:=Aj (by omega)
  have ha:=EZ x.atom
  have hv:=C9 x.var
  have hb:=Ev x.op
  have hu:=C1 x.op
  rw [o5,o6,o7] at hb
  rw [o8,o9] at hu
  rw [Fm.DO,hf,← Fm.any_not]
  by_cases hl:x.parts.length=1
  ·have hl2:dec ((x.parts.length:Int)=1)=true:=Ao (by omega)
   rw [hl,beq_self_eq_true,zG]
   cases hw:dec (x.var=⟨#[]⟩) with
   | false =>
    try rw [hw] at hv
    rw [yA,zC]
    refine Ai Az Aw (of_decide_eq_true rfl) ?_
    simp (disch:=omega) only [Ax,go_sem,o1,o2,o3,o4,o5,o6,o7,o8,o9,hl2,ha,hv,hb,hu,hw,h2,Ad,Af,Ae,Ac,Ah,Aa]
    repeat ((first | (refine A6 ?_ ?_; (focus (simp (disch:=omega) only [go_sem,o1,o2,o3,o4,o5,o6,o7,o8,o9,hl2,ha,hv,hb,hu,hw,h2,Ad,Af,Ae,Ac,Ah,Aa]; done))) | (refine A7 ?_ ?_; (focus (simp (disch:=omega) only [go_sem,o1,o2,o3,o4,o5,o6,o7,o8,o9,hl2,ha,hv,hb,hu,hw,h2,Ad,Af,Ae,Ac,Ah,Aa]; done)))); (try simp (disch:=omega) only [go_sem,o1,o2,o3,o4,o5,o6,o7,o8,o9,hl2,ha,hv,hb,hu,hw,h2,Ad,Af,Ae,Ac,Ah,Aa]))
   | true =>
    try rw [hw] at hv
    rw [yM]
    cases hq:x.atom.isZ with
    | true =>
     rw [hq] at ha
     rw [zG]
     refine Ai Az Aw (of_decide_eq_true rfl) ?_
     simp (disch:=omega) only [Ax,go_sem,o1,o2,o3,o4,o5,o6,o7,o8,o9,hl2,ha,hv,hb,hu,hw,h2,Ad,Af,Ae,Ac,Ah,Aa]
     repeat ((first | (refine A6 ?_ ?_; (focus (simp (disch:=omega) only [go_sem,o1,o2,o3,o4,o5,o6,o7,o8,o9,hl2,ha,hv,hb,hu,hw,h2,Ad,Af,Ae,Ac,Ah,Aa]; done))) | (refine A7 ?_ ?_; (focus (simp (disch:=omega) only [go_sem,o1,o2,o3,o4,o5,o6,o7,o8,o9,hl2,ha,hv,hb,hu,hw,h2,Ad,Af,Ae,Ac,Ah,Aa]; done)))); (try simp (disch:=omega) only [go_sem,o1,o2,o3,o4,o5,o6,o7,o8,o9,hl2,ha,hv,hb,hu,hw,h2,Ad,Af,Ae,Ac,Ah,Aa]))
    | false =>
     rw [hq] at ha
     rw [zC]
     refine Ai Az Aw (of_decide_eq_true rfl) ?_
     simp (disch:=omega) only [Ax,go_sem,o1,o2,o3,o4,o5,o6,o7,o8,o9,hl2,ha,hv,hb,hu,hw,h2,Ad,Af,Ae,Ac,Ah,Aa]
     repeat ((first | (refine A6 ?_ ?_; (focus (simp (disch:=omega) only [go_sem,o1,o2,o3,o4,o5,o6,o7,o8,o9,hl2,ha,hv,hb,hu,hw,h2,Ad,Af,Ae,Ac,Ah,Aa]; done))) | (refine A7 ?_ ?_; (focus (simp (disch:=omega) only [go_sem,o1,o2,o3,o4,o5,o6,o7,o8,o9,hl2,ha,hv,hb,hu,hw,h2,Ad,Af,Ae,Ac,Ah,Aa]; done)))); (try simp (disch:=omega) only [go_sem,o1,o2,o3,o4,o5,o6,o7,o8,o9,hl2,ha,hv,hb,hu,hw,h2,Ad,Af,Ae,Ac,Ah,Aa]))
  ·have hl2:dec ((x.parts.length:Int)=1)=false:=Aj (by omega)
   have hl3:(x.parts.length == 1)=false:=by simpa using hl
   rw [hl3,zC,zC,zC]
   refine Ai Az Aw (of_decide_eq_true rfl) ?_
   simp (disch:=omega) only [Ax,go_sem,o1,o2,o3,o4,o5,o6,o7,o8,o9,hl2,ha,hv,hb,hu, h2,Ad,Af,Ae,Ac,Ah,Aa]
   repeat ((first | (refine A6 ?_ ?_; (focus (simp (disch:=omega) only [go_sem,o1,o2,o3,o4,o5,o6,o7,o8,o9,hl2,ha,hv,hb,hu, h2,Ad,Af,Ae,Ac,Ah,Aa]; done))) | (refine A7 ?_ ?_; (focus (simp (disch:=omega) only [go_sem,o1,o2,o3,o4,o5,o6,o7,o8,o9,hl2,ha,hv,hb,hu, h2,Ad,Af,Ae,Ac,Ah,Aa]; done)))); (try simp (disch:=omega) only [go_sem,o1,o2,o3,o4,o5,o6,o7,o8,o9,hl2,ha,hv,hb,hu, h2,Ad,Af,Ae,Ac,Ah,Aa]))
theorem LW (x:Fm) (hn:x.atom.nodes≤1099511627776) (hl0:x.parts.length≤1099511627776) (ho:x.op=5∨x.op=6∨x.op=7) (h2:E 51 [.arr (x.parts.map Fm.d),.fn 74 []] []=some (.bool (x.parts.any fun y=>!y.forms),[])):E 49 [x.sv] []=some (.bool x.forms,[]):=by
 have hf:x.form=(x.parts.length == 2&&x.atom.isZ&&dec (x.var=⟨#[]⟩)):=by unfold Fm.form; rcases ho with ho | ho | ho <;> simp [ho]
 rcases ho with ho | ho | ho
 all_goals
  have o1:dec (x.op=1)=false:=Aj (by omega)
  have o2:dec (x.op=2)=false:=Aj (by omega)
  have o3:dec (x.op=3)=false:=Aj (by omega)
  have o4:dec (x.op=4)=false:=Aj (by omega)
  first
   |(have o5:dec (x.op=5)=true:=Ao ho)
   |(have o5:dec (x.op=5)=false:=Aj (by omega))
  first
   |(have o6:dec (x.op=6)=true:=Ao ho)
   |(have o6:dec (x.op=6)=false:=Aj (by omega))
  first
   |(have o7:dec (x.op=7)=true:=Ao ho)
   |(have o7:dec (x.op=7)=false:=Aj (by omega))
  have o8:dec (x.op=8)=false:=Aj (by omega)
  have o9:dec (x.op=9)=false:=Aj (by omega)
  have ha:=EZ x.atom
  have hv:=C9 x.var
  have hb:=Ev x.op
  have hu:=C1 x.op
  rw [o5,o6,o7] at hb
  rw [o8,o9] at hu
  rw [Fm.DO,hf,← Fm.any_not]
  by_cases hl:x.parts.length=2
  ·have hl2:dec ((x.parts.length:Int)=2)=true:=Ao (by omega)
   rw [hl,beq_self_eq_true,zG]
   cases hw:dec (x.var=⟨#[]⟩) with
   | false =>
    try rw [hw] at hv
    rw [yA,zC]
    refine Ai Az Aw (of_decide_eq_true rfl) ?_
    simp (disch:=omega) only [Ax,go_sem,o1,o2,o3,o4,o5,o6,o7,o8,o9,hl2,ha,hv,hb,hu,hw,h2,Ad,Af,Ae,Ac,Ah,Aa]
    repeat ((first | (refine A6 ?_ ?_; (focus (simp (disch:=omega) only [go_sem,o1,o2,o3,o4,o5,o6,o7,o8,o9,hl2,ha,hv,hb,hu,hw,h2,Ad,Af,Ae,Ac,Ah,Aa]; done))) | (refine A7 ?_ ?_; (focus (simp (disch:=omega) only [go_sem,o1,o2,o3,o4,o5,o6,o7,o8,o9,hl2,ha,hv,hb,hu,hw,h2,Ad,Af,Ae,Ac,Ah,Aa]; done)))); (try simp (disch:=omega) only [go_sem,o1,o2,o3,o4,o5,o6,o7,o8,o9,hl2,ha,hv,hb,hu,hw,h2,Ad,Af,Ae,Ac,Ah,Aa]))
   | true =>
    try rw [hw] at hv
    rw [yM]
    cases hq:x.atom.isZ with
    | true =>
     rw [hq] at ha
     rw [zG]
     refine Ai Az Aw (of_decide_eq_true rfl) ?_
     simp (disch:=omega) only [Ax,go_sem,o1,o2,o3,o4,o5,o6,o7,o8,o9,hl2,ha,hv,hb,hu,hw,h2,Ad,Af,Ae,Ac,Ah,Aa]
     repeat ((first | (refine A6 ?_ ?_; (focus (simp (disch:=omega) only [go_sem,o1,o2,o3,o4,o5,o6,o7,o8,o9,hl2,ha,hv,hb,hu,hw,h2,Ad,Af,Ae,Ac,Ah,Aa]; done))) | (refine A7 ?_ ?_; (focus (simp (disch:=omega) only [go_sem,o1,o2,o3,o4,o5,o6,o7,o8,o9,hl2,ha,hv,hb,hu,hw,h2,Ad,Af,Ae,Ac,Ah,Aa]; done)))); (try simp (disch:=omega) only [go_sem,o1,o2,o3,o4,o5,o6,o7,o8,o9,hl2,ha,hv,hb,hu,hw,h2,Ad,Af,Ae,Ac,Ah,Aa]))
    | false =>
     rw [hq] at ha
     rw [zC]
     refine Ai Az Aw (of_decide_eq_true rfl) ?_
     simp (disch:=omega) only [Ax,go_sem,o1,o2,o3,o4,o5,o6,o7,o8,o9,hl2,ha,hv,hb,hu,hw,h2,Ad,Af,Ae,Ac,Ah,Aa]
     repeat ((first | (refine A6 ?_ ?_; (focus (simp (disch:=omega) only [go_sem,o1,o2,o3,o4,o5,o6,o7,o8,o9,hl2,ha,hv,hb,hu,hw,h2,Ad,Af,Ae,Ac,Ah,Aa]; done))) | (refine A7 ?_ ?_; (focus (simp (disch:=omega) only [go_sem,o1,o2,o3,o4,o5,o6,o7,o8,o9,hl2,ha,hv,hb,hu,hw,h2,Ad,Af,Ae,Ac,Ah,Aa]; done)))); (try simp (disch:=omega) only [go_sem,o1,o2,o3,o4,o5,o6,o7,o8,o9,hl2,ha,hv,hb,hu,hw,h2,Ad,Af,Ae,Ac,Ah,Aa]))
  ·have hl2:dec ((x.parts.length:Int)=2)=false:=Aj (by omega)
   have hl3:(x.parts.length == 2)=false:=by simpa using hl
   rw [hl3,zC,zC,zC]
   refine Ai Az Aw (of_decide_eq_true rfl) ?_
   simp (disch:=omega) only [Ax,go_sem,o1,o2,o3,o4,o5,o6,o7,o8,o9,hl2,ha,hv,hb,hu, h2,Ad,Af,Ae,Ac,Ah,Aa]
   repeat ((first | (refine A6 ?_ ?_; (focus (simp (disch:=omega) only [go_sem,o1,o2,o3,o4,o5,o6,o7,o8,o9,hl2,ha,hv,hb,hu, h2,Ad,Af,Ae,Ac,Ah,Aa]; done))) | (refine A7 ?_ ?_; (focus (simp (disch:=omega) only [go_sem,o1,o2,o3,o4,o5,o6,o7,o8,o9,hl2,ha,hv,hb,hu, h2,Ad,Af,Ae,Ac,Ah,Aa]; done)))); (try simp (disch:=omega) only [go_sem,o1,o2,o3,o4,o5,o6,o7,o8,o9,hl2,ha,hv,hb,hu, h2,Ad,Af,Ae,Ac,Ah,Aa]))
theorem Qj (x:Fm) (hn:x.atom.nodes≤1099511627776) (hl0:x.parts.length≤1099511627776) (ho:x.op=8∨x.op=9) (h2:E 51 [.arr (x.parts.map Fm.d),.fn 74 []] []=some (.bool (x.parts.any fun y=>!y.forms),[])):E 49 [x.sv] []=some (.bool x.forms,[]):=by
 have hf:x.form=(x.parts.length == 1&&x.atom.isZ&&Ba x.var):=by unfold Fm.form; rcases ho with ho | ho <;> simp [ho]
 rcases ho with ho | ho
 all_goals
  have o1:dec (x.op=1)=false:=Aj (by omega)
  have o2:dec (x.op=2)=false:=Aj (by omega)
  have o3:dec (x.op=3)=false:=Aj (by omega)
  have o4:dec (x.op=4)=false:=Aj (by omega)
  have o5:dec (x.op=5)=false:=Aj (by omega)
  have o6:dec (x.op=6)=false:=Aj (by omega)
  have o7:dec (x.op=7)=false:=Aj (by omega)
  first
   |(have o8:dec (x.op=8)=true:=Ao ho)
   |(have o8:dec (x.op=8)=false:=Aj (by omega))
  first
   |(have o9:dec (x.op=9)=true:=Ao ho)
   |(have o9:dec (x.op=9)=false:=Aj (by omega))
  have ha:=EZ x.atom
  have hv:=C9 x.var
  have hb:=Ev x.op
  have hu:=C1 x.op
  rw [o5,o6,o7] at hb
  rw [o8,o9] at hu
  rw [Fm.DO,hf,← Fm.any_not]
  by_cases hl:x.parts.length=1
  ·have hl2:dec ((x.parts.length:Int)=1)=true:=Ao (by omega)
   rw [hl,beq_self_eq_true,zG]
   cases hw:Ba x.var with
   | false =>
    try rw [hw] at hv
    rw [yA,zC]
    refine Ai Az Aw (of_decide_eq_true rfl) ?_
    simp (disch:=omega) only [Ax,go_sem,o1,o2,o3,o4,o5,o6,o7,o8,o9,hl2,ha,hv,hb,hu, h2,Ad,Af,Ae,Ac,Ah,Aa]
    repeat ((first | (refine A6 ?_ ?_; (focus (simp (disch:=omega) only [go_sem,o1,o2,o3,o4,o5,o6,o7,o8,o9,hl2,ha,hv,hb,hu, h2,Ad,Af,Ae,Ac,Ah,Aa]; done))) | (refine A7 ?_ ?_; (focus (simp (disch:=omega) only [go_sem,o1,o2,o3,o4,o5,o6,o7,o8,o9,hl2,ha,hv,hb,hu, h2,Ad,Af,Ae,Ac,Ah,Aa]; done)))); (try simp (disch:=omega) only [go_sem,o1,o2,o3,o4,o5,o6,o7,o8,o9,hl2,ha,hv,hb,hu, h2,Ad,Af,Ae,Ac,Ah,Aa]))
   | true =>
    try rw [hw] at hv
    rw [yM]
    cases hq:x.atom.isZ with
    | true =>
     rw [hq] at ha
     rw [zG]
     refine Ai Az Aw (of_decide_eq_true rfl) ?_
     simp (disch:=omega) only [Ax,go_sem,o1,o2,o3,o4,o5,o6,o7,o8,o9,hl2,ha,hv,hb,hu, h2,Ad,Af,Ae,Ac,Ah,Aa]
     repeat ((first | (refine A6 ?_ ?_; (focus (simp (disch:=omega) only [go_sem,o1,o2,o3,o4,o5,o6,o7,o8,o9,hl2,ha,hv,hb,hu, h2,Ad,Af,Ae,Ac,Ah,Aa]; done))) | (refine A7 ?_ ?_; (focus (simp (disch:=omega) only [go_sem,o1,o2,o3,o4,o5,o6,o7,o8,o9,hl2,ha,hv,hb,hu, h2,Ad,Af,Ae,Ac,Ah,Aa]; done)))); (try simp (disch:=omega) only [go_sem,o1,o2,o3,o4,o5,o6,o7,o8,o9,hl2,ha,hv,hb,hu, h2,Ad,Af,Ae,Ac,Ah,Aa]))
    | false =>
     rw [hq] at ha
     rw [zC]
     refine Ai Az Aw (of_decide_eq_true rfl) ?_
     simp (disch:=omega) only [Ax,go_sem,o1,o2,o3,o4,o5,o6,o7,o8,o9,hl2,ha,hv,hb,hu, h2,Ad,Af,Ae,Ac,Ah,Aa]
     repeat ((first | (refine A6 ?_ ?_; (focus (simp (disch:=omega) only [go_sem,o1,o2,o3,o4,o5,o6,o7,o8,o9,hl2,ha,hv,hb,hu, h2,Ad,Af,Ae,Ac,Ah,Aa]; done))) | (refine A7 ?_ ?_; (focus (simp (disch:=omega) only [go_sem,o1,o2,o3,o4,o5,o6,o7,o8,o9,hl2,ha,hv,hb,hu, h2,Ad,Af,Ae,Ac,Ah,Aa]; done)))); (try simp (disch:=omega) only [go_sem,o1,o2,o3,o4,o5,o6,o7,o8,o9,hl2,ha,hv,hb,hu, h2,Ad,Af,Ae,Ac,Ah,Aa]))
  ·have hl2:dec ((x.parts.length:Int)=1)=false:=Aj (by omega)
   have hl3:(x.parts.length == 1)=false:=by simpa using hl
   rw [hl3,zC,zC,zC]
   refine Ai Az Aw (of_decide_eq_true rfl) ?_
   simp (disch:=omega) only [Ax,go_sem,o1,o2,o3,o4,o5,o6,o7,o8,o9,hl2,ha,hv,hb,hu, h2,Ad,Af,Ae,Ac,Ah,Aa]
   repeat ((first | (refine A6 ?_ ?_; (focus (simp (disch:=omega) only [go_sem,o1,o2,o3,o4,o5,o6,o7,o8,o9,hl2,ha,hv,hb,hu, h2,Ad,Af,Ae,Ac,Ah,Aa]; done))) | (refine A7 ?_ ?_; (focus (simp (disch:=omega) only [go_sem,o1,o2,o3,o4,o5,o6,o7,o8,o9,hl2,ha,hv,hb,hu, h2,Ad,Af,Ae,Ac,Ah,Aa]; done)))); (try simp (disch:=omega) only [go_sem,o1,o2,o3,o4,o5,o6,o7,o8,o9,hl2,ha,hv,hb,hu, h2,Ad,Af,Ae,Ac,Ah,Aa]))
theorem Ux (x:Fm) (ht:x.tame) (hn:x.nodes≤1099511627776) (ih:∀ y∈x.parts,E 49 [y.sv] []=some (.bool y.forms,[])):E 49 [x.sv] []=some (.bool x.forms,[]):=by
 have hl:=Fm.length_le x.parts
 have hx:=Fm.nodes_eq x
 have ha:=Fm.Vv ht
 have h1:∀ y∈x.parts,E 74 [y.sv] []=some (.bool (!y.forms),[]):=fun y hy=>by
  have h:=ih y hy
  refine Ai LU Hj (of_decide_eq_true rfl) ?_
  simp (disch:=omega) only [Hi,go_sem,Ab,h,Aw]
 have h2:=FE 74 (fun y=>!y.forms) x.parts (by omega) LV (by rw [Hj]) h1
 rcases Sx x.op with h | h | h | h | h | h | h | h | h | h
 ·exact Qi x ha (by omega) (.inl h) h2
 ·exact Qi x ha (by omega) (.inr h) h2
 ·exact Wt x ha (by omega) h h2
 ·exact Wu x ha (by omega) h h2
 ·exact LW x ha (by omega) (.inl h) h2
 ·exact LW x ha (by omega) (.inr (.inl h)) h2
 ·exact LW x ha (by omega) (.inr (.inr h)) h2
 ·exact Qj x ha (by omega) (.inl h) h2
 ·exact Qj x ha (by omega) (.inr h) h2
 ·obtain ⟨k1,k2,k3,k4,k5,k6,k7,k8,k9⟩:=h
  have hf:x.form=false:=by unfold Fm.form; simp [k1,k2,k3,k4,k5,k6,k7,k8,k9]
  have o1:=Aj k1
  have o2:=Aj k2
  have o3:=Aj k3
  have o4:=Aj k4
  have o5:=Aj k5
  have o6:=Aj k6
  have o7:=Aj k7
  have o8:=Aj k8
  have o9:=Aj k9
  have hb:=Ev x.op
  have hu:=C1 x.op
  rw [o5,o6,o7] at hb
  rw [o8,o9] at hu
  rw [Fm.DO,hf,zC]
  refine Ai Az Aw (of_decide_eq_true rfl) ?_
  simp (disch:=omega) only [Ax,go_sem,o1,o2,o3,o4,o5,o6,o7,o8,o9,hb,hu,Ac,Ah]
  repeat ((first | (refine A6 ?_ ?_; (focus (simp (disch:=omega) only [go_sem,o1,o2,o3,o4,o5,o6,o7,o8,o9,hb,hu,Ac,Ah]; done))) | (refine A7 ?_ ?_; (focus (simp (disch:=omega) only [go_sem,o1,o2,o3,o4,o5,o6,o7,o8,o9,hb,hu,Ac,Ah]; done)))); (try simp (disch:=omega) only [go_sem,o1,o2,o3,o4,o5,o6,o7,o8,o9,hb,hu,Ac,Ah]))
theorem Qk (x:Fm) (ht:x.tame) (hn:x.nodes≤1099511627776):E 49 [x.sv] []=some (.bool x.forms,[]) :=
 Ux x ht hn fun y hy=>Qk y (Fm.PX ht hy) (by have:=Fm.nodes_mem hy; have:=Fm.nodes_eq x; omega)
termination_by SizeOf.sizeOf x
decreasing_by exact Fm.lt_of_mem hy
theorem Hk (x:Fm) (ht:x.tame) (hn:x.nodes≤1099511627776):E 23 [x.sv] []=some (.bool x.valid,[]):=by
 have h1:=V8 x hn
 have h2:=Qk x ht hn
 have h3:=Fm.cap_spec x
 unfold Fm.valid
 rcases zB 40 x.nodes with h5 | h5
 ·rw [decide_eq_false (by omega),zC]
  have d:dec (x.cap≤40)=false:=Aj (by omega)
  refine Ai Ef AN (of_decide_eq_true rfl) ?_
  simp (disch:=omega) only [CM,go_sem,Ab,h1,h2,d,Dw,Aw]
 ·rw [decide_eq_true h5,zG]
  have d:dec (x.cap≤40)=true:=Ao (by omega)
  refine Ai Ef AN (of_decide_eq_true rfl) ?_
  simp (disch:=omega) only [CM,go_sem,Ab,h1,h2,d,Dw,Aw]
theorem SK (x:Fm) (ht:x.tame) (hn:x.nodes≤1099511627776):E 16 [x.sv] []=some (.bool x.valid,[]):=by
 have h1:=V9 x 40 (by omega) (by omega) hn
 have h2:=Qh x ht hn
 have h3:=Fm.many_spec x 40
 unfold Fm.valid
 rcases zB 40 x.nodes with h5 | h5
 ·rw [decide_eq_false (by omega),zC]
  have d:dec ((x.many 40)≤40)=false:=Aj (by omega)
  refine Ai JH BH (of_decide_eq_true rfl) ?_
  simp (disch:=omega) only [GA,go_sem,Ab,h1,h2,d,Dx,C0]
 ·rw [decide_eq_true h5,zG]
  have d:dec ((x.many 40)≤40)=true:=Ao (by omega)
  refine Ai JH BH (of_decide_eq_true rfl) ?_
  simp (disch:=omega) only [GA,go_sem,Ab,h1,h2,d,Dx,C0]
theorem Fm.eta (x:Fm):Fm.mk x.op x.atom x.var x.parts=x:=by
 obtain ⟨a,b,c,d⟩:=x
 rfl
def HS:SC:=(.seq (.reg [⟨some 2,none,.boxv 34 5 (.t 0)⟩,⟨(some 4),none,(.alloc 34 [(.int .i64 0),(.str ⟨#[]⟩),.nil,(.str ⟨#[]⟩),.nil])⟩]) (.seq (.dreg [[],[0],[],[2],[3,2],[],[5],[1,0,4,3,2,6,5],[],[8,7,1,0,4,3,2,6,5]] [⟨some 8,none,.faddr 0 (.t 2)⟩,⟨some 9,none,.load false 1 (.t 8)⟩,⟨some 10,none,.faddr 1 (.t 2)⟩,⟨some 11,none,.load true 2 (.t 10)⟩,⟨some 12,none,.call 79 [(.t 11)]⟩,⟨some 13,none,.faddr 3 (.t 2)⟩,⟨some 14,none,.load false 1 (.t 13)⟩,⟨(some 15),none,(.build [(.int .i64 0),(.str ⟨#[]⟩),.nil,(.str ⟨#[]⟩),.nil] [(0,(1,(.t 9))),(1,(2,(.t 12))),(3,(1,(.t 14)))])⟩,⟨(some 5),none,(.alloc 34 [(.int .i64 0),(.str ⟨#[]⟩),.nil,(.str ⟨#[]⟩),.nil])⟩,⟨none,none,(.store 5 (.t 5) (.t 15))⟩]) (.seq (.seq (.reg [⟨some 16,none,.faddr 4 (.t 2)⟩,⟨some 17,none,.load false 1 (.t 16)⟩,⟨some 18,none,.len false (.t 17)⟩,⟨some 19,none,.mv (.c (.int .i64 0))⟩]) (.block 0 (.loop [0,1,0,0,1,1,0,0,0,0,0,0,0,0,0,0,0,1,1,1,0,0,0,0,0,0,0,0,0,0,0,0,0] (.seq (.reg [⟨some 20,none,.bin .lss false (.t 19) (.t 18)⟩]) (.seq (.cond (.t 20) .skip (.exit 0)) (.seq (.block 1 (.seq (.reg [⟨some 21,none,.iaddr 5 (.t 17) (.t 19)⟩,⟨some 22,none,.load true 5 (.t 21)⟩,⟨(some 7),none,(.alloc 34 [(.int .i64 0),(.str ⟨#[]⟩),.nil,(.str ⟨#[]⟩),.nil])⟩,⟨none,none,(.store 5 (.t 7) (.t 22))⟩]) (.dreg [[],[0],[],[],[2,3],[4,2,3],[1,0,5,4,2,3],[0,1,2,3,4,5,6],[7,0,1,2,3,4,5,6]] [⟨some 23,none,.faddr 4 (.t 5)⟩,⟨some 24,none,.load false 1 (.t 23)⟩,⟨some 25,none,.mv (.t 1)⟩,⟨some 26,none,.load true 5 (.t 7)⟩,⟨some 27,none,.callv (.t 25) [(.t 26)]⟩,⟨(some 28),none,(.mkrow 34 5 [(.int .i64 0),(.str ⟨#[]⟩),.nil,(.str ⟨#[]⟩),.nil] 1 [(0,(.t 27))])⟩,⟨(some 29),none,(.append 34 5 88 [(.int .i64 0),(.str ⟨#[]⟩),.nil,(.str ⟨#[]⟩),.nil] (.t 24) (.t 28))⟩,⟨some 30,none,.faddr 4 (.t 5)⟩,⟨none,none,(.store 1 (.t 30) (.t 29))⟩]))) (.reg [⟨some 31,none,.bin .add false (.t 19) (.c (.int .i64 1))⟩,⟨some 19,none,.mv (.t 31)⟩]))))))) (.seq (.reg [⟨some 32,none,.load true 5 (.t 5)⟩,⟨none,none,(.store 5 (.t 4) (.t 32))⟩]) .ret))))
theorem MO:Ap Tryz.prog 56=some ⟨33,HS,[(.cell 4 true 5)]⟩:=by kernel_rfl
theorem Bk:modes 56=⟨[],.own [none,none,some (31,2),none,some (34,5)],none,false⟩:=by unfold modes; rfl
mutual
noncomputable def Fm.ats:Fm→List Tm
 | .mk op atom _ parts=>bif dec (op=3) then [atom] else Fm.GB parts
noncomputable def Fm.GB:List Fm→List Tm
 | []=>[]
 | x :: xs=>Fm.ats x++Fm.GB xs
end
theorem Fm.Kn (x:Fm):x.ats=bif dec (x.op=3) then [x.atom] else Fm.GB x.parts:=by
 obtain ⟨op,atom,var,parts⟩:=x
 rw [Fm.ats]; rfl
mutual
noncomputable def Tm.sy1:Tm→List ByteArray
 | .mk n args=>(bif CD n then [n] else [])++Tm.Dj args
noncomputable def Tm.Dj:List Tm→List ByteArray
 | []=>[]
 | x :: xs=>Tm.sy1 x++Tm.Dj xs
end
theorem Tm.O4 (x:Tm):x.sy1=(bif CD x.name then [x.name] else [])++Tm.Dj x.args:=by
 obtain ⟨n,args⟩:=x
 rw [Tm.sy1]; rfl
mutual
noncomputable def Tm.sy2:Tm→List ByteArray
 | .mk n args=>(bif !Ba n&&!dec (n=⟨#[]⟩) then [n] else [])++Tm.sy2L args
noncomputable def Tm.sy2L:List Tm→List ByteArray
 | []=>[]
 | x :: xs=>Tm.sy2 x++Tm.sy2L xs
end
theorem Tm.sy2_eq (x:Tm):x.sy2=(bif !Ba x.name&&!dec (x.name=⟨#[]⟩) then [x.name] else [])++Tm.sy2L x.args:=by
 obtain ⟨n,args⟩:=x
 rw [Tm.sy2]; rfl
noncomputable def syA (l:List Tm):List ByteArray:=l.flatMap Tm.sy1
mutual
noncomputable def Fm.sy2:Fm→List ByteArray
 | .mk _ atom _ parts=>atom.sy2++Fm.sy2L parts
noncomputable def Fm.sy2L:List Fm→List ByteArray
 | []=>[]
 | x :: xs=>Fm.sy2 x++Fm.sy2L xs
end
theorem Fm.sy2_eq (x:Fm):x.sy2=x.atom.sy2++Fm.sy2L x.parts:=by
 obtain ⟨op,atom,var,parts⟩:=x
 rw [Fm.sy2]; rfl
theorem Tm.Gp (x:Tm):x.sy1.length≤x.nodes:=by
 have key:∀ xs:List Tm,(∀ y∈xs,y.sy1.length≤y.nodes)→(Tm.Dj xs).length≤Tm.nodeS xs:=by
  intro xs
  induction xs with
  | nil=>intro _; simp [Tm.Dj]
  | cons y ys ih =>
   intro h
   have h1:=h y (by simp)
   have h2:=ih fun z hz=>h z (by simp [hz])
   rw [Tm.Dj,Tm.nodeS,zJ]; omega
 have h:=key x.args fun y hy=>Tm.Gp y
 rw [Tm.O4,Tm.nodes_eq,zJ]
 cases CD x.name with
 | true=>simp only [cond_true,yK]; omega
 | false=>simp only [cond_false,zN]; omega
termination_by SizeOf.sizeOf x
decreasing_by exact Tm.lt_of_mem hy
theorem Tm.sy2_len (x:Tm):x.sy2.length≤x.nodes:=by
 have key:∀ xs:List Tm,(∀ y∈xs,y.sy2.length≤y.nodes)→(Tm.sy2L xs).length≤Tm.nodeS xs:=by
  intro xs
  induction xs with
  | nil=>intro _; simp [Tm.sy2L]
  | cons y ys ih =>
   intro h
   have h1:=h y (by simp)
   have h2:=ih fun z hz=>h z (by simp [hz])
   rw [Tm.sy2L,Tm.nodeS,zJ]; omega
 have h:=key x.args fun y hy=>Tm.sy2_len y
 rw [Tm.sy2_eq,Tm.nodes_eq,zJ]
 cases !Ba x.name&&!dec (x.name=⟨#[]⟩) with
 | true=>simp only [cond_true,yK]; omega
 | false=>simp only [cond_false,zN]; omega
termination_by SizeOf.sizeOf x
decreasing_by exact Tm.lt_of_mem hy
theorem Fm.sy2_len (x:Fm):x.sy2.length≤x.vn:=by
 have key:∀ xs:List Fm,(∀ y∈xs,y.sy2.length≤y.vn)→(Fm.sy2L xs).length≤Fm.vnS xs:=by
  intro xs
  induction xs with
  | nil=>intro _; simp [Fm.sy2L]
  | cons y ys ih =>
   intro h
   have h1:=h y (by simp)
   have h2:=ih fun z hz=>h z (by simp [hz])
   rw [Fm.sy2L,Fm.vnS,zJ]; omega
 have h:=key x.parts fun y hy=>Fm.sy2_len y
 have h2:=Tm.sy2_len x.atom
 rw [Fm.sy2_eq,Fm.DE,zJ]; omega
termination_by SizeOf.sizeOf x
decreasing_by exact Fm.lt_of_mem hy
theorem Fm.SL {m:ByteArray}:∀ {xs:List Fm},m∈Fm.sy2L xs ↔ ∃ y∈xs,m∈y.sy2
 | []=>by simp [Fm.sy2L]
 | x :: xs=>by rw [Fm.sy2L,yE,Fm.SL]; simp
theorem Fm.SM {m:Tm}:∀ {xs:List Fm},m∈Fm.GB xs ↔ ∃ y∈xs,m∈y.ats
 | []=>by simp [Fm.GB]
 | x :: xs=>by rw [Fm.GB,yE,Fm.SM]; simp
theorem Fm.Ro {y:Fm}:∀ {xs:List Fm},y∈xs→y.vn≤Fm.vnS xs
 | x :: xs,h=>by
  rw [Fm.vnS]
  rcases zX.1 h with rfl | h
  ·omega
  ·have:=Fm.Ro h; omega
theorem Fm.Ff (x:Fm):Tm.nodeS x.ats≤x.vn:=by
 have app:∀ a b:List Tm,Tm.nodeS (a++b)=Tm.nodeS a+Tm.nodeS b:=by
  intro a b
  induction a with
  | nil=>simp [Tm.nodeS]
  | cons y ys ih=>rw [zV,Tm.nodeS,Tm.nodeS,ih]; omega
 have key:∀ xs:List Fm,(∀ y∈xs,Tm.nodeS y.ats≤y.vn)→Tm.nodeS (Fm.GB xs)≤Fm.vnS xs:=by
  intro xs
  induction xs with
  | nil=>intro _; simp [Fm.GB,Tm.nodeS]
  | cons y ys ih =>
   intro h
   have h1:=h y (by simp)
   have h2:=ih fun z hz=>h z (by simp [hz])
   rw [Fm.GB,Fm.vnS,app]; omega
 have h:=key x.parts fun y hy=>Fm.Ff y
 rw [Fm.Kn,Fm.DE]
 cases dec (x.op=3) with
 | true=>simp only [cond_true,Tm.nodeS]; omega
 | false=>simp only [cond_false]; omega
termination_by SizeOf.sizeOf x
decreasing_by exact Fm.lt_of_mem hy
theorem VA {s:ByteArray} (h:CD s=true):s≠⟨#[]⟩:=fun e=>by
 rw [e] at h
 have:CD ⟨#[]⟩=false:=by decide +kernel
 rw [this] at h; cases h
theorem Uy {x:Tm} (h:x.names=true) (hv:Ba x.name=false):CD x.name=true:=by
 rw [Tm.Fx,hv] at h
 simp only [Bool.false_eq_true,if_false] at h
 rw [zS,zS] at h
 exact h.1.1
theorem Tm.sy12 (x:Tm) (h:x.names=true):x.sy2=x.sy1:=by
 have ih:∀ xs:List Tm,(∀ y∈xs,y.sy2=y.sy1)→Tm.sy2L xs=Tm.Dj xs:=by
  intro xs
  induction xs with
  | nil=>intro _; rw [Tm.sy2L,Tm.Dj]
  | cons y ys ihy=>intro hh; rw [Tm.sy2L,Tm.Dj,hh y (by simp),ihy fun z hz=>hh z (by simp [hz])]
 rw [Tm.sy2_eq,Tm.O4,ih x.args fun y hy=>Tm.sy12 y (Tm.GV h hy)]
 cases hv:Ba x.name with
 | true=>rw [Qd hv]; rfl
 | false =>
  have hs:=Uy h hv
  rw [hs,Aj (VA hs)]; rfl
termination_by SizeOf.sizeOf x
decreasing_by exact Tm.lt_of_mem hy
theorem Tm.Qab {x:Tm} (h:x.atom=true) {m:ByteArray} (hm:m≠⟨#[61]⟩):m∈x.sy2 ↔ m∈x.sy1:=by
 have ih:∀ xs:List Tm,(∀ y∈xs,y.sy2=y.sy1)→Tm.sy2L xs=Tm.Dj xs:=by
  intro xs
  induction xs with
  | nil=>intro _; rw [Tm.sy2L,Tm.Dj]
  | cons y ys ihy=>intro hh; rw [Tm.sy2L,Tm.Dj,hh y (by simp),ihy fun z hz=>hh z (by simp [hz])]
 rw [Tm.sy2_eq,Tm.O4,ih x.args fun y hy=>Tm.sy12 y (Tm.Xz (Tm.PY h) hy),XB h]
 unfold Tm.atom at h
 split at h
 ·rename_i hq
  have hq:x.name=⟨#[61]⟩:=Ar.1 hq
  have hsy:CD x.name=false:=by rw [hq]; decide +kernel
  rw [hsy,Aj (by rw [hq]; decide)]
  simp only [yV,Bool.and_self,cond_true,cond_false,zK,zV,zX,hq]
  exact ⟨fun h=>h.elim (fun e=>absurd e hm) id,.inr⟩
 ·rw [zS] at h
  rw [h.1,Aj (VA h.1)]; rfl
theorem Tm.XN:Tm.zero.sy2=[]:=by
 rw [Tm.sy2_eq]
 show (bif !Ba ⟨#[]⟩&&!dec ((⟨#[]⟩:ByteArray)=⟨#[]⟩) then [⟨#[]⟩] else [])++Tm.sy2L []=[]
 rw [Ao rfl,Tm.sy2L]; simp
theorem Fm.sy12 (x:Fm) (h:x.forms=true) {m:ByteArray} (hm:m≠⟨#[61]⟩):m∈x.sy2 ↔ m∈syA x.ats:=by
 have ih:∀ y∈x.parts,(m∈y.sy2 ↔ m∈syA y.ats):=fun y hy=>Fm.sy12 y (Fm.Cn h hy) hm
 have hfo:=Fm.CA h
 rw [Fm.sy2_eq,Fm.Kn,yE]
 by_cases h3:x.op=3
 ·have ha:=Fm.GW hfo h3
  rw [Ao h3,cond_true,ha.1,Fm.sy2L]
  unfold syA
  simp only [List.flatMap_cons,List.flatMap_nil,zO,zW,or_false]
  exact Tm.Qab ha.2.1 hm
 ·have hz:x.atom=Tm.zero:=Fm.H5 hfo h3
  rw [Aj h3,cond_false,hz,Tm.XN]
  simp only [zW,false_or]
  rw [Fm.SL]
  unfold syA
  simp only [yS,Fm.SM]
  constructor
  ·rintro ⟨y,hy,hm2⟩
   have:=(ih y hy).1 hm2
   unfold syA at this
   obtain ⟨t,ht,hmt⟩:=yS.1 this
   exact ⟨t,⟨y,hy,ht⟩,hmt⟩
  ·rintro ⟨t,⟨y,hy,ht⟩,hmt⟩
   exact ⟨y,hy,(ih y hy).2 (by unfold syA; exact yS.2 ⟨t,ht,hmt⟩)⟩
termination_by SizeOf.sizeOf x
decreasing_by exact Fm.lt_of_mem hy
def BZ:SC:=(.seq (.reg [⟨some 3,none,.boxv 31 2 (.t 1)⟩,⟨some 4,none,.mv (.c .nil)⟩]) (.seq (.seq (.reg [⟨some 7,none,.faddr 0 (.t 3)⟩,⟨some 8,none,.load false 1 (.t 7)⟩,⟨some 9,none,.call 77 [(.t 8)]⟩,⟨some 10,none,.mv (.t 9)⟩,⟨(some 11),(some (10,true)),(.mv (.t 0))⟩,⟨(some 12),(some (10,true)),(.faddr 0 (.t 3))⟩,⟨(some 13),(some (10,true)),(.load false 1 (.t 12))⟩,⟨(some 14),(some (10,true)),(.call 78 [(.t 11),(.t 13)])⟩,⟨(some 15),(some (10,true)),(.un .not (.t 14))⟩,⟨some 16,none,.pick (.t 10) (.t 15) (.c (.bool false))⟩]) (.cond (.t 16) (.reg [⟨some 17,none,.mv (.t 0)⟩,⟨some 18,none,.faddr 0 (.t 3)⟩,⟨some 19,none,.load false 1 (.t 18)⟩,⟨(some 20),none,(.mkrow 9 1 [(.str ⟨#[]⟩)] 1 [(0,(.t 19))])⟩,⟨(some 21),none,(.append 9 1 16 [(.str ⟨#[]⟩)] (.t 17) (.t 20))⟩,⟨some 0,none,.mv (.t 21)⟩]) .skip)) (.seq (.seq (.reg [⟨some 22,none,.faddr 1 (.t 3)⟩,⟨some 23,none,.load false 1 (.t 22)⟩,⟨some 24,none,.len false (.t 23)⟩,⟨some 25,none,.mv (.c (.int .i64 0))⟩]) (.block 0 (.loop [1,0,0,0,0,0,0,0,0,0,0,0,0,0,0,0,0,0,0,0,0,0,0,1,1,1,0,0,0,0,0,0,0,0] (.seq (.reg [⟨some 26,none,.bin .lss false (.t 25) (.t 24)⟩]) (.seq (.cond (.t 26) .skip (.exit 0)) (.seq (.block 1 (.seq (.reg [⟨some 27,none,.iaddr 2 (.t 23) (.t 25)⟩,⟨some 28,none,.load true 2 (.t 27)⟩,⟨(some 6),none,(.alloc 31 [(.str ⟨#[]⟩),.nil])⟩,⟨none,none,(.store 2 (.t 6) (.t 28))⟩]) (.reg [⟨some 29,none,.mv (.t 0)⟩,⟨some 30,none,.load true 2 (.t 6)⟩,⟨some 31,none,.call 55 [(.t 29),(.t 30)]⟩,⟨some 0,none,.mv (.t 31)⟩]))) (.reg [⟨some 32,none,.bin .add false (.t 25) (.c (.int .i64 1))⟩,⟨some 25,none,.mv (.t 32)⟩]))))))) (.seq (.reg [⟨some 33,none,.mv (.t 0)⟩,⟨some 4,none,.mv (.t 33)⟩]) .ret))))
theorem C2:Ap Tryz.prog 55=some ⟨34,BZ,[(.tmp 4)]⟩:=by kernel_rfl
theorem AE:modes 55=⟨[true],.own [some (9,1)],none,false⟩:=by unfold modes; rfl
abbrev SyC (x:Tm):Prop:=∀ l:List ByteArray,l.length+x.nodes≤4194304→E 55 [.ref 0,x.sv] [.row 9 1 (l.map fun s=>[OT.str s])]=some ((bif dec (l.length<(Bb l x.sy1).length) then .ref 1 else .ref 0),(bif dec (l.length<(Bb l x.sy1).length) then [.gone,.row 9 1 ((Bb l x.sy1).map fun s=>[OT.str s])] else [.row 9 1 ((Bb l x.sy1).map fun s=>[OT.str s])]))
theorem Wv (x:Tm) (ih:∀ y∈x.args,SyC y):SyC x:=by
 intro l hn
 have hxs:x.sv=.agg [.str x.name,.arr (x.args.map Tm.d)]:=rfl
 have hl:=Tm.length_le x.args
 have hne:=Tm.nodes_eq x
 have hvs:=Tm.O4 x
 cases hsb:CD x.name with
 | false =>
  rw [hsb] at hvs
  simp only [cond_false,zK] at hvs
  rw [hvs]
  have hgl:dec (l.length < l.length)=false:=Aj (by omega)
  have hl1:True:=trivial
  refine Ai C2 AE (of_decide_eq_true rfl) ?_
  simp (disch:=omega) only [BZ,go_sem,Ab,hsb,AC,Es]
  refine go_loop (α:=Int × (List ByteArray)) (fun a=>⟨slots 34 0 [(0,(bif dec (l.length < (a.2).length) then .ref 1 else .ref 0)),(23,.arr (x.args.map Tm.d)),(24,.int .i64 x.args.length),(25,.int .i64 (a.1))],(bif dec (l.length < (a.2).length) then [.gone,.row 9 1 ((a.2).map fun s=>[OT.str s])] else [.row 9 1 ((a.2).map fun s=>[OT.str s])])⟩) (fun a=>∃ k:Nat,a.1=k∧k≤(x.args).length∧Bb (a.2) (Tm.Dj (x.args.drop k))=Bb l (Tm.Dj x.args)∧(a.2).length+Tm.nodeS (x.args.drop k)≤4194304∧l.length≤(a.2).length) (fun a=>(x.args).length - (a.1).toNat) (0,l) ⟨0,rfl,zH _,by rw [zE],by rw [zE]; dsimp only; omega,by simp⟩ (by simp (disch:=omega) only [go_sem,Ab,hgl,hl1]) ?_
  rintro ⟨i,acc⟩ ⟨k,hi,hk,hR⟩
  dsimp only at hi hR
  have hni:i.toNat=k:=by omega
  have hni1:(i+1).toNat=k+1:=by omega
  rcases zB k (x.args).length with hlt | hge
  ·have hg:=get_at Tm.d hlt
   rw [Tm.d_eq] at hg
   obtain ⟨hR1,hR2,hR3⟩:=hR
   rw [zA hlt,Tm.Dj,ED] at hR1
   rw [zA hlt,Tm.nodeS] at hR2
   have hc:=ih x.args[k] (zF hlt) acc (by omega)
   have hlen:=Db x.args[k].sy1 acc
   have hgr:=Di x.args[k].sy1 acc
   have hvl:=Tm.Gp x.args[k]
   obtain ⟨acc2,ha2⟩:∃ a,a=Bb acc x.args[k].sy1:=⟨_,rfl⟩
   rw [←ha2] at hc hlen hgr hR1
   rcases zB l.length acc.length with q1 | q1 <;> rcases zB acc.length acc2.length with q2 | q2
   all_goals
    first
     |rw [Ao q2] at hc
     |rw [Aj (zL.2 q2)] at hc
    simp only [cond_true,cond_false] at hc
    first
     |have d1:=Ao q1
     |have d1:=Aj (zL.2 q1)
    first
     |have d2:dec (l.length < acc2.length)=true:=Ao (by omega)
     |have d2:dec (l.length < acc2.length)=false:=Aj (by omega)
    simp (disch:=omega) only [go_sem,Ab,hni,hg,hc,d1,AE]
    refine ⟨(i+1,acc2),⟨k+1,by dsimp only; omega,hlt,hR1,by dsimp only; omega,by dsimp only; omega⟩,by dsimp only; omega,?_⟩
    first | done | simp (disch:=omega) only [go_sem,Ab,d2]
  ·rw [zD hge,Tm.Dj] at hR
   obtain ⟨hR1,hR2,hR3⟩:=hR
   have hR1:acc=_:=hR1
   rw [←hR1]
   rcases zB l.length acc.length with q1 | q1
   ·have d1:=Ao q1
    simp (disch:=omega) only [go_sem,Ab,hni,d1]
   ·have d1:=Aj (zL.2 q1)
    simp (disch:=omega) only [go_sem,Ab,hni,d1]
 | true =>
  rw [hsb] at hvs
  simp only [cond_true] at hvs
  have h1:=FZ l x.name (by omega)
  have e:Bb l x.sy1=Bb (G3 l x.name) (Tm.Dj x.args):=by rw [hvs]; rfl
  rw [e]
  cases hm:dec (x.name∈l) with
  | true =>
   have e2:G3 l x.name=l:=by unfold G3; rw [hm]; rfl
   rw [hm] at h1
   rw [e2]
   have hgl:dec (l.length < l.length)=false:=Aj (by omega)
   have hl1:True:=trivial
   refine Ai C2 AE (of_decide_eq_true rfl) ?_
   simp (disch:=omega) only [BZ,go_sem,Ab,hsb,h1,AC,Es,A1]
   refine go_loop (α:=Int × (List ByteArray)) (fun a=>⟨slots 34 0 [(0,(bif dec (l.length < (a.2).length) then .ref 1 else .ref 0)),(23,.arr (x.args.map Tm.d)),(24,.int .i64 x.args.length),(25,.int .i64 (a.1))],(bif dec (l.length < (a.2).length) then [.gone,.row 9 1 ((a.2).map fun s=>[OT.str s])] else [.row 9 1 ((a.2).map fun s=>[OT.str s])])⟩) (fun a=>∃ k:Nat,a.1=k∧k≤(x.args).length∧Bb (a.2) (Tm.Dj (x.args.drop k))=Bb l (Tm.Dj x.args)∧(a.2).length+Tm.nodeS (x.args.drop k)≤4194304∧l.length≤(a.2).length) (fun a=>(x.args).length - (a.1).toNat) (0,l) ⟨0,rfl,zH _,by rw [zE],by rw [zE]; dsimp only; omega,by simp⟩ (by simp (disch:=omega) only [go_sem,Ab,hgl,hl1]) ?_
   rintro ⟨i,acc⟩ ⟨k,hi,hk,hR⟩
   dsimp only at hi hR
   have hni:i.toNat=k:=by omega
   have hni1:(i+1).toNat=k+1:=by omega
   rcases zB k (x.args).length with hlt | hge
   ·have hg:=get_at Tm.d hlt
    rw [Tm.d_eq] at hg
    obtain ⟨hR1,hR2,hR3⟩:=hR
    rw [zA hlt,Tm.Dj,ED] at hR1
    rw [zA hlt,Tm.nodeS] at hR2
    have hc:=ih x.args[k] (zF hlt) acc (by omega)
    have hlen:=Db x.args[k].sy1 acc
    have hgr:=Di x.args[k].sy1 acc
    have hvl:=Tm.Gp x.args[k]
    obtain ⟨acc2,ha2⟩:∃ a,a=Bb acc x.args[k].sy1:=⟨_,rfl⟩
    rw [←ha2] at hc hlen hgr hR1
    rcases zB l.length acc.length with q1 | q1 <;> rcases zB acc.length acc2.length with q2 | q2
    all_goals
     first
      |rw [Ao q2] at hc
      |rw [Aj (zL.2 q2)] at hc
     simp only [cond_true,cond_false] at hc
     first
      |have d1:=Ao q1
      |have d1:=Aj (zL.2 q1)
     first
      |have d2:dec (l.length < acc2.length)=true:=Ao (by omega)
      |have d2:dec (l.length < acc2.length)=false:=Aj (by omega)
     simp (disch:=omega) only [go_sem,Ab,hni,hg,hc,d1,AE]
     refine ⟨(i+1,acc2),⟨k+1,by dsimp only; omega,hlt,hR1,by dsimp only; omega,by dsimp only; omega⟩,by dsimp only; omega,?_⟩
     first | done | simp (disch:=omega) only [go_sem,Ab,d2]
   ·rw [zD hge,Tm.Dj] at hR
    obtain ⟨hR1,hR2,hR3⟩:=hR
    have hR1:acc=_:=hR1
    rw [←hR1]
    rcases zB l.length acc.length with q1 | q1
    ·have d1:=Ao q1
     simp (disch:=omega) only [go_sem,Ab,hni,d1]
    ·have d1:=Aj (zL.2 q1)
     simp (disch:=omega) only [go_sem,Ab,hni,d1]
  | false =>
   have e2:G3 l x.name=l++[x.name]:=by unfold G3; rw [hm]; rfl
   have hl1:(l.map fun s=>[OT.str s])++[[OT.str x.name]]=(l++[x.name]).map fun s=>[OT.str s]:=by simp
   rw [hm] at h1
   rw [e2]
   have hgl:dec (l.length < (l++[x.name]).length)=true:=Ao (by simp)
   have hll:(l++[x.name]).length=l.length+1:=by simp
   refine Ai C2 AE (of_decide_eq_true rfl) ?_
   simp (disch:=omega) only [BZ,go_sem,Ab,hsb,h1,hl1,AC,Es,A1]
   refine go_loop (α:=Int × (List ByteArray)) (fun a=>⟨slots 34 0 [(0,(bif dec (l.length < (a.2).length) then .ref 1 else .ref 0)),(23,.arr (x.args.map Tm.d)),(24,.int .i64 x.args.length),(25,.int .i64 (a.1))],(bif dec (l.length < (a.2).length) then [.gone,.row 9 1 ((a.2).map fun s=>[OT.str s])] else [.row 9 1 ((a.2).map fun s=>[OT.str s])])⟩) (fun a=>∃ k:Nat,a.1=k∧k≤(x.args).length∧Bb (a.2) (Tm.Dj (x.args.drop k))=Bb (l++[x.name]) (Tm.Dj x.args)∧(a.2).length+Tm.nodeS (x.args.drop k)≤4194304∧l.length≤(a.2).length) (fun a=>(x.args).length - (a.1).toNat) (0,(l++[x.name])) ⟨0,rfl,zH _,by rw [zE],by rw [zE]; dsimp only; omega,by simp⟩ (by simp (disch:=omega) only [go_sem,Ab,hgl,hl1]) ?_
   rintro ⟨i,acc⟩ ⟨k,hi,hk,hR⟩
   dsimp only at hi hR
   have hni:i.toNat=k:=by omega
   have hni1:(i+1).toNat=k+1:=by omega
   rcases zB k (x.args).length with hlt | hge
   ·have hg:=get_at Tm.d hlt
    rw [Tm.d_eq] at hg
    obtain ⟨hR1,hR2,hR3⟩:=hR
    rw [zA hlt,Tm.Dj,ED] at hR1
    rw [zA hlt,Tm.nodeS] at hR2
    have hc:=ih x.args[k] (zF hlt) acc (by omega)
    have hlen:=Db x.args[k].sy1 acc
    have hgr:=Di x.args[k].sy1 acc
    have hvl:=Tm.Gp x.args[k]
    obtain ⟨acc2,ha2⟩:∃ a,a=Bb acc x.args[k].sy1:=⟨_,rfl⟩
    rw [←ha2] at hc hlen hgr hR1
    rcases zB l.length acc.length with q1 | q1 <;> rcases zB acc.length acc2.length with q2 | q2
    all_goals
     first
      |rw [Ao q2] at hc
      |rw [Aj (zL.2 q2)] at hc
     simp only [cond_true,cond_false] at hc
     first
      |have d1:=Ao q1
      |have d1:=Aj (zL.2 q1)
     first
      |have d2:dec (l.length < acc2.length)=true:=Ao (by omega)
      |have d2:dec (l.length < acc2.length)=false:=Aj (by omega)
     simp (disch:=omega) only [go_sem,Ab,hni,hg,hc,d1,AE]
     refine ⟨(i+1,acc2),⟨k+1,by dsimp only; omega,hlt,hR1,by dsimp only; omega,by dsimp only; omega⟩,by dsimp only; omega,?_⟩
     first | done | simp (disch:=omega) only [go_sem,Ab,d2]
   ·rw [zD hge,Tm.Dj] at hR
    obtain ⟨hR1,hR2,hR3⟩:=hR
    have hR1:acc=_:=hR1
    rw [←hR1]
    rcases zB l.length acc.length with q1 | q1
    ·have d1:=Ao q1
     simp (disch:=omega) only [go_sem,Ab,hni,d1]
    ·have d1:=Aj (zL.2 q1)
     simp (disch:=omega) only [go_sem,Ab,hni,d1]
theorem KY (x:Tm):SyC x:=Wv x fun y hy=>KY y
termination_by SizeOf.sizeOf x
decreasing_by exact Tm.lt_of_mem hy
def FG:SC:=(.seq (.reg [⟨some 1,none,.boxv 34 5 (.t 0)⟩,⟨some 2,none,.mv (.c .nil)⟩]) (.seq (.seq (.reg [⟨some 6,none,.faddr 0 (.t 1)⟩,⟨some 7,none,.load false 1 (.t 6)⟩,⟨some 8,none,.bin .eql false (.t 7) (.c (.int .i64 3))⟩]) (.cond (.t 8) (.seq (.reg [⟨some 9,none,.faddr 1 (.t 1)⟩,⟨some 10,none,.load true 2 (.t 9)⟩,⟨(some 11),none,(.mkrow 31 2 [(.str ⟨#[]⟩),.nil] 1 [(0,(.t 10))])⟩,⟨some 2,none,.mv (.t 11)⟩]) .ret) .skip)) (.seq (.reg [⟨(some 12),none,(.mkrow 31 2 [(.str ⟨#[]⟩),.nil] 0 [])⟩,⟨some 3,none,.mv (.t 12)⟩]) (.seq (.seq (.reg [⟨some 13,none,.faddr 4 (.t 1)⟩,⟨some 14,none,.load false 1 (.t 13)⟩,⟨some 15,none,.len false (.t 14)⟩,⟨some 16,none,.mv (.c (.int .i64 0))⟩]) (.block 0 (.loop [0,0,0,1,0,0,0,0,0,0,0,0,0,0,1,1,1,0,0,0,0,0,0,0,0,0] (.seq (.reg [⟨some 17,none,.bin .lss false (.t 16) (.t 15)⟩]) (.seq (.cond (.t 17) .skip (.exit 0)) (.seq (.block 1 (.seq (.reg [⟨some 18,none,.iaddr 5 (.t 14) (.t 16)⟩,⟨some 19,none,.load true 5 (.t 18)⟩,⟨(some 5),none,(.alloc 34 [(.int .i64 0),(.str ⟨#[]⟩),.nil,(.str ⟨#[]⟩),.nil])⟩,⟨none,none,(.store 5 (.t 5) (.t 19))⟩]) (.reg [⟨some 20,none,.mv (.t 3)⟩,⟨some 21,none,.load true 5 (.t 5)⟩,⟨some 22,none,.call 54 [(.t 21)]⟩,⟨(some 23),none,(.append 31 2 40 [(.str ⟨#[]⟩),.nil] (.t 20) (.t 22))⟩,⟨some 3,none,.mv (.t 23)⟩]))) (.reg [⟨some 24,none,.bin .add false (.t 16) (.c (.int .i64 1))⟩,⟨some 16,none,.mv (.t 24)⟩]))))))) (.seq (.reg [⟨some 25,none,.mv (.t 3)⟩,⟨some 2,none,.mv (.t 25)⟩]) .ret)))))
theorem IN:Ap Tryz.prog 54=some ⟨26,FG,[(.tmp 2)]⟩:=by kernel_rfl
theorem Dd:modes 54=⟨[],.frz,none,false⟩:=by unfold modes; rfl
theorem Tm.Qac (l:List Tm):OT.erss (l.map (fun t:Tm=>t.d.map D.ot))=l.map Tm.d:=by
 induction l with
 | nil=>rfl
 | cons t l ih=>rw [z6,OT.erss,ih,z6,Tm.d_eq]; rfl
theorem Tm.Qad (l:List Tm):OT.AK (l.map (fun t:Tm=>t.d.map D.ot))=true:=by
 induction l with
 | nil=>rfl
 | cons t l ih=>rw [z6,OT.AK,ih,Tm.d_eq]; rfl
theorem Tm.Qae (l:List Tm):((l.map Tm.d).all fun x=>x.length == 2)=true:=by
 rw [List.all_map,yB]
 intro x _
 show ((x.d).length == 2)=true
 rw [Tm.d_eq]; rfl
theorem Tm.Z8 (l:List Tm):((l.map (fun t:Tm=>t.d.map D.ot)).all fun x=>x.length == 2)=true:=by
 rw [List.all_map,yB]
 intro x _
 show ((x.d.map D.ot).length == 2)=true
 rw [Tm.d_eq]; rfl
abbrev AtC (x:Fm):Prop:=E 54 [x.sv] []=some (.arr (x.ats.map Tm.d),[])
theorem Uz (x:Fm) (hn:x.vn≤4194304) (hln:Fm.nodeS x.parts≤4194304) (ih:∀ y∈x.parts,AtC y):AtC x:=by
 unfold AtC
 have hxs:x.sv=.agg [.int .i64 x.op,.str x.atom.name,.arr (x.atom.args.map Tm.d),.str x.var,.arr (x.parts.map Fm.d)]:=rfl
 have has:x.atom.sv=.agg [.str x.atom.name,.arr (x.atom.args.map Tm.d)]:=rfl
 have hpl:=Fm.length_le x.parts
 have hne:=Fm.DE x
 have hae:=Fm.Kn x
 cases ho:dec (x.op=3) with
 | true =>
  rw [ho,cond_true] at hae
  rw [hae]
  have h1:[x.atom].map Tm.d=[[D.str x.atom.name,D.arr (x.atom.args.map Tm.d)]]:=by rw [z6,zY,Tm.d_eq]
  rw [h1]
  refine Ai IN Dd (of_decide_eq_true rfl) ?_
  simp (disch:=omega) only [FG,go_sem,Ab,ho]
 | false =>
  rw [ho,cond_false] at hae
  rw [hae]
  have hz0:([]:List Tm).map (fun t:Tm=>t.d.map D.ot)=[]:=rfl
  refine Ai IN Dd (of_decide_eq_true rfl) ?_
  simp (disch:=omega) only [FG,go_sem,Ab,ho]
  refine go_loop (α:=Int × (List Tm)) (fun a=>⟨slots 26 0 [(3,.ref 0),(14,.arr (x.parts.map Fm.d)),(15,.int .i64 x.parts.length),(16,.int .i64 (a.1))],[.row 31 2 ((a.2).map (fun t:Tm=>t.d.map D.ot))]⟩) (fun a=>∃ k:Nat,a.1=k∧k≤(x.parts).length∧(a.2)++Fm.GB (x.parts.drop k)=Fm.GB x.parts) (fun a=>(x.parts).length-(a.1).toNat) (0,[]) ⟨0,rfl,zH _,by rw [zE]; rfl⟩ (by simp (disch:=omega) only [go_sem,Ab,hz0]) ?_
  rintro ⟨i,acc⟩ ⟨k,hi,hk,hR⟩
  dsimp only at hi hR
  have hni:i.toNat=k:=by omega
  have hni1:(i+1).toNat=k+1:=by omega
  rcases zB k (x.parts).length with hlt | hge
  ·have hg:=get_at Fm.d hlt
   rw [Fm.d_eq] at hg
   rw [zA hlt,Fm.GB,← zQ] at hR
   have hc:=ih x.parts[k] (zF hlt)
   unfold AtC at hc
   have hps:x.parts[k].sv=.agg [.int .i64 x.parts[k].op,.str x.parts[k].atom.name,.arr (x.parts[k].atom.args.map Tm.d),.str x.parts[k].var,.arr (x.parts[k].parts.map Fm.d)]:=rfl
   rw [hps] at hc
   have hbf:(x.parts[k].ats.map Tm.d).map (fun x=>x.map D.ot)=x.parts[k].ats.map (fun t:Tm=>t.d.map D.ot):=by rw [List.map_map]; rfl
   have hap:acc.map (fun t:Tm=>t.d.map D.ot)++x.parts[k].ats.map (fun t:Tm=>t.d.map D.ot)=(acc++x.parts[k].ats).map (fun t:Tm=>t.d.map D.ot):=by rw [yO]
   have hal:=Tm.Qae x.parts[k].ats
   have hal2:=Tm.Z8 x.parts[k].ats
   have hat:x.ats.length≤4194304:=by
    have:=Fm.Ff x
    have h2:x.ats.length≤Tm.nodeS x.ats:=Tm.length_le x.ats
    omega
   rw [hae] at hat
   have hlen:=congrArg yW hR
   rw [zJ,zJ] at hlen
   simp (disch:=omega) only [go_sem,Ab,hni,hg,hc,hbf,hap,hal,hal2,Dd]
   refine ⟨(i+1,acc++x.parts[k].ats),⟨k+1,by dsimp only; omega,hlt,hR⟩,by dsimp only; omega,?_⟩
   first | trivial | rfl | simp (disch:=omega) only [go_sem,Ab]
  ·rw [zD hge,Fm.GB,zO] at hR
   have hR:acc=_:=hR
   rw [←hR]
   have her:=Tm.Qac acc
   have hfu:=Tm.Qad acc
   simp (disch:=omega) only [go_sem,Ab,hni,her,hfu]
theorem LX (x:Fm) (hn:x.vn≤4194304) (hnn:x.nodes≤4194304):AtC x :=
 Uz x hn (by have:=Fm.nodes_eq x; omega) fun y hy=>LX y (by have h1:=Fm.DE x; have h2:=Fm.Ro hy; omega) (by have:=Fm.nodes_mem hy; have:=Fm.nodes_eq x; omega)
termination_by SizeOf.sizeOf x
decreasing_by exact Fm.lt_of_mem hy
def Hm:SC:=(.seq (.reg [⟨some 3,none,.boxv 34 5 (.t 1)⟩,⟨some 4,none,.mv (.c .nil)⟩]) (.seq (.seq (.reg [⟨some 7,none,.load true 5 (.t 3)⟩,⟨some 8,none,.call 54 [(.t 7)]⟩,⟨some 9,none,.len false (.t 8)⟩,⟨some 10,none,.mv (.c (.int .i64 0))⟩]) (.block 0 (.loop [1,0,0,0,0,0,0,0,1,1,1,0,0,0,0,0,0,0,0] (.seq (.reg [⟨some 11,none,.bin .lss false (.t 10) (.t 9)⟩]) (.seq (.cond (.t 11) .skip (.exit 0)) (.seq (.block 1 (.seq (.reg [⟨some 12,none,.iaddr 2 (.t 8) (.t 10)⟩,⟨some 13,none,.load true 2 (.t 12)⟩,⟨(some 6),none,(.alloc 31 [(.str ⟨#[]⟩),.nil])⟩,⟨none,none,(.store 2 (.t 6) (.t 13))⟩]) (.reg [⟨some 14,none,.mv (.t 0)⟩,⟨some 15,none,.load true 2 (.t 6)⟩,⟨some 16,none,.call 55 [(.t 14),(.t 15)]⟩,⟨some 0,none,.mv (.t 16)⟩]))) (.reg [⟨some 17,none,.bin .add false (.t 10) (.c (.int .i64 1))⟩,⟨some 10,none,.mv (.t 17)⟩]))))))) (.seq (.reg [⟨some 18,none,.mv (.t 0)⟩,⟨some 4,none,.mv (.t 18)⟩]) .ret)))
theorem LY:Ap Tryz.prog 26=some ⟨19,Hm,[(.tmp 4)]⟩:=by kernel_rfl
theorem BC:modes 26=⟨[true],.own [some (9,1)],none,false⟩:=by unfold modes; rfl
def Dk:SC:=(.seq (.reg [⟨some 3,none,.boxv 31 2 (.t 1)⟩,⟨some 4,none,.mv (.c .nil)⟩]) (.seq (.seq (.reg [⟨some 6,none,.faddr 0 (.t 3)⟩,⟨some 7,none,.load false 1 (.t 6)⟩,⟨some 8,none,.call 68 [(.t 7)]⟩,⟨some 9,none,.un .not (.t 8)⟩,⟨some 10,none,.mv (.t 9)⟩,⟨(some 11),(some (10,true)),(.faddr 0 (.t 3))⟩,⟨(some 12),(some (10,true)),(.load false 1 (.t 11))⟩,⟨(some 13),(some (10,true)),(.bin .neq false (.t 12) (.c (.str ⟨#[]⟩)))⟩,⟨some 14,none,.pick (.t 10) (.t 13) (.c (.bool false))⟩]) (.cond (.t 14) (.reg [⟨some 15,none,.mv (.t 0)⟩,⟨some 16,none,.faddr 0 (.t 3)⟩,⟨some 17,none,.load false 1 (.t 16)⟩,⟨(some 18),none,(.mkrow 9 1 [(.str ⟨#[]⟩)] 1 [(0,(.t 17))])⟩,⟨(some 19),none,(.append 9 1 16 [(.str ⟨#[]⟩)] (.t 15) (.t 18))⟩,⟨some 0,none,.mv (.t 19)⟩]) .skip)) (.seq (.seq (.reg [⟨some 5,none,.mv (.c (.int .i64 0))⟩]) (.block 0 (.loop [1,0,0,1,0,1,0,0,0,0,0,0,0,0,0,0,0,0,0,0,0,0,0,0,0,0,0,0,0,0,0,0,0,0,0] (.seq (.seq (.reg [⟨some 20,none,.mv (.t 5)⟩,⟨some 21,none,.faddr 1 (.t 3)⟩,⟨some 22,none,.load false 1 (.t 21)⟩,⟨some 23,none,.len false (.t 22)⟩,⟨some 24,none,.bin .lss false (.t 20) (.t 23)⟩]) (.cond (.t 24) .skip (.exit 0))) (.seq (.block 1 (.reg [⟨some 27,none,.mv (.t 0)⟩,⟨some 28,none,.faddr 1 (.t 3)⟩,⟨some 29,none,.load false 1 (.t 28)⟩,⟨some 30,none,.mv (.t 5)⟩,⟨some 31,none,.iaddr 2 (.t 29) (.t 30)⟩,⟨some 32,none,.load true 2 (.t 31)⟩,⟨some 33,none,.call 46 [(.t 27),(.t 32)]⟩,⟨some 0,none,.mv (.t 33)⟩])) (.reg [⟨some 25,none,.mv (.t 5)⟩,⟨some 26,none,.bin .add false (.t 25) (.c (.int .i64 1))⟩,⟨some 5,none,.mv (.t 26)⟩])))))) (.seq (.reg [⟨some 34,none,.mv (.t 0)⟩,⟨some 4,none,.mv (.t 34)⟩]) .ret))))
theorem Ew:Ap Tryz.prog 46=some ⟨35,Dk,[(.tmp 4)]⟩:=by kernel_rfl
theorem BD:modes 46=⟨[true],.asis,none,false⟩:=by unfold modes; rfl
abbrev SzC (x:Tm):Prop:=∀ l:List ByteArray,l.length+x.nodes≤4194304→E 46 [.ref 0,x.sv] [.row 9 1 (l.map fun s=>[OT.str s])]=some ((bif dec (l.length<(l++x.sy2).length) then .ref 1 else .ref 0),(bif dec (l.length<(l++x.sy2).length) then [.gone,.row 9 1 ((l++x.sy2).map fun s=>[OT.str s])] else [.row 9 1 ((l++x.sy2).map fun s=>[OT.str s])]))
theorem Rp (x:Tm) (ih:∀ y∈x.args,SzC y):SzC x:=by
 intro l hn
 have hxs:x.sv=.agg [.str x.name,.arr (x.args.map Tm.d)]:=rfl
 have hl:=Tm.length_le x.args
 have hne:=Tm.nodes_eq x
 have hvs:=Tm.sy2_eq x
 have hv:=E0 x.name
 have hgl0:dec (l.length < l.length)=false:=Aj (by omega)
 cases hvv:Ba x.name with
 | true =>
  rw [hvv] at hvs
  simp only [Bool.not_true,zC,cond_false,zK] at hvs
  rw [hvs]
  have hgl:=hgl0
  have hl1:True:=trivial
  refine Ai Ew BD (of_decide_eq_true rfl) ?_
  simp (disch:=omega) only [Dk,go_sem,Ab,hv,hvv,Al]
  refine go_loop (α:=Int × (List ByteArray)) (fun a=>⟨slots 35 0 [(0,(bif dec (l.length < (a.2).length) then .ref 1 else .ref 0)),(3,(bif dec (l.length < (a.2).length) then .ptr 2 0 else .ptr 1 0)),(5,.int .i64 (a.1))],(bif dec (l.length < (a.2).length) then [.gone,.row 9 1 ((a.2).map fun s=>[OT.str s]),.box 31 [.str x.name,.arr (x.args.map Tm.d)]] else [.row 9 1 ((a.2).map fun s=>[OT.str s]),.box 31 [.str x.name,.arr (x.args.map Tm.d)]])⟩) (fun a=>∃ k:Nat,a.1=k∧k≤(x.args).length∧(a.2)++Tm.sy2L (x.args.drop k)=l++Tm.sy2L x.args∧(a.2).length+Tm.nodeS (x.args.drop k)≤4194304∧l.length≤(a.2).length) (fun a=>(x.args).length - (a.1).toNat) (0,l) ⟨0,rfl,zH _,by rw [zE],by rw [zE]; dsimp only; omega,by simp⟩ (by simp (disch:=omega) only [go_sem,Ab,hgl,hl1]) ?_
  rintro ⟨i,acc⟩ ⟨k,hi,hk,hR⟩
  dsimp only at hi hR
  have hni:i.toNat=k:=by omega
  have hni1:(i+1).toNat=k+1:=by omega
  rcases zB k (x.args).length with hlt | hge
  ·have hg:=get_at Tm.d hlt
   rw [Tm.d_eq] at hg
   obtain ⟨hR1,hR2,hR3⟩:=hR
   rw [zA hlt,Tm.sy2L,← zQ] at hR1
   rw [zA hlt,Tm.nodeS] at hR2
   have hc:=ih x.args[k] (zF hlt) acc (by omega)
   have hgr:(acc++x.args[k].sy2).length=acc.length+x.args[k].sy2.length:=zJ
   have hvl:=Tm.sy2_len x.args[k]
   obtain ⟨acc2,ha2⟩:∃ a,a=acc++x.args[k].sy2:=⟨_,rfl⟩
   rw [←ha2] at hc hgr hR1
   rcases zB l.length acc.length with q1 | q1 <;> rcases zB acc.length acc2.length with q2 | q2
   all_goals
    first
     |rw [Ao q2] at hc
     |rw [Aj (zL.2 q2)] at hc
    simp only [cond_true,cond_false] at hc
    first
     |have d1:=Ao q1
     |have d1:=Aj (zL.2 q1)
    first
     |have d2:dec (l.length < acc2.length)=true:=Ao (by omega)
     |have d2:dec (l.length < acc2.length)=false:=Aj (by omega)
    simp (disch:=omega) only [go_sem,Ab,hni,hg,hc,d1,BD]
    refine ⟨(i+1,acc2),⟨k+1,by dsimp only; omega,hlt,hR1,by dsimp only; omega,by dsimp only; omega⟩,by dsimp only; omega,?_⟩
    first | done | simp (disch:=omega) only [go_sem,Ab,d2]
  ·rw [zD hge,Tm.sy2L,zO] at hR
   obtain ⟨hR1,hR2,hR3⟩:=hR
   have hR1:acc=_:=hR1
   rw [←hR1]
   rcases zB l.length acc.length with q1 | q1
   ·have d1:=Ao q1
    simp (disch:=omega) only [go_sem,Ab,hni,d1]
   ·have d1:=Aj (zL.2 q1)
    simp (disch:=omega) only [go_sem,Ab,hni,d1]
 | false =>
  rw [hvv] at hvs
  by_cases h0:x.name=⟨#[]⟩
  ·have d0:dec (x.name=⟨#[]⟩)=true:=Ao h0
   rw [d0] at hvs
   simp only [yV,Bool.not_true,yA,cond_false,zK] at hvs
   rw [hvs]
   have hgl:=hgl0
   have hl1:True:=trivial
   refine Ai Ew BD (of_decide_eq_true rfl) ?_
   simp (disch:=omega) only [Dk,go_sem,Ab,hv,hvv,d0,hl1,Al]
   refine go_loop (α:=Int × (List ByteArray)) (fun a=>⟨slots 35 0 [(0,(bif dec (l.length < (a.2).length) then .ref 1 else .ref 0)),(3,(bif dec (l.length < (a.2).length) then .ptr 2 0 else .ptr 1 0)),(5,.int .i64 (a.1))],(bif dec (l.length < (a.2).length) then [.gone,.row 9 1 ((a.2).map fun s=>[OT.str s]),.box 31 [.str x.name,.arr (x.args.map Tm.d)]] else [.row 9 1 ((a.2).map fun s=>[OT.str s]),.box 31 [.str x.name,.arr (x.args.map Tm.d)]])⟩) (fun a=>∃ k:Nat,a.1=k∧k≤(x.args).length∧(a.2)++Tm.sy2L (x.args.drop k)=l++Tm.sy2L x.args∧(a.2).length+Tm.nodeS (x.args.drop k)≤4194304∧l.length≤(a.2).length) (fun a=>(x.args).length - (a.1).toNat) (0,l) ⟨0,rfl,zH _,by rw [zE],by rw [zE]; dsimp only; omega,by simp⟩ (by simp (disch:=omega) only [go_sem,Ab,hgl,hl1]) ?_
   rintro ⟨i,acc⟩ ⟨k,hi,hk,hR⟩
   dsimp only at hi hR
   have hni:i.toNat=k:=by omega
   have hni1:(i+1).toNat=k+1:=by omega
   rcases zB k (x.args).length with hlt | hge
   ·have hg:=get_at Tm.d hlt
    rw [Tm.d_eq] at hg
    obtain ⟨hR1,hR2,hR3⟩:=hR
    rw [zA hlt,Tm.sy2L,← zQ] at hR1
    rw [zA hlt,Tm.nodeS] at hR2
    have hc:=ih x.args[k] (zF hlt) acc (by omega)
    have hgr:(acc++x.args[k].sy2).length=acc.length+x.args[k].sy2.length:=zJ
    have hvl:=Tm.sy2_len x.args[k]
    obtain ⟨acc2,ha2⟩:∃ a,a=acc++x.args[k].sy2:=⟨_,rfl⟩
    rw [←ha2] at hc hgr hR1
    rcases zB l.length acc.length with q1 | q1 <;> rcases zB acc.length acc2.length with q2 | q2
    all_goals
     first
      |rw [Ao q2] at hc
      |rw [Aj (zL.2 q2)] at hc
     simp only [cond_true,cond_false] at hc
     first
      |have d1:=Ao q1
      |have d1:=Aj (zL.2 q1)
     first
      |have d2:dec (l.length < acc2.length)=true:=Ao (by omega)
      |have d2:dec (l.length < acc2.length)=false:=Aj (by omega)
     simp (disch:=omega) only [go_sem,Ab,hni,hg,hc,d1,BD]
     refine ⟨(i+1,acc2),⟨k+1,by dsimp only; omega,hlt,hR1,by dsimp only; omega,by dsimp only; omega⟩,by dsimp only; omega,?_⟩
     first | done | simp (disch:=omega) only [go_sem,Ab,d2]
   ·rw [zD hge,Tm.sy2L,zO] at hR
    obtain ⟨hR1,hR2,hR3⟩:=hR
    have hR1:acc=_:=hR1
    rw [←hR1]
    rcases zB l.length acc.length with q1 | q1
    ·have d1:=Ao q1
     simp (disch:=omega) only [go_sem,Ab,hni,d1]
    ·have d1:=Aj (zL.2 q1)
     simp (disch:=omega) only [go_sem,Ab,hni,d1]
  ·have d0:dec (x.name=⟨#[]⟩)=false:=Aj h0
   rw [d0] at hvs
   simp only [yV,Bool.and_self,cond_true] at hvs
   rw [hvs,← zQ]
   have hl1:(l.map fun s=>[OT.str s])++[[OT.str x.name]]=(l++[x.name]).map fun s=>[OT.str s]:=by simp
   have hgl:dec (l.length < (l++[x.name]).length)=true:=Ao (by simp)
   have hll:(l++[x.name]).length=l.length+1:=by simp
   refine Ai Ew BD (of_decide_eq_true rfl) ?_
   simp (disch:=omega) only [Dk,go_sem,Ab,hv,hvv,d0,hl1,Al]
   refine go_loop (α:=Int × (List ByteArray)) (fun a=>⟨slots 35 0 [(0,(bif dec (l.length < (a.2).length) then .ref 1 else .ref 0)),(3,(bif dec (l.length < (a.2).length) then .ptr 2 0 else .ptr 1 0)),(5,.int .i64 (a.1))],(bif dec (l.length < (a.2).length) then [.gone,.row 9 1 ((a.2).map fun s=>[OT.str s]),.box 31 [.str x.name,.arr (x.args.map Tm.d)]] else [.row 9 1 ((a.2).map fun s=>[OT.str s]),.box 31 [.str x.name,.arr (x.args.map Tm.d)]])⟩) (fun a=>∃ k:Nat,a.1=k∧k≤(x.args).length∧(a.2)++Tm.sy2L (x.args.drop k)=(l++[x.name])++Tm.sy2L x.args∧(a.2).length+Tm.nodeS (x.args.drop k)≤4194304∧l.length≤(a.2).length) (fun a=>(x.args).length - (a.1).toNat) (0,(l++[x.name])) ⟨0,rfl,zH _,by rw [zE],by rw [zE]; dsimp only; omega,by simp⟩ (by simp (disch:=omega) only [go_sem,Ab,hgl,hl1]) ?_
   rintro ⟨i,acc⟩ ⟨k,hi,hk,hR⟩
   dsimp only at hi hR
   have hni:i.toNat=k:=by omega
   have hni1:(i+1).toNat=k+1:=by omega
   rcases zB k (x.args).length with hlt | hge
   ·have hg:=get_at Tm.d hlt
    rw [Tm.d_eq] at hg
    obtain ⟨hR1,hR2,hR3⟩:=hR
    rw [zA hlt,Tm.sy2L,← zQ] at hR1
    rw [zA hlt,Tm.nodeS] at hR2
    have hc:=ih x.args[k] (zF hlt) acc (by omega)
    have hgr:(acc++x.args[k].sy2).length=acc.length+x.args[k].sy2.length:=zJ
    have hvl:=Tm.sy2_len x.args[k]
    obtain ⟨acc2,ha2⟩:∃ a,a=acc++x.args[k].sy2:=⟨_,rfl⟩
    rw [←ha2] at hc hgr hR1
    rcases zB l.length acc.length with q1 | q1 <;> rcases zB acc.length acc2.length with q2 | q2
    all_goals
     first
      |rw [Ao q2] at hc
      |rw [Aj (zL.2 q2)] at hc
     simp only [cond_true,cond_false] at hc
     first
      |have d1:=Ao q1
      |have d1:=Aj (zL.2 q1)
     first
      |have d2:dec (l.length < acc2.length)=true:=Ao (by omega)
      |have d2:dec (l.length < acc2.length)=false:=Aj (by omega)
     simp (disch:=omega) only [go_sem,Ab,hni,hg,hc,d1,BD]
     refine ⟨(i+1,acc2),⟨k+1,by dsimp only; omega,hlt,hR1,by dsimp only; omega,by dsimp only; omega⟩,by dsimp only; omega,?_⟩
     first | done | simp (disch:=omega) only [go_sem,Ab,d2]
   ·rw [zD hge,Tm.sy2L,zO] at hR
    obtain ⟨hR1,hR2,hR3⟩:=hR
    have hR1:acc=_:=hR1
    rw [←hR1]
    rcases zB l.length acc.length with q1 | q1
    ·have d1:=Ao q1
     simp (disch:=omega) only [go_sem,Ab,hni,d1]
    ·have d1:=Aj (zL.2 q1)
     simp (disch:=omega) only [go_sem,Ab,hni,d1]
theorem M5 (x:Tm):SzC x:=Rp x fun y hy=>M5 y
termination_by SizeOf.sizeOf x
decreasing_by exact Tm.lt_of_mem hy
def IO:SC:=(.seq (.reg [⟨some 3,none,.boxv 34 5 (.t 1)⟩,⟨some 4,none,.mv (.c .nil)⟩]) (.seq (.reg [⟨some 6,none,.mv (.t 0)⟩,⟨some 7,none,.faddr 1 (.t 3)⟩,⟨some 8,none,.load true 2 (.t 7)⟩,⟨some 9,none,.call 46 [(.t 6),(.t 8)]⟩,⟨some 0,none,.mv (.t 9)⟩]) (.seq (.seq (.reg [⟨some 5,none,.mv (.c (.int .i64 0))⟩]) (.block 0 (.loop [1,0,0,1,0,1,0,0,0,0,0,0,0,0,0,0,0,0,0,0,0,0,0,0,0] (.seq (.seq (.reg [⟨some 10,none,.mv (.t 5)⟩,⟨some 11,none,.faddr 4 (.t 3)⟩,⟨some 12,none,.load false 1 (.t 11)⟩,⟨some 13,none,.len false (.t 12)⟩,⟨some 14,none,.bin .lss false (.t 10) (.t 13)⟩]) (.cond (.t 14) .skip (.exit 0))) (.seq (.block 1 (.reg [⟨some 17,none,.mv (.t 0)⟩,⟨some 18,none,.faddr 4 (.t 3)⟩,⟨some 19,none,.load false 1 (.t 18)⟩,⟨some 20,none,.mv (.t 5)⟩,⟨some 21,none,.iaddr 5 (.t 19) (.t 20)⟩,⟨some 22,none,.load true 5 (.t 21)⟩,⟨some 23,none,.call 20 [(.t 17),(.t 22)]⟩,⟨some 0,none,.mv (.t 23)⟩])) (.reg [⟨some 15,none,.mv (.t 5)⟩,⟨some 16,none,.bin .add false (.t 15) (.c (.int .i64 1))⟩,⟨some 5,none,.mv (.t 16)⟩])))))) (.seq (.reg [⟨some 24,none,.mv (.t 0)⟩,⟨some 4,none,.mv (.t 24)⟩]) .ret))))
theorem O5:Ap Tryz.prog 20=some ⟨25,IO,[(.tmp 4)]⟩:=by kernel_rfl
theorem Cd:modes 20=⟨[true],.asis,none,false⟩:=by unfold modes; rfl
abbrev NmC (x:Fm):Prop:=∀ l:List ByteArray,l.length+x.vn≤4194304→E 20 [.ref 0,x.sv] [.row 9 1 (l.map fun s=>[OT.str s])]=some ((bif dec (l.length<(l++x.sy2).length) then .ref 1 else .ref 0),(bif dec (l.length<(l++x.sy2).length) then [.gone,.row 9 1 ((l++x.sy2).map fun s=>[OT.str s])] else [.row 9 1 ((l++x.sy2).map fun s=>[OT.str s])]))
theorem U0 (x:Fm) (hnn:Fm.nodeS x.parts≤4194304) (ih:∀ y∈x.parts,NmC y):NmC x:=by
 intro l hn
 have hxs:x.sv=.agg [.int .i64 x.op,.str x.atom.name,.arr (x.atom.args.map Tm.d),.str x.var,.arr (x.parts.map Fm.d)]:=rfl
 have has:x.atom.sv=.agg [.str x.atom.name,.arr (x.atom.args.map Tm.d)]:=rfl
 have hpl:=Fm.length_le x.parts
 have hne:=Fm.DE x
 have hvs:=Fm.sy2_eq x
 rw [hvs,← zQ]
 have hs:=M5 x.atom l (by omega)
 have hal:=Tm.sy2_len x.atom
 have hll:(l++x.atom.sy2).length=l.length+x.atom.sy2.length:=zJ
 rw [has] at hs
 obtain ⟨l1,hl1⟩:∃ l1,l1=l++x.atom.sy2:=⟨_,rfl⟩
 rw [←hl1] at hs hll ⊢
 rcases zB l.length l1.length with q0 | q0
 all_goals
  first
   |have hgl:dec (l.length < l1.length)=true:=Ao q0
   |have hgl:dec (l.length < l1.length)=false:=Aj (zL.2 q0)
  rw [hgl] at hs
  simp only [cond_true,cond_false] at hs
  refine Ai O5 Cd (of_decide_eq_true rfl) ?_
  simp (disch:=omega) only [IO,go_sem,Ab,hs,BD]
  refine go_loop (α:=Int × (List ByteArray)) (fun a=>⟨slots 25 0 [(0,(bif dec (l.length < (a.2).length) then .ref 1 else .ref 0)),(3,(bif dec (l.length < (a.2).length) then .ptr 2 0 else .ptr 1 0)),(5,.int .i64 (a.1))],(bif dec (l.length < (a.2).length) then [.gone,.row 9 1 ((a.2).map fun s=>[OT.str s]),.box 34 [.int .i64 x.op,.str x.atom.name,.arr (x.atom.args.map Tm.d),.str x.var,.arr (x.parts.map Fm.d)]] else [.row 9 1 ((a.2).map fun s=>[OT.str s]),.box 34 [.int .i64 x.op,.str x.atom.name,.arr (x.atom.args.map Tm.d),.str x.var,.arr (x.parts.map Fm.d)]])⟩) (fun a=>∃ k:Nat,a.1=k∧k≤(x.parts).length∧(a.2)++Fm.sy2L (x.parts.drop k)=l1++Fm.sy2L x.parts∧(a.2).length+Fm.vnS (x.parts.drop k)≤4194304∧l.length≤(a.2).length) (fun a=>(x.parts).length - (a.1).toNat) (0,l1) ⟨0,rfl,zH _,by rw [zE],by rw [zE]; dsimp only; omega,by dsimp only; omega⟩ (by simp (disch:=omega) only [go_sem,Ab,hgl]) ?_
  rintro ⟨i,acc⟩ ⟨k,hi,hk,hR⟩
  dsimp only at hi hR
  have hni:i.toNat=k:=by omega
  have hni1:(i+1).toNat=k+1:=by omega
  rcases zB k (x.parts).length with hlt | hge
  ·have hg:=get_at Fm.d hlt
   rw [Fm.d_eq] at hg
   obtain ⟨hR1,hR2,hR3⟩:=hR
   rw [zA hlt,Fm.sy2L,← zQ] at hR1
   rw [zA hlt,Fm.vnS] at hR2
   have hc:=ih x.parts[k] (zF hlt) acc (by omega)
   have hgr:(acc++x.parts[k].sy2).length=acc.length+x.parts[k].sy2.length:=zJ
   have hvl:=Fm.sy2_len x.parts[k]
   obtain ⟨acc2,ha2⟩:∃ a,a=acc++x.parts[k].sy2:=⟨_,rfl⟩
   rw [←ha2] at hc hgr hR1
   rcases zB l.length acc.length with q1 | q1 <;> rcases zB acc.length acc2.length with q2 | q2
   all_goals
    first
     |rw [Ao q2] at hc
     |rw [Aj (zL.2 q2)] at hc
    simp only [cond_true,cond_false] at hc
    first
     |have d1:=Ao q1
     |have d1:=Aj (zL.2 q1)
    first
     |have d2:dec (l.length < acc2.length)=true:=Ao (by omega)
     |have d2:dec (l.length < acc2.length)=false:=Aj (by omega)
    simp (disch:=omega) only [go_sem,Ab,hni,hg,hc,d1,Cd]
    refine ⟨(i+1,acc2),⟨k+1,by dsimp only; omega,hlt,hR1,by dsimp only; omega,by dsimp only; omega⟩,by dsimp only; omega,?_⟩
    first | done | simp (disch:=omega) only [go_sem,Ab,d2]
  ·rw [zD hge,Fm.sy2L,zO] at hR
   obtain ⟨hR1,hR2,hR3⟩:=hR
   have hR1:acc=_:=hR1
   rw [←hR1]
   rcases zB l.length acc.length with q1 | q1
   ·have d1:=Ao q1
    simp (disch:=omega) only [go_sem,Ab,hni,d1]
   ·have d1:=Aj (zL.2 q1)
    simp (disch:=omega) only [go_sem,Ab,hni,d1]
theorem Ql (x:Fm) (hnn:x.nodes≤4194304):NmC x:=U0 x (by have:=Fm.nodes_eq x; omega) fun y hy=>Ql y (by have:=Fm.nodes_mem hy; have:=Fm.nodes_eq x; omega)
termination_by SizeOf.sizeOf x
decreasing_by exact Fm.lt_of_mem hy
abbrev SyN (x:Tm):Prop:=x.nodes≤4194304→E 55 [.nil,x.sv] []=some (.ref 0,[.row 9 1 ((Bb [] x.sy1).map fun s=>[OT.str s])])
theorem XO (x:Tm) (ih:∀ y∈x.args,SyN y):SyN x:=by
 intro hn
 have hxs:x.sv=.agg [.str x.name,.arr (x.args.map Tm.d)]:=rfl
 have hl:=Tm.length_le x.args
 have hne:=Tm.nodes_eq x
 have hvs:=Tm.O4 x
 have h1:=Es x.name
 cases hsb:CD x.name with
 | true =>
  rw [hsb] at hvs h1
  simp only [cond_true] at hvs
  have h2:=FZ [] x.name (by simp)
  rw [Aj (by simp),zY] at h2
  have e:Bb [] x.sy1=Bb [x.name] (Tm.Dj x.args):=by
   rw [hvs]
   show Bb (G3 [] x.name) _=_
   unfold G3
   rw [Aj (by simp)]; rfl
  rw [e,hxs]
  have hone:[x.name].map (fun s=>[OT.str s])=[[OT.str x.name]]:=rfl
  refine Ai C2 AE (of_decide_eq_true rfl) ?_
  simp (disch:=omega) only [BZ,go_sem,Ab,h1,h2,AC,A1]
  refine go_loop (α:=Int × (List ByteArray)) (fun a=>⟨slots 34 0 [(0,.ref 0),(23,.arr (x.args.map Tm.d)),(24,.int .i64 x.args.length),(25,.int .i64 (a.1))],[.row 9 1 ((a.2).map fun s=>[OT.str s])]⟩) (fun a=>∃ k:Nat,a.1=k∧k≤(x.args).length∧Bb (a.2) (Tm.Dj (x.args.drop k))=Bb [x.name] (Tm.Dj x.args)∧(a.2).length+Tm.nodeS (x.args.drop k)≤4194304) (fun a=>(x.args).length-(a.1).toNat) (0,[x.name]) ⟨0,rfl,zH _,by rw [zE],by rw [zE]; dsimp only [yK]; omega⟩ (by simp (disch:=omega) only [go_sem,Ab,hone]) ?_
  rintro ⟨i,acc⟩ ⟨k,hi,hk,hR⟩
  dsimp only at hi hR
  have hni:i.toNat=k:=by omega
  have hni1:(i+1).toNat=k+1:=by omega
  rcases zB k (x.args).length with hlt | hge
  ·have hg:=get_at Tm.d hlt
   rw [Tm.d_eq] at hg
   obtain ⟨hR1,hR2⟩:=hR
   rw [zA hlt,Tm.Dj,ED] at hR1
   rw [zA hlt,Tm.nodeS] at hR2
   have hts:(x.args[k]).sv=.agg [.str (x.args[k]).name,.arr ((x.args[k]).args.map Tm.d)]:=rfl
   have hlen:=Db x.args[k].sy1 acc
   have hgr:=Di x.args[k].sy1 acc
   have hvl:=Tm.Gp x.args[k]
   have hc:=KY x.args[k] acc (by omega)
   rw [hts] at hc
   obtain ⟨acc2,ha2⟩:∃ a,a=Bb acc x.args[k].sy1:=⟨_,rfl⟩
   rw [←ha2] at hc hlen hgr hR1
   rcases zB acc.length acc2.length with q2 | q2
   all_goals
    first
     |rw [Ao q2] at hc
     |rw [Aj (zL.2 q2)] at hc
    simp only [cond_true,cond_false] at hc
    simp (disch:=omega) only [go_sem,Ab,hni,hg,hc,AE]
    refine ⟨(i+1,acc2),⟨k+1,by dsimp only; omega,hlt,hR1,by dsimp only; omega⟩,by dsimp only; omega,?_⟩
    first | done | simp (disch:=omega) only [go_sem,Ab]
  ·rw [zD hge,Tm.Dj] at hR
   obtain ⟨hR1,hR2⟩:=hR
   have hR1:acc=_:=hR1
   rw [←hR1]
   simp (disch:=omega) only [go_sem,Ab,hni]
 | false =>
  rw [hsb] at hvs h1
  simp only [cond_false,zK] at hvs
  rw [hvs,hxs]
  refine Ai C2 AE (of_decide_eq_true rfl) ?_
  simp (disch:=omega) only [BZ,go_sem,Ab,h1,AC]
  refine go_loop (α:=Int × (List ByteArray)) (fun a=>⟨slots 34 0 [(0,(if (a.1)=0 then .nil else .ref 0)),(23,.arr (x.args.map Tm.d)),(24,.int .i64 x.args.length),(25,.int .i64 (a.1))],(if (a.1)=0 then [] else [.row 9 1 ((a.2).map fun s=>[OT.str s])])⟩) (fun a=>∃ k:Nat,a.1=k∧k≤(x.args).length∧(k=0→(a.2)=[])∧Bb (a.2) (Tm.Dj (x.args.drop k))=Bb [] (Tm.Dj x.args)∧(a.2).length+Tm.nodeS (x.args.drop k)≤4194304) (fun a=>(x.args).length-(a.1).toNat) (0,[]) ⟨0,rfl,zH _,fun _=>rfl,by rw [zE],by rw [zE]; dsimp only [zN]; omega⟩ (by simp (disch:=omega) only [go_sem,Ab,eq_self,if_true]) ?_
  rintro ⟨i,acc⟩ ⟨k,hi,hk,hR⟩
  dsimp only at hi hR
  have hni:i.toNat=k:=by omega
  have hni1:(i+1).toNat=k+1:=by omega
  rcases zB k (x.args).length with hlt | hge
  ·have hg:=get_at Tm.d hlt
   rw [Tm.d_eq] at hg
   obtain ⟨hR0,hR1,hR2⟩:=hR
   rw [zA hlt,Tm.Dj,ED] at hR1
   rw [zA hlt,Tm.nodeS] at hR2
   have hts:(x.args[k]).sv=.agg [.str (x.args[k]).name,.arr ((x.args[k]).args.map Tm.d)]:=rfl
   have hlen:=Db x.args[k].sy1 acc
   have hgr:=Di x.args[k].sy1 acc
   have hvl:=Tm.Gp x.args[k]
   have hi1:(i+1=0)=False:=by simp; omega
   rcases zZ k with h0 | h0
   ·subst h0
    obtain rfl:i=0:=hi
    have h10:((1:Int)=0)=False:=by simp
    simp only [zT] at hR1 hR2
    obtain rfl:=hR0 rfl
    simp only [zN,zT] at hlen
    have hc:=ih x.args[0] (zF hlt) (by have:=Tm.nodes_le x.args 0 hlt; omega)
    rw [hts] at hc
    obtain ⟨acc2,ha2⟩:∃ a,a=Bb [] x.args[0].sy1:=⟨_,rfl⟩
    rw [←ha2] at hc hlen hgr hR1
    simp (disch:=omega) only [go_sem,Ab,hni,hg,hc,eq_self,if_true,AE]
    refine ⟨(1,acc2),⟨1,rfl,hlt,fun h=>absurd h (by omega),hR1,by dsimp only; rw [zN] at hR2; omega⟩,by dsimp only; omega,?_⟩
    first | done | simp (disch:=omega) only [go_sem,Ab,h10,if_false]
   ·have hi0:(i=0)=False:=by simp; omega
    have hc:=KY x.args[k] acc (by omega)
    rw [hts] at hc
    obtain ⟨acc2,ha2⟩:∃ a,a=Bb acc x.args[k].sy1:=⟨_,rfl⟩
    rw [←ha2] at hc hlen hgr hR1
    rcases zB acc.length acc2.length with q2 | q2
    all_goals
     first
      |rw [Ao q2] at hc
      |rw [Aj (zL.2 q2)] at hc
     simp only [cond_true,cond_false] at hc
     simp (disch:=omega) only [go_sem,Ab,hni,hg,hc,hi0,if_false,AE]
     refine ⟨(i+1,acc2),⟨k+1,by dsimp only; omega,hlt,fun h=>absurd h (by omega),hR1,by dsimp only; omega⟩,by dsimp only; omega,?_⟩
     first | done | simp (disch:=omega) only [go_sem,Ab,hi1,if_false]
  ·rw [zD hge,Tm.Dj] at hR
   obtain ⟨hR0,hR1,hR2⟩:=hR
   have hR1:acc=_:=hR1
   rw [←hR1]
   rcases zZ k with h0 | h0
   ·subst h0
    obtain rfl:i=0:=hi
    obtain rfl:=hR0 rfl
    simp (disch:=omega) only [go_sem,Ab,hni,eq_self,if_true,zY]
   ·have hi0:(i=0)=False:=by simp; omega
    simp (disch:=omega) only [go_sem,Ab,hni,hi0,if_false]
theorem VB (x:Tm):SyN x:=XO x fun y hy=>VB y
termination_by SizeOf.sizeOf x
decreasing_by exact Tm.lt_of_mem hy
theorem Rq (x:Fm) (hn:x.vn≤1000000) (hnn:x.nodes≤1000000):E 26 [.nil,x.sv] []=some (.ref 0,[.row 9 1 ((Bb [] (syA x.ats)).map fun s=>[OT.str s])]):=by
 have hac:=LX x (by omega) (by omega)
 unfold AtC at hac
 have hxs:x.sv=.agg [.int .i64 x.op,.str x.atom.name,.arr (x.atom.args.map Tm.d),.str x.var,.arr (x.parts.map Fm.d)]:=rfl
 have han:=Fm.Ff x
 obtain ⟨xs,hxs2⟩:∃ xs,xs=x.ats:=⟨_,rfl⟩
 rw [←hxs2] at hac han ⊢
 have hll:=Tm.length_le xs
 rw [hxs] at hac ⊢
 refine Ai LY BC (of_decide_eq_true rfl) ?_
 simp (disch:=omega) only [Hm,go_sem,Ab,hac,Dd]
 refine go_loop (α:=Int × (List ByteArray)) (fun a=>⟨slots 19 0 [(0,(if (a.1)=0 then .nil else .ref 0)),(8,.arr (xs.map Tm.d)),(9,.int .i64 xs.length),(10,.int .i64 (a.1))],(if (a.1)=0 then [] else [.row 9 1 ((a.2).map fun s=>[OT.str s])])⟩) (fun a=>∃ k:Nat,a.1=k∧k≤(xs).length∧(k=0→(a.2)=[])∧Bb (a.2) (syA (xs.drop k))=Bb [] (syA xs)∧(a.2).length+Tm.nodeS (xs.drop k)≤4194304) (fun a=>(xs).length-(a.1).toNat) (0,[]) ⟨0,rfl,zH _,fun _=>rfl,by rw [zE],by rw [zE]; dsimp only [zN]; omega⟩ (by simp (disch:=omega) only [go_sem,Ab,eq_self,if_true]) ?_
 rintro ⟨i,acc⟩ ⟨k,hi,hk,hR⟩
 dsimp only at hi hR
 have hni:i.toNat=k:=by omega
 have hni1:(i+1).toNat=k+1:=by omega
 rcases zB k (xs).length with hlt | hge
 ·have hg:=get_at Tm.d hlt
  rw [Tm.d_eq] at hg
  obtain ⟨hR0,hR1,hR2⟩:=hR
  rw [zA hlt] at hR1
  have hR1:Bb acc (xs[k].sy1++syA (xs.drop (k+1)))=Bb [] (syA xs):=hR1
  rw [ED] at hR1
  rw [zA hlt,Tm.nodeS] at hR2
  have hts:xs[k].sv=.agg [.str xs[k].name,.arr (xs[k].args.map Tm.d)]:=rfl
  have hlen:=Db xs[k].sy1 acc
  have hgr:=Di xs[k].sy1 acc
  have hvl:=Tm.Gp xs[k]
  have hi1:(i+1=0)=False:=by simp; omega
  rcases zZ k with h0 | h0
  ·subst h0
   obtain rfl:i=0:=hi
   have h10:((1:Int)=0)=False:=by simp
   simp only [zT] at hR1 hR2
   obtain rfl:=hR0 rfl
   simp only [zN,zT] at hlen
   have hc:=VB xs[0] (by have:=Tm.nodes_le xs 0 hlt; omega)
   rw [hts] at hc
   obtain ⟨acc2,ha2⟩:∃ a,a=Bb [] xs[0].sy1:=⟨_,rfl⟩
   rw [←ha2] at hc hlen hgr hR1
   simp (disch:=omega) only [go_sem,Ab,hni,hg,hc,eq_self,if_true,AE]
   refine ⟨(1,acc2),⟨1,rfl,hlt,fun h=>absurd h (by omega),hR1,by dsimp only; rw [zN] at hR2; omega⟩,by dsimp only; omega,?_⟩
   first | done | simp (disch:=omega) only [go_sem,Ab,h10,if_false]
  ·have hi0:(i=0)=False:=by simp; omega
   have hc:=KY xs[k] acc (by omega)
   rw [hts] at hc
   obtain ⟨acc2,ha2⟩:∃ a,a=Bb acc xs[k].sy1:=⟨_,rfl⟩
   rw [←ha2] at hc hlen hgr hR1
   rcases zB acc.length acc2.length with q2 | q2
   all_goals
    first
     |rw [Ao q2] at hc
     |rw [Aj (zL.2 q2)] at hc
    simp only [cond_true,cond_false] at hc
    simp (disch:=omega) only [go_sem,Ab,hni,hg,hc,hi0,if_false,AE]
    refine ⟨(i+1,acc2),⟨k+1,by dsimp only; omega,hlt,fun h=>absurd h (by omega),hR1,by dsimp only; omega⟩,by dsimp only; omega,?_⟩
    first | done | simp (disch:=omega) only [go_sem,Ab,hi1,if_false]
 ·rw [zD hge] at hR
  obtain ⟨hR0,hR1,hR2⟩:=hR
  have hR1:acc=_:=hR1
  rw [←hR1]
  rcases zZ k with h0 | h0
  ·subst h0
   obtain rfl:i=0:=hi
   obtain rfl:=hR0 rfl
   simp (disch:=omega) only [go_sem,Ab,hni,eq_self,if_true,zY]
  ·have hi0:(i=0)=False:=by simp; omega
   simp (disch:=omega) only [go_sem,Ab,hni,hi0,if_false]
def Gq:SC:=(.seq (.reg [⟨(some 2),none,(.mv (.c (.str ⟨#[]⟩)))⟩]) (.block 0 (.loop [1,0,0,0,0,0,0,0,0,0,0,0,0,0,0,0,0,0,0,0,0,0,0,0,0,0,0,0,0] (.block 1 (.seq (.reg [⟨some 4,none,.mv (.t 0)⟩,⟨some 5,none,.nilchk (.t 4)⟩,⟨some 6,none,.faddr 2 (.t 5)⟩,⟨some 7,none,.load false 1 (.t 6)⟩,⟨some 8,none,.bin .add false (.t 7) (.c (.int .i64 1))⟩,⟨some 9,none,.nilchk (.t 4)⟩,⟨some 10,none,.faddr 2 (.t 9)⟩,⟨none,none,(.store 1 (.t 10) (.t 8))⟩]) (.seq (.dreg [[],[0],[1,0],[2,1,0],[],[4],[5,4],[6,5,4],[7,6,5,4],[3,2,1,0,8,7,6,5,4],[9,3,2,1,0,8,7,6,5,4]] [⟨some 11,none,.mv (.t 0)⟩,⟨some 12,none,.nilchk (.t 11)⟩,⟨some 13,none,.faddr 0 (.t 12)⟩,⟨some 14,none,.load false 1 (.t 13)⟩,⟨some 15,none,.mv (.t 0)⟩,⟨some 16,none,.nilchk (.t 15)⟩,⟨some 17,none,.faddr 2 (.t 16)⟩,⟨some 18,none,.load false 1 (.t 17)⟩,⟨some 19,none,.call 80 [(.t 18)]⟩,⟨some 20,none,.bin .add false (.t 14) (.t 19)⟩,⟨some 3,none,.mv (.t 20)⟩]) (.seq (.reg [⟨some 21,none,.mv (.t 0)⟩,⟨some 22,none,.nilchk (.t 21)⟩,⟨some 23,none,.faddr 1 (.t 22)⟩,⟨some 24,none,.load false 1 (.t 23)⟩,⟨some 25,none,.mv (.t 3)⟩,⟨some 26,none,.call 78 [(.t 24),(.t 25)]⟩,⟨some 27,none,.un .not (.t 26)⟩]) (.cond (.t 27) (.seq (.reg [⟨some 28,none,.mv (.t 3)⟩,⟨some 2,none,.mv (.t 28)⟩]) .ret) .skip))))))))
theorem KZ:Ap Tryz.prog 58=some ⟨29,Gq,[(.tmp 2)]⟩:=by kernel_rfl
theorem AZ:modes 58=⟨[],.asis,none,false⟩:=by unfold modes; rfl
theorem YO (p:ByteArray) (hp:p.size≤1000) (tk:List ByteArray) (c:Int) (h0:0≤c) (hc:c+tk.length≤1099511600000):E 58 [.ptr 0 0] [.box 63 [.str p,.ref 1,.int .i64 c],.row 9 1 (tk.map fun s=>[OT.str s])]=some (.str (pre p (fresh p tk c)),[.box 63 [.str p,.ref 1,.int .i64 (fresh p tk c)],.row 9 1 (tk.map fun s=>[OT.str s])]):=by
 have hfr:=CY p tk c
 refine Ai KZ AZ (of_decide_eq_true rfl) ?_
 simp (disch:=omega) only [Gq,go_sem,Ab]
 refine go_loop (α:=Int) (fun a=>⟨slots 29 0 [(0,.ptr 0 0)],[.box 63 [.str p,.ref 1,.int .i64 a],.row 9 1 (tk.map fun s=>[OT.str s])]⟩) (fun a=>c≤a∧fresh p tk a=fresh p tk c) (fun a=>beyond p tk a) c ⟨Int.le_refl _,rfl⟩ (by simp (disch:=omega) only [go_sem,Ab]) ?_
 rintro a ⟨ha,hR⟩
 have hfa:=CY p tk a
 rw [hR] at hfa
 have hit:=Z1 (a+1) (by omega) (by omega)
 have hns:=Jj (show 0≤a+1 by omega) (by omega:a+1≤1099511627776)
 have hpre:p++HY (a+1)=pre p (a+1):=rfl
 have hcn:=FZ tk (pre p (a+1)) (by omega)
 by_cases hm:pre p (a+1)∈tk
 ·rw [Ao hm] at hcn
  simp (disch:=omega) only [go_sem,Ab,hit,hpre,hcn,Fy,A1]
  exact ⟨a+1,⟨by omega,by rw [←PR (by omega) hm]; exact hR⟩,Jk (by omega) hm,by first | trivial | rfl | exact ⟨rfl,rfl⟩⟩
 ·rw [Aj hm] at hcn
  have hnew:=PS hm
  rw [hR] at hnew
  rw [hnew]
  simp (disch:=omega) only [go_sem,Ab,hit,hpre,hcn,Fy,A1]
def HT:SC:=(.seq (.reg [⟨some 2,none,.mv (.c .nil)⟩]) (.seq (.reg [⟨(some 6),none,(.mkrow 31 2 [(.str ⟨#[]⟩),.nil] 0 [])⟩,⟨some 3,none,.mv (.t 6)⟩]) (.seq (.seq (.reg [⟨some 7,none,.mv (.t 0)⟩,⟨some 8,none,.len false (.t 7)⟩,⟨some 9,none,.mv (.c (.int .i64 0))⟩]) (.block 0 (.loop [0,0,0,1,0,0,0,1,1,1,0,0,0,0,0,0,0,0,0,0] (.seq (.reg [⟨some 10,none,.bin .lss false (.t 9) (.t 8)⟩]) (.seq (.cond (.t 10) .skip (.exit 0)) (.seq (.block 1 (.seq (.reg [⟨some 11,none,.iaddr 1 (.t 7) (.t 9)⟩,⟨some 12,none,.load false 1 (.t 11)⟩,⟨some 5,none,.mv (.t 12)⟩]) (.reg [⟨some 13,none,.mv (.t 3)⟩,⟨some 14,none,.mv (.t 5)⟩,⟨(some 15),none,(.build [(.str ⟨#[]⟩),.nil] [(0,(1,(.t 14)))])⟩,⟨(some 16),none,(.mkrow 31 2 [(.str ⟨#[]⟩),.nil] 1 [(0,(.t 15))])⟩,⟨(some 17),none,(.append 31 2 40 [(.str ⟨#[]⟩),.nil] (.t 13) (.t 16))⟩,⟨some 3,none,.mv (.t 17)⟩]))) (.reg [⟨some 18,none,.bin .add false (.t 9) (.c (.int .i64 1))⟩,⟨some 9,none,.mv (.t 18)⟩]))))))) (.seq (.reg [⟨some 19,none,.mv (.t 3)⟩,⟨some 2,none,.mv (.t 19)⟩]) .ret))))
theorem MP:Ap Tryz.prog 61=some ⟨20,HT,[(.tmp 2)]⟩:=by kernel_rfl
theorem Bl:modes 61=⟨[],.own [some (31,2)],none,false⟩:=by unfold modes; rfl
theorem U1 (l:List ByteArray) (hl:l.length≤1048576):E 61 [.arr (l.map fun s=>[D.str s])] []=some (.ref 0,[.row 31 2 ((vT l).map Tm.o)]):=by
 have hz:([]:List Tm).map Tm.o=[]:=rfl
 refine Ai MP Bl (of_decide_eq_true rfl) ?_
 simp (disch:=omega) only [HT,go_sem,Ab]
 refine go_loop (α:=Int) (fun a=>⟨slots 20 0 [(3,.ref 0),(7,.arr (l.map fun s=>[D.str s])),(8,.int .i64 l.length),(9,.int .i64 a)],[.row 31 2 (((vT l).take a.toNat).map Tm.o)]⟩) (fun a=>∃ k:Nat,a=k∧k≤(l).length) (fun a=>(l).length-(a).toNat) 0 ⟨0,rfl,zH _⟩ (by simp (disch:=omega) only [go_sem,Ab,List.take_zero,hz,yU]) ?_
 rintro i ⟨k,hi,hk⟩
 have hni:i.toNat=k:=by omega
 have hni1:(i+1).toNat=k+1:=by omega
 rcases zB k (l).length with hlt | hge
 ·have hg:=get_at (fun s=>[D.str s]) hlt
  have hs:((vT l).take k).map Tm.o++[[OT.str l[k],OT.ow []]]=((vT l).take (k+1)).map Tm.o:=by
   have hlv:k<(vT l).length:=by unfold vT; rw [zU]; exact hlt
   rw [List.take_succ_eq_append_getElem hlv,yO]
   rw [z6,zY,Zh hlt hlv]; rfl
  have htl:((vT l).take k).length=k:=by unfold vT; rw [List.length_take,zU]; omega
  simp (disch:=omega) only [go_sem,Ab,hni,hg,htl,hs]
  refine ⟨i+1,⟨k+1,by omega,hlt⟩,by omega,?_⟩
  simp (disch:=omega) only [go_sem,Ab,hni1,hs]
 ·obtain rfl:k=l.length:=by omega
  have ht:(vT l).take l.length=vT l:=List.take_of_length_le (by unfold vT; rw [zU]; exact yX _)
  have her:=Tm.erss (vT l)
  have hfu:=Tm.fus (vT l)
  simp (disch:=omega) only [go_sem,Ab,hni,ht,her,hfu]
def JI:SC:=(.seq (.reg [⟨some 1,none,.boxv 31 2 (.t 0)⟩,⟨(some 2),none,(.alloc 34 [(.int .i64 0),(.str ⟨#[]⟩),.nil,(.str ⟨#[]⟩),.nil])⟩]) (.seq (.reg [⟨some 3,none,.load true 2 (.t 1)⟩,⟨(some 4),none,(.build [(.int .i64 0),(.str ⟨#[]⟩),.nil,(.str ⟨#[]⟩),.nil] [(0,(1,(.c (.int .i64 3)))),(1,(2,(.t 3)))])⟩,⟨none,none,(.store 5 (.t 2) (.t 4))⟩]) .ret))
theorem Pm:Ap Tryz.prog 60=some ⟨5,JI,[(.cell 2 true 5)]⟩:=by kernel_rfl
theorem BI:modes 60=⟨[true],.own [none,none,some (31,2),none,some (34,5)],none,false⟩:=by unfold modes; rfl
theorem XP (y:Tm):E 60 [y.osv] y.obs=some (.agg [.int .i64 3,.str y.name,.ref 0,.str ⟨#[]⟩,.ref 1],[.row 31 2 (y.args.map Tm.o),.row 34 5 []]):=by
 refine Ai Pm BI (of_decide_eq_true rfl) ?_
 simp (disch:=omega) only [JI,go_sem,Ab,Tm.osv,Tm.obs]
variable [Flag]
def wf (ro:Option Nat):Fence:={ Fence.wide with round:=ro }
theorem U2 {ro:Option Nat} {n:Nat} {P:Program} {f:FuncId} {args:Array Value} {w:World} {R:Ending→World→Prop} (h:Calls P f args w R):CallsIn (wf ro) n P f args w R:=by
 have h1:CallsIn Fence.wide n P f args w R:=callsIn_wide.2 h
 exact h1
theorem Ww {ro:Option Nat} {n:Nat} {P:Program} {f:String} {args:Array Value} {w:World} {R:Value→World→Prop} (h:Rows P f args w R):RowsIn (wf ro) n P f args w R:=by
 intro c cs _
 obtain ⟨v,w',r,s⟩:=h c cs
 have h1:=stepsIn_wide.2 s
 exact ⟨v,w',r,h1⟩
def RepD (ds:List Deferred) (c:Ctx) (s:Fst) (a:Act) (w:World):Prop:=a.defers=ds∧Rep c s { a with defers:=[] } w
section
variable {P:Program} {c:Ctx} {ops:Array Oper} {Q:Exit→Act→World→Prop} {ro:Option Nat} {n:Nat} {ds:List Deferred}
theorem YP (a:Act) (d:Option Tmp) (v:Value):{ (({ a with defers:=[] }:Act).put d v) with defers:=a.defers }=a.put d v:=by
 cases d <;> rfl
theorem OpS.inn {o:Oper} {s:Fst} {x:SV} {upd:List (Nat × Ob)} (hd:∀ q,o.op≠.defer q) (h:OpS P c o s x upd) {a:Act} {w:World} {K:Act→World→Prop} (hr:RepD ds c s a w) (hK:∀ a' w',RepD ds c (s.app o.dst x upd) a' w'→K a' w'):o.wpIn (wf ro) n P a w K Q:=by
 obtain ⟨rfl,hr⟩:=hr
 have h0:=h { a with defers:=[] } w (fun b w'=>b.defers=[]∧K { b with defers:=a.defers } w') (fun _ _ _=>False) hr fun b w' hb=>by
  have hbd:b.defers=[]:=by
   obtain ⟨I,V,B,hb⟩:=hb
   exact hb.nd
  refine ⟨hbd,hK _ _ ⟨rfl,?_⟩⟩
  have e:({ ({ b with defers:=a.defers }:Act) with defers:=[] }:Act)=b:=by
   cases b
   simp only at hbd
   subst hbd
   rfl
  rw [e]
  exact hb
 have e1:Act.eval { a with defers:=[] }=a.eval:=by
  funext q
  cases q <;> rfl
 unfold Oper.wp at h0
 rw [e1] at h0
 refine ⟨fun _ _=>trivial,?_⟩
 rw [Oper.semAt_eq _ _ _ hd]
 cases hx:(execOp a.eval o).run P w with
 | ok nx w' =>
  rw [hx] at h0
  cases nx with
  | value v =>
   rw [Oper.upon_value] at h0
   rw [Oper.uponIn_value]
   have:=h0.2
   rwa [YP] at this
  | skip =>
   rw [Oper.upon_skip] at h0
   rw [Oper.uponIn_skip]
   have:=h0.2
   rwa [YP] at this
  | defer d =>
   rw [Oper.upon_defer] at h0
   have:=h0.1
   cases hds:o.dst <;> rw [hds] at this <;> cases this
  | enter f args =>
   rw [Oper.upon_enter] at h0
   rw [Oper.uponIn_enter]
   refine ⟨fun e=>absurd e (by simp [wf,Fence.wide]),(U2 h0).mono ?_⟩
   intro e w2 h2
   cases e with
   | returned v =>
    have:=h2.2
    rwa [YP] at this
   | panicked chain=>exact h2.elim
   | outgrown =>
    obtain ⟨_,_,h3⟩:=h2
    exact h3.elim
  | row row args =>
   rw [Oper.upon_row] at h0
   rw [Oper.uponIn_row]
   refine ⟨fun e=>absurd e (by simp [wf,Fence.wide]),(Ww h0).mono ?_⟩
   intro v w2 h2
   have:=h2.2
   rwa [YP] at this
  | _=>exact h0.elim
 | halt x w' =>
  rw [hx] at h0
  cases x <;> exact h0.elim
theorem RepD.putU {s:Fst} {a:Act} {w:World} {d:Option Tmp} (hr:RepD ds c s a w) (hd:AF c.nt d=true):RepD ds c (s.app d (.tup []) []) (a.put d undef) w:=by
 obtain ⟨rfl,I,V,B,hr⟩:=hr
 refine ⟨by cases d <;> rfl,I,V,B,?_⟩
 have h:=RepI.put (s:=s.setO []) (by simpa [Fst.setO,A9] using hr) hd (Lg w I V)
 have e:({ (a.put d undef) with defers:=[] }:Act)=({ a with defers:=[] }:Act).put d undef:=by cases d <;> rfl
 rw [e]
 exact h
theorem La:∀ (l:List Oper) (es:List Ent) (s:Fst) (a:Act) (w:World),(∀ o∈l,∀ q,o.op≠.defer q)→(∀ o∈l,AF c.nt o.dst=true∧Lh c.nt ops o=true)→TextOk P c ops l es s→RepD ds c s a w →
  (∀ a' w',RepD ds c (Jr l es s) a' w'→Q .normal a' w')→wpListIn (wf ro) n P ops Q l a w
 | [],es,s,a,w,_,_,ht,hr,hq=>by
  simp only [TextOk] at ht
  subst ht
  exact hq a w hr
 | o :: os,es,s,a,w,hnd,hd,ht,hr,hq=>by
  simp only [TextOk] at ht
  obtain ⟨e,r,rfl,hv,ht⟩:=ht
  obtain ⟨hg,hs⟩:=hv s (fun _ _=>rfl) (fun _ _=>rfl) (fun _ _=>rfl)
  have hd0:=hd o (by simp)
  have hw:=EV hg hr.2 (IY hd0.2)
  have next:∀ a' w',RepD ds c (s.app o.dst e.x e.upd) a' w'→wpListIn (wf ro) n P ops Q os a' w':=fun a' w' hr' =>
   La os r _ a' w' (fun o' ho'=>hnd o' (by simp [ho'])) (fun o' ho'=>hd o' (by simp [ho'])) ht hr' fun a'' w'' h=>hq a'' w'' (by simpa [Jr] using h)
  unfold wpListIn
  rw [hw]
  cases he:e.run with
  | true =>
   rw [if_pos rfl]
   rw [he,if_pos rfl] at hs
   exact OpS.inn (hnd o (by simp)) hs hr next
  | false =>
   rw [if_neg (by simp)]
   rw [he,if_neg (by simp)] at hs
   refine ⟨fun _ _=>trivial,next _ _ ?_⟩
   rw [hs.1,hs.2]
   exact hr.putU hd0.1
end
section
variable {P:Program} {c:Ctx} {Q:Exit→Act→World→Prop} {ro:Option Nat} {n:Nat} {ds:List Deferred}
variable {l:List Oper} {es:List Ent} {anc:List (List Nat)}
theorem SN (hnd:∀ o∈l,∀ q,o.op≠.defer q) (h:Conf l es anc) {s:Fst} (hd:∀ o∈l,AF c.nt o.dst=true∧Lh c.nt l.toArray o=true) (ht:TextOk P c l.toArray l es s) (hq:∀ a' w',RepD ds c (Jr l es s) a' w'→Q .normal a' w') :
  ∀ (f:Nat) (listed:Array Bool) (a:Act) (w:World),listed.size=l.length→W8 l (fun j=>listed.getD j false)→open_ (fun j=>listed.getD j false) l.length=f→RepD ds c (stD l es s (fun j=>listed.getD j false) l.length) a w →
   wpAnyIn (wf ro) n P .any l.toArray Q f listed a w:=by
 have fin:∀ (listed:Array Bool) (a:Act) (w:World),open_ (fun j=>listed.getD j false) l.length=0→RepD ds c (stD l es s (fun j=>listed.getD j false) l.length) a w→Q .normal a w:=by
  intro listed a w ho hr
  refine hq a w ?_
  have e1:stD l es s (fun j=>listed.getD j false) l.length=stD l es s (fun _=>true) l.length:=by
   unfold stD
   congr 1
   ·funext k; exact CU _ fun j hj _=>Fa ho j hj
   ·funext k; exact CU _ fun j hj _=>Fa ho j hj
  have e0:stD l es s (fun _=>true) 0=s:=by unfold stD; rfl
  have e2:=Qx (l0:=l) (es0:=es) (s0:=s) (l:=l) (es:=es) (n:=0) h.len (fun j=>by simp) (fun j=>by simp)
  rw [e0,zT] at e2
  rw [e2,← e1]
  exact hr
 intro f
 induction f with
 | zero =>
  intro listed a w hsz hclo hop hr
  refine ⟨?_,fin listed a w hop hr⟩
  cases hrd:Region.ready .any l.toArray listed with
  | nil=>rfl
  | cons i r =>
   have hi:i∈Region.ready .any l.toArray listed:=by rw [hrd]; simp
   obtain ⟨h1,o,ho,_⟩:=mem_ready.1 hi
   have hlt:i<l.length:=by have:=(Array.getElem?_eq_some_iff.1 ho).1; simpa using this
   have:=Fa hop i hlt
   have e:listed.getD i true=listed.getD i false:=by simp [zR,yC (show i<listed.size by omega)]
   rw [e,this] at h1; cases h1
 | succ f ih =>
  intro listed a w hsz hclo hop hr
  refine ⟨fun hrd=>?_,fun i hi=>?_⟩
  ·
   exfalso
   obtain ⟨i,hi⟩:∃ i,i∈Region.ready .any l.toArray listed:=by
    have hex:∃ j,j<l.length∧listed.getD j false=false:=by
     refine Classical.byContradiction fun hno=>?_
     have:open_ (fun j=>listed.getD j false) l.length=0:=by
      unfold open_
      rw [List.countP_eq_zero]
      intro j hj
      have hj:=List.mem_range.1 hj
      cases hlj:listed.getD j false with
      | true=>simpa using hlj
      | false=>exact absurd ⟨j,hj,hlj⟩ hno
     omega
    obtain ⟨j,⟨hj1,hj2⟩,hmin⟩:∃ j,(j<l.length∧listed.getD j false=false)∧∀ k,k<j→¬ (k<l.length∧listed.getD k false=false):=by
     obtain ⟨j,hj⟩:=hex
     induction j using Nat.strongRecOn with
     | _ j ih =>
      by_cases hk:∃ k,k<j∧(k<l.length∧listed.getD k false=false)
      ·obtain ⟨k,h1,h2⟩:=hk; exact ih k h1 h2
      ·exact ⟨j,hj,fun k h1 h2=>hk ⟨k,h1,h2⟩⟩
    refine ⟨j,mem_ready.2 ⟨?_,l[j],by simp [hj1],fun e he hb=>?_⟩⟩
    ·simpa [zR,yC (show j<listed.size by omega)] using hj2
    ·have hlt:=(Hq h.slot (z7 hj1) (z7 hj1)).1 e he hb
     cases hle:listed.getD e.on false with
     | true=>rfl
     | false=>exact absurd ⟨by omega,hle⟩ (hmin e.on hlt)
   rw [hrd] at hi
   cases hi
  ·obtain ⟨h1,o,ho',hE⟩:=mem_ready.1 hi
   have ho:l[i]?=some o:=by simpa using ho'
   have hlt:i<l.length:=(yD.1 ho).1
   have hu:listed.getD i false=false:=by simpa [zR,yC (show i<listed.size by omega)] using h1
   obtain ⟨e,he⟩:∃ e,es[i]?=some e:=⟨es[i]'(by rw [h.len]; exact hlt),z7 (by rw [h.len]; exact hlt)⟩
   have e0:stD l es s (fun _=>true) 0=s:=by unfold stD; rfl
   have hv:=TextOk.at_ (l0:=l) (es0:=es) (s0:=s) (l:=l) (es:=es) (n:=0) (by rw [e0]; exact ht) (fun j=>by simp) (fun j=>by simp) i o e ho he
   rw [zT] at hv
   obtain ⟨hg,hs⟩:=hv (stD l es s (fun j=>listed.getD j false) l.length) (fun k hk=>h.slotEq hclo ho he hu hE s hk) (fun g hg=>h.obEq hclo ho he hu hE s (.inl hg)) (fun g hg=>h.obEq hclo ho he hu hE s (.inr hg))
   have hd0:=hd o (List.mem_of_getElem? ho)
   have hw:=EV hg hr.2 (IY hd0.2)
   have hD':∀ j,(fun j=>(listed.setIfInBounds i true).getD j false) j=(if j=i then true else (fun j=>listed.getD j false) j):=fun j=>by
    simp only [zR]
    by_cases e1:j=i
    ·subst e1; simp [show j<listed.size by omega]
    ·rw [if_neg e1,Array.getElem?_setIfInBounds_ne (fun e=>e1 e.symm)]
   have next:∀ a' w',RepD ds c ((stD l es s (fun j=>listed.getD j false) l.length).app o.dst e.x e.upd) a' w'→wpAnyIn (wf ro) n P .any l.toArray Q f (listed.setIfInBounds i true) a' w':=fun a' w' hr'=>by
    refine ih _ a' w' (by simpa using hsz) ?_ ?_ ?_
    ·intro j oj hj hlj e' he' hb
     have hlj:=hD' j▸hlj
     have:=hD' e'.on
     rw [this]
     by_cases e1:e'.on=i
     ·rw [if_pos e1]
     ·rw [if_neg e1]
      by_cases e2:j=i
      ·subst e2
       obtain rfl:o=oj:=zI (ho.symm.trans hj)
       exact hE e' he' hb
      ·rw [if_neg e2] at hlj
       exact hclo j oj hj hlj e' he' hb
    ·have:=R1 hD' hu l.length hlt
     omega
    ·rw [h.done hclo ho he hu hE s hD'] at hr'
     exact hr'
   unfold wpOpIn
   rw [ho']
   simp only
   rw [hw]
   cases her:e.run with
   | true =>
    rw [if_pos rfl]
    rw [her,if_pos rfl] at hs
    exact OpS.inn (hnd o (List.mem_of_getElem? ho)) hs hr next
   | false =>
    rw [if_neg (by simp)]
    rw [her,if_neg (by simp)] at hs
    refine ⟨fun _ _=>trivial,next _ _ ?_⟩
    rw [hs.1,hs.2]
    exact hr.putU hd0.1
theorem LZ (hnd:∀ o∈l,∀ q,o.op≠.defer q) {id:Nat} {a:Act} {w:World} {s:Fst} (hm:P.follows .mixedOrders=true) (hsl:Ps l anc=true) (hanc:Qy l []=anc) (hlen:decide (anc.length=l.length)=true) (hob:obB anc [] (EI es) 0=true)
  (hd:∀ o∈l,AF c.nt o.dst=true∧Lh c.nt l.toArray o=true) (ht:TextOk P c l.toArray l es s) (hr:RepD ds c s a w) (hq:∀ a' w',RepD ds c (Jr l es s) a' w'→Q .normal a' w'):(Code.region id l.toArray true).wpIn (wf ro) n P Q a w:=by
 have hlen:=of_decide_eq_true hlen
 have hconf:Conf l es anc:=⟨by rw [←hanc]; exact Qz l [] (fun j=>by simp) (fun j o A _ hA=>by simp at hA),ht.len,fun j hj=>⟨anc[j]'(by omega),z7 _⟩,hsl,hob⟩
 refine wpIn_region_any hm ?_
 have e0:∀ j,(yF l.length false).getD j false=false:=fun j=>by
  rw [zR]
  by_cases hj:j<l.length <;> simp [hj]
 refine SN hnd hconf hd ht hq _ _ a _ (by simp) ?_ ?_ ?_
 ·intro j oj _ hlj
  simp only [yJ] at hlj
  rw [e0 j] at hlj; cases hlj
 ·unfold open_
  simp only [yJ]
  have:((List.range l.length).countP fun j=>!(yF l.length false).getD j false)=(List.range l.length).length:=by
   rw [List.countP_eq_length]
   intro j _
   rw [e0 j]; rfl
  rw [this]; simp
 ·have e1:stD l es s (fun j=>(yF l.toArray.size false).getD j false) l.length=s:=by
   have:∀ {α:Type} (wr:Nat→Option α) (n:Nat) (v:α),CT wr (fun j=>(yF l.toArray.size false).getD j false) n v=v:=fun wr n v=>by
    rw [Eg 0 n (zH _) (fun j _ _ _=>by simp only [yJ]; exact e0 j)]; rfl
   unfold stD
   simp only [this]
  rw [e1]
  exact ⟨hr.1,hr.2.drew 1⟩
end
section
variable {P:Program} {c:Ctx} {ro:Option Nat} {n:Nat} {ds:List Deferred}
theorem Wx {ops:Array Oper} {o:Oper} {so:SOper} (h:Fi P ops o=some so):∀ q,o.op≠.defer q:=by
 intro q hq
 unfold Fi at h
 have e:C4 P o=none:=by unfold C4; rw [hq]
 rw [e] at h
 split at h
 ·rename_i h2; cases h2
 ·cases h
theorem Ko {ops:Array Oper}:∀ {l:List Oper} {sl:List SOper},AX (l.map (Fi P ops))=some sl→∀ o∈l,∀ q,o.op≠.defer q
 | [],_,_,o,ho=>by cases ho
 | x :: r,sl,h,o,ho=>by
  rw [z6] at h
  cases h1:Fi P ops x with
  | none=>rw [h1] at h; cases h
  | some y =>
   rw [h1] at h
   simp only [AX] at h
   obtain ⟨sl',h2,_⟩:=zM.1 h
   rcases zX.1 ho with rfl | ho
   ·exact Wx h1
   ·exact Ko h2 o ho
def Dy:SC→Bool
 | .seq a b=>Dy a&&Dy b
 | .cond _ a b=>Dy a&&Dy b
 | .block _ b=>Dy b
 | .loop _ _=>false
 | .next _ _ _=>false
 | .mloop _ _ _ _ _ _=>false
 | .ghost _ _=>false
 | _=>true
def Qav (ro:Option Nat) (n:Nat) (ds:List Deferred) (P:Program) (c:Ctx) (sc:SC) (K:X→St→Prop) (st:St):Prop :=
 ∀ (code:Code),trC P c.nt code=some sc→∀ (a:Act) (w:World) (Q:Exit→Act→World→Prop),st.sl.length=c.nt→RepD ds c st.f a w →
  (∀ x st' a' w',K x st'→st'.sl.length=c.nt→RepD ds c st'.f a' w'→Q x.exit' a' w')→code.wpIn (wf ro) n P Q a w
theorem DX (hm:P.follows .mixedOrders=true):∀ (sc:SC) (K:X→St→Prop) (st:St),Dy sc=true→sw P c sc K st→Qav ro n ds P c sc K st
 | .skip,K,st,_,h=>by
  intro code hc a w Q hl hr hq
  cases code <;> simp only [trC] at hc <;> (try (cases hc; done)) <;> (try (split at hc <;> (try split at hc) <;> (try split at hc) <;> (try split at hc) <;> (try split at hc) <;> cases hc; done)) <;> (try (obtain ⟨_,_,e⟩:=zM.1 hc; cases e; done))
  exact wpIn_skip (hq _ _ _ _ h hl hr)
 | .exit id,K,st,_,h=>by
  intro code hc a w Q hl hr hq
  cases code <;> simp only [trC] at hc <;> (try (cases hc; done)) <;> (try (split at hc <;> (try split at hc) <;> (try split at hc) <;> (try split at hc) <;> (try split at hc) <;> cases hc; done)) <;> (try (obtain ⟨_,_,e⟩:=zM.1 hc; cases e; done))
  obtain rfl:=SC.exit.inj (zI hc)
  exact wpIn_exit (hq _ _ _ _ h hl hr)
 | .ret,K,st,_,h=>by
  intro code hc a w Q hl hr hq
  cases code <;> simp only [trC] at hc <;> (try (cases hc; done)) <;> (try (split at hc <;> (try split at hc) <;> (try split at hc) <;> (try split at hc) <;> (try split at hc) <;> cases hc; done)) <;> (try (obtain ⟨_,_,e⟩:=zM.1 hc; cases e; done))
  exact wpIn_ret (hq _ _ _ _ h hl hr)
 | .loop j b,K,st,hf,h=>by cases hf
 | .mloop _ _ _ _ _ _,K,st,hf,h=>by cases hf
 | .ghost _ _,K,st,hf,h=>by cases hf
 | .next it nx more,K,st,hf,h=>by cases hf
 | .reg sl,K,st,_,h=>by
  intro code hc a w Q hl hr hq
  cases code <;> simp only [trC] at hc <;> (try (cases hc; done)) <;> (try (obtain ⟨_,_,e⟩:=zM.1 hc; cases e; done))
  case region id ops draw =>
   split at hc
   ·cases hc
   rename_i hnn
   split at hc
   ·rename_i sl' hsl
    split at hc
    ·rename_i hall
     split at hc
     ·split at hc <;> cases hc
     ·rename_i hdr
      obtain rfl:=SC.reg.inj (zI hc)
      have hdr:draw=false:=by simpa using hdr
      subst hdr
      have hall:∀ o∈ops.toList,AF c.nt o.dst=true∧Lh c.nt ops o=true:=fun o ho=>by
       have:=(yB.1 hall) o ho
       simpa using this
      obtain ⟨es,st',h1,h2,h3,h4⟩:=JP (c:=c) hsl hl (fun o ho=>(hall o ho).1) h
      exact wpIn_region_list (La ops.toList es st.f a w (Ko hsl) hall h2 hr fun a' w' hr'=>hq .normal st' a' w' h1 h4 (by rw [←h3]; exact hr'))
    ·cases hc
   ·cases hc
  case seq=>split at hc <;> cases hc
  case cond=>split at hc <;> cases hc
 | .dreg anc sl,K,st,_,h=>by
  intro code hc a w Q hl hr hq
  cases code <;> simp only [trC] at hc <;> (try (cases hc; done)) <;> (try (obtain ⟨_,_,e⟩:=zM.1 hc; cases e; done))
  case region id ops draw =>
   split at hc
   ·cases hc
   rename_i hnn
   split at hc
   ·rename_i sl' hsl
    split at hc
    ·rename_i hall
     split at hc
     ·rename_i hdr
      split at hc
      ·rename_i hsb
       obtain ⟨rfl,rfl⟩:=SC.dreg.inj (zI hc)
       have hdr:draw=true:=by simpa using hdr
       subst hdr
       have hall:∀ o∈ops.toList,AF c.nt o.dst=true∧Lh c.nt ops o=true:=fun o ho=>by
        have:=(yB.1 hall) o ho
        simpa using this
       rw [zS] at hsb
       obtain ⟨es,st',⟨hob,h1⟩,h2,h3,h4⟩:=JO (c:=c) hsl hl (fun o ho=>(hall o ho).1) h
       have:=LZ (P:=P) (c:=c) (Q:=Q) (l:=ops.toList) (es:=es) (anc:=Qy ops.toList []) (id:=id) (a:=a) (w:=w) (s:=st.f) (ro:=ro) (n:=n) (ds:=ds) (Ko hsl) hm hsb.1 rfl hsb.2 hob (by simpa using hall) (by simpa using h2) hr (fun a' w' hr'=>hq .normal st' a' w' h1 h4 (by rw [←h3]; exact hr'))
       simpa using this
      ·cases hc
     ·cases hc
    ·cases hc
   ·cases hc
  case seq=>split at hc <;> cases hc
  case cond=>split at hc <;> cases hc
 | .seq x y,K,st,hf,h=>by
  intro code hc a w Q hl hr hq
  simp only [Dy,zS] at hf
  cases code <;> simp only [trC] at hc <;> (try (cases hc; done)) <;> (try (obtain ⟨_,_,e⟩:=zM.1 hc; cases e; done))
  case region=>split at hc <;> (try split at hc) <;> (try split at hc) <;> (try split at hc) <;> (try split at hc) <;> cases hc
  case cond=>split at hc <;> cases hc
  case seq u v =>
   split at hc
   ·rename_i x' y' hx hy
    obtain ⟨rfl,rfl⟩:=SC.seq.inj (zI hc)
    simp only [sw] at h
    refine wpIn_seq (DX hm _ _ st hf.1 h u hx a w _ hl hr fun e st' a' w' hk hl' hr'=>?_)
    cases e with
    | normal=>exact DX hm _ _ st' hf.2 hk v hy a' w' Q hl' hr' hq
    | exit id=>exact hq _ _ _ _ hk hl' hr'
    | ret=>exact hq _ _ _ _ hk hl' hr'
   ·cases hc
 | .cond cx x y,K,st,hf,h=>by
  intro code hc a w Q hl hr hq
  simp only [Dy,zS] at hf
  cases code <;> simp only [trC] at hc <;> (try (cases hc; done)) <;> (try (obtain ⟨_,_,e⟩:=zM.1 hc; cases e; done))
  case region=>split at hc <;> (try split at hc) <;> (try split at hc) <;> (try split at hc) <;> (try split at hc) <;> cases hc
  case seq=>split at hc <;> cases hc
  case cond q u v =>
   split at hc
   ·rename_i x' y' hx hy
    obtain ⟨rfl,rfl,rfl⟩:=SC.cond.inj (zI hc)
    simp only [sw] at h
    split at h
    ·rename_i t ht
     have hv:a.eval q=.bool t:=by
      obtain ⟨_,I,V,B,hr⟩:=hr
      have:=As hr q
      have e:Au st.f.sl (trX q)=.bool t:=ht
      rw [e] at this
      have e2:Act.eval { a with defers:=[] } q=a.eval q:=by cases q <;> rfl
      rw [e2] at this
      simpa only [RepV] using this
     refine wpIn_cond_split hv (fun e=>?_) (fun e=>?_)
     ·exact DX hm _ _ st hf.1 (h.1 e) u hx a w Q hl hr hq
     ·exact DX hm _ _ st hf.2 (h.2 e) v hy a w Q hl hr hq
    ·exact h.elim
   ·cases hc
 | .block id b,K,st,hf,h=>by
  intro code hc a w Q hl hr hq
  simp only [Dy] at hf
  cases code <;> simp only [trC] at hc <;> (try (cases hc; done))
  case region=>split at hc <;> (try split at hc) <;> (try split at hc) <;> (try split at hc) <;> (try split at hc) <;> cases hc
  case seq=>split at hc <;> cases hc
  case cond=>split at hc <;> cases hc
  case loop=>obtain ⟨_,_,e⟩:=zM.1 hc; cases e
  case block id' u =>
   obtain ⟨x',hx,e⟩:=zM.1 hc
   obtain ⟨rfl,rfl⟩:=SC.block.inj e
   simp only [sw] at h
   refine wpIn_block (DX hm _ _ st hf h u hx a w _ hl hr fun e st' a' w' hk hl' hr'=>?_)
   cases e with
   | normal=>exact hq .normal st' a' w' hk hl' hr'
   | ret=>exact hq .ret st' a' w' hk hl' hr'
   | exit i =>
    simp only at hk
    simp only [X.exit',Exit.inBlock]
    by_cases hi:i=id'
    ·rw [if_pos hi] at hk ⊢
     exact hq .normal st' a' w' hk hl' hr'
    ·rw [if_neg hi] at hk ⊢
     exact hq (.exit i) st' a' w' hk hl' hr'
end
structure At (nt:Nat) (w:World) (I:Nat→Prop) (V:Nat→Option Value) (B:Nat→Nat→Prop) (st:St) (tm:Array Value):Prop where
 wf:Wf w I V B (An st.ob)
 len:st.sl.length=nt
 sz:tm.size=nt
 sl:∀ k,RepV w I V (gets st.sl k) (tm.getD k undef)
def IP (w:World) (I:Nat→Prop) (V:Nat→Option Value) (B:Nat→Nat→Prop) (ob:List Ob) (nt:Nat) (h:Wf w I V B (An ob)):Ctx:=⟨w,HB B ob,I,V,nt,ob.length,fun g hg=>h.fr g (A5 _ _ hg)⟩
section
variable {P:Program} {nt:Nat} {w w':World} {I I':Nat→Prop} {V V':Nat→Option Value} {B B':Nat→Nat→Prop} {st st':St} {tm tm':Array Value}
theorem At.rep (h:At nt w I V B st tm):RepI (IP w I V B st.ob nt h.wf) I V B st.f { tmps:=tm,defers:=[] } w :=
 ⟨⟨rfl,TapeOk.mk' rfl rfl,rfl,yX _,fun _ _ _=>rfl⟩,fun _ h=>h,fun _ h=>.inl h,VLe.refl _,h.wf,fun g b hl hb=>.inl ⟨g,hl,hb⟩,rfl,h.sz,h.sl⟩
theorem At.post (h:At nt w I V B st tm) {a:Act} (hr:RepI (IP w I V B st.ob nt h.wf) I' V' B' st'.f a w') (hl:st'.sl.length=nt):At nt w' I' V' B' st' a.tmps∧FunPost w I V B st.ob st'.ob w' I' V' B' :=
 ⟨⟨hr.wf,hl,hr.sz,hr.slots⟩,hr.fr,hr.i0,hr.i1,hr.v0,hr.wf,hr.bh⟩
theorem FunPost.trans2 {V0 Vk:Nat→Option Value} {ob ob' ob'':List Ob} {w'':World} {I'':Nat→Prop} {V'':Nat→Option Value} {B'':Nat→Nat→Prop} (h:FunPost w I V B ob ob' w' I' V' B') (k:FunPost w' I' Vk B' ob' ob'' w'' I'' V'' B'') (hv:VLe V0 Vk):FunPost w I V0 B ob ob'' w'' I'' V'' B'':=by
 have hb:∀ b,HB B' ob' b→HB B ob b∨w.heap.size≤b:=fun b ⟨g,hl,hg⟩=>h.bh g b hl hg
 have hs:=h.fr.size
 refine ⟨⟨k.fr.os.trans h.fr.os,TapeOk.trans k.fr.tape h.fr.tape,k.fr.output.trans h.fr.output,Nat.le_trans hs k.fr.size,fun b hlt hn=>?_⟩,fun b hb=>k.i0 b (h.i0 b hb),fun b hb'=>?_,hv.trans k.v,k.wf,fun g b hl hb'=>?_⟩
 ·rw [k.fr.block b (by omega) fun hh=>by rcases hb b hh with h1 | h1; exact hn h1; omega]
  exact h.fr.block b hlt hn
 ·rcases k.i1 b hb' with h1 | h1 | h1
  ·exact h.i1 b h1
  ·exact .inr (.inl (by omega))
  ·rcases hb b h1 with h2 | h2
   ·exact .inr (.inr h2)
   ·exact .inr (.inl h2)
 ·rcases k.bh g b hl hb' with h1 | h1
  ·exact hb b h1
  ·exact .inr (by omega)
theorem FunPost.trans {ob ob' ob'':List Ob} {w'':World} {I'':Nat→Prop} {V'':Nat→Option Value} {B'':Nat→Nat→Prop} (h:FunPost w I V B ob ob' w' I' V' B') (k:FunPost w' I' V' B' ob' ob'' w'' I'' V'' B''):FunPost w I V B ob ob'' w'' I'' V'' B'':=h.trans2 k h.v
theorem FunPost.keepI {V0:Nat→Option Value} {ob ob':List Ob} (h:FunPost w I V0 B ob ob' w' I' V' B') (hw:Wf w I V B (An ob)):KeepS I w w' :=
 ⟨h.fr.size,fun b hb hl=>h.fr.block b hl fun ⟨g,hg,hB⟩=>hw.dI g b hg hB hb⟩
theorem leg {ro:Option Nat} {n:Nat} {sc:SC} {K:X→St→Prop} {code:Code} {a:Act} {Q:Exit→Act→World→Prop} (hm:P.follows .mixedOrders=true) (h:At nt w I V B st a.tmps) (hc:trC P nt code=some sc) (hf:Dy sc=true)
  (hs:∀ c:Ctx,c.nt=nt→c.m=st.ob.length→sw P c sc K st)
  (hq:∀ x st' a' w' I' V' B',K x st'→a'.defers=a.defers→At nt w' I' V' B' st' a'.tmps→FunPost w I V B st.ob st'.ob w' I' V' B'→Q x.exit' a' w'):code.wpIn (wf ro) n P Q a w:=by
 refine DX (c:=IP w I V B st.ob nt h.wf) (ds:=a.defers) hm sc K st hf (hs _ rfl rfl) code hc a w Q h.len ⟨rfl,I,V,B,h.rep⟩ fun x st' a' w' hk hl' hr'=>?_
 obtain ⟨hd,I',V',B',hr'⟩:=hr'
 obtain ⟨h1,h2⟩:=h.post hr' hl'
 exact hq x st' a' w' I' V' B' hk hd h1 h2
end
def Off (I:Nat→Prop) (B:Nat→Nat→Prop) (ob:List Ob) (x:Nat):Prop:=¬ I x∧¬ HB B ob x
section
variable {P:Program} {nt:Nat} {w w' W:World} {I I':Nat→Prop} {V V':Nat→Option Value} {B B':Nat→Nat→Prop} {st st':St} {tm:Array Value} {ob ob':List Ob} {x:Nat}
theorem Wf.keptB {ob:Nat→Ob} (h:Wf w I V B ob) (hk:KeepS I w w') (hB:∀ g b,(ob g).live→B g b→w'.heap[b]?=w.heap[b]?):Wf w' I V B ob :=
 ⟨fun b hb=>yQ (h.ilt b hb) hk.size,fun g hl=>let ⟨val,hv,hr⟩:=h.obj g hl; ⟨val,hv,hr.keep hk (fun _ h=>h) (fun _ _ h=>h) fun b hb _=>hB g b hl hb⟩,fun g b hl hb=>yQ (h.lt g b hl hb) hk.size,h.dI,h.dO,h.fr,h.gl.keep hk fun _ h=>h⟩
theorem Wf.putB (h:Wf w I V B (An ob)) (ho:Off I B ob x) (o:Obj):Wf (w.putObj x o) I V B (An ob) :=
 h.keptB ⟨by simp,fun b hb _=>World.putObj_heap_other (fun e=>ho.1 (e▸hb))⟩ fun g b hl hb=>World.putObj_heap_other (fun e=>ho.2 ⟨g,hl,e▸hb⟩)
theorem At.put (h:At nt w I V B st tm) (ho:Off I B st.ob x) (o:Obj):At nt (w.putObj x o) I V B st tm :=
 ⟨h.wf.putB ho o,h.len,h.sz,fun k=>RepV.mono (w:=w) (w':=w.putObj x o) ⟨by simp,fun b hb _=>World.putObj_heap_other (fun e=>by subst e; exact ho.1 hb)⟩ (fun _ h=>h) (VLe.refl _) _ _ (h.sl k)⟩
theorem FunPost.putNew (h:FunPost w I V B ob ob' W I' V' B') (hx:w.heap.size≤x) (ho:Off I' B' ob' x) (o:Obj):FunPost w I V B ob ob' (W.putObj x o) I' V' B' :=
 ⟨⟨h.fr.os,TapeOk.trans (TapeOk.mk' rfl rfl) h.fr.tape,h.fr.output,by have:=h.fr.size; simpa using this,fun b hb hn=>(World.putObj_heap_other (by omega)).trans (h.fr.block b hb hn)⟩,h.i0,h.i1,h.v,h.wf.putB ho o,h.bh⟩
theorem FunPost.weak {n1:Nat} {ob1:List Ob} {m:List Nat} (hp:FunPost w I V B ob ob' W I' V' B') (h0:∀ g u,V g=some u→g<n1) (hw:WeakC n1 m ⟨[],ob'⟩ ⟨[],ob1⟩):FunPost w I V B ob ob1 W I' (fun g=>V' (sgp m ob'.length g)) (fun g=>B' (sgp m ob'.length g)):=by
 have hwf':=hw.wf (st:=⟨[],ob'⟩) hp.wf
 refine ⟨hp.fr,hp.i0,hp.i1,fun g u hu=>?_,hwf',fun g b hl hb=>?_⟩
 ·rw [GM hw.2.2.2 g (h0 g u hu)]
  exact hp.v g u hu
 ·have hlt:g<ob1.length:=by
   rcases zB g ob1.length with h1 | h1
   ·exact h1
   ·rw [A5 _ _ h1] at hl; exact hl.elim
  have h1:=DD (j:=g) hw.2.1 hlt
  rw [zT] at h1
  exact hp.bh _ b (Dr h1 hl) hb
theorem DY:∀ (l:List Ob) (g:Nat) (o:Ob),(BT l g o).length=l.length
 | [],_,_=>rfl
 | _ :: _,0,_=>rfl
 | _ :: r,g+1,o=>by simp only [BT,zP,DY r g o]
end
def Qaf (D:Nat):Deferred:={ target:=.collected D,args:=#[] }
section
variable {P:Program}
def Qag (P:Program) (fn:Func) (w:World) (I:Nat→Prop) (V:Nat→Option Value) (B:Nat→Nat→Prop) (ob:List Ob) (r:SV) (ob':List Ob):Exit→Act→World→Prop :=
 bodyPostM Fence.wide 5 P fn (fun e w'=>∃ v I' V' B',e=.returned v∧RepV w' I' V' r v∧FunPost w I V B ob ob' w' I' V' B')
theorem Ma {f:FuncId} {fn:Func} {code:Code} {args:List SV} {ob:List Ob} {r:SV} {ob':List Ob} (hf:P.funcs[f]?=some fn) (hb:fn.body=some code) (hn:args.length≤fn.ntmps)
  (h:∀ w I V B tm,At fn.ntmps w I V B ⟨args++HX (fn.ntmps-args.length),ob⟩ tm→code.wpIn Fence.wide 5 P (Qag P fn w I V B ob r ob') { tmps:=tm,defers:=[] } w):Fun P f args ob r ob':=by
 intro w I V B vs hwf hvs
 have hvl:=hvs.len
 refine (callsIn_wide (n:=5)).1 ?_
 refine callsIn_of_wp_marks hf hb trivial (h w I V B _ ⟨hwf,?_,?_,fun k=>?_⟩) rfl
 ·simp only [zJ,Nz]
  omega
 ·simp only [Array.size_append,yJ,Array.size_replicate]
  omega
 ·show RepV w I V (gets (args++HX (fn.ntmps-args.length)) k) _
  rw [Ny]
  by_cases hk:k<args.length
  ·rw [if_pos hk]
   have:=hvs.gets k hk
   have e:(vs.toArray++yF (fn.ntmps-vs.toArray.size) undef).getD k undef=vs.getD k undef:=by
    rw [zR,Array.getElem?_append_left (by simp; omega)]
    simp [List.getD_eq_getElem?_getD]
   rw [e]; exact this
  ·rw [if_neg hk,Lq]; simp [RepV]
theorem Mb {fn:Func} {w W:World} {I I':Nat→Prop} {V V':Nat→Option Value} {B B':Nat→Nat→Prop} {ob:List Ob} {r:SV} {ob':List Ob} {st:St} {a:Act} {rs:List RX} {e:X} (hrs:AX (fn.results.toList.map (Nx P fn.ntmps))=some rs)
  (h0:Wf w I V B (An ob)) (hA:At fn.ntmps W I' V' B' st a.tmps) (hP:FunPost w I V B ob st.ob W I' V' B') (hk:Fin rs ob.length r ob' e st)
  (hd:a.defers=[]∨∃ D,a.defers=[Qaf D]∧w.heap.size≤D∧W.heap[D]?=some (.deferred (some []))∧Off I' B' st.ob D):Qag P fn w I V B ob r ob' e.exit' a W:=by
 obtain ⟨hx,r0,m,hres,hweak⟩:=hk
 have key:∀ W2,At fn.ntmps W2 I' V' B' st a.tmps→FunPost w I V B ob st.ob W2 I' V' B'→∃ v,(results fn a.tmps).run P W2=.ok v W2∧∃ v2 I2 V2 B2,Ending.returned v=.returned v2∧RepV W2 I2 V2 r v2∧FunPost w I V B ob ob' W2 I2 V2 B2:=fun W2 hA2 hP2=>by
  obtain ⟨v,hrun,hv⟩:=Mr (P:=P) hA2.rep hrs hres
  have hwk:WeakC ob.length m ⟨[],st.ob⟩ ⟨[],ob'⟩:=⟨trivial,hweak.2.1,hweak.2.2.1,hweak.2.2.2⟩
  have hP3:=hP2.weak (n1:=ob.length) (fun g u hu=>by
   rcases zB g ob.length with h1 | h1
   ·exact h1
   ·rw [h0.fr g (A5 _ _ h1)] at hu; cases hu) hwk
  have hv':RepV W2 I' (fun g=>V' (sgp m st.ob.length g)) r v:=by
   have h1:=hweak.1
   simp only [leL] at h1
   exact Jd h1.1 hv
  exact ⟨v,hrun,v,_,_,_,rfl,hv',hP3⟩
 have goal:LeavesInM Fence.wide 5 P fn a.tmps (fun e w'=>∃ v I' V' B',e=.returned v∧RepV w' I' V' r v∧FunPost w I V B ob ob' w' I' V' B') a.defers .returning W:=by
  rcases hd with hd | ⟨D,hd,hD,hh,ho⟩
  ·rw [hd]
   obtain ⟨v,h1,h2⟩:=key W hA hP
   exact ⟨v,h1,h2⟩
  ·rw [hd]
   obtain ⟨v,h1,h2⟩:=key _ (hA.put ho (.deferred none)) (hP.putNew hD ho _)
   exact ⟨by simp,.inl ⟨D,_,rfl,run_takeDeferred (ds:=[]) hh,v,h1,h2⟩⟩
 rcases hx with rfl | rfl
 ·exact goal
 ·exact goal
end
section
variable {P:Program} {nt n:Nat} {w:World} {I:Nat→Prop} {V:Nat→Option Value} {B:Nat→Nat→Prop}
theorem Gr {ob:List Ob} {g:Nat} (h:An ob g≠.free):g<ob.length:=by
 rcases zB g ob.length with h1 | h1
 ·exact h1
 ·exact absurd (A5 _ _ h1) h
theorem RepVs.YQ:∀ {l:List SV} {vs:List Value} (o:Nat) {x y:SV},RepVs w I V l vs→l[o]?=some x→(∀ v,RepV w I V x v→RepV w I V y v)→RepVs w I V (l.set o y) vs
 | [],vs,o,x,y,h,hx,_=>by simp at hx
 | z :: l,vs,0,x,y,h,hx,hy=>by
  simp only [List.getElem?_cons_zero,Option.some.injEq] at hx
  subst hx
  simp only [RepVs] at h
  obtain ⟨v,r,rfl,h1,h2⟩:=h
  simp only [yH,RepVs]
  exact ⟨v,r,rfl,hy v h1,h2⟩
 | z :: l,vs,o+1,x,y,h,hx,hy=>by
  simp only [List.getElem?_cons_succ] at hx
  simp only [RepVs] at h
  obtain ⟨v,r,rfl,h1,h2⟩:=h
  simp only [yI,RepVs]
  exact ⟨v,r,rfl,h1,RepVs.YQ o h2 hx hy⟩
theorem XQ (hm:P.follows .mixedOrders=true) {c0 c1 c2 c3 c4 T:Code} {s0 s1 s2 s3 s4:SC} {st:St} {a:Act} {Q:Exit→Act→World→Prop} {K:X→St→Prop} (hA:At nt w I V B st a.tmps) (hd:a.defers=[])
  (t0:trC P nt c0=some s0) (t1:trC P nt c1=some s1) (t2:trC P nt c2=some s2) (t3:trC P nt c3=some s3) (t4:trC P nt c4=some s4) (hfl:(Dy s0&&Dy s1&&Dy s2&&Dy s3&&Dy s4)=true)
  (hs:∀ c:Ctx,c.nt=nt→c.m=st.ob.length→sw P c (.seq s0 (.seq s1 (.seq s2 (.seq s3 s4)))) K st) (hX:∀ i st',¬ K (.exit i) st')
  (hR:∀ st' a' w' I' V' B',K .ret st'→a'.defers=[]→At nt w' I' V' B' st' a'.tmps→FunPost w I V B st.ob st'.ob w' I' V' B'→Q .ret a' w')
  (hN:∀ st' a' w' I' V' B',K .normal st'→a'.defers=[]→At nt w' I' V' B' st' a'.tmps→FunPost w I V B st.ob st'.ob w' I' V' B'→T.wpIn (wf none) n P Q a' w') :
  (Code.seq c0 (.seq c1 (.seq c2 (.seq c3 (.seq c4 T))))).wpIn (wf none) n P Q a w:=by
 simp only [zS] at hfl
 obtain ⟨⟨⟨⟨f0,f1⟩,f2⟩,f3⟩,f4⟩:=hfl
 have hend:∀ (st':St) (a':Act) (W:World),K .ret st'→RepD [] (IP w I V B st.ob nt hA.wf) st'.f a' W→st'.sl.length=nt→Q .ret a' W:=fun st' a' W hk hr hl=>by
  obtain ⟨hd',I',V',B',hr⟩:=hr
  obtain ⟨q1,q2⟩:=hA.post hr hl
  exact hR st' a' W I' V' B' hk hd' q1 q2
 have hh:=hs (IP w I V B st.ob nt hA.wf) rfl rfl
 simp only [sw] at hh
 have hR0:RepD [] (IP w I V B st.ob nt hA.wf) st.f a w:=by
  obtain ⟨tm,dl⟩:=a
  simp only at hd
  subst hd
  exact ⟨rfl,I,V,B,hA.rep⟩
 refine wpIn_seq (DX (c:=IP w I V B st.ob nt hA.wf) (ds:=[]) hm _ _ _ f0 hh _ t0 _ w _ hA.len hR0 fun x st1 a1 w1 hk hl hr=>?_)
 cases x with
 | exit i=>exact (hX _ _ hk).elim
 | ret=>exact hend st1 a1 w1 hk hr hl
 | normal =>
 refine wpIn_seq (DX (c:=IP w I V B st.ob nt hA.wf) (ds:=[]) hm _ _ _ f1 hk _ t1 _ w1 _ hl hr fun x st1 a1 w1 hk hl hr=>?_)
 cases x with
 | exit i=>exact (hX _ _ hk).elim
 | ret=>exact hend st1 a1 w1 hk hr hl
 | normal =>
 refine wpIn_seq (DX (c:=IP w I V B st.ob nt hA.wf) (ds:=[]) hm _ _ _ f2 hk _ t2 _ w1 _ hl hr fun x st1 a1 w1 hk hl hr=>?_)
 cases x with
 | exit i=>exact (hX _ _ hk).elim
 | ret=>exact hend st1 a1 w1 hk hr hl
 | normal =>
 refine wpIn_seq (DX (c:=IP w I V B st.ob nt hA.wf) (ds:=[]) hm _ _ _ f3 hk _ t3 _ w1 _ hl hr fun x st1 a1 w1 hk hl hr=>?_)
 cases x with
 | exit i=>exact (hX _ _ hk).elim
 | ret=>exact hend st1 a1 w1 hk hr hl
 | normal =>
 refine wpIn_seq (DX (c:=IP w I V B st.ob nt hA.wf) (ds:=[]) hm _ _ _ f4 hk _ t4 _ w1 _ hl hr fun x st1 a1 w1 hk hl hr=>?_)
 cases x with
 | exit i=>exact (hX _ _ hk).elim
 | ret=>exact hend st1 a1 w1 hk hr hl
 | normal =>
 obtain ⟨hd',I',V',B',hr⟩:=hr
 obtain ⟨q1,q2⟩:=hA.post hr hl
 exact hN st1 a1 w1 I' V' B' hk hd' q1 q2
def O6 (ob:List Ob) (p g:Nat) (t:TypeId) (l:List SV) (o:Nat) (v:Value):List Ob:=BT (BT ob p (.box t (l.set o (.val v)))) g .gone
def Kp (ob:List Ob) (p g:Nat) (t:TypeId) (l:List SV) (o:Nat) (r:Ob):List Ob:=BT (BT ob p (.box t (l.set o (.ref g)))) g r
theorem Wy {ob:List Ob} {p g:Nat} {t:TypeId} {l:List SV} {o:Nat} {v:Value} (hp:p<ob.length) (hg:g<ob.length) (x:Nat):An (O6 ob p g t l o v) x=if x=g then .gone else if x=p then .box t (l.set o (.val v)) else An ob x:=by
 unfold O6
 rw [By,By,DY]
 by_cases h1:x=g
 ·rw [if_pos ⟨h1,hg⟩,if_pos h1]
 ·rw [if_neg (fun h=>h1 h.1),if_neg h1]
  by_cases h2:x=p
  ·rw [if_pos ⟨h2,hp⟩,if_pos h2]
  ·rw [if_neg (fun h=>h2 h.1),if_neg h2]
theorem SO {ob:List Ob} {p g:Nat} {t:TypeId} {l:List SV} {o:Nat} {r:Ob} (hp:p<ob.length) (hg:g<ob.length) (x:Nat):An (Kp ob p g t l o r) x=if x=g then r else if x=p then .box t (l.set o (.ref g)) else An ob x:=by
 unfold Kp
 rw [By,By,DY]
 by_cases h1:x=g
 ·rw [if_pos ⟨h1,hg⟩,if_pos h1]
 ·rw [if_neg (fun h=>h1 h.1),if_neg h1]
  by_cases h2:x=p
  ·rw [if_pos ⟨h2,hp⟩,if_pos h2]
  ·rw [if_neg (fun h=>h2 h.1),if_neg h2]
theorem YR (hm:P.follows .mixedOrders=true) {code:Code} {sc:SC} {sl:List SV} {ob:List Ob} {g p o:Nat} {t tr:TypeId} {szr:Nat} {es:List (List OT)} {l:List SV} {a:Act} {Q:Exit→Act→World→Prop} {K:Value→X→St→Prop}
  (hA:At nt w I V B ⟨sl,ob⟩ a.tmps) (hg:An ob g=.row tr szr es) (hp:An ob p=.box t l) (ho:l[o]?=some (.ref g)) (hc:trC P nt code=some sc) (hf:Dy sc=true)
  (hs:∀ (v:Value) (c:Ctx),c.nt=nt→c.m=ob.length→sw P c sc (K v) ⟨sl,O6 ob p g t l o v⟩)
  (hK:∀ v x st',K v x st'→An st'.ob g=.gone∧∃ l',An st'.ob p=.box t l'∧l'[o]?=some (.val v))
  (hq:∀ v x st' l' a' w' I' V' B',K v x st'→An st'.ob p=.box t l'→a'.defers=a.defers→V' g=some v→At nt w' I' V' B' ⟨st'.sl,Kp st'.ob p g t l' o (.row tr szr es)⟩ a'.tmps→FunPost w I V B ob (Kp st'.ob p g t l' o (.row tr szr es)) w' I' V' B'→Q x.exit' a' w'):code.wpIn (wf none) n P Q a w:=by
 have hgl:g<ob.length:=Gr (by rw [hg]; simp)
 have hpl:p<ob.length:=Gr (by rw [hp]; simp)
 have hgp:g≠p:=fun e=>by rw [e,hp] at hg; cases hg
 obtain ⟨val,hV,hrow⟩:=hA.wf.obj g (by rw [hg]; trivial)
 rw [hg] at hrow
 have hrow:RowR w I (B g) tr szr es val:=hrow
 have hP:=fun v=>Wy (t:=t) (l:=l) (o:=o) (v:=v) hpl hgl
 have hlive:∀ v x,(An (O6 ob p g t l o v) x).live→x≠g∧(An ob x).live:=fun v x h=>by
  rw [hP v x] at h
  by_cases e:x=g
  ·rw [if_pos e] at h; exact h.elim
  ·refine ⟨e,?_⟩
   rw [if_neg e] at h
   by_cases e2:x=p
   ·rw [e2,hp]; trivial
   ·rw [if_neg e2] at h; exact h
 have hgv:(An ob g).live:=by rw [hg]; trivial
 have hwf1:Wf w I V B (An (O6 ob p g t l o val)):=by
  refine ⟨hA.wf.ilt,fun x hx=>?_,fun x b hx=>hA.wf.lt x b (hlive _ x hx).2,fun x b hx=>hA.wf.dI x b (hlive _ x hx).2,fun x y b hx hy=>hA.wf.dO x y b (hlive _ x hx).2 (hlive _ y hy).2,fun x hx=>?_,hA.wf.gl⟩
  ·obtain ⟨h1,h2⟩:=hlive _ x hx
   obtain ⟨u,h3,h4⟩:=hA.wf.obj x h2
   refine ⟨u,h3,?_⟩
   rw [hP val x,if_neg h1]
   by_cases e2:x=p
   ·rw [if_pos e2]
    rw [e2,hp] at h4
    obtain ⟨b,vs,k1,k2,k3,k4⟩:=h4
    refine ⟨b,vs,k1,by rw [e2]; exact k2,k3,RepVs.YQ o k4 ho fun v hv=>?_⟩
    simp only [RepV] at hv ⊢
    rw [hV] at hv
    exact ⟨(zI hv.1).symm,hv.2⟩
   ·rw [if_neg e2]; exact h4
  ·refine hA.wf.fr x ?_
   rw [hP val x] at hx
   by_cases e:x=g
   ·rw [if_pos e] at hx; cases hx
   ·rw [if_neg e] at hx
    by_cases e2:x=p
    ·rw [if_pos e2] at hx; cases hx
    ·rw [if_neg e2] at hx; exact hx
 have hA1:At nt w I V B ⟨sl,O6 ob p g t l o val⟩ a.tmps:=⟨hwf1,hA.len,hA.sz,hA.sl⟩
 have hln:(O6 ob p g t l o val).length=ob.length:=by unfold O6; rw [DY,DY]
 refine leg (ro:=none) hm hA1 hc hf (fun c h1 h2=>hs val c h1 (by rw [h2]; exact hln)) fun x st' a' w' I' V' B' hk hd' hA' hP'=>?_
 obtain ⟨hg',l',hp',ho'⟩:=hK val x st' hk
 have hgl':g<st'.ob.length:=Gr (by rw [hg']; simp)
 have hpl':p<st'.ob.length:=Gr (by rw [hp']; simp)
 have hU:=SO (t:=t) (l:=l') (o:=o) (r:=.row tr szr es) hpl' hgl'
 have hVg:V' g=some val:=hP'.v g val hV
 have hout:∀ b,B g b→b<w.heap.size∧¬ HB B (O6 ob p g t l o val) b∧¬ I b:=fun b hb=>by
  refine ⟨hA.wf.lt g b hgv hb,fun ⟨y,hy,hby⟩=>?_,hA.wf.dI g b hgv hb⟩
  obtain ⟨h1,h2⟩:=hlive _ y hy
  exact h1 (hA.wf.dO y g b h2 hgv hby hb)
 have hks:KeepS I w w':=hP'.keepI hwf1
 have hsub:∀ b,HB B (O6 ob p g t l o val) b→HB B ob b:=fun b ⟨y,hy,hby⟩=>⟨y,(hlive _ y hy).2,hby⟩
 have hone:val.oneCell'=true:=by
  obtain ⟨_,_,rfl,_⟩:=hrow.form
  rfl
 have hl2:∀ x,(An (Kp st'.ob p g t l' o (.row tr szr es)) x).live→x=g∨(x≠g∧(An st'.ob x).live):=fun x h=>by
  by_cases e:x=g
  ·exact .inl e
  ·refine .inr ⟨e,?_⟩
   rw [hU x,if_neg e] at h
   by_cases e2:x=p
   ·rw [e2,hp']; trivial
   ·rw [if_neg e2] at h; exact h
 obtain ⟨B2,hB2⟩:∃ B2:Nat→Nat→Prop,B2=fun x=>if x=g then B g else B' x:=⟨_,rfl⟩
 have hBg:B2 g=B g:=by rw [hB2]; simp
 have hBn:∀ x,x≠g→B2 x=B' x:=fun x h=>by rw [hB2]; simp [h]
 have hwf2:Wf w' I' V' B2 (An (Kp st'.ob p g t l' o (.row tr szr es))):=by
  refine ⟨hA'.wf.ilt,fun x hx=>?_,fun x b hx hb=>?_,fun x b hx hb=>?_,fun x y b hx hy hbx hby=>?_,fun x hx=>?_,hA'.wf.gl⟩
  ·rcases hl2 x hx with rfl | ⟨e,hl⟩
   ·refine ⟨val,hVg,?_⟩
    rw [hU x,if_pos rfl,hBg]
    exact hrow.keep hks hP'.i0 fun b hb hlt=>hP'.fr.block b hlt (hout b hb).2.1
   ·obtain ⟨u,h3,h4⟩:=hA'.wf.obj x hl
    refine ⟨u,h3,?_⟩
    rw [hU x,if_neg e,hBn x e]
    by_cases e2:x=p
    ·rw [if_pos e2]
     rw [e2,hp'] at h4
     obtain ⟨b,vs,k1,k2,k3,k4⟩:=h4
     refine ⟨b,vs,k1,by rw [e2]; exact k2,k3,RepVs.YQ o k4 ho' fun v hv=>?_⟩
     simp only [RepV] at hv ⊢
     rw [hv.1]
     exact ⟨hVg,hone⟩
    ·rw [if_neg e2]; exact h4
  ·rcases hl2 x hx with rfl | ⟨e,hl⟩
   ·rw [hBg] at hb
    exact yQ (hout b hb).1 hP'.fr.size
   ·rw [hBn x e] at hb
    exact hA'.wf.lt x b hl hb
  ·rcases hl2 x hx with rfl | ⟨e,hl⟩
   ·rw [hBg] at hb
    obtain ⟨h1,h2,h3⟩:=hout b hb
    intro h4
    rcases hP'.i1 b h4 with h5 | h5 | h5
    ·exact h3 h5
    ·omega
    ·exact h2 h5
   ·rw [hBn x e] at hb
    exact hA'.wf.dI x b hl hb
  ·have key:∀ z,z≠g→(An st'.ob z).live→B' z b→B g b→False:=fun z hz hlz hbz hbg=>by
    obtain ⟨h1,h2,h3⟩:=hout b hbg
    rcases hP'.bh z b hlz hbz with h4 | h4
    ·exact h2 h4
    ·omega
   rcases hl2 x hx with rfl | ⟨e,hl⟩
   ·rcases hl2 y hy with rfl | ⟨e',hl'⟩
    ·rfl
    ·rw [hBg] at hbx
     rw [hBn y e'] at hby
     exact (key y e' hl' hby hbx).elim
   ·rcases hl2 y hy with rfl | ⟨e',hl'⟩
    ·rw [hBg] at hby
     rw [hBn x e] at hbx
     exact (key x e hl hbx hby).elim
    ·rw [hBn x e] at hbx
     rw [hBn y e'] at hby
     exact hA'.wf.dO x y b hl hl' hbx hby
  ·refine hA'.wf.fr x ?_
   rw [hU x] at hx
   by_cases e:x=g
   ·rw [if_pos e] at hx; cases hx
   ·rw [if_neg e] at hx
    by_cases e2:x=p
    ·rw [if_pos e2] at hx; cases hx
    ·rw [if_neg e2] at hx; exact hx
 refine hq val x st' l' a' w' I' V' B2 hk hp' hd' hVg ⟨hwf2,hA'.len,hA'.sz,hA'.sl⟩ ⟨⟨hP'.fr.os,hP'.fr.tape,hP'.fr.output,hP'.fr.size,fun b hb hn=>hP'.fr.block b hb fun h=>hn (hsub b h)⟩,hP'.i0,fun b hb=>?_,hP'.v,hwf2,fun x b hx hb=>?_⟩
 ·rcases hP'.i1 b hb with h | h | h
  ·exact .inl h
  ·exact .inr (.inl h)
  ·exact .inr (.inr (hsub b h))
 ·rcases hl2 x hx with rfl | ⟨e,hl⟩
  ·rw [hBg] at hb
   exact .inl ⟨x,hgv,hb⟩
  ·rw [hBn x e] at hb
   rcases hP'.bh x b hl hb with h | h
   ·exact .inl (hsub b h)
   ·exact .inr h
theorem YS {sl:List SV} {ob:List Ob} {tm:Array Value} {L g k o:Nat} {t t':TypeId} {sz sz':Nat} {es es':List (List OT)} {l:List OT} {v:Value} (hA:At nt w I V B ⟨sl,ob⟩ tm) (hL:An ob L=.row t sz es) (hk:es[k]?=some l) (ho:l[o]?=some (.pin v)) (hg:An ob g=.row t' sz' es') (hv:V g=some v) (hne:L≠g) :
  ∃ B',At nt w I V B' ⟨sl,BT (BT ob L (.row t sz (es.set k (l.set o (.ow es'))))) g .gone⟩ tm ∧
   ∀ (w0:World) (I0:Nat→Prop) (V0:Nat→Option Value) (B0:Nat→Nat→Prop) (ob0:List Ob),FunPost w0 I0 V0 B0 ob0 ob w I V B→FunPost w0 I0 V0 B0 ob0 (BT (BT ob L (.row t sz (es.set k (l.set o (.ow es'))))) g .gone) w I V B':=by
 have hgl:g<ob.length:=Gr (by rw [hg]; simp)
 have hLl:L<ob.length:=Gr (by rw [hL]; simp)
 obtain ⟨new,hnew⟩:∃ new,new=BT (BT ob L (.row t sz (es.set k (l.set o (.ow es'))))) g .gone:=⟨_,rfl⟩
 rw [←hnew]
 have hG:∀ x,An new x=if x=g then .gone else if x=L then .row t sz (es.set k (l.set o (.ow es'))) else An ob x:=fun x=>by
  rw [hnew,By,By,DY]
  by_cases h1:x=g
  ·rw [if_pos ⟨h1,hgl⟩,if_pos h1]
  ·rw [if_neg (fun h=>h1 h.1),if_neg h1]
   by_cases h2:x=L
   ·rw [if_pos ⟨h2,hLl⟩,if_pos h2]
   ·rw [if_neg (fun h=>h2 h.1),if_neg h2]
 have hgv:(An ob g).live:=by rw [hg]; trivial
 have hLv:(An ob L).live:=by rw [hL]; trivial
 obtain ⟨vg,hVg,hrg⟩:=hA.wf.obj g hgv
 rw [hg] at hrg
 rw [hv] at hVg
 obtain rfl:=zI hVg
 have hrg:RowR w I (B g) t' sz' es' v:=hrg
 obtain ⟨vL,hVL,hrL⟩:=hA.wf.obj L hLv
 rw [hL] at hrL
 have hrL:RowR w I (B L) t sz es vL:=hrL
 have hlive:∀ x,(An new x).live→x≠g∧(An ob x).live:=fun x h=>by
  rw [hG x] at h
  by_cases e:x=g
  ·rw [if_pos e] at h; exact h.elim
  ·refine ⟨e,?_⟩
   rw [if_neg e] at h
   by_cases e2:x=L
   ·rw [e2,hL]; trivial
   ·rw [if_neg e2] at h; exact h
 have hdis:∀ b,B L b→B g b→False:=fun b h1 h2=>hne (hA.wf.dO L g b hLv hgv h1 h2)
 obtain ⟨B2,hB2⟩:∃ B2:Nat→Nat→Prop,B2=fun x=>if x=L then (fun b=>B L b∨B g b) else B x:=⟨_,rfl⟩
 have hBL:B2 L=fun b=>B L b∨B g b:=by rw [hB2]; simp
 have hBn:∀ x,x≠L→B2 x=B x:=fun x h=>by rw [hB2]; simp [h]
 have hrow:RowR w I (B2 L) t sz (es.set k (l.set o (.ow es'))) vL:=by
  rw [hBL]
  obtain ⟨hk1,hk2⟩:=yD.1 hk
  obtain ⟨ho1,ho2⟩:=yD.1 ho
  rcases hrL with ⟨h,_⟩ | ⟨b,cap,cur,Sub,rfl,hS,hb,h1,h2,h3,h4,h5,h6,h7⟩
  ·rw [h] at hk1; exact absurd hk1 (by simp)
  refine .inr ⟨b,cap,cur,fun i j x=>(¬ (i=k∧j=o)∧Sub i j x)∨(i=k∧j=o∧B g x),by rw [yG],.inl hS,hb,by rw [yG]; exact h1,h2,h3,fun i h=>?_,fun i j x hx=>?_,fun i j i' j' x hx hx'=>?_,fun i j hi hj=>?_⟩
  ·rw [List.getElem_set]
   split
   ·rename_i e
    rw [yG,← hk2]; exact h4 k hk1
   ·exact h4 i _
  ·rcases hx with ⟨_,hx⟩ | ⟨_,_,hx⟩
   ·exact ⟨.inl (h5 i j x hx).1,(h5 i j x hx).2⟩
   ·exact ⟨.inr hx,fun e=>hdis b hS (e▸hx)⟩
  ·rcases hx with ⟨n1,hx⟩ | ⟨rfl,rfl,hx⟩
   ·rcases hx' with ⟨_,hx'⟩ | ⟨_,_,hx'⟩
    ·exact h6 i j i' j' x hx hx'
    ·exact (hdis x (h5 i j x hx).1 hx').elim
   ·rcases hx' with ⟨_,hx'⟩ | ⟨e1,e2,_⟩
    ·exact (hdis x (h5 i' j' x hx').1 hx).elim
    ·exact ⟨e1.symm,e2.symm⟩
  ·have hi':i<es.length:=by rw [yG] at hi; exact hi
   by_cases e:i=k∧j=o
   ·obtain ⟨rfl,rfl⟩:=e
    have hold:=h7 i j hi' (by rw [hk2]; exact ho1)
    have e1:es[i][j]'(by rw [hk2]; exact ho1)=.pin v:=by simp only [hk2]; exact ho2
    rw [e1] at hold
    have e2:cur.getD (i*sz+j) undef=v:=by cases hold; rfl
    have e3:((es.set i (l.set j (.ow es')))[i]'hi)[j]'hj=.ow es':=by simp
    rw [e3,e2]
    exact (RowR.ot hrg).up fun x hx=>.inr ⟨rfl,rfl,hx⟩
   ·have hj':j<es[i].length:=by
     rw [List.getElem_set] at hj
     split at hj
     ·rename_i e4
      subst e4
      rw [yG] at hj
      rw [hk2]; exact hj
     ·exact hj
    have e3:((es.set k (l.set o (.ow es')))[i]'hi)[j]'hj=es[i][j]:=by
     by_cases e4:k=i
     ·subst e4
      simp only [List.getElem_set_self]
      have e5:o≠j:=fun h=>e ⟨rfl,h.symm⟩
      rw [List.getElem_set_ne e5]
      simp only [hk2]
     ·simp only [List.getElem_set_ne e4]
    rw [e3]
    exact (h7 i j hi' hj').up fun x hx=>.inl ⟨e,hx⟩
 have hsub:∀ x b,(An new x).live→B2 x b→∃ y,(An ob y).live∧B y b∧(y=x∨(x=L∧y=g)):=fun x b hx hb=>by
  obtain ⟨h1,h2⟩:=hlive x hx
  by_cases e:x=L
  ·rw [e,hBL] at hb
   rcases hb with hb | hb
   ·exact ⟨L,hLv,hb,.inl e.symm⟩
   ·exact ⟨g,hgv,hb,.inr ⟨e,rfl⟩⟩
  ·rw [hBn x e] at hb
   exact ⟨x,h2,hb,.inl rfl⟩
 have hwf2:Wf w I V B2 (An new):=by
  refine ⟨hA.wf.ilt,fun x hx=>?_,fun x b hx hb=>?_,fun x b hx hb=>?_,fun x y b hx hy hbx hby=>?_,fun x hx=>?_,hA.wf.gl⟩
  ·obtain ⟨h1,h2⟩:=hlive x hx
   by_cases e:x=L
   ·refine ⟨vL,by rw [e]; exact hVL,?_⟩
    rw [hG x,if_neg h1,if_pos e,e]
    exact hrow
   ·obtain ⟨u,h3,h4⟩:=hA.wf.obj x h2
    refine ⟨u,h3,?_⟩
    rw [hG x,if_neg h1,if_neg e,hBn x e]
    exact h4
  ·obtain ⟨y,h1,h2,_⟩:=hsub x b hx hb
   exact hA.wf.lt y b h1 h2
  ·obtain ⟨y,h1,h2,_⟩:=hsub x b hx hb
   exact hA.wf.dI y b h1 h2
  ·obtain ⟨x1,k1,k2,k3⟩:=hsub x b hx hbx
   obtain ⟨y1,m1,m2,m3⟩:=hsub y b hy hby
   have e:=hA.wf.dO x1 y1 b k1 m1 k2 m2
   have hxg:=(hlive x hx).1
   have hyg:=(hlive y hy).1
   rcases k3 with k3 | ⟨k3,k4⟩
   ·rcases m3 with m3 | ⟨m3,m4⟩
    ·rw [←k3,← m3,e]
    ·exact absurd (by rw [←k3,e,m4]) hxg
   ·rcases m3 with m3 | ⟨m3,m4⟩
    ·exact absurd (by rw [←m3,← e,k4]) hyg
    ·rw [k3,m3]
  ·refine hA.wf.fr x ?_
   rw [hG x] at hx
   by_cases e:x=g
   ·rw [if_pos e] at hx; cases hx
   ·rw [if_neg e] at hx
    by_cases e2:x=L
    ·rw [if_pos e2] at hx; cases hx
    ·rw [if_neg e2] at hx; exact hx
 refine ⟨B2,⟨hwf2,hA.len,hA.sz,hA.sl⟩,fun w0 I0 V0 B0 ob0 h=>⟨h.fr,h.i0,h.i1,h.v,hwf2,fun x b hx hb=>?_⟩⟩
 obtain ⟨y,h1,h2,_⟩:=hsub x b hx hb
 exact h.bh y b h1 h2
end
end Go.Proofs.YtbcljemengiocaaGreatDoor
set_option maxRecDepth 100000
set_option linter.unusedSimpArgs false
set_option linter.unusedVariables false
set_option linter.unusedSectionVars false
namespace Go.Proofs.YtbcljemengiocaaGreatDoor
open Go.RowKit Go.Shelf
attribute [local go_sem] Oper.semAt_some
end Go.Proofs.YtbcljemengiocaaGreatDoor
set_option maxRecDepth 100000
set_option linter.unusedSimpArgs false
set_option linter.unusedVariables false
set_option linter.unusedSectionVars false
namespace Go.Proofs.YtbcljemengiocaaGreatDoor
open Go.RowKit
theorem E3 {P:Program} {c:Ctx} {C:CallF} (hC:Fc P C) {L:LoopF}:∀ (sc:SC) (st:St) (out:X × St),Dy sc=true→fr P C L sc st=some out→∀ K:X→St→Prop,K out.1 out.2→sw P c sc K st
 | .skip,st,out,hl,h,K,hK=>by
  obtain rfl:=zI h
  exact hK
 | .reg ops,st,out,hl,h,K,hK=>by
  simp only [fr] at h
  split at h
  ·rename_i st' hs
   obtain rfl:=zI h
   exact Tv hC hs hK
  ·cases h
 | .dreg anc ops,st,out,hl,h,K,hK=>by
  simp only [fr] at h
  split at h
  ·rename_i es st' hs
   obtain ⟨h1,h2⟩:=Aq h
   obtain rfl:=zI h2
   exact Tw hC hs ⟨h1,hK⟩
  ·cases h
 | .seq a b,st,out,hl,h,K,hK=>by
  simp only [Dy,zS] at hl
  simp only [fr,BR] at h
  split at h
  ·rename_i st' hs
   exact E3 hC a st _ hl.1 hs _ (E3 hC b st' out hl.2 h K hK)
  ·rename_i i st' hs
   obtain rfl:=zI h
   exact E3 hC a st _ hl.1 hs _ hK
  ·rename_i st' hs
   obtain rfl:=zI h
   exact E3 hC a st _ hl.1 hs _ hK
  ·cases h
 | .cond q a b,st,out,hl,h,K,hK=>by
  simp only [Dy,zS] at hl
  obtain ⟨h1,h2⟩:=hl
  simp only [fr] at h
  simp only [sw]
  split at h
  ·rename_i t ht
   try simp only [ht]
   cases t with
   | true=>exact ⟨fun _=>E3 hC a st out h1 h K hK,fun e=>(by cases e)⟩
   | false=>exact ⟨fun e=>(by cases e),fun _=>E3 hC b st out h2 h K hK⟩
  ·cases h
 | .block id b,st,out,hl,h,K,hK=>by
  have h1:Dy b=true:=hl
  simp only [fr,D5] at h
  simp only [sw]
  split at h
  ·rename_i st' hs
   obtain rfl:=zI h
   exact E3 hC b st _ h1 hs _ hK
  ·rename_i i st' hs
   refine E3 hC b st _ h1 hs _ ?_
   by_cases hi:i=id
   ·simp only [if_pos hi] at h ⊢
    obtain rfl:=zI h
    exact hK
   ·simp only [if_neg hi] at h ⊢
    obtain rfl:=zI h
    exact hK
  ·rename_i st' hs
   obtain rfl:=zI h
   exact E3 hC b st _ h1 hs _ hK
  ·cases h
 | .loop _ _,st,out,hl,h,K,hK=>by cases hl
 | .next _ _ _,st,out,hl,h,K,hK=>by cases hl
 | .mloop _ _ _ _ _ _,st,out,hl,h,K,hK=>by cases hl
 | .ghost _ _,st,out,hl,h,K,hK=>by cases hl
 | .exit id,st,out,hl,h,K,hK=>by
  obtain rfl:=zI h
  exact hK
 | .ret,st,out,hl,h,K,hK=>by
  obtain rfl:=zI h
  exact hK
theorem SP {c:Ctx} {sc:SC} {st:St} {K:X→St→Prop} (hf:Dy sc=true) (h:go c.m sc st K):sw Tryz.prog c sc K st:=by
 obtain ⟨x,st',h1,hk⟩:=h
 obtain ⟨n,h2⟩:=CQ sc st (x,st') h1
 exact E3 (N7 (NH Ij H1 n)) sc st (x,st') hf h2 K hk
noncomputable def BN (tk:List ByteArray) (io:Bool) (y:Fm) (s:Int × List Df):Fm × (Int × List Df):=((y.dfn tk io s.1).1,((y.dfn tk io s.1).2.1,s.2++(y.dfn tk io s.1).2.2))
theorem Qm (tk:List ByteArray) (io:Bool):∀ (xs:List Fm) (c:Int) (acc:List Df),EF (BN tk io) xs (c,acc)=((Fm.B7 tk xs io c).1,((Fm.B7 tk xs io c).2.1,acc++(Fm.B7 tk xs io c).2.2))
 | [],c,acc=>by rw [EF,Fm.B7,zO]
 | x :: xs,c,acc=>by
  rw [EF,Fm.B7]
  unfold BN
  dsimp only
  have ih:=Qm tk io xs (x.dfn tk io c).2.1 (acc++(x.dfn tk io c).2.2)
  unfold BN at ih
  rw [ih,zQ]
theorem Fm.XR (tk:List ByteArray) (x:Fm) (io:Bool) (c:Int):x.dfn tk io c=K7 tk io (.mk x.op x.atom x.var (Fm.B7 tk x.parts (dec (x.op=6)) c).1) (Fm.B7 tk x.parts (dec (x.op=6)) c).2:=by
 obtain ⟨op,atom,var,parts⟩:=x
 rw [Fm.dfn]; rfl
theorem SQ (tk:List ByteArray) (io:Bool):∀ (xs:List Fm) (c:Int),(Fm.B7 tk xs io c).1.length=xs.length
 | [],c=>by rw [Fm.B7]
 | x :: xs,c=>by rw [Fm.B7]; simp only [zP]; rw [SQ tk io xs]
theorem AG:modes 27=⟨[],.asis,some OY,false⟩:=by unfold modes; rfl
def DF:SC:=(.seq (.reg [⟨some 3,none,.boxv 34 5 (.t 0)⟩,⟨(some 4),none,(.alloc 34 [(.int .i64 0),(.str ⟨#[]⟩),.nil,(.str ⟨#[]⟩),.nil])⟩]) (.seq (.reg [⟨some 5,none,.load false 1 (.t 1)⟩,⟨some 6,none,.load true 5 (.t 3)⟩,⟨some 7,none,.faddr 0 (.t 2)⟩,⟨some 8,none,.load false 1 (.t 7)⟩,⟨some 9,none,.bin .eql false (.t 8) (.c (.int .i64 6))⟩,⟨some 10,none,.call 27 [(.t 5),(.t 6),(.t 9)]⟩,⟨none,none,(.store 5 (.t 4) (.t 10))⟩]) .ret))
theorem Hn:Ap Tryz.prog 57=some ⟨11,DF,[(.cell 4 true 5)]⟩:=by kernel_rfl
theorem C3:modes 57=⟨[],.own [none,none,some (31,2),none,some (34,5)],none,false⟩:=by unfold modes; rfl
theorem Ho:HV Tryz.prog 57=true:=by kernel_rfl
theorem Qah (z y:Fm) (tk:List ByteArray) (es:List (List OT)) (b:Bool) (s:Int × List Df) (h:TF tk y (dec (z.op=6)) s.1 (es++s.2.map Df.o) (b || CS s.2)):E 57 [y.sv,.ptr 0 0,.ptr 1 0] [.box 60 [.ptr 2 0],.box 34 [.int .i64 z.op,.str z.atom.name,.arr (z.atom.args.map Tm.d),.str z.var,.arr (z.parts.map Fm.d)],.box 65 [.ptr 3 0,.ref 4,.bool (b || CS s.2)],.box 63 [.str AY,.ref 5,.int .i64 s.1],.row 56 7 (es++s.2.map Df.o),.row 9 1 (tk.map fun s=>[OT.str s])]=some (.agg [.int .i64 (BN tk (dec (z.op=6)) y s).1.op,.str (BN tk (dec (z.op=6)) y s).1.atom.name,.ref 6,.str (BN tk (dec (z.op=6)) y s).1.var,.ref 7],[.box 60 [.ptr 2 0],.box 34 [.int .i64 z.op,.str z.atom.name,.arr (z.atom.args.map Tm.d),.str z.var,.arr (z.parts.map Fm.d)],.box 65 [.ptr 3 0,.ref 8,.bool (b || CS (BN tk (dec (z.op=6)) y s).2.2)],.box 63 [.str AY,.ref 5,.int .i64 (BN tk (dec (z.op=6)) y s).2.1],.gone,.row 9 1 (tk.map fun s=>[OT.str s]),.row 31 2 ((BN tk (dec (z.op=6)) y s).1.atom.args.map Tm.o),.row 34 5 ((BN tk (dec (z.op=6)) y s).1.parts.map Fm.o),.row 56 7 (es++(BN tk (dec (z.op=6)) y s).2.2.map Df.o)]):=by
 have h1:=YB h
 have h2:E 27 (DL (dec (z.op=6)) y) (Gz tk s.1 (es++s.2.map Df.o) (b || CS s.2))=_:=(Oc (g:=OY) (congrArg FM.ext AG)).trans h1
 have hys:y.sv=.agg [.int .i64 y.op,.str y.atom.name,.arr (y.atom.args.map Tm.d),.str y.var,.arr (y.parts.map Fm.d)]:=rfl
 unfold BN
 rw [Sn,yO,← zQ,← Bool.or_assoc]
 obtain ⟨r,hr⟩:∃ r,r=y.dfn tk (dec (z.op=6)) s.1:=⟨_,rfl⟩
 rw [←hr] at h2 ⊢
 unfold DL Gz JY dfR dfT at h2
 rw [hys] at h2 ⊢
 dsimp only [zV,zK] at h2 ⊢
 clear h h1 hr
 obtain ⟨q,hq⟩:∃ q,q=dec (z.op=6):=⟨_,rfl⟩
 rw [←hq] at h2
 have hq':=hq.symm
 refine Ai Hn C3 (of_decide_eq_true rfl) ?_
 simp (maxSteps:=2000000) (disch:=omega) only [DF,go_sem,Ab,hq',h2,AG]
theorem Rr (fid:Nat) (z:Fm) (tk:List ByteArray) (es:List (List OT)) (b io:Bool) (P:Nat→Int × List Df→Prop) (x:Fm) (c0:Int) (hP:P 0 (c0,[])) (hl:x.parts.length≤1099511627776) (hat:x.atom.nodes≤1099511627776) (hg:HV Tryz.prog fid=true) (hm:(modes fid).hand=[]) (hr:∀ r,Cp (modes fid).res r=r)
  (hE:∀ (k:Nat) (h:k<x.parts.length) (c:Int × List Df),P k c→E fid [x.parts[k].sv,.ptr 0 0,.ptr 1 0] [.box 60 [.ptr 2 0],.box 34 [.int .i64 z.op,.str z.atom.name,.arr (z.atom.args.map Tm.d),.str z.var,.arr (z.parts.map Fm.d)],.box 65 [.ptr 3 0,.ref 4,.bool (b || CS c.2)],.box 63 [.str AY,.ref 5,.int .i64 c.1],.row 56 7 (es++c.2.map Df.o),.row 9 1 (tk.map fun s=>[OT.str s])]=some (.agg [.int .i64 (BN tk io x.parts[k] c).1.op,.str (BN tk io x.parts[k] c).1.atom.name,.ref 6,.str (BN tk io x.parts[k] c).1.var,.ref 7],[.box 60 [.ptr 2 0],.box 34 [.int .i64 z.op,.str z.atom.name,.arr (z.atom.args.map Tm.d),.str z.var,.arr (z.parts.map Fm.d)],.box 65 [.ptr 3 0,.ref 8,.bool (b || CS (BN tk io x.parts[k] c).2.2)],.box 63 [.str AY,.ref 5,.int .i64 (BN tk io x.parts[k] c).2.1],.gone,.row 9 1 (tk.map fun s=>[OT.str s]),.row 31 2 ((BN tk io x.parts[k] c).1.atom.args.map Tm.o),.row 34 5 ((BN tk io x.parts[k] c).1.parts.map Fm.o),.row 56 7 (es++(BN tk io x.parts[k] c).2.2.map Df.o)])∧P (k+1) (BN tk io x.parts[k] c).2) :
  E 56 [x.sv,.fn fid [.ptr 0 0,.ptr 1 0]] [.box 60 [.ptr 2 0],.box 34 [.int .i64 z.op,.str z.atom.name,.arr (z.atom.args.map Tm.d),.str z.var,.arr (z.parts.map Fm.d)],.box 65 [.ptr 3 0,.ref 4,.bool (b || CS (c0,([]:List Df)).2)],.box 63 [.str AY,.ref 5,.int .i64 (c0,([]:List Df)).1],.row 56 7 (es++(c0,([]:List Df)).2.map Df.o),.row 9 1 (tk.map fun s=>[OT.str s])]=some (.agg [.int .i64 x.op,.str x.atom.name,.ref 6,.str x.var,.ref 7],if x.parts.length=0 then [.box 60 [.ptr 2 0],.box 34 [.int .i64 z.op,.str z.atom.name,.arr (z.atom.args.map Tm.d),.str z.var,.arr (z.parts.map Fm.d)],.box 65 [.ptr 3 0,.ref 4,.bool (b || CS (c0,([]:List Df)).2)],.box 63 [.str AY,.ref 5,.int .i64 (c0,([]:List Df)).1],.row 56 7 (es++(c0,([]:List Df)).2.map Df.o),.row 9 1 (tk.map fun s=>[OT.str s]),.row 31 2 (x.atom.args.map Tm.o),.row 34 5 []] else [.box 60 [.ptr 2 0],.box 34 [.int .i64 z.op,.str z.atom.name,.arr (z.atom.args.map Tm.d),.str z.var,.arr (z.parts.map Fm.d)],.box 65 [.ptr 3 0,.ref 8,.bool (b || CS (EF (BN tk io) x.parts (c0,[])).2.2)],.box 63 [.str AY,.ref 5,.int .i64 (EF (BN tk io) x.parts (c0,[])).2.1],.gone,.row 9 1 (tk.map fun s=>[OT.str s]),.row 31 2 (x.atom.args.map Tm.o),.row 34 5 ((EF (BN tk io) x.parts (c0,[])).1.map Fm.o),.row 56 7 (es++(EF (BN tk io) x.parts (c0,[])).2.2.map Df.o)]):=by
 have hct:=Ov x.atom hat
 have h10:((1:Int)=0)=False:=by simp
 refine Ai MO Bk (of_decide_eq_true rfl) ?_
 simp (maxSteps:=2000000) (disch:=omega) only [HS,go_sem,Ab,hct,EM,Tm.osv,Tm.obs]
 refine go_loop (α:=Int × (Int × List Df) × (List Fm)) (fun a=>⟨slots 33 0 [(1,.fn fid [.ptr 0 0,.ptr 1 0]),(4,.ptr 6 0),(5,.ptr 7 0),(17,.arr (x.parts.map Fm.d)),(18,.int .i64 x.parts.length),(19,.int .i64 (a.1))],(if (a.1)=0 then [.box 60 [.ptr 2 0],.box 34 [.int .i64 z.op,.str z.atom.name,.arr (z.atom.args.map Tm.d),.str z.var,.arr (z.parts.map Fm.d)],.box 65 [.ptr 3 0,.ref 4,.bool (b || CS (a.2.1).2)],.box 63 [.str AY,.ref 5,.int .i64 (a.2.1).1],.row 56 7 (es++(a.2.1).2.map Df.o),.row 9 1 (tk.map fun s=>[OT.str s]),.box 34 [.int .i64 0,.str ⟨#[]⟩,.nil,.str ⟨#[]⟩,.nil],.box 34 [.int .i64 x.op,.str x.atom.name,.ref 8,.str x.var,.nil],.row 31 2 (x.atom.args.map Tm.o)] else [.box 60 [.ptr 2 0],.box 34 [.int .i64 z.op,.str z.atom.name,.arr (z.atom.args.map Tm.d),.str z.var,.arr (z.parts.map Fm.d)],.box 65 [.ptr 3 0,.ref 8,.bool (b || CS (a.2.1).2)],.box 63 [.str AY,.ref 5,.int .i64 (a.2.1).1],.gone,.row 9 1 (tk.map fun s=>[OT.str s]),.box 34 [.int .i64 0,.str ⟨#[]⟩,.nil,.str ⟨#[]⟩,.nil],.box 34 [.int .i64 x.op,.str x.atom.name,.ref 9,.str x.var,.ref 10],.row 56 7 (es++(a.2.1).2.map Df.o),.row 31 2 (x.atom.args.map Tm.o),.row 34 5 ((a.2.2).map Fm.o)])⟩) (fun a=>∃ k:Nat,a.1=k∧k≤(x.parts).length∧(k=0→(a.2.1)=(c0,[]))∧(a.2.2).length=k∧P k (a.2.1)∧EF (BN tk io) x.parts (c0,[])=((a.2.2)++(EF (BN tk io) (x.parts.drop k) (a.2.1)).1,(EF (BN tk io) (x.parts.drop k) (a.2.1)).2)) (fun a=>(x.parts).length-(a.1).toNat) (0,(c0,[]),[]) ⟨0,rfl,zH _,fun _=>rfl,rfl,hP,by rw [zE]; rfl⟩ (by simp (maxSteps:=2000000) (disch:=omega) only [go_sem,Ab,eq_self,if_true]) ?_
 rintro ⟨i,c,acc⟩ ⟨k,hi,hk,hR⟩
 dsimp only at hi hR
 have hni:i.toNat=k:=by omega
 have hni1:(i+1).toNat=k+1:=by omega
 rcases zB k (x.parts).length with hlt | hge
 ·have hgt:=get_at Fm.d hlt
  rw [Fm.d_eq] at hgt
  obtain ⟨hR0,hR1,hR2,hR3⟩:=hR
  obtain ⟨hc,hp⟩:=hE k hlt c hR2
  rw [zA hlt,EF] at hR3
  obtain ⟨y,hy⟩:∃ y,y=(BN tk io x.parts[k] c):=⟨_,rfl⟩
  rw [←hy] at hc hp hR3
  have hs:acc.map Fm.o++[[OT.int y.1.op,OT.str y.1.atom.name,OT.ow (y.1.atom.args.map Tm.o),OT.str y.1.var,OT.ow (y.1.parts.map Fm.o)]]=(acc++[y.1]).map Fm.o:=by rw [yO,z6,zY,Fm.o_eq]
  have hR3':(EF (BN tk io) x.parts (c0,[]))=((acc++[y.1])++(EF (BN tk io) (x.parts.drop (k+1)) y.2).1,(EF (BN tk io) (x.parts.drop (k+1)) y.2).2):=by rw [hR3,zQ]; rfl
  rcases zZ k with h0 | h0
  ·subst h0
   obtain rfl:i=0:=hi
   have ha0:acc=[]:=z8 hR1
   subst ha0
   rw [zY,zK] at hs
   simp (maxSteps:=2000000) (disch:=omega) only [go_sem,Ab,hni,hgt,hc,hg,hm,hr,eq_self,if_true]
   refine ⟨(1,y.2,[]++[y.1]),⟨1,rfl,hlt,fun h=>absurd h (by omega),rfl,hp,hR3'⟩,by dsimp only; omega,?_⟩
   simp (maxSteps:=2000000) (disch:=omega) only [go_sem,Ab,h10,if_false,hs,zK]
  ·have hi0:(i=0)=False:=by simp; omega
   have hi1:(i+1=0)=False:=by simp; omega
   simp (maxSteps:=2000000) (disch:=omega) only [go_sem,Ab,hni,hgt,hc,hg,hm,hr,hi0,if_false]
   refine ⟨(i+1,y.2,acc++[y.1]),⟨k+1,by dsimp only; omega,hlt,fun h=>absurd h (by omega),by simp [hR1],hp,hR3'⟩,by dsimp only; omega,?_⟩
   simp (maxSteps:=2000000) (disch:=omega) only [go_sem,Ab,hi1,if_false,hs]
 ·obtain rfl:k=x.parts.length:=by omega
  obtain ⟨hR0,hR1,hR2,hR3⟩:=hR
  rw [zD hge,EF,zO] at hR3
  rw [hR3]
  rcases zZ x.parts.length with h0 | h0
  ·have hx:x.parts=[]:=z8 h0
   obtain rfl:i=0:=by omega
   have ha0:acc=[]:=z8 (by rw [hR1]; exact h0)
   subst ha0
   obtain rfl:=hR0 h0
   rw [if_pos (show x.parts.length=0 from h0)]
   simp (maxSteps:=2000000) (disch:=omega) only [go_sem,Ab,hni,hx,eq_self,if_true,zY,zN]
  ·have hi0:(i=0)=False:=by simp; omega
   rw [if_neg (show ¬ x.parts.length=0 by omega)]
   simp (maxSteps:=2000000) (disch:=omega) only [go_sem,Ab,hni,hi0,if_false]
variable [Flag]
section
variable {P:Program} {nt n:Nat} {w:World} {I:Nat→Prop} {V:Nat→Option Value} {B:Nat→Nat→Prop}
theorem YT {sl:List SV} {ob:List Ob} {tm:Array Value} {g p o:Nat} {t tb:TypeId} {sz:Nat} {es:List (List OT)} {l:List SV} (hA:At nt w I V B ⟨sl,ob⟩ tm) (hg:An ob g=.row t sz es) (hp:An ob p=.box tb l) (ho:l[o]?=some (.ref g)) :
  ∃ V' B',At nt w I V' B' ⟨sl,BT (BT ob p (.box tb (l.set o (.ref ob.length)))) g .gone++[.row t sz es]⟩ tm ∧
   ∀ (w0:World) (I0:Nat→Prop) (V0:Nat→Option Value) (B0:Nat→Nat→Prop) (ob0:List Ob),FunPost w0 I0 V0 B0 ob0 ob w I V B→FunPost w0 I0 V0 B0 ob0 (BT (BT ob p (.box tb (l.set o (.ref ob.length)))) g .gone++[.row t sz es]) w I V' B':=by
 have hgl:g<ob.length:=Gr (by rw [hg]; simp)
 have hpl:p<ob.length:=Gr (by rw [hp]; simp)
 have hgp:g≠p:=fun e=>by rw [e,hp] at hg; cases hg
 obtain ⟨q,hq⟩:∃ q,q=ob.length:=⟨_,rfl⟩
 rw [←hq]
 obtain ⟨new,hnew⟩:∃ new,new=BT (BT ob p (.box tb (l.set o (.ref q)))) g .gone++[.row t sz es]:=⟨_,rfl⟩
 rw [←hnew]
 have hG:∀ x,An new x=if x=q then .row t sz es else if x=g then .gone else if x=p then .box tb (l.set o (.ref q)) else An ob x:=fun x=>by
  rw [hnew,Ih,DY,DY]
  by_cases h0:x=q
  ·rw [if_pos h0,if_neg (by omega),h0,hq,Nat.sub_self]; rfl
  ·rw [if_neg h0]
   by_cases h1:x<ob.length
   ·rw [if_pos h1,By,By,DY]
    by_cases h2:x=g
    ·rw [if_pos ⟨h2,hgl⟩,if_pos h2]
    ·rw [if_neg (fun h=>h2 h.1),if_neg h2]
     by_cases h3:x=p
     ·rw [if_pos ⟨h3,hpl⟩,if_pos h3]
     ·rw [if_neg (fun h=>h3 h.1),if_neg h3]
   ·rw [if_neg h1,if_neg (by omega),if_neg (by omega),A5 ob x (by omega)]
    have:An [Ob.row t sz es] (x-ob.length)=.free:=A5 _ _ (by simp; omega)
    rw [this]
 have hgv:(An ob g).live:=by rw [hg]; trivial
 obtain ⟨vg,hVg,hrg⟩:=hA.wf.obj g hgv
 rw [hg] at hrg
 have hrg:RowR w I (B g) t sz es vg:=hrg
 obtain ⟨V2,hV2⟩:∃ V2:Nat→Option Value,V2=fun x=>if x=q then V g else V x:=⟨_,rfl⟩
 obtain ⟨B2,hB2⟩:∃ B2:Nat→Nat→Prop,B2=fun x=>if x=q then B g else B x:=⟨_,rfl⟩
 have hVq:V q=none:=hA.wf.fr q (A5 ob q (by omega))
 have hle:VLe V V2:=fun x u hu=>by
  rw [hV2]
  by_cases e:x=q
  ·rw [e,hVq] at hu; cases hu
  ·simp only [if_neg e]; exact hu
 have hVn:∀ x,x≠q→V2 x=V x:=fun x h=>by rw [hV2]; simp [h]
 have hVq2:V2 q=V g:=by rw [hV2]; simp
 have hBn:∀ x,x≠q→B2 x=B x:=fun x h=>by rw [hB2]; simp [h]
 have hBq2:B2 q=B g:=by rw [hB2]; simp
 have hlive:∀ x,(An new x).live→x=q∨(x≠q∧x≠g∧(An ob x).live):=fun x h=>by
  rw [hG x] at h
  by_cases e0:x=q
  ·exact .inl e0
  ·rw [if_neg e0] at h
   by_cases e:x=g
   ·rw [if_pos e] at h; exact h.elim
   ·refine .inr ⟨e0,e,?_⟩
    rw [if_neg e] at h
    by_cases e2:x=p
    ·rw [e2,hp]; trivial
    ·rw [if_neg e2] at h; exact h
 have hsub:∀ x b,(An new x).live→B2 x b→∃ y,(An ob y).live∧B y b∧((x=q∧y=g)∨(x≠q∧x≠g∧y=x)):=fun x b hx hb=>by
  rcases hlive x hx with rfl | ⟨h1,h2,h3⟩
  ·rw [hBq2] at hb
   exact ⟨g,hgv,hb,.inl ⟨rfl,rfl⟩⟩
  ·rw [hBn x h1] at hb
   exact ⟨x,h3,hb,.inr ⟨h1,h2,rfl⟩⟩
 have hks:KeepS I w w:=KeepS.refl _ _
 have hwf2:Wf w I V2 B2 (An new):=by
  refine ⟨hA.wf.ilt,fun x hx=>?_,fun x b hx hb=>?_,fun x b hx hb=>?_,fun x y b hx hy hbx hby=>?_,fun x hx=>?_,hA.wf.gl⟩
  ·rcases hlive x hx with rfl | ⟨h1,h2,h3⟩
   ·refine ⟨vg,by rw [hVq2]; exact hVg,?_⟩
    rw [hG x,if_pos rfl,hBq2]
    exact hrg
   ·obtain ⟨u,k1,k2⟩:=hA.wf.obj x h3
    refine ⟨u,by rw [hVn x h1]; exact k1,?_⟩
    rw [hG x,if_neg h1,if_neg h2,hBn x h1]
    by_cases e2:x=p
    ·rw [if_pos e2]
     rw [e2,hp] at k2
     obtain ⟨b,vs,m1,m2,m3,m4⟩:=k2
     have ho2:l[o]?=some (.ref g):=ho
     refine ⟨b,vs,m1,by rw [e2]; exact m2,m3,RepVs.YQ o (RepVs.mono hks (fun _ h=>h) hle _ _ m4) ho2 fun v hv=>?_⟩
     simp only [RepV] at hv ⊢
     rw [hVq2]
     rw [hVn g (by omega)] at hv
     exact hv
    ·rw [if_neg e2]
     exact ObR.keep k2 hks (fun _ h=>h) hle fun _ _ _=>rfl
  ·obtain ⟨y,h1,h2,_⟩:=hsub x b hx hb
   exact hA.wf.lt y b h1 h2
  ·obtain ⟨y,h1,h2,_⟩:=hsub x b hx hb
   exact hA.wf.dI y b h1 h2
  ·obtain ⟨x1,k1,k2,k3⟩:=hsub x b hx hbx
   obtain ⟨y1,m1,m2,m3⟩:=hsub y b hy hby
   have e:=hA.wf.dO x1 y1 b k1 m1 k2 m2
   rcases k3 with ⟨k3,k4⟩ | ⟨k3,k4,k5⟩
   ·rcases m3 with ⟨m3,m4⟩ | ⟨m3,m4,m5⟩
    ·rw [k3,m3]
    ·exact absurd (by rw [←m5,← e,k4]) m4
   ·rcases m3 with ⟨m3,m4⟩ | ⟨m3,m4,m5⟩
    ·exact absurd (by rw [←k5,e,m4]) k4
    ·rw [←k5,← m5,e]
  ·rw [hG x] at hx
   by_cases e0:x=q
   ·rw [if_pos e0] at hx; cases hx
   ·rw [if_neg e0] at hx
    rw [hVn x e0]
    refine hA.wf.fr x ?_
    by_cases e:x=g
    ·rw [if_pos e] at hx; cases hx
    ·rw [if_neg e] at hx
     by_cases e2:x=p
     ·rw [if_pos e2] at hx; cases hx
     ·rw [if_neg e2] at hx; exact hx
 refine ⟨V2,B2,⟨hwf2,hA.len,hA.sz,fun k=>RepV.mono hks (fun _ h=>h) hle _ _ (hA.sl k)⟩,fun w0 I0 V0 B0 ob0 h=>⟨h.fr,h.i0,h.i1,h.v.trans hle,hwf2,fun x b hx hb=>?_⟩⟩
 obtain ⟨y,h1,h2,_⟩:=hsub x b hx hb
 exact h.bh y b h1 h2
end
end Go.Proofs.YtbcljemengiocaaGreatDoor
set_option maxRecDepth 100000
set_option linter.unusedSimpArgs false
set_option linter.unusedVariables false
set_option linter.unusedSectionVars false
namespace Go.Proofs.YtbcljemengiocaaGreatDoor
open Go.RowKit
theorem Jp:∀ (n k:Nat) (L:List (Nat × SV)),(slots n k L).length=n
 | 0,k,L=>rfl
 | n+1,k,[]=>by rw [slots,zP,Jp n]
 | n+1,k,(j,x) :: r=>by
  rw [slots]
  cases j == k with
  | true=>rw [cond_true,zP,Jp n]
  | false=>rw [cond_false,zP,Jp n]
theorem HA:∀ (n k:Nat) (L:List (Nat × SV)) (i:Nat),gets (slots n k L) i=.any∨∃ p,p∈L∧p.1=k+i∧gets (slots n k L) i=p.2
 | 0,k,L,i=>by left; rw [slots,gets]
 | n+1,k,[],0=>by left; rw [slots,gets]
 | n+1,k,[],i+1=>by
  rw [slots,gets]
  rcases HA n (k+1) [] i with h | ⟨p,h,_⟩
  ·exact .inl h
  ·cases h
 | n+1,k,(j,x) :: r,i=>by
  rw [slots]
  by_cases e:j=k
  ·subst e
   rw [beq_self_eq_true,cond_true]
   cases i with
   | zero=>exact .inr ⟨(j,x),by simp,rfl,by rw [gets]⟩
   | succ i =>
    rw [gets]
    rcases HA n (j+1) r i with h | ⟨p,h1,h2,h3⟩
    ·exact .inl h
    ·exact .inr ⟨p,by simp [h1],by omega,h3⟩
  ·have e2:(j == k)=false:=by simpa using e
   rw [e2,cond_false]
   cases i with
   | zero=>left; rw [gets]
   | succ i =>
    rw [gets]
    rcases HA n (k+1) ((j,x) :: r) i with h | ⟨p,h1,h2,h3⟩
    ·exact .inl h
    ·exact .inr ⟨p,h1,by omega,h3⟩
theorem At.slots {nt:Nat} {w:World} {I:Nat→Prop} {V:Nat→Option Value} {B:Nat→Nat→Prop} {st:St} {tm:Array Value} (h:At nt w I V B st tm) (L:List (Nat × SV)) (hL:∀ p∈L,gets st.sl p.1=p.2):At nt w I V B ⟨slots nt 0 L,st.ob⟩ tm:=by
 refine ⟨h.wf,Jp _ _ _,h.sz,fun i=>?_⟩
 show RepV w I V (gets (Go.Proofs.YtbcljemengiocaaGreatDoor.slots nt 0 L) i) (tm.getD i undef)
 rcases HA nt 0 L i with h1 | ⟨p,h1,h2,h3⟩
 ·rw [h1]; simp only [RepV]
 ·rw [h3,← hL p h1,h2,zT]
  exact h.sl i
def Qai:Nat→Code→List Code
 | 0,c=>[c]
 | n+1,.seq a r=>a :: Qai n r
 | _+1,c=>[c]
noncomputable def DB (i:Nat):Code:=(Qai 6 (Tryz.f27.body.getD .skip)).getD i .skip
theorem U3:Tryz.f27.body=some (.seq (DB 0) (.seq (DB 1) (.seq (DB 2) (.seq (DB 3) (.seq (DB 4) (.seq (DB 5) (DB 6))))))):=by rfl
def d_dfn_0:SC:=(.reg [⟨(some 3),none,(.boxv 60 1 (.t 0))⟩,⟨(some 4),none,(.boxv 34 5 (.t 1))⟩,⟨(some 6),none,(.alloc 34 [(.int .i64 0),(.str ⟨#[]⟩),.nil,(.str ⟨#[]⟩),.nil])⟩])
theorem O7:trC Tryz.prog 59 (DB 0)=some d_dfn_0:=by kernel_rfl
def d_dfn_1:SC:=(.reg [⟨(some 9),none,(.load true 5 (.t 4))⟩,⟨(some 10),none,(.mkfn 57 [(.t 3),(.t 4)])⟩,⟨(some 11),none,(.call 56 [(.t 9),(.t 10)])⟩,⟨(some 7),none,(.alloc 34 [(.int .i64 0),(.str ⟨#[]⟩),.nil,(.str ⟨#[]⟩),.nil])⟩,⟨none,none,(.store 5 (.t 7) (.t 11))⟩])
theorem O8:trC Tryz.prog 59 (DB 1)=some d_dfn_1:=by kernel_rfl
def d_dfn_2:SC:=(.seq (.reg [⟨(some 12),none,(.mv (.t 2))⟩,⟨(some 13),none,(.un .not (.t 12))⟩,⟨(some 14),none,(.mv (.t 13))⟩,⟨(some 15),(some (14,false)),(.faddr 0 (.t 4))⟩,⟨(some 16),(some (14,false)),(.load false 1 (.t 15))⟩,⟨(some 17),(some (14,false)),(.bin .neq false (.t 16) (.c (.int .i64 5)))⟩,⟨(some 18),none,(.pick (.t 14) (.c (.bool true)) (.t 17))⟩]) (.cond (.t 18) (.seq (.reg [⟨(some 19),none,(.load true 5 (.t 7))⟩,⟨none,none,(.store 5 (.t 6) (.t 19))⟩]) .ret) .skip))
theorem O9:trC Tryz.prog 59 (DB 2)=some d_dfn_2:=by kernel_rfl
def d_dfn_3:SC:=(.dreg [[],[0],[1,0],[2,1,0],[3,2,1,0],[],[5,4,3,2,1,0],[],[4,3,2,1,0,6,5,7],[],[9,8,4,3,2,1,0,6,5,7]] [⟨(some 20),none,(.load false 1 (.t 3))⟩,⟨(some 21),none,(.nilchk (.t 20))⟩,⟨(some 22),none,(.faddr 0 (.t 21))⟩,⟨(some 23),none,(.load false 1 (.t 22))⟩,⟨(some 24),none,(.call 58 [(.t 23)])⟩,⟨(some 25),none,(.load true 5 (.t 7))⟩,⟨(some 26),none,(.call 59 [(.t 25)])⟩,⟨(some 27),none,(.load true 5 (.t 7))⟩,⟨(some 28),none,(.build [(.str ⟨#[]⟩),.nil,(.int .i64 0),(.str ⟨#[]⟩),.nil,(.str ⟨#[]⟩),.nil] [(0,(1,(.t 24))),(1,(1,(.t 26))),(2,(5,(.t 27)))])⟩,⟨(some 8),none,(.alloc 56 [(.str ⟨#[]⟩),.nil,(.int .i64 0),(.str ⟨#[]⟩),.nil,(.str ⟨#[]⟩),.nil])⟩,⟨none,none,(.store 7 (.t 8) (.t 28))⟩])
theorem OA:trC Tryz.prog 59 (DB 3)=some d_dfn_3:=by kernel_rfl
def d_dfn_4:SC:=(.dreg [[],[],[1],[2,1],[3,2,1],[4,3,2,1],[5,4,3,2,1],[6,5,4,3,2,1],[7,6,5,4,3,2,1],[8,7,6,5,4,3,2,1],[5,4,3,2,1,9,8,7,6],[0,1,2,3,4,5,6,7,8,9,10],[11,0,1,2,3,4,5,6,7,8,9,10],[12,11,0,1,2,3,4,5,6,7,8,9,10]] [⟨(some 29),none,(.load false 1 (.t 3))⟩,⟨(some 30),none,(.load false 1 (.t 3))⟩,⟨(some 31),none,(.nilchk (.t 30))⟩,⟨(some 32),none,(.faddr 2 (.t 31))⟩,⟨(some 33),none,(.load false 1 (.t 32))⟩,⟨(some 34),none,(.mv (.t 33))⟩,⟨(some 35),(some (34,false)),(.faddr 1 (.t 8))⟩,⟨(some 36),(some (34,false)),(.load false 1 (.t 35))⟩,⟨(some 37),(some (34,false)),(.len false (.t 36))⟩,⟨(some 38),(some (34,false)),(.bin .gtr false (.t 37) (.c (.int .i64 4)))⟩,⟨(some 39),none,(.pick (.t 34) (.c (.bool true)) (.t 38))⟩,⟨(some 40),none,(.nilchk (.t 29))⟩,⟨(some 41),none,(.faddr 2 (.t 40))⟩,⟨none,none,(.store 1 (.t 41) (.t 39))⟩])
theorem OB:trC Tryz.prog 59 (DB 4)=some d_dfn_4:=by kernel_rfl
def d_dfn_5:SC:=(.dreg [[],[],[1],[2,1],[3,2,1],[],[5],[4,3,2,1,6,5],[0,1,2,3,4,5,6,7],[8,0,1,2,3,4,5,6,7],[9,8,0,1,2,3,4,5,6,7]] [⟨(some 42),none,(.load false 1 (.t 3))⟩,⟨(some 43),none,(.load false 1 (.t 3))⟩,⟨(some 44),none,(.nilchk (.t 43))⟩,⟨(some 45),none,(.faddr 1 (.t 44))⟩,⟨(some 46),none,(.load false 1 (.t 45))⟩,⟨(some 47),none,(.load true 7 (.t 8))⟩,⟨(some 48),none,(.mkrow 56 7 [(.str ⟨#[]⟩),.nil,(.int .i64 0),(.str ⟨#[]⟩),.nil,(.str ⟨#[]⟩),.nil] 1 [(0,(.t 47))])⟩,⟨(some 49),none,(.append 56 7 128 [(.str ⟨#[]⟩),.nil,(.int .i64 0),(.str ⟨#[]⟩),.nil,(.str ⟨#[]⟩),.nil] (.t 46) (.t 48))⟩,⟨(some 50),none,(.nilchk (.t 42))⟩,⟨(some 51),none,(.faddr 1 (.t 50))⟩,⟨none,none,(.store 1 (.t 51) (.t 49))⟩])
theorem XS:trC Tryz.prog 59 (DB 5)=some d_dfn_5:=by kernel_rfl
def d_dfn_6:SC:=(.seq (.dreg [[],[0],[],[2],[3,2],[1,0,4,3,2],[5,1,0,4,3,2],[6,5,1,0,4,3,2]] [⟨(some 52),none,(.faddr 0 (.t 8))⟩,⟨(some 53),none,(.load false 1 (.t 52))⟩,⟨(some 54),none,(.faddr 1 (.t 8))⟩,⟨(some 55),none,(.load false 1 (.t 54))⟩,⟨(some 56),none,(.call 61 [(.t 55)])⟩,⟨(some 57),none,(.build [(.str ⟨#[]⟩),.nil] [(0,(1,(.t 53))),(1,(1,(.t 56)))])⟩,⟨(some 58),none,(.call 60 [(.t 57)])⟩,⟨none,none,(.store 5 (.t 6) (.t 58))⟩]) .ret)
theorem XT:trC Tryz.prog 59 (DB 6)=some d_dfn_6:=by kernel_rfl
theorem U4:AX (Tryz.f27.results.toList.map (Nx Tryz.prog 59))=some [(.cell 6 true 5)]:=by kernel_rfl
mutual
noncomputable def Fm.noq:Fm→Bool
 | .mk op _ _ parts=>!qB op&&Fm.MQ parts
noncomputable def Fm.MQ:List Fm→Bool
 | []=>true
 | x :: xs=>Fm.noq x&&Fm.MQ xs
end
theorem Fm.Lb:∀ xs:List Fm,Fm.MQ xs=xs.all Fm.noq
 | []=>rfl
 | x :: xs=>by rw [Fm.MQ,Fm.Lb xs]; rfl
theorem Fm.Mc (x:Fm):x.noq=(!qB x.op&&x.parts.all Fm.noq):=by
 obtain ⟨op,atom,var,parts⟩:=x
 rw [Fm.noq,Fm.Lb]; rfl
theorem Fm.Lc {a:Tm}:∀ {xs:List Fm},a∈Fm.GB xs ↔ ∃ x∈xs,a∈x.ats
 | []=>by simp [Fm.GB]
 | x :: xs=>by rw [Fm.GB,yE,Fm.Lc]; simp
theorem Nb {n:ByteArray}:∀ {l:List Tm},n∈Tm.vsL l ↔ ∃ a∈l,n∈a.vs
 | []=>by simp [Tm.vsL]
 | x :: l=>by rw [Tm.vsL,yE,Nb]; simp
theorem Fm.U5 (x:Fm) (h:x.noq=true) (n:ByteArray):n∈x.fv [] ↔ n∈Tm.vsL x.ats:=by
 rw [Fm.Mc,zS,yB] at h
 have hq:qB x.op=false:=by simpa using h.1
 rw [Fm.S5,Fm.Kn]
 cases ho:dec (x.op=3) with
 | true =>
  rw [cond_true,cond_true,List.mem_filter,F4]
  simp [Tm.vsL,Aj]
 | false =>
  rw [cond_false,cond_false,hq,cond_false,Fm.Rg,Nb]
  constructor
  ·rintro ⟨y,hy,hn⟩
   rw [Fm.U5 y (h.2 y hy) n,Nb] at hn
   obtain ⟨a,h1,h2⟩:=hn
   exact ⟨a,Fm.Lc.2 ⟨y,hy,h1⟩,h2⟩
  ·rintro ⟨a,h1,h2⟩
   obtain ⟨y,hy,h3⟩:=Fm.Lc.1 h1
   exact ⟨y,hy,(Fm.U5 y (h.2 y hy) n).2 (Nb.2 ⟨a,h3,h2⟩)⟩
termination_by SizeOf.sizeOf x
decreasing_by all_goals exact Fm.lt_of_mem hy
def FH:SC:=(.seq (.reg [⟨some 1,none,.boxv 34 5 (.t 0)⟩,⟨some 2,none,.mv (.c .nil)⟩]) (.seq (.reg [⟨(some 6),none,(.mkrow 9 1 [(.str ⟨#[]⟩)] 0 [])⟩,⟨some 3,none,.mv (.t 6)⟩]) (.seq (.seq (.reg [⟨some 7,none,.load true 5 (.t 1)⟩,⟨some 8,none,.call 54 [(.t 7)]⟩,⟨some 9,none,.len false (.t 8)⟩,⟨some 10,none,.mv (.c (.int .i64 0))⟩]) (.block 0 (.loop [0,0,0,1,0,0,0,0,1,1,1,0,0,0,0,0,0,0,0,0,0] (.seq (.reg [⟨some 11,none,.bin .lss false (.t 10) (.t 9)⟩]) (.seq (.cond (.t 11) .skip (.exit 0)) (.seq (.block 1 (.seq (.reg [⟨some 12,none,.iaddr 2 (.t 8) (.t 10)⟩,⟨some 13,none,.load true 2 (.t 12)⟩,⟨(some 5),none,(.alloc 31 [(.str ⟨#[]⟩),.nil])⟩,⟨none,none,(.store 2 (.t 5) (.t 13))⟩]) (.reg [⟨some 14,none,.mv (.t 3)⟩,⟨some 15,none,.load true 2 (.t 5)⟩,⟨some 16,none,.call 81 [(.t 14),(.t 15)]⟩,⟨some 3,none,.mv (.t 16)⟩]))) (.reg [⟨some 17,none,.bin .add false (.t 10) (.c (.int .i64 1))⟩,⟨some 10,none,.mv (.t 17)⟩]))))))) (.seq (.reg [⟨some 18,none,.mv (.t 3)⟩,⟨some 19,none,.call 82 [(.t 18)]⟩]) (.seq (.reg [⟨some 20,none,.mv (.t 3)⟩,⟨some 2,none,.mv (.t 20)⟩]) .ret)))))
theorem Kq:Ap Tryz.prog 59=some ⟨21,FH,[(.tmp 2)]⟩:=by kernel_rfl
theorem AU:modes 59=⟨[],.asis,none,false⟩:=by unfold modes; rfl
theorem MR (y:Fm) (hn:y.vn≤1000000) (hnn:y.nodes≤1000000) (ha:∀ a∈y.ats,LM a):E 59 [y.sv] []=some (.ref 0,[.row 9 1 ((BJ [] (Tm.vsL y.ats)).map fun s=>[OT.str s])]):=by
 have hac:=LX y (by omega) (by omega)
 unfold AtC at hac
 have hys:y.sv=.agg [.int .i64 y.op,.str y.atom.name,.arr (y.atom.args.map Tm.d),.str y.var,.arr (y.parts.map Fm.d)]:=rfl
 have han:=Fm.Ff y
 obtain ⟨xs,hxs⟩:∃ xs,xs=y.ats:=⟨_,rfl⟩
 rw [←hxs] at hac han ha ⊢
 have hll:=Tm.length_le xs
 rw [hys] at hac ⊢
 refine Ai Kq AU (of_decide_eq_true rfl) ?_
 simp (disch:=omega) only [FH,go_sem,Ab,hac,Dd]
 refine go_loop (α:=Int × (List ByteArray)) (fun a=>⟨slots 21 0 [(3,.ref 0),(8,.arr (xs.map Tm.d)),(9,.int .i64 xs.length),(10,.int .i64 (a.1))],[.row 9 1 ((a.2).map fun s=>[OT.str s])]⟩) (fun a=>∃ k:Nat,a.1=k∧k≤(xs).length∧Bb (a.2) (Tm.vsL (xs.drop k))=Bb [] (Tm.vsL xs)∧(a.2).length+Tm.nodeS (xs.drop k)≤1048576) (fun a=>(xs).length-(a.1).toNat) (0,[]) ⟨0,rfl,zH _,by rw [zE],by rw [zE]; dsimp only [zN]; omega⟩ (by simp (disch:=omega) only [go_sem,Ab]) ?_
 rintro ⟨i,acc⟩ ⟨k,hi,hk,hR⟩
 dsimp only at hi hR
 have hni:i.toNat=k:=by omega
 have hni1:(i+1).toNat=k+1:=by omega
 rcases zB k (xs).length with hlt | hge
 ·have hg:=get_at Tm.d hlt
  rw [Tm.d_eq] at hg
  obtain ⟨hR1,hR2⟩:=hR
  rw [zA hlt,Tm.vsL,ED] at hR1
  rw [zA hlt,Tm.nodeS] at hR2
  have has:(xs[k]).sv=.agg [.str (xs[k]).name,.arr ((xs[k]).args.map Tm.d)]:=rfl
  have hc:=ha xs[k] (zF hlt) acc (by omega)
  rw [has] at hc
  have hlen:=Db xs[k].vs acc
  have hgr:=Di xs[k].vs acc
  have hvl:=Tm.LL xs[k]
  obtain ⟨acc2,ha2⟩:∃ a,a=Bb acc xs[k].vs:=⟨_,rfl⟩
  rw [←ha2] at hc hlen hgr hR1
  rcases zB acc.length acc2.length with q2 | q2
  all_goals
   first
    |rw [Ao q2] at hc
    |rw [Aj (zL.2 q2)] at hc
   simp only [cond_true,cond_false] at hc
   simp (disch:=omega) only [go_sem,Ab,hni,hg,hc,Cx]
   refine ⟨(i+1,acc2),⟨k+1,by dsimp only; omega,hlt,hR1,by dsimp only; omega⟩,by dsimp only; omega,?_⟩
   first | done | trivial | rfl | simp (disch:=omega) only [go_sem,Ab]
 ·rw [zD hge,Tm.vsL] at hR
  obtain ⟨hR1,hR2⟩:=hR
  have hR1:acc=Bb [] (Tm.vsL xs):=hR1
  have hso:=YI acc (by omega)
  rw [←Ws,← hR1]
  simp (disch:=omega) only [go_sem,Ab,hni,hso,CR]
theorem Wz {a b:List ByteArray} (h:∀ n,n∈a ↔ n∈b):BJ [] a=BJ [] b:=by
 have ha:=Jo a [] yY
 have hb:=Jo b [] yY
 have hp:(BJ [] a).Perm (BJ [] b):=(List.perm_ext_iff_of_nodup (Kh ha) (Kh hb)).2 fun n=>by rw [F4,F4,h n]
 exact List.Perm.eq_of_pairwise (le:=fun x y=>strLt y x=false) (fun x y _ _ h k=>I5 k h) (ha.imp fun h=>I4 h) (hb.imp fun h=>I4 h) hp
theorem Pn (y:Fm) (hq:y.noq=true) (hn:y.vn≤1000000) (hnn:y.nodes≤1000000) (ha:∀ a∈y.ats,LM a):E 59 [y.sv] []=some (.ref 0,[.row 9 1 (y.free.map fun s=>[OT.str s])]):=by
 rw [MR y hn hnn ha]
 have e:BJ [] (Tm.vsL y.ats)=y.free:=Wz fun n=>(Fm.U5 y hq n).symm
 rw [e]
theorem OC:CS []=false:=rfl
abbrev DfM (tk:List ByteArray) (x y:Fm) (c c1:Int) (es es1:List (List OT)) (b b1:Bool):Prop :=
 E 56 [x.sv,.fn 57 [.ptr 0 0,.ptr 1 0]] [.box 60 [.ptr 2 0],.box 34 [.int .i64 x.op,.str x.atom.name,.arr (x.atom.args.map Tm.d),.str x.var,.arr (x.parts.map Fm.d)],.box 65 [.ptr 3 0,.ref 4,.bool b],.box 63 [.str AY,.ref 5,.int .i64 c],.row 56 7 (es),.row 9 1 (tk.map fun s=>[OT.str s])]=some (.agg [.int .i64 y.op,.str y.atom.name,.ref 6,.str y.var,.ref 7],[.box 60 [.ptr 2 0],.box 34 [.int .i64 x.op,.str x.atom.name,.arr (x.atom.args.map Tm.d),.str x.var,.arr (x.parts.map Fm.d)],.box 65 [.ptr 3 0,.ref 8,.bool b1],.box 63 [.str AY,.ref 5,.int .i64 c1],.gone,.row 9 1 (tk.map fun s=>[OT.str s]),.row 31 2 (y.atom.args.map Tm.o),.row 34 5 (y.parts.map Fm.o),.row 56 7 (es1)])
abbrev Qaj (tk:List ByteArray) (x:Fm) (c:Int) (es:List (List OT)) (b:Bool):Prop :=
 E 56 [x.sv,.fn 57 [.ptr 0 0,.ptr 1 0]] [.box 60 [.ptr 2 0],.box 34 [.int .i64 x.op,.str x.atom.name,.arr (x.atom.args.map Tm.d),.str x.var,.arr (x.parts.map Fm.d)],.box 65 [.ptr 3 0,.ref 4,.bool b],.box 63 [.str AY,.ref 5,.int .i64 c],.row 56 7 (es),.row 9 1 (tk.map fun s=>[OT.str s])]=some (.agg [.int .i64 x.op,.str x.atom.name,.ref 6,.str x.var,.ref 7],[.box 60 [.ptr 2 0],.box 34 [.int .i64 x.op,.str x.atom.name,.arr (x.atom.args.map Tm.d),.str x.var,.arr (x.parts.map Fm.d)],.box 65 [.ptr 3 0,.ref 4,.bool b],.box 63 [.str AY,.ref 5,.int .i64 c],.row 56 7 (es),.row 9 1 (tk.map fun s=>[OT.str s]),.row 31 2 (x.atom.args.map Tm.o),.row 34 5 []])
theorem BO (x:Fm):x.sv=.agg [.int .i64 x.op,.str x.atom.name,.arr (x.atom.args.map Tm.d),.str x.var,.arr (x.parts.map Fm.d)]:=rfl
theorem XU (tk:List ByteArray) (x y:Fm) (io:Bool) (c c1:Int) (es es1:List (List OT)) (b b1:Bool) (hio:(io&&dec (x.op=5))=false) (hm:DfM tk x y c c1 es es1 b b1) :
  Fun Tryz.prog 27 (DL io x) (Gz tk c es b) (dfR 4 y) (JY tk c1 es1 b1 y):=by
 refine Ma Tryz.func27 U3 (by simp) fun w I V B tm hA=>?_
 rw [show Fence.wide=wf none from rfl]
 refine XQ (K:=fun x' st=>x'=.ret∧Fin [(.cell 6 true 5)] 4 (dfR 4 y) (JY tk c1 es1 b1 y) .ret st) Ij hA rfl O7 O8 O9 OA OB (by rfl) (fun cx hnt hm'=>SP (by rfl) ?_) (fun i st' h=>by cases h.1) (fun st' a' w' I' V' B' hk hd hA' hP=>Mb (e:=.ret) U4 hA.wf hA' hP hk.2 (.inl hd)) (fun st' a' w' I' V' B' hk=>by cases hk.1)
 unfold DfM at hm
 rw [BO] at hm
 unfold DL Gz
 rw [BO]
 rw [show Tryz.f27.ntmps-yW [SV.ptr 0 0,SV.agg [.int .i64 x.op,.str x.atom.name,.arr (x.atom.args.map Tm.d),.str x.var,.arr (x.parts.map Fm.d)],SV.bool io]=56 from rfl]
 have hn:(x.op=5)=(dec (x.op=5)=true):=by rw [Ar]
 cases io with
 | false =>
  simp (maxSteps:=2000000) (disch:=omega) only [d_dfn_0,d_dfn_1,d_dfn_2,d_dfn_3,d_dfn_4,hm,hio,Bk,AU,Bl,BI,AZ,go_sem,Ab]
  refine ⟨.inl rfl,.agg [.int .i64 y.op,.str y.atom.name,.ref 7,.str y.var,.ref 8],[0,1,2,3,7,8,9],rfl,?_⟩
  simp only [dfR,JY,dfT,zV,zK,WeakC,leL,leV,leO,Q8,Q9,An,sgp,SV.ren,SV.GK,Ob.ren,N2,Ht,N1,HW,HG,HG.setO1,zP,zN,yN,yP,yR,zX,zW,or_false,false_or,not_false_eq_true,not_true_eq_false,true_and,and_true,and_self,yL,reduceCtorEq,zK,zO,yT,zT]
 | true =>
  rw [zG] at hio
  simp (maxSteps:=2000000) (disch:=omega) only [d_dfn_0,d_dfn_1,d_dfn_2,d_dfn_3,d_dfn_4,hm,hio,Bk,AU,Bl,BI,AZ,go_sem,Ab]
  refine ⟨.inl rfl,.agg [.int .i64 y.op,.str y.atom.name,.ref 7,.str y.var,.ref 8],[0,1,2,3,7,8,9],rfl,?_⟩
  simp only [dfR,JY,dfT,zV,zK,WeakC,leL,leV,leO,Q8,Q9,An,sgp,SV.ren,SV.GK,Ob.ren,N2,Ht,N1,HW,HG,HG.setO1,zP,zN,yN,yP,yR,zX,zW,or_false,false_or,not_false_eq_true,not_true_eq_false,true_and,and_true,and_self,yL,reduceCtorEq,zK,zO,yT,zT]
theorem YU (tk:List ByteArray) (x:Fm) (io:Bool) (c:Int) (es:List (List OT)) (b:Bool) (hio:(io&&dec (x.op=5))=false) (hp:x.parts=[]) (hm:Qaj tk x c es b) :
  Fun Tryz.prog 27 (DL io x) (Gz tk c es b) (dfR 4 x) (JY tk c es b x):=by
 refine Ma Tryz.func27 U3 (by simp) fun w I V B tm hA=>?_
 rw [show Fence.wide=wf none from rfl]
 refine XQ (K:=fun x' st=>x'=.ret∧st.ob=[.box 65 [.ptr 1 0,.ref 2,.bool b],.box 63 [.str AY,.ref 3,.int .i64 c],.row 56 7 (es),.row 9 1 (tk.map fun s=>[OT.str s]),.box 60 [.ptr 0 0],.box 34 [.int .i64 x.op,.str x.atom.name,.arr (x.atom.args.map Tm.d),.str x.var,.arr (x.parts.map Fm.d)],.box 34 [.int .i64 x.op,.str x.atom.name,.ref 7,.str x.var,.ref 8],.row 31 2 (x.atom.args.map Tm.o),.row 34 5 [],.box 34 [.int .i64 x.op,.str x.atom.name,.ref 7,.str x.var,.ref 8]]∧gets st.sl 6=.ptr 6 0) Ij hA rfl O7 O8 O9 OA OB (by rfl) (fun cx hnt hm'=>SP (by rfl) ?_) (fun i st' h=>by cases h.1) (fun st' a' w' I' V' B' hk hd hA' hP=>?_) (fun st' a' w' I' V' B' hk=>by cases hk.1)
 ·unfold Qaj at hm
  rw [BO] at hm
  unfold DL Gz
  rw [BO]
  rw [show Tryz.f27.ntmps-yW [SV.ptr 0 0,SV.agg [.int .i64 x.op,.str x.atom.name,.arr (x.atom.args.map Tm.d),.str x.var,.arr (x.parts.map Fm.d)],SV.bool io]=56 from rfl]
  cases io with
  | false =>
   simp (maxSteps:=2000000) (disch:=omega) only [d_dfn_0,d_dfn_1,d_dfn_2,d_dfn_3,d_dfn_4,hm,hio,Bk,AU,Bl,BI,AZ,go_sem,Ab]
  | true =>
   rw [zG] at hio
   simp (maxSteps:=2000000) (disch:=omega) only [d_dfn_0,d_dfn_1,d_dfn_2,d_dfn_3,d_dfn_4,hm,hio,Bk,AU,Bl,BI,AZ,go_sem,Ab]
 ·obtain ⟨sl,ob⟩:=st'
  obtain ⟨_,rfl,h6⟩:=hk
  dsimp only at h6
  obtain ⟨V2,B2,hA2,hP2⟩:=YT (g:=2) (p:=0) (o:=1) hA' rfl rfl rfl
  have hP3:=hP2 _ _ _ _ _ hP
  dsimp only [BT,yI,yH,zV,zK,zP,zN,yN] at hA2 hP3
  have hA3:=hA2.slots [(6,.ptr 6 0)] (fun p hp=>by rw [List.mem_singleton.1 hp]; exact h6)
  refine Mb (e:=.ret) U4 hA.wf hA3 hP3 ⟨.inl rfl,.agg [.int .i64 x.op,.str x.atom.name,.ref 7,.str x.var,.ref 8],[0,1,2,3,7,8,10],rfl,?_⟩ (.inl hd)
  simp only [dfR,JY,dfT,hp,zY,zV,zK,WeakC,leL,leV,leO,Q8,Q9,An,sgp,SV.ren,SV.GK,Ob.ren,N2,Ht,N1,HW,HG,HG.setO1,zP,zN,yN,yP,yR,zX,zW,or_false,false_or,not_false_eq_true,not_true_eq_false,true_and,and_true,and_self,yL,reduceCtorEq,zK,zO,yT,zT]
theorem Z9 (tk:List ByteArray) (x y:Fm) (c c1 c2:Int) (es es1:List (List OT)) (b b1 b2:Bool) (nm:ByteArray) (vs:List ByteArray) (h5:x.op=5) (hm:DfM tk x y c c1 es es1 b b1)
  (hn:E 58 [.ptr 0 0] [.box 63 [.str AY,.ref 1,.int .i64 c1],.row 9 1 (tk.map fun s=>[OT.str s])]=some (.str nm,[.box 63 [.str AY,.ref 1,.int .i64 c2],.row 9 1 (tk.map fun s=>[OT.str s])]))
  (hv:E 59 [y.sv] []=some (.ref 0,[.row 9 1 (vs.map fun s=>[OT.str s])])) (hvt:E 61 [.arr (vs.map fun s=>[D.str s])] []=some (.ref 0,[.row 31 2 ((vT vs).map Tm.o)])) (hvl:vs.length≤1048576) (hes:es1.length≤1048576) (hb2:b2=(b1 || dec (4<vs.length))) :
  Fun Tryz.prog 27 (DL true x) (Gz tk c es b) (dfR 4 (Fm.at ⟨nm,vT vs⟩)) (JY tk c2 (es1++[Df.o ⟨nm,vs,y⟩]) b2 (Fm.at ⟨nm,vT vs⟩)):=by
 refine Ma Tryz.func27 U3 (by simp) fun w I V B tm hA=>?_
 rw [show Fence.wide=wf none from rfl]
 refine XQ (K:=fun x' st=>x'=.normal∧st.ob=[.box 65 [.ptr 1 0,.ref 9,.bool b2],.box 63 [.str AY,.ref 3,.int .i64 c2],.gone,.row 9 1 (tk.map fun s=>[OT.str s]),.box 60 [.ptr 0 0],.box 34 [.int .i64 x.op,.str x.atom.name,.arr (x.atom.args.map Tm.d),.str x.var,.arr (x.parts.map Fm.d)],.box 34 [.int .i64 0,.str ⟨#[]⟩,.nil,.str ⟨#[]⟩,.nil],.row 31 2 (y.atom.args.map Tm.o),.row 34 5 (y.parts.map Fm.o),.row 56 7 (es1),.box 34 [.int .i64 y.op,.str y.atom.name,.ref 7,.str y.var,.ref 8],.row 9 1 (vs.map fun s=>[OT.str s]),.box 56 [.str nm,.ref 11,.int .i64 y.op,.str y.atom.name,.ref 7,.str y.var,.ref 8]]∧gets st.sl 3=.ptr 4 0∧gets st.sl 6=.ptr 6 0∧gets st.sl 8=.ptr 12 0) Ij hA rfl O7 O8 O9 OA OB (by rfl) (fun cx hnt hm'=>SP (by rfl) ?_) (fun i st' h=>by cases h.1) (fun st' a' w' I' V' B' hk=>by cases hk.1) (fun st' a' w' I' V' B' hk hd hA' hP=>?_)
 ·unfold DfM at hm
  rw [BO] at hm hv
  unfold DL Gz
  rw [BO]
  rw [show Tryz.f27.ntmps-yW [SV.ptr 0 0,SV.agg [.int .i64 x.op,.str x.atom.name,.arr (x.atom.args.map Tm.d),.str x.var,.arr (x.parts.map Fm.d)],SV.bool true]=56 from rfl]
  have h5':dec (x.op=5)=true:=Ao h5
  have q4:dec ((4:Int)<(vs.length:Int))=dec (4<vs.length):=by
   by_cases q:4<vs.length
   ·rw [Ao q,Ao (by omega)]
   ·rw [Aj q,Aj (by omega)]
  have e1:=Tm.erss y.atom.args
  have e2:=Tm.fus y.atom.args
  have e3:=Fm.erss y.parts
  have e4:=Fm.fus y.parts
  rw [hb2]
  cases b1 with
  | false =>
   rw [Bool.false_or]
   simp (maxSteps:=2000000) (disch:=omega) only [d_dfn_0,d_dfn_1,d_dfn_2,d_dfn_3,d_dfn_4,hm,hn,hv,h5',q4,e1,e2,e3,e4,Bk,AU,Bl,BI,AZ,go_sem,Ab]
  | true =>
   rw [Bool.true_or]
   simp (maxSteps:=2000000) (disch:=omega) only [d_dfn_0,d_dfn_1,d_dfn_2,d_dfn_3,d_dfn_4,hm,hn,hv,h5',q4,e1,e2,e3,e4,Bk,AU,Bl,BI,AZ,go_sem,Ab]
 ·obtain ⟨sl,ob⟩:=st'
  obtain ⟨_,rfl,h3,h6,h8⟩:=hk
  dsimp only at h3 h6 h8
  have hA1:=hA'.slots [(3,.ptr 4 0),(6,.ptr 6 0),(8,.ptr 12 0)] (fun p hp=>by
   simp only [zX,zW,or_false] at hp
   rcases hp with rfl | rfl | rfl
   ·exact h3
   ·exact h6
   ·exact h8)
  refine wpIn_seq (YR (g:=11) (p:=12) (o:=1) (K:=fun v x' st=>x'=.normal∧st.ob=[.box 65 [.ptr 1 0,.ref 14,.bool b2],.box 63 [.str AY,.ref 3,.int .i64 c2],.gone,.row 9 1 (tk.map fun s=>[OT.str s]),.box 60 [.ptr 0 0],.box 34 [.int .i64 x.op,.str x.atom.name,.arr (x.atom.args.map Tm.d),.str x.var,.arr (x.parts.map Fm.d)],.box 34 [.int .i64 0,.str ⟨#[]⟩,.nil,.str ⟨#[]⟩,.nil],.gone,.gone,.gone,.box 34 [.int .i64 y.op,.str y.atom.name,.ref 7,.str y.var,.ref 8],.gone,.box 56 [.str nm,.val v,.int .i64 y.op,.str y.atom.name,.ref 7,.str y.var,.ref 8],.gone,.row 56 7 (es1++[[OT.str nm,OT.pin v,OT.int y.op,OT.str y.atom.name,OT.ow (y.atom.args.map Tm.o),OT.str y.var,OT.ow (y.parts.map Fm.o)]])]∧gets st.sl 6=.ptr 6 0∧gets st.sl 8=.ptr 12 0) Ij hA1 rfl rfl rfl XS (by rfl) (fun v cx hnt hm'=>SP (by rfl) ?_) (fun v x' st hk=>?_) fun v x' st l' a2 w2 I2 V2 B2 hk hl hd2 hV2 hA2 hP2=>?_)
  ·unfold O6
   dsimp only [BT,yI,yH]
   simp (maxSteps:=2000000) (disch:=omega) only [d_dfn_5,Tryz.ntmps27,Bk,AU,Bl,BI,AZ,go_sem,Ab]
  ·obtain ⟨_,hk,_⟩:=hk
   rw [hk]
   exact ⟨rfl,_,rfl,rfl⟩
  ·obtain ⟨sl2,ob2⟩:=st
   obtain ⟨rfl,rfl,k6,k8⟩:=hk
   dsimp only at k6 k8
   obtain ⟨_,rfl⟩:=Ob.box.inj (show Ob.box 56 _=Ob.box 56 l' from hl)
   unfold Kp at hA2 hP2
   dsimp only [BT,yI,yH] at hA2 hP2
   have hA3:=hA2.slots [(6,.ptr 6 0),(8,.ptr 12 0)] (fun p hp=>by
    simp only [zX,zW,or_false] at hp
    rcases hp with rfl | rfl
    ·exact k6
    ·exact k8)
   show (DB 6).wpIn (wf none) 5 _ _ a2 w2
   refine leg (ro:=none) (K:=fun x' st=>x'=.ret∧st.ob=[.box 65 [.ptr 1 0,.ref 14,.bool b2],.box 63 [.str AY,.ref 3,.int .i64 c2],.gone,.row 9 1 (tk.map fun s=>[OT.str s]),.box 60 [.ptr 0 0],.box 34 [.int .i64 x.op,.str x.atom.name,.arr (x.atom.args.map Tm.d),.str x.var,.arr (x.parts.map Fm.d)],.box 34 [.int .i64 3,.str nm,.ref 15,.str ⟨#[]⟩,.ref 16],.gone,.gone,.gone,.box 34 [.int .i64 y.op,.str y.atom.name,.ref 7,.str y.var,.ref 8],.row 9 1 (vs.map fun s=>[OT.str s]),.box 56 [.str nm,.ref 11,.int .i64 y.op,.str y.atom.name,.ref 7,.str y.var,.ref 8],.gone,.row 56 7 (es1++[[OT.str nm,OT.pin v,OT.int y.op,OT.str y.atom.name,OT.ow (y.atom.args.map Tm.o),OT.str y.var,OT.ow (y.parts.map Fm.o)]]),.row 31 2 ((vT vs).map Tm.o),.row 34 5 []]∧gets st.sl 6=.ptr 6 0) Ij hA3 XT (by rfl) (fun cx hnt hm'=>SP (by rfl) ?_) fun x' st a3 w3 I3 V3 B3 hk hd3 hA4 hP3=>?_
   ·have hao:=XP ⟨nm,vT vs⟩
    simp only [Tm.osv,Tm.obs,Tm.name,Tm.args] at hao
    have e5:=EW vs
    simp (maxSteps:=2000000) (disch:=omega) only [d_dfn_6,hvt,hao,e5,Tryz.ntmps27,Bk,AU,Bl,BI,AZ,go_sem,Ab]
   ·obtain ⟨sl3,ob3⟩:=st
    obtain ⟨rfl,rfl,m6⟩:=hk
    dsimp only at m6
    have hk1:(es1++[[OT.str nm,OT.pin v,OT.int y.op,OT.str y.atom.name,OT.ow (y.atom.args.map Tm.o),OT.str y.var,OT.ow (y.parts.map Fm.o)]])[es1.length]?=some ([OT.str nm,OT.pin v,OT.int y.op,OT.str y.atom.name,OT.ow (y.atom.args.map Tm.o),OT.str y.var,OT.ow (y.parts.map Fm.o)]):=by rw [List.getElem?_append_right (yX _),Nat.sub_self]; rfl
    obtain ⟨B4,hA5,hP4⟩:=YS (L:=14) (g:=11) (k:=es1.length) (o:=1) (v:=v) hA4 rfl hk1 rfl rfl (hP3.v 11 v hV2) (by decide)
    have hP5:=hP4 _ _ _ _ _ (hP.trans (hP2.trans hP3))
    have hset:(es1++[[OT.str nm,OT.pin v,OT.int y.op,OT.str y.atom.name,OT.ow (y.atom.args.map Tm.o),OT.str y.var,OT.ow (y.parts.map Fm.o)]]).set es1.length (List.set ([OT.str nm,OT.pin v,OT.int y.op,OT.str y.atom.name,OT.ow (y.atom.args.map Tm.o),OT.str y.var,OT.ow (y.parts.map Fm.o)]) 1 (OT.ow (vs.map fun s=>[OT.str s])))=es1++[Df.o ⟨nm,vs,y⟩]:=by
     rw [List.set_append_right _ _ (yX _),Nat.sub_self]
     rfl
    rw [hset] at hA5 hP5
    dsimp only [BT] at hA5 hP5
    have hA6:=hA5.slots [(6,.ptr 6 0)] (fun p hp=>by rw [List.mem_singleton.1 hp]; exact m6)
    refine Mb (e:=.ret) U4 hA.wf hA6 hP5 ⟨.inl rfl,.agg [.int .i64 3,.str nm,.ref 15,.str ⟨#[]⟩,.ref 16],[0,1,2,3,15,16,14],rfl,?_⟩ (.inl (hd3.trans (hd2.trans hd)))
    simp only [dfR,JY,dfT,Fm.at,Fm.op,Fm.atom,Fm.var,Fm.parts,Tm.name,Tm.args,zY,zV,zK,WeakC,leL,leV,leO,Q8,Q9,An,sgp,SV.ren,SV.GK,Ob.ren,N2,Ht,N1,HW,HG,HG.setO1,zP,zN,yN,yP,yR,zX,zW,or_false,false_or,not_false_eq_true,not_true_eq_false,true_and,and_true,and_self,yL,reduceCtorEq,zK,zO,yT,zT]
def M6:SC:=(.seq (.reg [⟨some 4,none,.mv (.c (.bool false))⟩]) (.seq (.seq (.reg [⟨some 5,none,.mv (.c (.int .i64 0))⟩]) (.block 0 (.loop [1,1,0,0,0,1,0,0,0,0,0,0,0,0,0,0,0,0] (.seq (.seq (.reg [⟨some 6,none,.mv (.t 5)⟩,⟨some 7,none,.mv (.t 0)⟩,⟨some 8,none,.len false (.t 7)⟩,⟨some 9,none,.bin .lss false (.t 6) (.t 8)⟩]) (.cond (.t 9) .skip (.exit 0))) (.seq (.block 1 (.seq (.reg [⟨some 12,none,.mv (.t 0)⟩,⟨some 13,none,.mv (.t 5)⟩,⟨some 14,none,.iaddr 1 (.t 12) (.t 13)⟩,⟨some 15,none,.load false 1 (.t 14)⟩,⟨some 16,none,.mv (.t 1)⟩,⟨some 17,none,.bin .eql false (.t 15) (.t 16)⟩]) (.cond (.t 17) (.seq (.reg [⟨some 4,none,.mv (.c (.bool true))⟩]) .ret) .skip))) (.reg [⟨some 10,none,.mv (.t 5)⟩,⟨some 11,none,.bin .add false (.t 10) (.c (.int .i64 1))⟩,⟨some 5,none,.mv (.t 11)⟩])))))) (.seq (.reg [⟨some 4,none,.mv (.c (.bool false))⟩]) .ret)))
theorem SR:Ap Tryz.prog 66=some ⟨18,M6,[(.tmp 4)]⟩:=by kernel_rfl
theorem EH:modes 66=⟨[],.asis,none,false⟩:=by unfold modes; rfl
theorem XV (xs:List ByteArray) (n:ByteArray) (hl:xs.length≤1099511627776):E 66 [.arr (xs.map fun s=>[D.str s]),.str n] []=some (.bool (dec (n∈xs)),[]):=by
 refine Ai SR EH (of_decide_eq_true rfl) ?_
 simp (disch:=omega) only [M6,go_sem,Ab]
 refine go_loop (α:=Int) (fun a=>⟨slots 18 0 [(0,.arr (xs.map fun s=>[D.str s])),(1,.str n),(5,.int .i64 a)],[]⟩) (fun a=>∃ k:Nat,a=k∧k≤(xs).length∧dec (n∈xs.drop k)=dec (n∈xs)) (fun a=>(xs).length-(a).toNat) 0 ⟨0,rfl,zH _,by rw [zE]⟩ (by simp (disch:=omega) only [go_sem,Ab]) ?_
 rintro i ⟨k,hi,hk,hR⟩
 have hni:i.toNat=k:=by omega
 have hni1:(i+1).toNat=k+1:=by omega
 rcases zB k (xs).length with hlt | hge
 ·have hg:=get_at (fun s=>[D.str s]) hlt
  rw [zA hlt] at hR
  by_cases hp:xs[k]=n
  ·have hq:=eq_true hp
   have ht:dec (n∈xs)=true:=Ao (hp▸zF hlt)
   simp (disch:=omega) only [go_sem,Ab,hni,hg,hq]
   exact ht.symm
  ·have hq:=eq_false hp
   have hR:dec (n∈xs.drop (k+1))=dec (n∈xs):=by
    rw [←hR]
    exact Z0 (by simp only [zX]; exact ⟨.inr,fun h=>h.elim (fun e=>absurd e.symm hp) id⟩)
   simp (disch:=omega) only [go_sem,Ab,hni,hg,hq]
   exact ⟨i+1,⟨k+1,by omega,hlt,hR⟩,by omega,by first | trivial | rfl⟩
 ·rw [zD hge,Aj (by simp)] at hR
  simp (disch:=omega) only [go_sem,Ab,hni]
  exact hR
end Go.Proofs.YtbcljemengiocaaGreatDoor
