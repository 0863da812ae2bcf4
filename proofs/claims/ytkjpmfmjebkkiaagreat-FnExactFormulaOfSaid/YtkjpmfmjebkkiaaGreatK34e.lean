/-
  Texts of this claim, one behind the other, each built on those ahead of it. No condition.
-/
import Derived.Test.YtkjpmfmjebkkiaaGreatK34c
import Derived.Test.YtkjpmfmjebkkiaaGreatK34d
import Derived.ProofKit
import Derived.Deep.Slices
import Derived.Deep.Fields
import Derived.ChangeSame
import Derived.OpenShut
import Derived.ShutString
import Derived.ChangeOld
set_option maxHeartbeats 16000000
open List renaming getElem_mem → zB, drop_eq_getElem_cons → zC, drop_zero → zD, length_map → zE, getElem?_eq_getElem → zH, drop_eq_nil_of_le → zI, range → zJ
open Nat renaming zero_le → zF, lt_or_ge → zG
open Array renaming getElem?_eq_some_iff → zK
open List.cons renaming inj → zL
set_option maxRecDepth 100000
set_option linter.unusedSimpArgs false
set_option linter.unusedVariables false
set_option linter.unusedSectionVars false
namespace Go.Proofs.YtkjpmfmjebkkiaaGreat
open Go.RowKit
def G0:SC:=(.seq (.reg [⟨some 4,none,.mv (.c (.int .i64 0))⟩]) (.seq (.seq (.reg [⟨some 5,none,.mv (.c (.int .i64 0))⟩]) (.block 0 (.loop [1,1,0,0,0,1,0,0,0,0,0,0,0,0,0,0,0,0,0,0,0,0,0,0,0,0,0,0,0,0,0,0] (.seq (.seq (.reg [⟨some 6,none,.mv (.t 5)⟩,⟨some 7,none,.mv (.t 0)⟩,⟨some 8,none,.len false (.t 7)⟩,⟨some 9,none,.bin .lss false (.t 6) (.t 8)⟩]) (.cond (.t 9) .skip (.exit 0))) (.seq (.block 1 (.seq (.seq (.dreg [[],[],[0,1],[2,0,1],[3,2,0,1],[],[5],[4,3,2,0,1,6,5]] [⟨some 12,none,.mv (.t 0)⟩,⟨some 13,none,.mv (.t 5)⟩,⟨some 14,none,.iaddr 2 (.t 12) (.t 13)⟩,⟨some 15,none,.faddr 0 (.t 14)⟩,⟨some 16,none,.load false 1 (.t 15)⟩,⟨some 17,none,.mv (.t 1)⟩,⟨some 18,none,.call 72 [(.t 17)]⟩,⟨some 19,none,.bin .neq false (.t 16) (.t 18)⟩]) (.cond (.t 19) (.seq (.reg [⟨some 4,none,.mv (.c (.int .i64 (-(0+1))))⟩]) .ret) .skip)) (.seq (.reg [⟨some 20,none,.mv (.t 1)⟩,⟨some 21,none,.bin .add false (.t 20) (.c (.int .i64 1))⟩,⟨some 1,none,.mv (.t 21)⟩]) (.seq (.reg [⟨some 22,none,.mv (.t 0)⟩,⟨some 23,none,.mv (.t 5)⟩,⟨some 24,none,.iaddr 2 (.t 22) (.t 23)⟩,⟨some 25,none,.faddr 1 (.t 24)⟩,⟨some 26,none,.load false 1 (.t 25)⟩,⟨some 27,none,.mv (.t 1)⟩,⟨some 28,none,.call 104 [(.t 26),(.t 27)]⟩,⟨some 1,none,.mv (.t 28)⟩]) (.seq (.reg [⟨some 29,none,.mv (.t 1)⟩,⟨some 30,none,.bin .lss false (.t 29) (.c (.int .i64 0))⟩]) (.cond (.t 30) (.seq (.reg [⟨some 4,none,.mv (.c (.int .i64 (-(0+1))))⟩]) .ret) .skip)))))) (.reg [⟨some 10,none,.mv (.t 5)⟩,⟨some 11,none,.bin .add false (.t 10) (.c (.int .i64 1))⟩,⟨some 5,none,.mv (.t 11)⟩])))))) (.seq (.reg [⟨some 31,none,.mv (.t 1)⟩,⟨some 4,none,.mv (.t 31)⟩]) .ret)))
theorem Lz:codeOf Tryz.prog 104=some ⟨32,G0,[(.tmp 4)]⟩:=by kernel_rfl
theorem CN:modes 104=⟨[],.asis,none,false⟩:=by unfold modes; rfl
theorem Tm.mkS_len:∀ (xs:List Tm) (k:Int),(Tm.mkS xs k).1.length=xs.length
 | [],k=>by rw [Tm.mkS]
 | x :: xs,k=>by rw [Tm.mkS]; simp only [List.length_cons]; rw [Tm.mkS_len xs]
abbrev F0 (xs:List Tm):Prop:=∀ k:Int,1≤k→k+Tm.wtS xs≤1099511627776→E 104 [.arr ((Tm.mkS xs k).1.map Tm.d),.int .i64 k] []=some (.int .i64 (Tm.mkS xs k).2,[])
theorem Ia (xs:List Tm) (ih:∀ x∈xs,F0 x.args):F0 xs:=by
 intro k0 h1 h2
 obtain ⟨ys,hys⟩:∃ ys,ys=(Tm.mkS xs k0).1:=⟨_,rfl⟩
 have hyl:ys.length=xs.length:=by rw [hys,Tm.mkS_len]
 rw [←hys]
 have hL:=Tm.length_wt xs
 refine Ai Lz CN (of_decide_eq_true rfl) ?_
 simp (disch:=omega) only [G0,go_sem,Ab]
 refine go_loop (α:=Int × (Int)) (fun a=>⟨slots 32 0 [(0,.arr (ys.map Tm.d)),(1,.int .i64 (a.2)),(5,.int .i64 (a.1))],[]⟩) (fun a=>∃ k:Nat,a.1=k∧k≤(ys).length∧1≤(a.2)∧(a.2)+Tm.wtS (xs.drop k)=k0+Tm.wtS xs∧ys.drop k=(Tm.mkS (xs.drop k) (a.2)).1∧(Tm.mkS xs k0).2=(Tm.mkS (xs.drop k) (a.2)).2) (fun a=>(ys).length-(a.1).toNat) (0,k0) ⟨0,rfl,zF _,h1,by rw [zD],by rw [zD,zD,hys],by rw [zD]⟩ (by simp (disch:=omega) only [go_sem,Ab]) ?_
 rintro ⟨i,kk⟩ ⟨k,hi,hk,hR⟩
 dsimp only at hi hR
 have hni:i.toNat=k:=by omega
 have hni1:(i+1).toNat=k+1:=by omega
 rcases zG k (ys).length with hlt | hge
 ·obtain ⟨hk1,hkn,hy,hm⟩:=hR
  have hlx:k<xs.length:=by omega
  have hdr:xs.drop k=xs[k] :: xs.drop (k+1):=zC hlx
  have hdy:=zC hlt
  rw [hdr,Tm.wtS] at hkn
  rw [hdr,Tm.mkS] at hm
  rw [hdr,Tm.mkS,hdy] at hy
  dsimp only at hy hm
  obtain ⟨hy1,hy2⟩:=zL hy
  have hg:=get_at Tm.d hlt
  rw [hy1,Tm.mk1_d] at hg
  have hn1:=Tm.wt_eq xs[k]
  have e1:=Tm.mkS_end xs[k].args ((kk+1))
  have t0:=Dk (k:=kk) (by omega) (by omega)
  have c58:=ih xs[k] (zB hlx) ((kk+1)) (by omega) (by omega)
  have he:=Tm.mk1_end xs[k] kk
  simp (disch:=omega) only [go_sem,Ab,hni,hg,Cq,C9,t0,c58,CN]
  refine ⟨(i+1,(xs[k].mk1 kk).2),⟨k+1,by dsimp only; omega,hlt,by dsimp only; omega,by dsimp only; omega,hy2,hm⟩,by dsimp only; omega,?_⟩
  dsimp only
  rw [Tm.mk1_eq]
  simp only [and_self,and_true,true_and]
  try omega
 ·obtain ⟨hk1,hkn,hy,hm⟩:=hR
  have hdr:xs.drop k=[]:=zI (by omega)
  rw [hdr,Tm.mkS] at hm
  rw [hm]
  simp (disch:=omega) only [go_sem,Ab,hni]
theorem K7 (x:Tm):F0 x.args:=Ia x.args fun y hy=>K7 y
termination_by SizeOf.sizeOf x
decreasing_by exact Tm.lt_of_mem hy
theorem Mc (xs:List Tm):F0 xs:=Ia xs fun y _=>K7 y
def E1:SC:=(.seq (.reg [⟨some 4,none,.mv (.c (.int .i64 0))⟩]) (.seq (.seq (.reg [⟨some 5,none,.mv (.c (.int .i64 0))⟩]) (.block 0 (.loop [1,1,0,0,0,1,0,0,0,0,0,0,0,0,0,0,0,0,0,0,0,0,0,0,0,0,0,0,0,0,0,0,0,0,0,0,0,0,0,0,0,0,0,0,0,0,0,0,0,0,0,0,0,0,0,0,0,0,0,0,0,0] (.seq (.seq (.reg [⟨some 6,none,.mv (.t 5)⟩,⟨some 7,none,.mv (.t 0)⟩,⟨some 8,none,.len false (.t 7)⟩,⟨some 9,none,.bin .lss false (.t 6) (.t 8)⟩]) (.cond (.t 9) .skip (.exit 0))) (.seq (.block 1 (.seq (.seq (.reg [⟨some 12,none,.mv (.t 0)⟩,⟨some 13,none,.mv (.t 5)⟩,⟨some 14,none,.iaddr 5 (.t 12) (.t 13)⟩,⟨some 15,none,.faddr 0 (.t 14)⟩,⟨some 16,none,.load false 1 (.t 15)⟩,⟨some 17,none,.mv (.t 1)⟩,⟨some 18,none,.bin .neq false (.t 16) (.t 17)⟩]) (.cond (.t 18) (.seq (.reg [⟨some 4,none,.mv (.c (.int .i64 (-(0+1))))⟩]) .ret) .skip)) (.seq (.reg [⟨some 19,none,.mv (.t 1)⟩,⟨some 20,none,.bin .add false (.t 19) (.c (.int .i64 1))⟩,⟨some 1,none,.mv (.t 20)⟩]) (.seq (.seq (.dreg [[],[],[0,1],[2,0,1],[3,2,0,1],[4,3,2,0,1],[],[6],[5,4,3,2,0,1,7,6]] [⟨some 21,none,.mv (.t 0)⟩,⟨some 22,none,.mv (.t 5)⟩,⟨some 23,none,.iaddr 5 (.t 21) (.t 22)⟩,⟨some 24,none,.faddr 1 (.t 23)⟩,⟨some 25,none,.faddr 0 (.t 24)⟩,⟨some 26,none,.load false 1 (.t 25)⟩,⟨some 27,none,.mv (.t 1)⟩,⟨some 28,none,.call 72 [(.t 27)]⟩,⟨some 29,none,.bin .neq false (.t 26) (.t 28)⟩]) (.cond (.t 29) (.seq (.reg [⟨some 4,none,.mv (.c (.int .i64 (-(0+1))))⟩]) .ret) .skip)) (.seq (.reg [⟨some 30,none,.mv (.t 1)⟩,⟨some 31,none,.bin .add false (.t 30) (.c (.int .i64 1))⟩,⟨some 1,none,.mv (.t 31)⟩]) (.seq (.reg [⟨some 32,none,.mv (.t 0)⟩,⟨some 33,none,.mv (.t 5)⟩,⟨some 34,none,.iaddr 5 (.t 32) (.t 33)⟩,⟨some 35,none,.faddr 1 (.t 34)⟩,⟨some 36,none,.faddr 1 (.t 35)⟩,⟨some 37,none,.load false 1 (.t 36)⟩,⟨some 38,none,.mv (.t 1)⟩,⟨some 39,none,.call 104 [(.t 37),(.t 38)]⟩,⟨some 1,none,.mv (.t 39)⟩]) (.seq (.seq (.reg [⟨some 40,none,.mv (.t 1)⟩,⟨some 41,none,.bin .lss false (.t 40) (.c (.int .i64 0))⟩]) (.cond (.t 41) (.seq (.reg [⟨some 4,none,.mv (.c (.int .i64 (-(0+1))))⟩]) .ret) .skip)) (.seq (.seq (.dreg [[],[],[0,1],[2,0,1],[3,2,0,1],[],[5],[4,3,2,0,1,6,5]] [⟨some 42,none,.mv (.t 0)⟩,⟨some 43,none,.mv (.t 5)⟩,⟨some 44,none,.iaddr 5 (.t 42) (.t 43)⟩,⟨some 45,none,.faddr 3 (.t 44)⟩,⟨some 46,none,.load false 1 (.t 45)⟩,⟨some 47,none,.mv (.t 1)⟩,⟨some 48,none,.call 72 [(.t 47)]⟩,⟨some 49,none,.bin .neq false (.t 46) (.t 48)⟩]) (.cond (.t 49) (.seq (.reg [⟨some 4,none,.mv (.c (.int .i64 (-(0+1))))⟩]) .ret) .skip)) (.seq (.reg [⟨some 50,none,.mv (.t 1)⟩,⟨some 51,none,.bin .add false (.t 50) (.c (.int .i64 1))⟩,⟨some 1,none,.mv (.t 51)⟩]) (.seq (.reg [⟨some 52,none,.mv (.t 0)⟩,⟨some 53,none,.mv (.t 5)⟩,⟨some 54,none,.iaddr 5 (.t 52) (.t 53)⟩,⟨some 55,none,.faddr 4 (.t 54)⟩,⟨some 56,none,.load false 1 (.t 55)⟩,⟨some 57,none,.mv (.t 1)⟩,⟨some 58,none,.call 49 [(.t 56),(.t 57)]⟩,⟨some 1,none,.mv (.t 58)⟩]) (.seq (.reg [⟨some 59,none,.mv (.t 1)⟩,⟨some 60,none,.bin .lss false (.t 59) (.c (.int .i64 0))⟩]) (.cond (.t 60) (.seq (.reg [⟨some 4,none,.mv (.c (.int .i64 (-(0+1))))⟩]) .ret) .skip)))))))))))) (.reg [⟨some 10,none,.mv (.t 5)⟩,⟨some 11,none,.bin .add false (.t 10) (.c (.int .i64 1))⟩,⟨some 5,none,.mv (.t 11)⟩])))))) (.seq (.reg [⟨some 61,none,.mv (.t 1)⟩,⟨some 4,none,.mv (.t 61)⟩]) .ret)))
theorem IL:codeOf Tryz.prog 49=some ⟨62,E1,[(.tmp 4)]⟩:=by kernel_rfl
theorem CS:modes 49=⟨[],.asis,none,false⟩:=by unfold modes; rfl
theorem Fm.mkS_len:∀ (xs:List Fm) (k:Int),(Fm.mkS xs k).1.length=xs.length
 | [],k=>by rw [Fm.mkS]
 | x :: xs,k=>by rw [Fm.mkS]; simp only [List.length_cons]; rw [Fm.mkS_len xs]
abbrev D2 (xs:List Fm):Prop:=∀ k:Int,1≤k→k+Fm.wtS xs≤1099511627776→E 49 [.arr ((Fm.mkS xs k).1.map Fm.d),.int .i64 k] []=some (.int .i64 (Fm.mkS xs k).2,[])
theorem F1 (xs:List Fm) (ih:∀ x∈xs,D2 x.parts):D2 xs:=by
 intro k0 h1 h2
 obtain ⟨ys,hys⟩:∃ ys,ys=(Fm.mkS xs k0).1:=⟨_,rfl⟩
 have hyl:ys.length=xs.length:=by rw [hys,Fm.mkS_len]
 rw [←hys]
 have hL:=Fm.length_wt xs
 refine Ai IL CS (of_decide_eq_true rfl) ?_
 simp (disch:=omega) only [E1,go_sem,Ab]
 refine go_loop (α:=Int × (Int)) (fun a=>⟨slots 62 0 [(0,.arr (ys.map Fm.d)),(1,.int .i64 (a.2)),(5,.int .i64 (a.1))],[]⟩) (fun a=>∃ k:Nat,a.1=k∧k≤(ys).length∧1≤(a.2)∧(a.2)+Fm.wtS (xs.drop k)=k0+Fm.wtS xs∧ys.drop k=(Fm.mkS (xs.drop k) (a.2)).1∧(Fm.mkS xs k0).2=(Fm.mkS (xs.drop k) (a.2)).2) (fun a=>(ys).length-(a.1).toNat) (0,k0) ⟨0,rfl,zF _,h1,by rw [zD],by rw [zD,zD,hys],by rw [zD]⟩ (by simp (disch:=omega) only [go_sem,Ab]) ?_
 rintro ⟨i,kk⟩ ⟨k,hi,hk,hR⟩
 dsimp only at hi hR
 have hni:i.toNat=k:=by omega
 have hni1:(i+1).toNat=k+1:=by omega
 rcases zG k (ys).length with hlt | hge
 ·obtain ⟨hk1,hkn,hy,hm⟩:=hR
  have hlx:k<xs.length:=by omega
  have hdr:xs.drop k=xs[k] :: xs.drop (k+1):=zC hlx
  have hdy:=zC hlt
  rw [hdr,Fm.wtS] at hkn
  rw [hdr,Fm.mkS] at hm
  rw [hdr,Fm.mkS,hdy] at hy
  dsimp only at hy hm
  obtain ⟨hy1,hy2⟩:=zL hy
  have hg:=get_at Fm.d hlt
  rw [hy1,Fm.mk1_d] at hg
  have hn1:=Fm.wt_eq xs[k]
  have e2:=Tm.mkS_end xs[k].atom.args ((kk+1+1))
  have e4:=Fm.mkS_end xs[k].parts (((Tm.mkS xs[k].atom.args (kk+1+1)).2+1))
  have t0:=Dk (k:=(kk+1)) (by omega) (by omega)
  have c64:=Mc xs[k].atom.args ((kk+1+1)) (by omega) (by omega)
  have t145:=Dk (k:=(Tm.mkS xs[k].atom.args (kk+1+1)).2) (by omega) (by omega)
  have c242:=ih xs[k] (zB hlx) (((Tm.mkS xs[k].atom.args (kk+1+1)).2+1)) (by omega) (by omega)
  have he:=Fm.mk1_end xs[k] kk
  simp (disch:=omega) only [go_sem,Ab,hni,hg,Cq,C9,t0,c64,CN,t145,c242,CS]
  refine ⟨(i+1,(xs[k].mk1 kk).2),⟨k+1,by dsimp only; omega,hlt,by dsimp only; omega,by dsimp only; omega,hy2,hm⟩,by dsimp only; omega,?_⟩
  dsimp only
  rw [Fm.mk1_eq]
  simp only [and_self,and_true,true_and]
  try omega
 ·obtain ⟨hk1,hkn,hy,hm⟩:=hR
  have hdr:xs.drop k=[]:=zI (by omega)
  rw [hdr,Fm.mkS] at hm
  rw [hm]
  simp (disch:=omega) only [go_sem,Ab,hni]
theorem GW (x:Fm):D2 x.parts:=F1 x.parts fun y hy=>GW y
termination_by SizeOf.sizeOf x
decreasing_by exact Fm.lt_of_mem hy
theorem Og (xs:List Fm):D2 xs:=F1 xs fun y _=>GW y
theorem M8 {o:Ob} {es:List (List OT)} (h:toTree [o]=[.tree es []]):(∃ a b,o=.row a b es)∨o=.tree es []:=by
 cases o with
 | row a b e=>obtain ⟨h1,h2⟩:=zL h; cases h1; exact .inl ⟨a,b,rfl⟩
 | tree e hs=>obtain ⟨h1,h2⟩:=zL h; cases h1; exact .inr rfl
 | _=>simp [toTree] at h
noncomputable def Tm.mkr (x:Tm) (k:Int):Tm × Int:=((Tm.mk (x.name) ((Tm.mkS x.args k).1)),(Tm.mkS x.args k).2)
def GX:SC:=(.seq (.reg [⟨some 2,none,.boxv 31 2 (.t 0)⟩,⟨some 4,none,.mv (.c (.int .i64 0))⟩]) (.seq (.reg [⟨some 5,none,.faddr 1 (.t 2)⟩,⟨some 6,none,.load false 1 (.t 5)⟩,⟨some 7,none,.mv (.t 1)⟩,⟨some 8,none,.call 74 [(.t 6),(.t 7)]⟩,⟨some 1,none,.mv (.t 8)⟩]) (.seq (.reg [⟨some 9,none,.mv (.t 1)⟩,⟨some 4,none,.mv (.t 9)⟩]) .ret)))
theorem Mq:codeOf Tryz.prog 46=some ⟨10,GX,[(.tmp 4)]⟩:=by kernel_rfl
theorem GY:modes 46=⟨[true],.asis,none,false⟩:=by unfold modes; rfl
theorem T5 (x:Tm) (k:Int) (o0:Ob) (h1:1≤k) (h2:k+(Tm.wtS x.args:Nat)≤1099511627776) (t0:toTree [o0]=[.tree (x.args.map Tm.o) []]):E 46 [.agg [.str x.name,.ref 0],.int .i64 k] [o0]=some (.int .i64 (x.mkr k).2,[.tree ((Tm.mkS x.args k).1.map Tm.o) []]):=by
 have e0:=Tm.mkS_end x.args k
 rw [Tm.mkr]
 dsimp only
 have c0:=HY x.args k [o0] (by omega) (by omega) t0
 rcases M8 t0 with ⟨a0,b0,rfl⟩ | rfl <;>
  (
  refine Ai Mq GY (of_decide_eq_true rfl) ?_
  simp (disch:=omega) only [GX,go_sem,Ab,c0,Ca])
def GZ:SC:=(.seq (.reg [⟨some 2,none,.boxv 31 2 (.t 0)⟩,⟨some 4,none,.mv (.c (.int .i64 0))⟩]) (.seq (.reg [⟨some 5,none,.faddr 1 (.t 2)⟩,⟨some 6,none,.load false 1 (.t 5)⟩,⟨some 7,none,.mv (.t 1)⟩,⟨some 8,none,.call 104 [(.t 6),(.t 7)]⟩,⟨some 1,none,.mv (.t 8)⟩]) (.seq (.seq (.reg [⟨some 9,none,.mv (.t 1)⟩,⟨some 10,none,.bin .lss false (.t 9) (.c (.int .i64 0))⟩]) (.cond (.t 10) (.seq (.reg [⟨some 4,none,.mv (.c (.int .i64 (-(0+1))))⟩]) .ret) .skip)) (.seq (.reg [⟨some 11,none,.mv (.t 1)⟩,⟨some 4,none,.mv (.t 11)⟩]) .ret))))
theorem Mr:codeOf Tryz.prog 48=some ⟨12,GZ,[(.tmp 4)]⟩:=by kernel_rfl
theorem Ha:modes 48=⟨[],.asis,none,false⟩:=by unfold modes; rfl
theorem T6 (x:Tm) (k:Int) (h1:1≤k) (h2:k+(Tm.wtS x.args:Nat)≤1099511627776):E 48 [.agg [.str x.name,.arr ((Tm.mkS x.args k).1.map Tm.d)],.int .i64 k] []=some (.int .i64 (x.mkr k).2,[]):=by
 have e0:=Tm.mkS_end x.args k
 rw [Tm.mkr]
 dsimp only
 have p0:(Tm.mk (x.name) ((Tm.mkS x.args k).1)).name=x.name:=rfl
 have p1:(Tm.mk (x.name) ((Tm.mkS x.args k).1)).args=(Tm.mkS x.args k).1:=rfl
 have c0:=Mc x.args k (by omega) (by omega)
 refine Ai Mr Ha (of_decide_eq_true rfl) ?_
 simp (disch:=omega) only [GZ,go_sem,Ab,c0,CN,p0,p1]
noncomputable def Fm.mkr (x:Fm) (k:Int):Fm × Int:=((Fm.mk (x.op) (Tm.mk (x.atom.name) ((Tm.mkS x.atom.args k).1)) (x.var) ((Fm.mkS x.parts (Tm.mkS x.atom.args k).2).1)),(Fm.mkS x.parts (Tm.mkS x.atom.args k).2).2)
def Fe:SC:=(.seq (.reg [⟨some 2,none,.boxv 34 5 (.t 0)⟩,⟨some 4,none,.mv (.c (.int .i64 0))⟩]) (.seq (.reg [⟨some 5,none,.faddr 1 (.t 2)⟩,⟨some 6,none,.load true 2 (.t 5)⟩,⟨some 7,none,.mv (.t 1)⟩,⟨some 8,none,.call 46 [(.t 6),(.t 7)]⟩,⟨some 1,none,.mv (.t 8)⟩]) (.seq (.reg [⟨some 9,none,.faddr 4 (.t 2)⟩,⟨some 10,none,.load false 1 (.t 9)⟩,⟨some 11,none,.mv (.t 1)⟩,⟨some 12,none,.call 47 [(.t 10),(.t 11)]⟩,⟨some 1,none,.mv (.t 12)⟩]) (.seq (.reg [⟨some 13,none,.mv (.t 1)⟩,⟨some 4,none,.mv (.t 13)⟩]) .ret))))
theorem JS:codeOf Tryz.prog 12=some ⟨14,Fe,[(.tmp 4)]⟩:=by kernel_rfl
theorem BC:modes 12=⟨[true],.asis,none,false⟩:=by unfold modes; rfl
theorem OF (x:Fm) (k:Int) (o0 o1:Ob) (h1:1≤k) (h2:k+(Tm.wtS x.atom.args+Fm.wtS x.parts:Nat)≤1099511627776) (t0:toTree [o0]=[.tree (x.atom.args.map Tm.o) []]) (t1:toTree [o1]=[.tree (x.parts.map Fm.o) []]):E 12 [.agg [.int .i64 x.op,.str x.atom.name,.ref 0,.str x.var,.ref 1],.int .i64 k] [o0,o1]=some (.int .i64 (x.mkr k).2,[.tree ((Tm.mkS x.atom.args k).1.map Tm.o) [],.tree ((Fm.mkS x.parts (Tm.mkS x.atom.args k).2).1.map Fm.o) []]):=by
 have e0:=Tm.mkS_end x.atom.args k
 have e1:=Fm.mkS_end x.parts (Tm.mkS x.atom.args k).2
 rw [Fm.mkr]
 dsimp only
 have c0:=T5 x.atom k o0 (by omega) (by omega) t0
 rw [Tm.mkr] at c0
 dsimp only at c0
 have c1:=Of x.parts (Tm.mkS x.atom.args k).2 [o1] (by omega) (by omega) t1
 rcases M8 t0 with ⟨a0,b0,rfl⟩ | rfl <;>
 rcases M8 t1 with ⟨a1,b1,rfl⟩ | rfl <;>
  (
  refine Ai JS BC (of_decide_eq_true rfl) ?_
  simp (disch:=omega) only [Fe,go_sem,Ab,c0,GY,c1,CR])
def Ff:SC:=(.seq (.reg [⟨some 2,none,.boxv 34 5 (.t 0)⟩,⟨some 4,none,.mv (.c (.int .i64 0))⟩]) (.seq (.reg [⟨some 5,none,.faddr 1 (.t 2)⟩,⟨some 6,none,.load true 2 (.t 5)⟩,⟨some 7,none,.mv (.t 1)⟩,⟨some 8,none,.call 48 [(.t 6),(.t 7)]⟩,⟨some 1,none,.mv (.t 8)⟩]) (.seq (.seq (.reg [⟨some 9,none,.mv (.t 1)⟩,⟨some 10,none,.bin .lss false (.t 9) (.c (.int .i64 0))⟩]) (.cond (.t 10) (.seq (.reg [⟨some 4,none,.mv (.c (.int .i64 (-(0+1))))⟩]) .ret) .skip)) (.seq (.reg [⟨some 11,none,.faddr 4 (.t 2)⟩,⟨some 12,none,.load false 1 (.t 11)⟩,⟨some 13,none,.mv (.t 1)⟩,⟨some 14,none,.call 49 [(.t 12),(.t 13)]⟩,⟨some 1,none,.mv (.t 14)⟩]) (.seq (.seq (.reg [⟨some 15,none,.mv (.t 1)⟩,⟨some 16,none,.bin .lss false (.t 15) (.c (.int .i64 0))⟩]) (.cond (.t 16) (.seq (.reg [⟨some 4,none,.mv (.c (.int .i64 (-(0+1))))⟩]) .ret) .skip)) (.seq (.reg [⟨some 17,none,.mv (.t 1)⟩,⟨some 4,none,.mv (.t 17)⟩]) .ret))))))
theorem JT:codeOf Tryz.prog 13=some ⟨18,Ff,[(.tmp 4)]⟩:=by kernel_rfl
theorem BD:modes 13=⟨[],.asis,none,false⟩:=by unfold modes; rfl
theorem OG (x:Fm) (k:Int) (h1:1≤k) (h2:k+(Tm.wtS x.atom.args+Fm.wtS x.parts:Nat)≤1099511627776):E 13 [.agg [.int .i64 x.op,.str x.atom.name,.arr ((Tm.mkS x.atom.args k).1.map Tm.d),.str x.var,.arr ((Fm.mkS x.parts (Tm.mkS x.atom.args k).2).1.map Fm.d)],.int .i64 k] []=some (.int .i64 (x.mkr k).2,[]):=by
 have e0:=Tm.mkS_end x.atom.args k
 have e1:=Fm.mkS_end x.parts (Tm.mkS x.atom.args k).2
 rw [Fm.mkr]
 dsimp only
 have p0:(Fm.mk (x.op) (Tm.mk (x.atom.name) ((Tm.mkS x.atom.args k).1)) (x.var) ((Fm.mkS x.parts (Tm.mkS x.atom.args k).2).1)).op=x.op:=rfl
 have p1:(Fm.mk (x.op) (Tm.mk (x.atom.name) ((Tm.mkS x.atom.args k).1)) (x.var) ((Fm.mkS x.parts (Tm.mkS x.atom.args k).2).1)).atom=(Tm.mk (x.atom.name) ((Tm.mkS x.atom.args k).1)):=rfl
 have p2:(Tm.mk (x.atom.name) ((Tm.mkS x.atom.args k).1)).name=x.atom.name:=rfl
 have p3:(Tm.mk (x.atom.name) ((Tm.mkS x.atom.args k).1)).args=(Tm.mkS x.atom.args k).1:=rfl
 have p4:(Fm.mk (x.op) (Tm.mk (x.atom.name) ((Tm.mkS x.atom.args k).1)) (x.var) ((Fm.mkS x.parts (Tm.mkS x.atom.args k).2).1)).var=x.var:=rfl
 have p5:(Fm.mk (x.op) (Tm.mk (x.atom.name) ((Tm.mkS x.atom.args k).1)) (x.var) ((Fm.mkS x.parts (Tm.mkS x.atom.args k).2).1)).parts=(Fm.mkS x.parts (Tm.mkS x.atom.args k).2).1:=rfl
 have c0:=T6 x.atom k (by omega) (by omega)
 rw [Tm.mkr] at c0
 dsimp only at c0
 have c1:=Og x.parts (Tm.mkS x.atom.args k).2 (by omega) (by omega)
 refine Ai JT BD (of_decide_eq_true rfl) ?_
 simp (disch:=omega) only [Ff,go_sem,Ab,c0,Ha,c1,CS,p0,p1,p2,p3,p4,p5]
noncomputable def Cl.mkr (x:Cl) (k:Int):Cl × Int:=((Cl.mk ((Lt.mkS x.lits k).1)),(Lt.mkS x.lits k).2)
def F2:SC:=(.seq (.reg [⟨some 2,none,.boxv 48 1 (.t 0)⟩,⟨some 4,none,.mv (.c (.int .i64 0))⟩]) (.seq (.reg [⟨some 5,none,.faddr 0 (.t 2)⟩,⟨some 6,none,.load false 1 (.t 5)⟩,⟨some 7,none,.mv (.t 1)⟩,⟨some 8,none,.call 57 [(.t 6),(.t 7)]⟩,⟨some 1,none,.mv (.t 8)⟩]) (.seq (.reg [⟨some 9,none,.mv (.t 1)⟩,⟨some 4,none,.mv (.t 9)⟩]) .ret)))
theorem K8:codeOf Tryz.prog 19=some ⟨10,F2,[(.tmp 4)]⟩:=by kernel_rfl
theorem BN:modes 19=⟨[true],.asis,none,false⟩:=by unfold modes; rfl
theorem QJ (x:Cl) (k:Int) (o0:Ob) (h1:1≤k) (h2:k+(Lt.wtS x.lits:Nat)≤1099511627776) (t0:toTree [o0]=[.tree (x.lits.map Lt.o) []]):E 19 [.agg [.ref 0],.int .i64 k] [o0]=some (.int .i64 (x.mkr k).2,[.tree ((Lt.mkS x.lits k).1.map Lt.o) []]):=by
 have e0:=Lt.mkS_end x.lits k
 rw [Cl.mkr]
 dsimp only
 have c0:=Oe x.lits k [o0] (by omega) (by omega) t0
 rcases M8 t0 with ⟨a0,b0,rfl⟩ | rfl <;>
  (
  refine Ai K8 BN (of_decide_eq_true rfl) ?_
  simp (disch:=omega) only [F2,go_sem,Ab,c0,Ez])
def Jq:SC:=(.seq (.reg [⟨some 2,none,.boxv 24 2 (.t 0)⟩,⟨some 4,none,.mv (.c (.int .i64 0))⟩]) (.seq (.reg [⟨some 5,none,.mv (.t 1)⟩,⟨some 6,none,.faddr 0 (.t 2)⟩,⟨some 7,none,.load false 1 (.t 6)⟩,⟨some 8,none,.len true (.t 7)⟩,⟨some 9,none,.bin .sub false (.t 5) (.t 8)⟩,⟨some 1,none,.mv (.t 9)⟩]) (.seq (.seq (.reg [⟨some 10,none,.mv (.t 1)⟩,⟨some 11,none,.bin .lss false (.t 10) (.c (.int .i64 0))⟩]) (.cond (.t 11) (.seq (.reg [⟨some 4,none,.mv (.c (.int .i64 (-(0+1))))⟩]) .ret) .skip)) (.seq (.reg [⟨some 12,none,.faddr 1 (.t 2)⟩,⟨some 13,none,.load false 1 (.t 12)⟩,⟨some 14,none,.mv (.t 1)⟩,⟨some 15,none,.call 93 [(.t 13),(.t 14)]⟩,⟨some 1,none,.mv (.t 15)⟩]) (.seq (.seq (.reg [⟨some 16,none,.mv (.t 1)⟩,⟨some 17,none,.bin .lss false (.t 16) (.c (.int .i64 0))⟩]) (.cond (.t 17) (.seq (.reg [⟨some 4,none,.mv (.c (.int .i64 (-(0+1))))⟩]) .ret) .skip)) (.seq (.reg [⟨some 18,none,.mv (.t 1)⟩,⟨some 4,none,.mv (.t 18)⟩]) .ret))))))
theorem OH:codeOf Tryz.prog 35=some ⟨19,Jq,[(.tmp 4)]⟩:=by kernel_rfl
theorem Ef:modes 35=⟨[],.asis,none,false⟩:=by unfold modes; rfl
def Ib:SC:=(.seq (.reg [⟨some 4,none,.mv (.c (.int .i64 0))⟩]) (.seq (.reg [⟨some 6,none,.mv (.t 1)⟩,⟨some 7,none,.mv (.t 0)⟩,⟨some 8,none,.len false (.t 7)⟩,⟨some 9,none,.bin .sub false (.t 6) (.t 8)⟩,⟨some 1,none,.mv (.t 9)⟩]) (.seq (.seq (.reg [⟨some 10,none,.mv (.t 1)⟩,⟨some 11,none,.bin .lss false (.t 10) (.c (.int .i64 0))⟩]) (.cond (.t 11) (.seq (.reg [⟨some 4,none,.mv (.c (.int .i64 (-(0+1))))⟩]) .ret) .skip)) (.seq (.seq (.reg [⟨some 5,none,.mv (.c (.int .i64 0))⟩]) (.block 0 (.loop [1,1,0,0,0,1,0,0,0,0,0,0,0,0,0,0,0,0,0,0,0,0,0,0,0,0,0] (.seq (.seq (.reg [⟨some 12,none,.mv (.t 5)⟩,⟨some 13,none,.mv (.t 0)⟩,⟨some 14,none,.len false (.t 13)⟩,⟨some 15,none,.bin .lss false (.t 12) (.t 14)⟩]) (.cond (.t 15) .skip (.exit 0))) (.seq (.block 1 (.seq (.reg [⟨some 18,none,.mv (.t 0)⟩,⟨some 19,none,.mv (.t 5)⟩,⟨some 20,none,.iaddr 2 (.t 18) (.t 19)⟩,⟨some 21,none,.load true 2 (.t 20)⟩,⟨some 22,none,.mv (.t 1)⟩,⟨some 23,none,.call 35 [(.t 21),(.t 22)]⟩,⟨some 1,none,.mv (.t 23)⟩]) (.seq (.reg [⟨some 24,none,.mv (.t 1)⟩,⟨some 25,none,.bin .lss false (.t 24) (.c (.int .i64 0))⟩]) (.cond (.t 25) (.seq (.reg [⟨some 4,none,.mv (.c (.int .i64 (-(0+1))))⟩]) .ret) .skip)))) (.reg [⟨some 16,none,.mv (.t 5)⟩,⟨some 17,none,.bin .add false (.t 16) (.c (.int .i64 1))⟩,⟨some 5,none,.mv (.t 17)⟩])))))) (.seq (.reg [⟨some 26,none,.mv (.t 1)⟩,⟨some 4,none,.mv (.t 26)⟩]) .ret)))))
theorem Oh:codeOf Tryz.prog 93=some ⟨27,Ib,[(.tmp 4)]⟩:=by kernel_rfl
theorem Fg:modes 93=⟨[],.asis,none,false⟩:=by unfold modes; rfl
abbrev K9 (x:Tm):Prop:=D.fits x.d→∀ left:Int,0≤left→left≤1048576→E 35 [x.sv,.int .i64 left] []=some (.int .i64 (szR left x.bulk),[])
abbrev PQ (xs:List Tm):Prop:=D.fit (.arr (xs.map Tm.d))→∀ left:Int,0≤left→left≤1048576→E 93 [.arr (xs.map Tm.d),.int .i64 left] []=some (.int .i64 (szR left (xs.length+Tm.sumB xs:Nat)),[])
theorem QK (xs:List Tm) (h:∀ x∈xs,K9 x):PQ xs:=by
 intro hfit left h0 h1
 simp only [D.fit,zE] at hfit
 have q0:=Bf left (xs.length+Tm.sumB xs)
 refine Ai Oh Fg (of_decide_eq_true rfl) ?_
 simp (disch:=omega) only [Ib,go_sem,Ab]
 repeat' (refine Ck (fun hq=>?_) (fun hq=>?_) <;> (first | replace hq:=Ap.1 hq | replace hq:=BJ.1 hq) <;> (try simp (disch:=omega) only [go_sem,Ab]))
 ·omega
 refine go_loop (α:=Int × Int) (fun a=>⟨slots 27 0 [(0,.arr (xs.map Tm.d)),(1,.int .i64 a.2),(5,.int .i64 a.1)],[]⟩) (fun a=>∃ k:Nat,a.1=k∧k≤xs.length∧0≤a.2∧a.2≤1048576∧szR a.2 (Tm.sumB (xs.drop k))=szR left (xs.length+Tm.sumB xs:Nat)) (fun a=>xs.length-a.1.toNat) (0,left-xs.length) ⟨0,rfl,zF _,by omega,by omega,?_⟩ (by simp (disch:=omega) only [go_sem,Ab]) ?_
 ·have q1:=Bf (left-xs.length) (Tm.sumB xs)
  rw [zD]
  dsimp only
  omega
 ·rintro ⟨i,l⟩ ⟨k,hi,hk,hl0,hl1,hs⟩
  dsimp only at hi hl0 hl1 hs
  rcases zG k xs.length with hlt | hge
  ·have hg:=get_at Tm.d hlt
   rw [Tm.d_eq] at hg
   have hd:Tm.sumB (xs.drop k)=xs[k].bulk+Tm.sumB (xs.drop (k+1)):=by rw [zC hlt,Tm.sumB]
   rw [hd] at hs
   have hc:=h xs[k] (zB hlt) (D.Li hfit.2 _ (zB hlt)) l hl0 hl1
   have q1:=Bf l xs[k].bulk
   have q2:=Bf l (xs[k].bulk+Tm.sumB (xs.drop (k+1)))
   have q3:=Bf (l-xs[k].bulk) (Tm.sumB (xs.drop (k+1)))
   have hn:i.toNat=k:=by omega
   simp (disch:=omega) only [go_sem,Ab,hn,hg,hc,Ef]
   repeat' (refine Ck (fun hq=>?_) (fun hq=>?_) <;> (first | replace hq:=Ap.1 hq | replace hq:=BJ.1 hq) <;> (try simp (disch:=omega) only [go_sem,Ab]))
   ·omega
   ·refine ⟨(i+1,l-xs[k].bulk),⟨k+1,by dsimp only; omega,hlt,by dsimp only; omega,by dsimp only; omega,by dsimp only; omega⟩,by dsimp only; omega,?_⟩
    have e:szR l xs[k].bulk=l-xs[k].bulk:=by omega
    simp only [e,and_self]
  ·have hd:xs.drop k=[]:=zI hge
   rw [hd] at hs
   have q1:=Bf l (Tm.sumB [])
   simp only [Tm.sumB] at hs q1
   simp (disch:=omega) only [go_sem,Ab]
   omega
theorem Sp (x:Tm) (h_args:PQ x.args):K9 x:=by
 intro hfit left h0 h1
 rw [Tm.d_eq] at hfit
 simp only [D.fits,D.fit] at hfit
 replace h_args:=h_args (by simp only [D.fit,zE]; simp only [zE] at hfit; simp only [hfit,and_self])
 have q:=Bf left x.bulk
 have qb:=Tm.bulk_eq x
 have q0:=Bf (left-(x.name.size:Int)) ((x.args.length+Tm.sumB x.args))
 refine Ai OH Ef (of_decide_eq_true rfl) ?_
 simp (disch:=omega) only [Jq,go_sem,Ab,h_args,Fg]
 repeat' (refine Ck (fun hq=>?_) (fun hq=>?_) <;> (first | replace hq:=Ap.1 hq | replace hq:=BJ.1 hq) <;> (try simp (disch:=omega) only [go_sem,Ab,h_args,Fg]))
 all_goals omega
theorem Sq (x:Tm):K9 x:=Sp x (QK x.args fun y hy=>Sq y)
termination_by SizeOf.sizeOf x
decreasing_by exact Tm.lt_of_mem hy
def G1:SC:=(.seq (.reg [⟨some 2,none,.boxv 141 3 (.t 0)⟩,⟨some 4,none,.mv (.c (.int .i64 0))⟩]) (.seq (.reg [⟨some 5,none,.faddr 1 (.t 2)⟩,⟨some 6,none,.load true 2 (.t 5)⟩,⟨some 7,none,.mv (.t 1)⟩,⟨some 8,none,.call 35 [(.t 6),(.t 7)]⟩,⟨some 1,none,.mv (.t 8)⟩]) (.seq (.seq (.reg [⟨some 9,none,.mv (.t 1)⟩,⟨some 10,none,.bin .lss false (.t 9) (.c (.int .i64 0))⟩]) (.cond (.t 10) (.seq (.reg [⟨some 4,none,.mv (.c (.int .i64 (-(0+1))))⟩]) .ret) .skip)) (.seq (.reg [⟨some 11,none,.mv (.t 1)⟩,⟨some 4,none,.mv (.t 11)⟩]) .ret))))
theorem L1:codeOf Tryz.prog 105=some ⟨12,G1,[(.tmp 4)]⟩:=by kernel_rfl
theorem G2:modes 105=⟨[],.asis,none,false⟩:=by unfold modes; rfl
def F3:SC:=(.seq (.reg [⟨some 4,none,.mv (.c (.int .i64 0))⟩]) (.seq (.reg [⟨some 6,none,.mv (.t 1)⟩,⟨some 7,none,.mv (.t 0)⟩,⟨some 8,none,.len false (.t 7)⟩,⟨some 9,none,.bin .sub false (.t 6) (.t 8)⟩,⟨some 1,none,.mv (.t 9)⟩]) (.seq (.seq (.reg [⟨some 10,none,.mv (.t 1)⟩,⟨some 11,none,.bin .lss false (.t 10) (.c (.int .i64 0))⟩]) (.cond (.t 11) (.seq (.reg [⟨some 4,none,.mv (.c (.int .i64 (-(0+1))))⟩]) .ret) .skip)) (.seq (.seq (.reg [⟨some 5,none,.mv (.c (.int .i64 0))⟩]) (.block 0 (.loop [1,1,0,0,0,1,0,0,0,0,0,0,0,0,0,0,0,0,0,0,0,0,0,0,0,0,0] (.seq (.seq (.reg [⟨some 12,none,.mv (.t 5)⟩,⟨some 13,none,.mv (.t 0)⟩,⟨some 14,none,.len false (.t 13)⟩,⟨some 15,none,.bin .lss false (.t 12) (.t 14)⟩]) (.cond (.t 15) .skip (.exit 0))) (.seq (.block 1 (.seq (.reg [⟨some 18,none,.mv (.t 0)⟩,⟨some 19,none,.mv (.t 5)⟩,⟨some 20,none,.iaddr 3 (.t 18) (.t 19)⟩,⟨some 21,none,.load true 3 (.t 20)⟩,⟨some 22,none,.mv (.t 1)⟩,⟨some 23,none,.call 105 [(.t 21),(.t 22)]⟩,⟨some 1,none,.mv (.t 23)⟩]) (.seq (.reg [⟨some 24,none,.mv (.t 1)⟩,⟨some 25,none,.bin .lss false (.t 24) (.c (.int .i64 0))⟩]) (.cond (.t 25) (.seq (.reg [⟨some 4,none,.mv (.c (.int .i64 (-(0+1))))⟩]) .ret) .skip)))) (.reg [⟨some 16,none,.mv (.t 5)⟩,⟨some 17,none,.bin .add false (.t 16) (.c (.int .i64 1))⟩,⟨some 5,none,.mv (.t 17)⟩])))))) (.seq (.reg [⟨some 26,none,.mv (.t 1)⟩,⟨some 4,none,.mv (.t 26)⟩]) .ret)))))
theorem KA:codeOf Tryz.prog 50=some ⟨27,F3,[(.tmp 4)]⟩:=by kernel_rfl
theorem D3:modes 50=⟨[],.asis,none,false⟩:=by unfold modes; rfl
abbrev Ic (x:Lt):Prop:=D.fits x.d→∀ left:Int,0≤left→left≤1048576→E 105 [x.sv,.int .i64 left] []=some (.int .i64 (szR left x.bulk),[])
abbrev KC (xs:List Lt):Prop:=D.fit (.arr (xs.map Lt.d))→∀ left:Int,0≤left→left≤1048576→E 50 [.arr (xs.map Lt.d),.int .i64 left] []=some (.int .i64 (szR left (xs.length+Lt.sumB xs:Nat)),[])
theorem Ms (xs:List Lt) (h:∀ x∈xs,Ic x):KC xs:=by
 intro hfit left h0 h1
 simp only [D.fit,zE] at hfit
 have q0:=Bf left (xs.length+Lt.sumB xs)
 refine Ai KA D3 (of_decide_eq_true rfl) ?_
 simp (disch:=omega) only [F3,go_sem,Ab]
 repeat' (refine Ck (fun hq=>?_) (fun hq=>?_) <;> (first | replace hq:=Ap.1 hq | replace hq:=BJ.1 hq) <;> (try simp (disch:=omega) only [go_sem,Ab]))
 ·omega
 refine go_loop (α:=Int × Int) (fun a=>⟨slots 27 0 [(0,.arr (xs.map Lt.d)),(1,.int .i64 a.2),(5,.int .i64 a.1)],[]⟩) (fun a=>∃ k:Nat,a.1=k∧k≤xs.length∧0≤a.2∧a.2≤1048576∧szR a.2 (Lt.sumB (xs.drop k))=szR left (xs.length+Lt.sumB xs:Nat)) (fun a=>xs.length-a.1.toNat) (0,left-xs.length) ⟨0,rfl,zF _,by omega,by omega,?_⟩ (by simp (disch:=omega) only [go_sem,Ab]) ?_
 ·have q1:=Bf (left-xs.length) (Lt.sumB xs)
  rw [zD]
  dsimp only
  omega
 ·rintro ⟨i,l⟩ ⟨k,hi,hk,hl0,hl1,hs⟩
  dsimp only at hi hl0 hl1 hs
  rcases zG k xs.length with hlt | hge
  ·have hg:=get_at Lt.d hlt
   rw [Lt.d_eq] at hg
   have hd:Lt.sumB (xs.drop k)=xs[k].bulk+Lt.sumB (xs.drop (k+1)):=by rw [zC hlt,Lt.sumB]
   rw [hd] at hs
   have hc:=h xs[k] (zB hlt) (D.Li hfit.2 _ (zB hlt)) l hl0 hl1
   have q1:=Bf l xs[k].bulk
   have q2:=Bf l (xs[k].bulk+Lt.sumB (xs.drop (k+1)))
   have q3:=Bf (l-xs[k].bulk) (Lt.sumB (xs.drop (k+1)))
   have hn:i.toNat=k:=by omega
   simp (disch:=omega) only [go_sem,Ab,hn,hg,hc,G2]
   repeat' (refine Ck (fun hq=>?_) (fun hq=>?_) <;> (first | replace hq:=Ap.1 hq | replace hq:=BJ.1 hq) <;> (try simp (disch:=omega) only [go_sem,Ab]))
   ·omega
   ·refine ⟨(i+1,l-xs[k].bulk),⟨k+1,by dsimp only; omega,hlt,by dsimp only; omega,by dsimp only; omega,by dsimp only; omega⟩,by dsimp only; omega,?_⟩
    have e:szR l xs[k].bulk=l-xs[k].bulk:=by omega
    simp only [e,and_self]
  ·have hd:xs.drop k=[]:=zI hge
   rw [hd] at hs
   have q1:=Bf l (Lt.sumB [])
   simp only [Lt.sumB] at hs q1
   simp (disch:=omega) only [go_sem,Ab]
   omega
theorem Oi (x:Lt) (h_atom:K9 x.atom):Ic x:=by
 intro hfit left h0 h1
 rw [Lt.d_eq] at hfit
 simp only [D.fits,D.fit] at hfit
 replace h_atom:=h_atom (by rw [Tm.d_eq]; simp only [D.fits,D.fit,hfit,and_self])
 have q:=Bf left x.bulk
 have qb:=Lt.bulk_eq x
 have q0:=Bf left (x.atom.bulk)
 refine Ai L1 G2 (of_decide_eq_true rfl) ?_
 simp (disch:=omega) only [G1,go_sem,Ab,h_atom,Ef]
 repeat' (refine Ck (fun hq=>?_) (fun hq=>?_) <;> (first | replace hq:=Ap.1 hq | replace hq:=BJ.1 hq) <;> (try simp (disch:=omega) only [go_sem,Ab,h_atom,Ef]))
 all_goals omega
theorem Sr (x:Lt):Ic x:=Oi x (Sq x.atom)
def Hd:SC:=(.seq (.reg [⟨some 2,none,.boxv 43 1 (.t 0)⟩,⟨some 4,none,.mv (.c (.int .i64 0))⟩]) (.seq (.reg [⟨some 5,none,.faddr 0 (.t 2)⟩,⟨some 6,none,.load false 1 (.t 5)⟩,⟨some 7,none,.mv (.t 1)⟩,⟨some 8,none,.call 50 [(.t 6),(.t 7)]⟩,⟨some 1,none,.mv (.t 8)⟩]) (.seq (.seq (.reg [⟨some 9,none,.mv (.t 1)⟩,⟨some 10,none,.bin .lss false (.t 9) (.c (.int .i64 0))⟩]) (.cond (.t 10) (.seq (.reg [⟨some 4,none,.mv (.c (.int .i64 (-(0+1))))⟩]) .ret) .skip)) (.seq (.reg [⟨some 11,none,.mv (.t 1)⟩,⟨some 4,none,.mv (.t 11)⟩]) .ret))))
theorem Mt:codeOf Tryz.prog 14=some ⟨12,Hd,[(.tmp 4)]⟩:=by kernel_rfl
theorem BH:modes 14=⟨[],.asis,none,false⟩:=by unfold modes; rfl
abbrev Oj (x:Cl):Prop:=D.fits x.d→∀ left:Int,0≤left→left≤1048576→E 14 [x.sv,.int .i64 left] []=some (.int .i64 (szR left x.bulk),[])
theorem OI (x:Cl) (h_lits:KC x.lits):Oj x:=by
 intro hfit left h0 h1
 rw [Cl.d_eq] at hfit
 simp only [D.fits,D.fit] at hfit
 replace h_lits:=h_lits (by simp only [D.fit,zE]; simp only [zE] at hfit; simp only [hfit,and_self])
 have q:=Bf left x.bulk
 have qb:=Cl.bulk_eq x
 have q0:=Bf left ((x.lits.length+Lt.sumB x.lits))
 refine Ai Mt BH (of_decide_eq_true rfl) ?_
 simp (disch:=omega) only [Hd,go_sem,Ab,h_lits,D3]
 repeat' (refine Ck (fun hq=>?_) (fun hq=>?_) <;> (first | replace hq:=Ap.1 hq | replace hq:=BJ.1 hq) <;> (try simp (disch:=omega) only [go_sem,Ab,h_lits,D3]))
 all_goals omega
theorem T7 (x:Cl):Oj x:=OI x (Ms x.lits fun y hy=>Sr y)
def Jr:SC:=(.seq (.reg [⟨some 1,none,.boxv 24 2 (.t 0)⟩,⟨(some 2),none,(.alloc 31 [(.str ⟨#[]⟩),.nil])⟩]) (.seq (.reg [⟨(some 3),none,(.alloc 31 [(.str ⟨#[]⟩),.nil])⟩]) (.seq (.reg [⟨some 4,none,.faddr 0 (.t 1)⟩,⟨some 5,none,.load false 1 (.t 4)⟩,⟨some 6,none,.faddr 0 (.t 3)⟩,⟨none,none,(.store 1 (.t 6) (.t 5))⟩]) (.seq (.reg [⟨some 7,none,.faddr 1 (.t 1)⟩,⟨some 8,none,.load false 1 (.t 7)⟩,⟨some 9,none,.call 97 [(.t 8)]⟩,⟨some 10,none,.faddr 1 (.t 3)⟩,⟨none,none,(.store 1 (.t 10) (.t 9))⟩]) (.seq (.reg [⟨some 11,none,.load true 2 (.t 3)⟩,⟨none,none,(.store 2 (.t 2) (.t 11))⟩]) .ret)))))
theorem OJ:codeOf Tryz.prog 39=some ⟨12,Jr,[(.cell 2 true 2)]⟩:=by kernel_rfl
theorem FT:modes 39=⟨[],.asis,none,false⟩:=by unfold modes; rfl
def Id:SC:=(.seq (.reg [⟨some 2,none,.mv (.c .nil)⟩]) (.seq (.reg [⟨some 5,none,.mv (.t 0)⟩,⟨some 6,none,.len false (.t 5)⟩,⟨(some 7),none,(.mkslice 31 2 40 [(.str ⟨#[]⟩),.nil] (.t 6))⟩,⟨some 3,none,.mv (.t 7)⟩]) (.seq (.seq (.reg [⟨some 4,none,.mv (.c (.int .i64 0))⟩]) (.block 0 (.loop [1,0,0,1,1,0,0,0,0,0,0,0,0,0,0,0,0,0,0,0,0,0,0] (.seq (.seq (.reg [⟨some 8,none,.mv (.t 4)⟩,⟨some 9,none,.mv (.t 0)⟩,⟨some 10,none,.len false (.t 9)⟩,⟨some 11,none,.bin .lss false (.t 8) (.t 10)⟩]) (.cond (.t 11) .skip (.exit 0))) (.seq (.block 1 (.reg [⟨some 14,none,.mv (.t 3)⟩,⟨some 15,none,.mv (.t 4)⟩,⟨some 16,none,.mv (.t 0)⟩,⟨some 17,none,.mv (.t 4)⟩,⟨some 18,none,.iaddr 2 (.t 16) (.t 17)⟩,⟨some 19,none,.load true 2 (.t 18)⟩,⟨some 20,none,.call 39 [(.t 19)]⟩,⟨some 21,none,.iaddr 2 (.t 14) (.t 15)⟩,⟨none,none,(.store 2 (.t 21) (.t 20))⟩])) (.reg [⟨some 12,none,.mv (.t 4)⟩,⟨some 13,none,.bin .add false (.t 12) (.c (.int .i64 1))⟩,⟨some 4,none,.mv (.t 13)⟩])))))) (.seq (.reg [⟨some 22,none,.mv (.t 3)⟩,⟨some 2,none,.mv (.t 22)⟩]) .ret))))
theorem Ok:codeOf Tryz.prog 97=some ⟨23,Id,[(.tmp 2)]⟩:=by kernel_rfl
theorem Ie:modes 97=⟨[],.asis,none,false⟩:=by unfold modes; rfl
abbrev KD (x:Tm):Prop:=x.bulk≤1048576→E 39 [x.sv] []=some (x.osv,x.obs)
abbrev PR (xs:List Tm):Prop:=xs.length+Tm.sumB xs≤1048576→E 97 [.arr (xs.map Tm.d)] []=some (.ref 0,[.row 31 2 (xs.map Tm.o)])
theorem QL (xs:List Tm) (h:∀ x∈xs,KD x):PR xs:=by
 intro hb
 refine Ai Ok Ie (of_decide_eq_true rfl) ?_
 simp (disch:=omega) only [Id,go_sem,Ab]
 refine go_loop (α:=Int) (fun i=>⟨slots 23 0 [(0,.arr (xs.map Tm.d)),(3,.ref 0),(4,.int .i64 i)],[.row 31 2 (Fp Tm.o [.str ⟨#[]⟩,.ow []] xs i.toNat)]⟩) (fun i=>∃ k:Nat,i=k∧k≤xs.length) (fun i=>xs.length-i.toNat) 0 ⟨0,rfl,zF _⟩ (by simp (disch:=omega) only [go_sem,Ab,JC,Int.toNat_zero]) ?_
 ·rintro i ⟨k,rfl,hk⟩
  obtain ⟨i,hi⟩:∃ i:Int,i=(k:Int):=⟨_,rfl⟩
  rw [←hi]
  have hn:i.toNat=k:=by omega
  have hn1:(i+1).toNat=k+1:=by omega
  rcases zG k xs.length with hlt | hge
  ·have hg:=get_at Tm.d hlt
   rw [Tm.d_eq] at hg
   have hz:=Ll Tm.o [.str ⟨#[]⟩,.ow []] hlt
   have hle:=Tm.bulk_le xs k hlt
   have hc:=h xs[k] (zB hlt) (by omega)
   have hs:=Lm Tm.o [.str ⟨#[]⟩,.ow []] hlt
   rw [Tm.o_eq] at hs
   simp (disch:=omega) only [go_sem,Ab,hn,hg,hc,hz,Lj,FT,Tm.osv,Tm.obs]
   refine ⟨i+1,⟨k+1,by omega,hlt⟩,by omega,?_⟩
   simp (disch:=omega) only [go_sem,Ab,hn1,hs]
  ·obtain rfl:k=xs.length:=by omega
   simp (disch:=omega) only [go_sem,Ab,hn,Lk]
theorem Ss (x:Tm) (h_args:PR x.args):KD x:=by
 intro hb
 have qb:=Tm.bulk_eq x
 replace h_args:=h_args (by omega)
 refine Ai OJ FT (of_decide_eq_true rfl) ?_
 simp (disch:=omega) only [Jr,go_sem,Ab,h_args,Ie]
theorem Su (x:Tm):KD x:=Ss x (QL x.args fun y hy=>Su y)
termination_by SizeOf.sizeOf x
decreasing_by exact Tm.lt_of_mem hy
def G3:SC:=(.seq (.reg [⟨some 1,none,.boxv 141 3 (.t 0)⟩,⟨(some 2),none,(.alloc 89 [(.bool false),(.str ⟨#[]⟩),.nil])⟩]) (.seq (.reg [⟨(some 3),none,(.alloc 89 [(.bool false),(.str ⟨#[]⟩),.nil])⟩]) (.seq (.reg [⟨some 4,none,.faddr 0 (.t 1)⟩,⟨some 5,none,.load false 1 (.t 4)⟩,⟨some 6,none,.faddr 0 (.t 3)⟩,⟨none,none,(.store 1 (.t 6) (.t 5))⟩]) (.seq (.reg [⟨some 7,none,.faddr 1 (.t 1)⟩,⟨some 8,none,.load true 2 (.t 7)⟩,⟨some 9,none,.call 39 [(.t 8)]⟩,⟨some 10,none,.faddr 1 (.t 3)⟩,⟨none,none,(.store 2 (.t 10) (.t 9))⟩]) (.seq (.reg [⟨some 11,none,.load true 3 (.t 3)⟩,⟨none,none,(.store 3 (.t 2) (.t 11))⟩]) .ret)))))
theorem L2:codeOf Tryz.prog 109=some ⟨12,G3,[(.cell 2 true 3)]⟩:=by kernel_rfl
theorem G4:modes 109=⟨[],.asis,none,false⟩:=by unfold modes; rfl
def F4:SC:=(.seq (.reg [⟨some 2,none,.mv (.c .nil)⟩]) (.seq (.reg [⟨some 5,none,.mv (.t 0)⟩,⟨some 6,none,.len false (.t 5)⟩,⟨(some 7),none,(.mkslice 89 3 48 [(.bool false),(.str ⟨#[]⟩),.nil] (.t 6))⟩,⟨some 3,none,.mv (.t 7)⟩]) (.seq (.seq (.reg [⟨some 4,none,.mv (.c (.int .i64 0))⟩]) (.block 0 (.loop [1,0,0,1,1,0,0,0,0,0,0,0,0,0,0,0,0,0,0,0,0,0,0] (.seq (.seq (.reg [⟨some 8,none,.mv (.t 4)⟩,⟨some 9,none,.mv (.t 0)⟩,⟨some 10,none,.len false (.t 9)⟩,⟨some 11,none,.bin .lss false (.t 8) (.t 10)⟩]) (.cond (.t 11) .skip (.exit 0))) (.seq (.block 1 (.reg [⟨some 14,none,.mv (.t 3)⟩,⟨some 15,none,.mv (.t 4)⟩,⟨some 16,none,.mv (.t 0)⟩,⟨some 17,none,.mv (.t 4)⟩,⟨some 18,none,.iaddr 3 (.t 16) (.t 17)⟩,⟨some 19,none,.load true 3 (.t 18)⟩,⟨some 20,none,.call 109 [(.t 19)]⟩,⟨some 21,none,.iaddr 3 (.t 14) (.t 15)⟩,⟨none,none,(.store 3 (.t 21) (.t 20))⟩])) (.reg [⟨some 12,none,.mv (.t 4)⟩,⟨some 13,none,.bin .add false (.t 12) (.c (.int .i64 1))⟩,⟨some 4,none,.mv (.t 13)⟩])))))) (.seq (.reg [⟨some 22,none,.mv (.t 3)⟩,⟨some 2,none,.mv (.t 22)⟩]) .ret))))
theorem KE:codeOf Tryz.prog 53=some ⟨23,F4,[(.tmp 2)]⟩:=by kernel_rfl
theorem F5:modes 53=⟨[],.asis,none,false⟩:=by unfold modes; rfl
abbrev If (x:Lt):Prop:=x.bulk≤1048576→E 109 [x.sv] []=some (x.osv,x.obs)
abbrev KF (xs:List Lt):Prop:=xs.length+Lt.sumB xs≤1048576→E 53 [.arr (xs.map Lt.d)] []=some (.ref 0,[.row 89 3 (xs.map Lt.o)])
theorem Mu (xs:List Lt) (h:∀ x∈xs,If x):KF xs:=by
 intro hb
 refine Ai KE F5 (of_decide_eq_true rfl) ?_
 simp (disch:=omega) only [F4,go_sem,Ab]
 refine go_loop (α:=Int) (fun i=>⟨slots 23 0 [(0,.arr (xs.map Lt.d)),(3,.ref 0),(4,.int .i64 i)],[.row 89 3 (Fp Lt.o [.bool false,.str ⟨#[]⟩,.ow []] xs i.toNat)]⟩) (fun i=>∃ k:Nat,i=k∧k≤xs.length) (fun i=>xs.length-i.toNat) 0 ⟨0,rfl,zF _⟩ (by simp (disch:=omega) only [go_sem,Ab,JC,Int.toNat_zero]) ?_
 ·rintro i ⟨k,rfl,hk⟩
  obtain ⟨i,hi⟩:∃ i:Int,i=(k:Int):=⟨_,rfl⟩
  rw [←hi]
  have hn:i.toNat=k:=by omega
  have hn1:(i+1).toNat=k+1:=by omega
  rcases zG k xs.length with hlt | hge
  ·have hg:=get_at Lt.d hlt
   rw [Lt.d_eq] at hg
   have hz:=Ll Lt.o [.bool false,.str ⟨#[]⟩,.ow []] hlt
   have hle:=Lt.bulk_le xs k hlt
   have hc:=h xs[k] (zB hlt) (by omega)
   have hs:=Lm Lt.o [.bool false,.str ⟨#[]⟩,.ow []] hlt
   rw [Lt.o_eq] at hs
   simp (disch:=omega) only [go_sem,Ab,hn,hg,hc,hz,Lj,G4,Lt.osv,Lt.obs]
   refine ⟨i+1,⟨k+1,by omega,hlt⟩,by omega,?_⟩
   simp (disch:=omega) only [go_sem,Ab,hn1,hs]
  ·obtain rfl:k=xs.length:=by omega
   simp (disch:=omega) only [go_sem,Ab,hn,Lk]
theorem Ol (x:Lt) (h_atom:KD x.atom):If x:=by
 intro hb
 have qb:=Lt.bulk_eq x
 replace h_atom:=h_atom (by omega)
 refine Ai L2 G4 (of_decide_eq_true rfl) ?_
 simp (disch:=omega) only [G3,go_sem,Ab,h_atom,FT]
theorem Sv (x:Lt):If x:=Ol x (Su x.atom)
def He:SC:=(.seq (.reg [⟨some 1,none,.boxv 43 1 (.t 0)⟩,⟨some 2,none,.alloc 48 [.nil]⟩]) (.seq (.reg [⟨some 3,none,.alloc 48 [.nil]⟩]) (.seq (.reg [⟨some 4,none,.faddr 0 (.t 1)⟩,⟨some 5,none,.load false 1 (.t 4)⟩,⟨some 6,none,.call 53 [(.t 5)]⟩,⟨some 7,none,.faddr 0 (.t 3)⟩,⟨none,none,(.store 1 (.t 7) (.t 6))⟩]) (.seq (.reg [⟨some 8,none,.load true 1 (.t 3)⟩,⟨none,none,(.store 1 (.t 2) (.t 8))⟩]) .ret))))
theorem Mv:codeOf Tryz.prog 16=some ⟨9,He,[(.cell 2 true 1)]⟩:=by kernel_rfl
theorem Cw:modes 16=⟨[],.asis,none,false⟩:=by unfold modes; rfl
abbrev Om (x:Cl):Prop:=x.bulk≤1048576→E 16 [x.sv] []=some (x.osv,x.obs)
theorem OK (x:Cl) (h_lits:KF x.lits):Om x:=by
 intro hb
 have qb:=Cl.bulk_eq x
 replace h_lits:=h_lits (by omega)
 refine Ai Mv Cw (of_decide_eq_true rfl) ?_
 simp (disch:=omega) only [He,go_sem,Ab,h_lits,F5]
theorem T8 (x:Cl):Om x:=OK x (Mu x.lits fun y hy=>Sv y)
def Js:SC:=(.seq (.reg [⟨some 2,none,.boxv 31 2 (.t 0)⟩,⟨some 3,none,.boxv 31 2 (.t 1)⟩,⟨some 4,none,.mv (.c (.bool false))⟩]) (.seq (.seq (.reg [⟨some 5,none,.faddr 0 (.t 2)⟩,⟨some 6,none,.load false 1 (.t 5)⟩,⟨some 7,none,.faddr 0 (.t 3)⟩,⟨some 8,none,.load false 1 (.t 7)⟩,⟨some 9,none,.bin .neq false (.t 6) (.t 8)⟩]) (.cond (.t 9) (.seq (.reg [⟨some 4,none,.mv (.c (.bool false))⟩]) .ret) .skip)) (.seq (.seq (.reg [⟨some 10,none,.faddr 1 (.t 2)⟩,⟨some 11,none,.load false 1 (.t 10)⟩,⟨some 12,none,.faddr 1 (.t 3)⟩,⟨some 13,none,.load false 1 (.t 12)⟩,⟨some 14,none,.call 103 [(.t 11),(.t 13)]⟩,⟨some 15,none,.un .not (.t 14)⟩]) (.cond (.t 15) (.seq (.reg [⟨some 4,none,.mv (.c (.bool false))⟩]) .ret) .skip)) (.seq (.reg [⟨some 4,none,.mv (.c (.bool true))⟩]) .ret))))
theorem OL:codeOf Tryz.prog 44=some ⟨16,Js,[(.tmp 4)]⟩:=by kernel_rfl
theorem Eg:modes 44=⟨[],.asis,none,false⟩:=by unfold modes; rfl
def Ig:SC:=(.seq (.reg [⟨some 4,none,.mv (.c (.bool false))⟩]) (.seq (.seq (.reg [⟨some 6,none,.mv (.t 0)⟩,⟨some 7,none,.len false (.t 6)⟩,⟨some 8,none,.mv (.t 1)⟩,⟨some 9,none,.len false (.t 8)⟩,⟨some 10,none,.bin .neq false (.t 7) (.t 9)⟩]) (.cond (.t 10) (.seq (.reg [⟨some 4,none,.mv (.c (.bool false))⟩]) .ret) .skip)) (.seq (.seq (.reg [⟨some 5,none,.mv (.c (.int .i64 0))⟩]) (.block 0 (.loop [1,1,0,0,0,1,0,0,0,0,0,0,0,0,0,0,0,0,0,0,0,0,0,0,0,0,0] (.seq (.seq (.reg [⟨some 11,none,.mv (.t 5)⟩,⟨some 12,none,.mv (.t 0)⟩,⟨some 13,none,.len false (.t 12)⟩,⟨some 14,none,.bin .lss false (.t 11) (.t 13)⟩]) (.cond (.t 14) .skip (.exit 0))) (.seq (.block 1 (.seq (.dreg [[],[],[0,1],[2,0,1],[],[],[4,5],[6,4,5],[3,2,0,1,7,6,4,5],[8,3,2,0,1,7,6,4,5]] [⟨some 17,none,.mv (.t 0)⟩,⟨some 18,none,.mv (.t 5)⟩,⟨some 19,none,.iaddr 2 (.t 17) (.t 18)⟩,⟨some 20,none,.load true 2 (.t 19)⟩,⟨some 21,none,.mv (.t 1)⟩,⟨some 22,none,.mv (.t 5)⟩,⟨some 23,none,.iaddr 2 (.t 21) (.t 22)⟩,⟨some 24,none,.load true 2 (.t 23)⟩,⟨some 25,none,.call 44 [(.t 20),(.t 24)]⟩,⟨some 26,none,.un .not (.t 25)⟩]) (.cond (.t 26) (.seq (.reg [⟨some 4,none,.mv (.c (.bool false))⟩]) .ret) .skip))) (.reg [⟨some 15,none,.mv (.t 5)⟩,⟨some 16,none,.bin .add false (.t 15) (.c (.int .i64 1))⟩,⟨some 5,none,.mv (.t 16)⟩])))))) (.seq (.reg [⟨some 4,none,.mv (.c (.bool true))⟩]) .ret))))
theorem On:codeOf Tryz.prog 103=some ⟨27,Ig,[(.tmp 4)]⟩:=by kernel_rfl
theorem Ih:modes 103=⟨[],.asis,none,false⟩:=by unfold modes; rfl
abbrev Ii (x:Tm):Prop:=x.bulk≤1048576→E 44 [x.sv,x.sv] []=some (.bool true,[])
abbrev PS (xs:List Tm):Prop:=xs.length+Tm.sumB xs≤1048576→E 103 [.arr (xs.map Tm.d),.arr (xs.map Tm.d)] []=some (.bool true,[])
theorem QM (xs:List Tm) (h:∀ x∈xs,Ii x):PS xs:=by
 intro hb
 refine Ai On Ih (of_decide_eq_true rfl) ?_
 simp (disch:=omega) only [Ig,go_sem,Ab]
 refine go_loop (α:=Int) (fun i=>⟨slots 27 0 [(0,.arr (xs.map Tm.d)),(1,.arr (xs.map Tm.d)),(5,.int .i64 i)],[]⟩) (fun i=>∃ k:Nat,i=k∧k≤xs.length) (fun i=>xs.length-i.toNat) 0 ⟨0,rfl,zF _⟩ (by simp (disch:=omega) only [go_sem,Ab]) ?_
 ·rintro i ⟨k,rfl,hk⟩
  obtain ⟨i,hi⟩:∃ i:Int,i=(k:Int):=⟨_,rfl⟩
  rw [←hi]
  have hn:i.toNat=k:=by omega
  rcases zG k xs.length with hlt | hge
  ·have hg:=get_at Tm.d hlt
   rw [Tm.d_eq] at hg
   have hle:=Tm.bulk_le xs k hlt
   have hc:=h xs[k] (zB hlt) (by omega)
   simp (disch:=omega) only [go_sem,Ab,hn,hg,hc,Eg]
   refine ⟨i+1,⟨k+1,by omega,hlt⟩,by omega,?_⟩
   trivial
  ·obtain rfl:k=xs.length:=by omega
   simp (disch:=omega) only [go_sem,Ab,hn]
theorem Sw (x:Tm) (h_args:PS x.args):Ii x:=by
 intro hb
 have qb:=Tm.bulk_eq x
 replace h_args:=h_args (by omega)
 refine Ai OL Eg (of_decide_eq_true rfl) ?_
 simp (disch:=omega) only [Js,go_sem,Ab,h_args,Ih,C9]
theorem Oo (x:Tm):Ii x:=Sw x (QM x.args fun y hy=>Oo y)
termination_by SizeOf.sizeOf x
decreasing_by exact Tm.lt_of_mem hy
def G5:SC:=(.seq (.reg [⟨some 2,none,.boxv 34 5 (.t 0)⟩,⟨some 3,none,.boxv 34 5 (.t 1)⟩,⟨some 4,none,.mv (.c (.bool false))⟩]) (.seq (.seq (.reg [⟨some 5,none,.faddr 0 (.t 2)⟩,⟨some 6,none,.load false 1 (.t 5)⟩,⟨some 7,none,.faddr 0 (.t 3)⟩,⟨some 8,none,.load false 1 (.t 7)⟩,⟨some 9,none,.bin .neq false (.t 6) (.t 8)⟩]) (.cond (.t 9) (.seq (.reg [⟨some 4,none,.mv (.c (.bool false))⟩]) .ret) .skip)) (.seq (.seq (.reg [⟨some 10,none,.faddr 1 (.t 2)⟩,⟨some 11,none,.load true 2 (.t 10)⟩,⟨some 12,none,.faddr 1 (.t 3)⟩,⟨some 13,none,.load true 2 (.t 12)⟩,⟨some 14,none,.call 44 [(.t 11),(.t 13)]⟩,⟨some 15,none,.un .not (.t 14)⟩]) (.cond (.t 15) (.seq (.reg [⟨some 4,none,.mv (.c (.bool false))⟩]) .ret) .skip)) (.seq (.seq (.reg [⟨some 16,none,.faddr 3 (.t 2)⟩,⟨some 17,none,.load false 1 (.t 16)⟩,⟨some 18,none,.faddr 3 (.t 3)⟩,⟨some 19,none,.load false 1 (.t 18)⟩,⟨some 20,none,.bin .neq false (.t 17) (.t 19)⟩]) (.cond (.t 20) (.seq (.reg [⟨some 4,none,.mv (.c (.bool false))⟩]) .ret) .skip)) (.seq (.seq (.reg [⟨some 21,none,.faddr 4 (.t 2)⟩,⟨some 22,none,.load false 1 (.t 21)⟩,⟨some 23,none,.faddr 4 (.t 3)⟩,⟨some 24,none,.load false 1 (.t 23)⟩,⟨some 25,none,.call 45 [(.t 22),(.t 24)]⟩,⟨some 26,none,.un .not (.t 25)⟩]) (.cond (.t 26) (.seq (.reg [⟨some 4,none,.mv (.c (.bool false))⟩]) .ret) .skip)) (.seq (.reg [⟨some 4,none,.mv (.c (.bool true))⟩]) .ret))))))
theorem L3:codeOf Tryz.prog 11=some ⟨27,G5,[(.tmp 4)]⟩:=by kernel_rfl
theorem B9:modes 11=⟨[],.asis,none,false⟩:=by unfold modes; rfl
def F6:SC:=(.seq (.reg [⟨some 4,none,.mv (.c (.bool false))⟩]) (.seq (.seq (.reg [⟨some 6,none,.mv (.t 0)⟩,⟨some 7,none,.len false (.t 6)⟩,⟨some 8,none,.mv (.t 1)⟩,⟨some 9,none,.len false (.t 8)⟩,⟨some 10,none,.bin .neq false (.t 7) (.t 9)⟩]) (.cond (.t 10) (.seq (.reg [⟨some 4,none,.mv (.c (.bool false))⟩]) .ret) .skip)) (.seq (.seq (.reg [⟨some 5,none,.mv (.c (.int .i64 0))⟩]) (.block 0 (.loop [1,1,0,0,0,1,0,0,0,0,0,0,0,0,0,0,0,0,0,0,0,0,0,0,0,0,0] (.seq (.seq (.reg [⟨some 11,none,.mv (.t 5)⟩,⟨some 12,none,.mv (.t 0)⟩,⟨some 13,none,.len false (.t 12)⟩,⟨some 14,none,.bin .lss false (.t 11) (.t 13)⟩]) (.cond (.t 14) .skip (.exit 0))) (.seq (.block 1 (.seq (.dreg [[],[],[0,1],[2,0,1],[],[],[4,5],[6,4,5],[3,2,0,1,7,6,4,5],[8,3,2,0,1,7,6,4,5]] [⟨some 17,none,.mv (.t 0)⟩,⟨some 18,none,.mv (.t 5)⟩,⟨some 19,none,.iaddr 5 (.t 17) (.t 18)⟩,⟨some 20,none,.load true 5 (.t 19)⟩,⟨some 21,none,.mv (.t 1)⟩,⟨some 22,none,.mv (.t 5)⟩,⟨some 23,none,.iaddr 5 (.t 21) (.t 22)⟩,⟨some 24,none,.load true 5 (.t 23)⟩,⟨some 25,none,.call 11 [(.t 20),(.t 24)]⟩,⟨some 26,none,.un .not (.t 25)⟩]) (.cond (.t 26) (.seq (.reg [⟨some 4,none,.mv (.c (.bool false))⟩]) .ret) .skip))) (.reg [⟨some 15,none,.mv (.t 5)⟩,⟨some 16,none,.bin .add false (.t 15) (.c (.int .i64 1))⟩,⟨some 5,none,.mv (.t 16)⟩])))))) (.seq (.reg [⟨some 4,none,.mv (.c (.bool true))⟩]) .ret))))
theorem KG:codeOf Tryz.prog 45=some ⟨27,F6,[(.tmp 4)]⟩:=by kernel_rfl
theorem F7:modes 45=⟨[],.asis,none,false⟩:=by unfold modes; rfl
abbrev Ij (x:Fm):Prop:=x.bulk≤1048576→E 11 [x.sv,x.sv] []=some (.bool true,[])
abbrev KH (xs:List Fm):Prop:=xs.length+Fm.sumB xs≤1048576→E 45 [.arr (xs.map Fm.d),.arr (xs.map Fm.d)] []=some (.bool true,[])
theorem Mw (xs:List Fm) (h:∀ x∈xs,Ij x):KH xs:=by
 intro hb
 refine Ai KG F7 (of_decide_eq_true rfl) ?_
 simp (disch:=omega) only [F6,go_sem,Ab]
 refine go_loop (α:=Int) (fun i=>⟨slots 27 0 [(0,.arr (xs.map Fm.d)),(1,.arr (xs.map Fm.d)),(5,.int .i64 i)],[]⟩) (fun i=>∃ k:Nat,i=k∧k≤xs.length) (fun i=>xs.length-i.toNat) 0 ⟨0,rfl,zF _⟩ (by simp (disch:=omega) only [go_sem,Ab]) ?_
 ·rintro i ⟨k,rfl,hk⟩
  obtain ⟨i,hi⟩:∃ i:Int,i=(k:Int):=⟨_,rfl⟩
  rw [←hi]
  have hn:i.toNat=k:=by omega
  rcases zG k xs.length with hlt | hge
  ·have hg:=get_at Fm.d hlt
   rw [Fm.d_eq] at hg
   have hle:=Fm.bulk_le xs k hlt
   have hc:=h xs[k] (zB hlt) (by omega)
   simp (disch:=omega) only [go_sem,Ab,hn,hg,hc,B9]
   refine ⟨i+1,⟨k+1,by omega,hlt⟩,by omega,?_⟩
   trivial
  ·obtain rfl:k=xs.length:=by omega
   simp (disch:=omega) only [go_sem,Ab,hn]
theorem Oq (x:Fm) (h_atom:Ii x.atom) (h_parts:KH x.parts):Ij x:=by
 intro hb
 have qb:=Fm.bulk_eq x
 replace h_atom:=h_atom (by omega)
 replace h_parts:=h_parts (by omega)
 refine Ai L3 B9 (of_decide_eq_true rfl) ?_
 simp (disch:=omega) only [G5,go_sem,Ab,h_atom,Eg,h_parts,F7,C9]
theorem Md (x:Fm):Ij x:=Oq x (Oo x.atom) (Mw x.parts fun y hy=>Md y)
termination_by SizeOf.sizeOf x
decreasing_by exact Fm.lt_of_mem hy
def G6:SC:=(.seq (.reg [⟨some 2,none,.boxv 89 3 (.t 0)⟩,⟨some 3,none,.boxv 89 3 (.t 1)⟩,⟨some 4,none,.mv (.c (.bool false))⟩]) (.seq (.seq (.reg [⟨some 5,none,.faddr 0 (.t 2)⟩,⟨some 6,none,.load false 1 (.t 5)⟩,⟨some 7,none,.faddr 0 (.t 3)⟩,⟨some 8,none,.load false 1 (.t 7)⟩,⟨some 9,none,.bin .neq true (.t 6) (.t 8)⟩]) (.cond (.t 9) (.seq (.reg [⟨some 4,none,.mv (.c (.bool false))⟩]) .ret) .skip)) (.seq (.seq (.reg [⟨some 10,none,.faddr 1 (.t 2)⟩,⟨some 11,none,.load true 2 (.t 10)⟩,⟨some 12,none,.faddr 1 (.t 3)⟩,⟨some 13,none,.load true 2 (.t 12)⟩,⟨some 14,none,.call 44 [(.t 11),(.t 13)]⟩,⟨some 15,none,.un .not (.t 14)⟩]) (.cond (.t 15) (.seq (.reg [⟨some 4,none,.mv (.c (.bool false))⟩]) .ret) .skip)) (.seq (.reg [⟨some 4,none,.mv (.c (.bool true))⟩]) .ret))))
theorem L4:codeOf Tryz.prog 115=some ⟨16,G6,[(.tmp 4)]⟩:=by kernel_rfl
theorem G7:modes 115=⟨[],.asis,none,false⟩:=by unfold modes; rfl
def F8:SC:=(.seq (.reg [⟨some 4,none,.mv (.c (.bool false))⟩]) (.seq (.seq (.reg [⟨some 6,none,.mv (.t 0)⟩,⟨some 7,none,.len false (.t 6)⟩,⟨some 8,none,.mv (.t 1)⟩,⟨some 9,none,.len false (.t 8)⟩,⟨some 10,none,.bin .neq false (.t 7) (.t 9)⟩]) (.cond (.t 10) (.seq (.reg [⟨some 4,none,.mv (.c (.bool false))⟩]) .ret) .skip)) (.seq (.seq (.reg [⟨some 5,none,.mv (.c (.int .i64 0))⟩]) (.block 0 (.loop [1,1,0,0,0,1,0,0,0,0,0,0,0,0,0,0,0,0,0,0,0,0,0,0,0,0,0] (.seq (.seq (.reg [⟨some 11,none,.mv (.t 5)⟩,⟨some 12,none,.mv (.t 0)⟩,⟨some 13,none,.len false (.t 12)⟩,⟨some 14,none,.bin .lss false (.t 11) (.t 13)⟩]) (.cond (.t 14) .skip (.exit 0))) (.seq (.block 1 (.seq (.dreg [[],[],[0,1],[2,0,1],[],[],[4,5],[6,4,5],[3,2,0,1,7,6,4,5],[8,3,2,0,1,7,6,4,5]] [⟨some 17,none,.mv (.t 0)⟩,⟨some 18,none,.mv (.t 5)⟩,⟨some 19,none,.iaddr 3 (.t 17) (.t 18)⟩,⟨some 20,none,.load true 3 (.t 19)⟩,⟨some 21,none,.mv (.t 1)⟩,⟨some 22,none,.mv (.t 5)⟩,⟨some 23,none,.iaddr 3 (.t 21) (.t 22)⟩,⟨some 24,none,.load true 3 (.t 23)⟩,⟨some 25,none,.call 115 [(.t 20),(.t 24)]⟩,⟨some 26,none,.un .not (.t 25)⟩]) (.cond (.t 26) (.seq (.reg [⟨some 4,none,.mv (.c (.bool false))⟩]) .ret) .skip))) (.reg [⟨some 15,none,.mv (.t 5)⟩,⟨some 16,none,.bin .add false (.t 15) (.c (.int .i64 1))⟩,⟨some 5,none,.mv (.t 16)⟩])))))) (.seq (.reg [⟨some 4,none,.mv (.c (.bool true))⟩]) .ret))))
theorem KI:codeOf Tryz.prog 56=some ⟨27,F8,[(.tmp 4)]⟩:=by kernel_rfl
theorem F9:modes 56=⟨[],.asis,none,false⟩:=by unfold modes; rfl
abbrev Ik (x:Lt):Prop:=x.bulk≤1048576→E 115 [x.sv,x.sv] []=some (.bool true,[])
abbrev KJ (xs:List Lt):Prop:=xs.length+Lt.sumB xs≤1048576→E 56 [.arr (xs.map Lt.d),.arr (xs.map Lt.d)] []=some (.bool true,[])
theorem My (xs:List Lt) (h:∀ x∈xs,Ik x):KJ xs:=by
 intro hb
 refine Ai KI F9 (of_decide_eq_true rfl) ?_
 simp (disch:=omega) only [F8,go_sem,Ab]
 refine go_loop (α:=Int) (fun i=>⟨slots 27 0 [(0,.arr (xs.map Lt.d)),(1,.arr (xs.map Lt.d)),(5,.int .i64 i)],[]⟩) (fun i=>∃ k:Nat,i=k∧k≤xs.length) (fun i=>xs.length-i.toNat) 0 ⟨0,rfl,zF _⟩ (by simp (disch:=omega) only [go_sem,Ab]) ?_
 ·rintro i ⟨k,rfl,hk⟩
  obtain ⟨i,hi⟩:∃ i:Int,i=(k:Int):=⟨_,rfl⟩
  rw [←hi]
  have hn:i.toNat=k:=by omega
  rcases zG k xs.length with hlt | hge
  ·have hg:=get_at Lt.d hlt
   rw [Lt.d_eq] at hg
   have hle:=Lt.bulk_le xs k hlt
   have hc:=h xs[k] (zB hlt) (by omega)
   simp (disch:=omega) only [go_sem,Ab,hn,hg,hc,G7]
   refine ⟨i+1,⟨k+1,by omega,hlt⟩,by omega,?_⟩
   trivial
  ·obtain rfl:k=xs.length:=by omega
   simp (disch:=omega) only [go_sem,Ab,hn]
theorem Or (x:Lt) (h_atom:Ii x.atom):Ik x:=by
 intro hb
 have qb:=Lt.bulk_eq x
 replace h_atom:=h_atom (by omega)
 refine Ai L4 G7 (of_decide_eq_true rfl) ?_
 simp (disch:=omega) only [G6,go_sem,Ab,h_atom,Eg,C9]
theorem Sx (x:Lt):Ik x:=Or x (Oo x.atom)
def Hf:SC:=(.seq (.reg [⟨some 2,none,.boxv 48 1 (.t 0)⟩,⟨some 3,none,.boxv 48 1 (.t 1)⟩,⟨some 4,none,.mv (.c (.bool false))⟩]) (.seq (.seq (.reg [⟨some 5,none,.faddr 0 (.t 2)⟩,⟨some 6,none,.load false 1 (.t 5)⟩,⟨some 7,none,.faddr 0 (.t 3)⟩,⟨some 8,none,.load false 1 (.t 7)⟩,⟨some 9,none,.call 56 [(.t 6),(.t 8)]⟩,⟨some 10,none,.un .not (.t 9)⟩]) (.cond (.t 10) (.seq (.reg [⟨some 4,none,.mv (.c (.bool false))⟩]) .ret) .skip)) (.seq (.reg [⟨some 4,none,.mv (.c (.bool true))⟩]) .ret)))
theorem Mz:codeOf Tryz.prog 18=some ⟨11,Hf,[(.tmp 4)]⟩:=by kernel_rfl
theorem Cx:modes 18=⟨[],.asis,none,false⟩:=by unfold modes; rfl
abbrev Ot (x:Cl):Prop:=x.bulk≤1048576→E 18 [x.sv,x.sv] []=some (.bool true,[])
theorem OM (x:Cl) (h_lits:KJ x.lits):Ot x:=by
 intro hb
 have qb:=Cl.bulk_eq x
 replace h_lits:=h_lits (by omega)
 refine Ai Mz Cx (of_decide_eq_true rfl) ?_
 simp (disch:=omega) only [Hf,go_sem,Ab,h_lits,F9,C9]
theorem T9 (x:Cl):Ot x:=OM x (My x.lits fun y hy=>Sx y)
def Cb:SC:=(.seq (.reg [⟨some 1,none,.boxv 43 1 (.t 0)⟩,⟨some 2,none,.mv (.c (.bool false))⟩]) (.seq (.reg [⟨some 3,none,.mv (.c (.int .i64 1048576))⟩]) (.seq (.reg [⟨some 14,none,.load true 1 (.t 1)⟩,⟨some 15,none,.mv (.t 3)⟩,⟨some 16,none,.call 14 [(.t 14),(.t 15)]⟩,⟨some 3,none,.mv (.t 16)⟩]) (.seq (.seq (.reg [⟨some 17,none,.mv (.t 3)⟩,⟨some 18,none,.bin .lss false (.t 17) (.c (.int .i64 0))⟩]) (.cond (.t 18) (.seq (.reg [⟨some 2,none,.mv (.c (.bool true))⟩]) .ret) .skip)) (.seq (.reg [⟨some 20,none,.load true 1 (.t 1)⟩,⟨some 21,none,.call 16 [(.t 20)]⟩,⟨some 22,none,.call 15 [(.t 21)]⟩,⟨some 19,none,.mv (.t 22)⟩,⟨some 23,none,.ext (.t 19) 0⟩,⟨some 24,none,.ext (.t 19) 1⟩,⟨(some 4),none,(.alloc 34 [(.int .i64 0),(.str ⟨#[]⟩),.nil,(.str ⟨#[]⟩),.nil])⟩,⟨none,none,(.store 5 (.t 4) (.t 23))⟩,⟨some 5,none,.mv (.t 24)⟩]) (.seq (.reg [⟨some 25,none,.load true 1 (.t 1)⟩,⟨some 26,none,.call 16 [(.t 25)]⟩,⟨some 6,none,.alloc 48 [.nil]⟩,⟨none,none,(.store 1 (.t 6) (.t 26))⟩]) (.seq (.reg [⟨some 28,none,.load true 1 (.t 6)⟩,⟨some 29,none,.call 17 [(.t 28)]⟩,⟨some 27,none,.mv (.t 29)⟩,⟨some 30,none,.ext (.t 27) 0⟩,⟨some 31,none,.ext (.t 27) 1⟩,⟨(some 7),none,(.alloc 34 [(.int .i64 0),(.str ⟨#[]⟩),.nil,(.str ⟨#[]⟩),.nil])⟩,⟨none,none,(.store 5 (.t 7) (.t 30))⟩,⟨some 8,none,.mv (.t 31)⟩]) (.seq (.seq (.reg [⟨some 32,none,.load true 5 (.t 7)⟩,⟨some 33,none,.load true 5 (.t 4)⟩,⟨some 34,none,.call 11 [(.t 32),(.t 33)]⟩,⟨some 35,none,.un .not (.t 34)⟩,⟨some 36,none,.mv (.t 35)⟩,⟨(some 37),(some (36,false)),(.mv (.t 8))⟩,⟨(some 38),(some (36,false)),(.mv (.t 5))⟩,⟨(some 39),(some (36,false)),(.bin .neq true (.t 37) (.t 38))⟩,⟨some 40,none,.pick (.t 36) (.c (.bool true)) (.t 39)⟩]) (.cond (.t 40) (.seq (.reg [⟨some 2,none,.mv (.c (.bool false))⟩]) .ret) .skip)) (.seq (.seq (.dreg [[],[],[1],[0,2,1],[3,0,2,1]] [⟨some 41,none,.load true 1 (.t 6)⟩,⟨some 42,none,.load true 1 (.t 1)⟩,⟨some 43,none,.call 16 [(.t 42)]⟩,⟨some 44,none,.call 18 [(.t 41),(.t 43)]⟩,⟨some 45,none,.un .not (.t 44)⟩]) (.cond (.t 45) (.seq (.reg [⟨some 2,none,.mv (.c (.bool false))⟩]) .ret) .skip)) (.seq (.reg [⟨some 9,none,.mv (.c (.int .i64 1))⟩]) (.seq (.reg [⟨some 46,none,.load true 1 (.t 6)⟩,⟨some 47,none,.mv (.t 9)⟩,⟨some 48,none,.call 19 [(.t 46),(.t 47)]⟩,⟨some 9,none,.mv (.t 48)⟩]) (.seq (.seq (.reg [⟨some 49,none,.mv (.t 9)⟩,⟨some 50,none,.bin .lss false (.t 49) (.c (.int .i64 0))⟩,⟨some 51,none,.mv (.t 50)⟩,⟨(some 52),(some (51,false)),(.load true 5 (.t 7))⟩,⟨(some 53),(some (51,false)),(.load true 5 (.t 4))⟩,⟨(some 54),(some (51,false)),(.call 11 [(.t 52),(.t 53)])⟩,⟨(some 55),(some (51,false)),(.un .not (.t 54))⟩,⟨some 56,none,.pick (.t 51) (.c (.bool true)) (.t 55)⟩,⟨some 57,none,.mv (.t 56)⟩,⟨(some 58),(some (57,false)),(.mv (.t 8))⟩,⟨(some 59),(some (57,false)),(.mv (.t 5))⟩,⟨(some 60),(some (57,false)),(.bin .neq true (.t 58) (.t 59))⟩,⟨some 61,none,.pick (.t 57) (.c (.bool true)) (.t 60)⟩]) (.cond (.t 61) (.seq (.reg [⟨some 2,none,.mv (.c (.bool false))⟩]) .ret) .skip)) (.seq (.reg [⟨some 10,none,.mv (.c (.int .i64 1))⟩]) (.seq (.reg [⟨some 62,none,.load true 5 (.t 7)⟩,⟨some 63,none,.mv (.t 10)⟩,⟨some 64,none,.call 12 [(.t 62),(.t 63)]⟩,⟨some 10,none,.mv (.t 64)⟩]) (.seq (.reg [⟨some 11,none,.mv (.c (.int .i64 1))⟩]) (.seq (.reg [⟨some 65,none,.load true 5 (.t 7)⟩,⟨some 66,none,.mv (.t 11)⟩,⟨some 67,none,.call 13 [(.t 65),(.t 66)]⟩,⟨some 11,none,.mv (.t 67)⟩]) (.seq (.seq (.reg [⟨some 68,none,.mv (.t 11)⟩,⟨some 69,none,.bin .lss false (.t 68) (.c (.int .i64 0))⟩]) (.cond (.t 69) (.seq (.reg [⟨some 2,none,.mv (.c (.bool false))⟩]) .ret) .skip)) (.seq (.seq (.reg [⟨some 70,none,.mv (.t 11)⟩,⟨some 71,none,.mv (.t 10)⟩,⟨some 72,none,.bin .neq false (.t 70) (.t 71)⟩]) (.cond (.t 72) (.seq (.reg [⟨some 2,none,.mv (.c (.bool false))⟩]) .ret) .skip)) (.seq (.reg [⟨some 74,none,.load true 1 (.t 1)⟩,⟨some 75,none,.call 16 [(.t 74)]⟩,⟨some 76,none,.call 17 [(.t 75)]⟩,⟨some 73,none,.mv (.t 76)⟩,⟨some 77,none,.ext (.t 73) 0⟩,⟨some 78,none,.ext (.t 73) 1⟩,⟨(some 12),none,(.alloc 34 [(.int .i64 0),(.str ⟨#[]⟩),.nil,(.str ⟨#[]⟩),.nil])⟩,⟨none,none,(.store 5 (.t 12) (.t 77))⟩,⟨some 13,none,.mv (.t 78)⟩]) (.seq (.seq (.reg [⟨some 79,none,.load true 5 (.t 12)⟩,⟨some 80,none,.load true 5 (.t 4)⟩,⟨some 81,none,.call 11 [(.t 79),(.t 80)]⟩,⟨some 82,none,.un .not (.t 81)⟩,⟨some 83,none,.mv (.t 82)⟩,⟨(some 84),(some (83,false)),(.mv (.t 13))⟩,⟨(some 85),(some (83,false)),(.mv (.t 5))⟩,⟨(some 86),(some (83,false)),(.bin .neq true (.t 84) (.t 85))⟩,⟨some 87,none,.pick (.t 83) (.c (.bool true)) (.t 86)⟩]) (.cond (.t 87) (.seq (.reg [⟨some 2,none,.mv (.c (.bool false))⟩]) .ret) .skip)) (.seq (.reg [⟨some 11,none,.mv (.c (.int .i64 1))⟩]) (.seq (.reg [⟨some 88,none,.load true 5 (.t 7)⟩,⟨some 89,none,.mv (.t 11)⟩,⟨some 90,none,.call 13 [(.t 88),(.t 89)]⟩,⟨some 11,none,.mv (.t 90)⟩]) (.seq (.seq (.reg [⟨some 91,none,.mv (.t 11)⟩,⟨some 92,none,.bin .lss false (.t 91) (.c (.int .i64 0))⟩]) (.cond (.t 92) (.seq (.reg [⟨some 2,none,.mv (.c (.bool false))⟩]) .ret) .skip)) (.seq (.seq (.reg [⟨some 93,none,.mv (.t 11)⟩,⟨some 94,none,.mv (.t 10)⟩,⟨some 95,none,.bin .neq false (.t 93) (.t 94)⟩]) (.cond (.t 95) (.seq (.reg [⟨some 2,none,.mv (.c (.bool false))⟩]) .ret) .skip)) (.seq (.reg [⟨some 2,none,.mv (.c (.bool true))⟩]) .ret)))))))))))))))))))))))))
theorem Dr:codeOf Tryz.prog 4=some ⟨96,Cb,[(.tmp 2)]⟩:=by kernel_rfl
theorem Ds:modes 4=⟨[],.asis,none,false⟩:=by unfold modes; rfl
theorem Fm.Vt:Fm.zero.bulk=0:=by
 rw [Fm.bulk_eq]
 show Tm.zero.bulk+0+(0+Fm.sumB [])=_
 rw [Tm.bulk_eq,Fm.sumB]
 show (0+(0+Tm.sumB []))+0+0=_
 rw [Tm.sumB]
theorem Vu (x:Cl):(Sk x).bulk≤1048576:=by
 unfold Sk
 cases h:Sj x with
 | false=>rw [cond_false,Fm.Vt]; omega
 | true =>
  rw [cond_true]
  unfold Sj at h
  rw [Bool.and_eq_true] at h
  have h2:=h.2
  unfold Fm.valid at h2
  rw [Bool.and_eq_true,decide_eq_true_eq] at h2
  have:=Fm.Od _ h2.2
  omega
theorem Y5 (x:Cl) (hfx:D.fits x.d):E 4 [x.sv] []=some (.bool true,[]):=by
 have s0:=T7 x hfx 1048576 (by omega) (by omega)
 have q0:=Bf 1048576 x.bulk
 obtain ⟨l0,hl0⟩:∃ l,l=szR 1048576 (x.bulk:Nat):=⟨_,rfl⟩
 rw [←hl0] at s0 q0
 rcases Int.lt_or_le l0 0 with h0 | h0_0
 ·refine Ai Dr Ds (of_decide_eq_true rfl) ?_
  simp (disch:=omega) only [Cb,go_sem,Ab,s0,BH]
 have hb_x:x.bulk≤1048576:=by omega
 have t_x:=T8 x hb_x
 have htx:=Cl.Xq x hb_x
 have a1:=OE x htx
 have a2:=Sn x htx
 have hb_r:=Vu x
 obtain ⟨r,hr_r⟩:∃ r,r=Sk x:=⟨_,rfl⟩
 rw [←hr_r] at a1 a2 hb_r
 obtain ⟨o,hr_o⟩:∃ r,r=Sj x:=⟨_,rfl⟩
 rw [←hr_o] at a1 a2
 have eq_x:=T9 x (by omega)
 have be_x:=Cl.bulk_eq x
 have w_x_lits:=Lt.wtS_bulk x.lits
 have eq_r:=Md r (by omega)
 have be_r:=Fm.bulk_eq r
 have be_r_atom:=Tm.bulk_eq r.atom
 have w_r_atom_args:=Tm.wtS_bulk r.atom.args
 have w_r_parts:=Fm.wtS_bulk r.parts
 have k_x_0:=Lt.mkS_end x.lits (1)
 have m_x:=QJ x (1) (.row 89 3 (x.lits.map Lt.o)) (by omega) (by omega) rfl
 obtain ⟨n_x,hn_x⟩:∃ n1,n1=(x.mkr (1)).2:=⟨_,rfl⟩
 have hn'_x:n_x=(Lt.mkS x.lits (1)).2:=hn_x
 rw [←hn_x] at m_x
 have k_r_0:=Tm.mkS_end r.atom.args (1)
 have k_r_1:=Fm.mkS_end r.parts ((Tm.mkS r.atom.args (1)).2)
 have m_r:=OF r (1) (.row 31 2 (r.atom.args.map Tm.o)) (.row 34 5 (r.parts.map Fm.o)) (by omega) (by omega) rfl rfl
 have hd_r:=OG r (1) (by omega) (by omega)
 obtain ⟨n_r,hn_r⟩:∃ n1,n1=(r.mkr (1)).2:=⟨_,rfl⟩
 have hn'_r:n_r=(Fm.mkS r.parts ((Tm.mkS r.atom.args (1)).2)).2:=hn_r
 rw [←hn_r] at m_r hd_r
 refine Ai Dr Ds (of_decide_eq_true rfl) ?_
 simp (disch:=omega) only [Cb,go_sem,s0,t_x,a1,a2,eq_x,eq_r,m_x,hd_r,m_r,C9,BH,Cw,Cx,B9,BN,BD,BC,Br,Bp,Cl.osv,Cl.obs,Lt.osv,Lt.obs,Tm.osv,Tm.obs,Fm.osv,Fm.obs,Lt.erss,Lt.noss,Tm.erss,Tm.noss,Fm.erss,Fm.noss]
 repeat ((first | (refine Az ?_ ?_; (focus (simp (disch:=omega) only [go_sem,s0,t_x,a1,a2,eq_x,eq_r,m_x,hd_r,m_r,C9,BH,Cw,Cx,B9,BN,BD,BC,Br,Bp,Cl.osv,Cl.obs,Lt.osv,Lt.obs,Tm.osv,Tm.obs,Fm.osv,Fm.obs,Lt.erss,Lt.noss,Tm.erss,Tm.noss,Fm.erss,Fm.noss]; done))) | (refine A1 ?_ ?_; (focus (simp (disch:=omega) only [go_sem,s0,t_x,a1,a2,eq_x,eq_r,m_x,hd_r,m_r,C9,BH,Cw,Cx,B9,BN,BD,BC,Br,Bp,Cl.osv,Cl.obs,Lt.osv,Lt.obs,Tm.osv,Tm.obs,Fm.osv,Fm.obs,Lt.erss,Lt.noss,Tm.erss,Tm.noss,Fm.erss,Fm.noss]; done)))); (try simp (disch:=omega) only [go_sem,s0,t_x,a1,a2,eq_x,eq_r,m_x,hd_r,m_r,C9,BH,Cw,Cx,B9,BN,BD,BC,Br,Bp,Cl.osv,Cl.obs,Lt.osv,Lt.obs,Tm.osv,Tm.obs,Fm.osv,Fm.obs,Lt.erss,Lt.noss,Tm.erss,Tm.noss,Fm.erss,Fm.noss]))
end Go.Proofs.YtkjpmfmjebkkiaaGreat
set_option maxRecDepth 100000
set_option linter.unusedSimpArgs false
set_option linter.unusedVariables false
set_option linter.unusedSectionVars false
namespace Go.Proofs.YtkjpmfmjebkkiaaGreat
open Go.RowKit Go.ChangeShapes Go.WideShapes Go.ChangeAt Go.Deep
section
variable {H:Type} {enc:TypeId × Value→H} {P:Program} {w:World} {base:Nat} {spare:Nat→Bool} {held:Bool}
theorem Il {b o k:Nat}:(⟨b,o,none⟩:Addr).add k=⟨b,o+k,none⟩:=by
 unfold Addr.add; split
 ·subst_vars; rfl
 ·rfl
theorem Y6 {a:Addr} {v:Value} (h:w.cell? a=some v):a.block<w.heap.size:=by
 unfold World.cell? at h
 cases hb:w.heap[a.block]? with
 | none=>rw [hb] at h; cases h
 | some o=>exact (zK.1 hb).1
end
section
variable {H:Type} {enc:TypeId × Value→H} {w:World} {base:Nat} {spare:Nat→Bool} {held:Bool}
end
end Go.Proofs.YtkjpmfmjebkkiaaGreat
set_option maxRecDepth 100000
set_option linter.unusedSimpArgs false
set_option linter.unusedVariables false
set_option linter.unusedSectionVars false
namespace Go.Proofs.YtkjpmfmjebkkiaaGreat
open Go.RowKit Go.ChangeShapes Go.WideShapes Go.ChangeAt Go.Deep
section
variable {H:Type} {enc:TypeId × Value→H} {P:Program} {w:World} {base:Nat} {spare:Nat→Bool} {held:Bool}
theorem Sy {t e:TypeId} {fuel:Nat} {v:Value} {x:DataW H × List MemPlace} (sz:Nat) (hsz:P.cellsOf e=sz) (h0:0<sz) (ht:P.underlying t=some (.slice e)) (h:DataW.trod enc P w base spare held fuel t [v]=some x) :
  ∃ (a:Option Addr) (len cap:Nat) (f:Nat→Nat→Value),v=.slice a len cap∧len≤cap∧cap≤9223372036854775807∧SlA w 0 sz len f a ∧
   ∀ i,i<len→∃ n x',n<fuel∧DataW.trod enc P w base spare held n e ((zJ sz).map (f i))=some x':=by
 rcases DataW.trod_slice ht h with ⟨hcs,_⟩ | ⟨a,len,cap,elems,rest,n,hf,hcs,hx,hb,hl,hm,hlen,hel,_,_⟩
 ·simp only [List.cons.injEq,and_true] at hcs
  exact ⟨none,0,0,fun _ _=>undef,hcs,Nat.le_refl _,by omega,.inl rfl,fun i hi=>absurd hi (by omega)⟩
 ·have hi:∀ i,i<len→∃ cs' x',w.cells? base (a.add (i*sz)) sz=some cs'∧DataW.trod enc P w base spare held n e cs'=some x':=by
   intro i hi
   have h1:=hel i hi
   rw [hsz,zH (by omega)] at h1
   obtain ⟨cs',h2,h3⟩:=Option.bind_eq_some_iff.1 h1
   exact ⟨cs',_,h2,h3⟩
  have hcell:∀ i j,i<len→j<sz→∃ v,w.cell? (a.add (i*sz+j))=some v:=by
   intro i j hil hj
   obtain ⟨cs',x',hc,_⟩:=hi i hil
   obtain ⟨_,hcl,hat⟩:=World.cells?_some hc
   have h1:=hat j hj
   rw [Go.Deep.add_add,zH (by omega)] at h1
   exact ⟨_,h1⟩
  simp only [List.cons.injEq,and_true] at hcs
  refine ⟨some a,len,cap,fun i j=>(w.cell? (a.add (i*sz+j))).getD undef,hcs,hl,hm,?_,?_⟩
  ·rcases Nat.eq_zero_or_pos len with h | h
   ·exact .inl h
   ·obtain ⟨v,hv⟩:=hcell 0 0 h h0
    rw [Nat.zero_mul,Nat.zero_add] at hv
    have hsp:a.spot=none:=by simpa [Addr.add] using World.cell?_spot hv
    have hlt:=Y6 hv
    obtain ⟨b,off,spot⟩:=a
    simp only at hsp
    subst hsp
    refine .inr ⟨b,off,rfl,zF _,by simpa [Addr.add] using hlt,fun i j hil hj=>?_⟩
    obtain ⟨v',hv'⟩:=hcell i j hil hj
    rw [Il] at hv'
    show _=some ((w.cell? ((⟨b,off,none⟩:Addr).add (i*sz+j))).getD undef)
    rw [Il,Nat.add_assoc,hv']
    rfl
  ·intro i hil
   obtain ⟨cs',x',hc,ht'⟩:=hi i hil
   obtain ⟨_,hcl,hat⟩:=World.cells?_some hc
   refine ⟨n,x',by omega,?_⟩
   have hcs':(zJ sz).map (fun j=>(w.cell? (a.add (i*sz+j))).getD undef)=cs':=by
    apply List.ext_getElem?
    intro j
    by_cases hj:j<sz
    ·rw [List.getElem?_map,List.getElem?_range hj]
     have h1:=hat j hj
     rw [Go.Deep.add_add] at h1
     rw [zH (by omega:j<cs'.length)] at h1 ⊢
     simp [h1]
    ·rw [List.getElem?_eq_none (by simp; omega),List.getElem?_eq_none (by omega)]
   rw [hcs']
   exact ht'
theorem Ou {t:TypeId} {fs:Array Field} {fuel:Nat} {cs:List Value} {x:DataW H × List MemPlace} (ht:P.underlying t=some (.struct fs)) (h:DataW.trod enc P w base spare held fuel t cs=some x) :
  ∃ n,n<fuel∧cs.length=P.cellsOf t∧∀ (i:Nat) (f:Field),fs[i]?=some f→∃ y,DataW.trod enc P w base spare held n f.type ((cs.drop f.offset).take (P.cellsOf f.type))=some y:=by
 obtain ⟨xs,n,hn,hx,hlen,hxl,hf⟩:=DataW.trod_struct ht h
 refine ⟨n,by omega,hlen,fun i f hi=>?_⟩
 have hil:i<fs.size:=(zK.1 hi).1
 have h1:=hf i f hi
 rw [zH (by omega:i<xs.length)] at h1
 exact ⟨_,h1⟩
end
inductive Lvs (w:World):List D→List Value→Prop
 |nil:Lvs w [] []
 |cons {d:D} {v:Value} {ds:List D} {vs:List Value} (h:DAt w d v) (hs:Lvs w ds vs):Lvs w (d :: ds) (v :: vs)
theorem Lvs.len {w:World} {ds:List D} {vs:List Value} (h:Lvs w ds vs):ds.length=vs.length:=by
 induction h with
 | nil=>rfl
 | cons h hs ih=>simp [ih]
theorem Lvs.get {w:World} {ds:List D} {vs:List Value} (h:Lvs w ds vs):∀ j (h1:j<ds.length) (h2:j<vs.length),DAt w ds[j] vs[j]:=by
 induction h with
 | nil=>intro j h1; simp at h1
 | cons h hs ih =>
  intro j h1 h2
  cases j with
  | zero=>exact h
  | succ j=>exact ih j (by simpa using h1) (by simpa using h2)
theorem Sz {α:Type} [Inhabited α] (dd:α→List D) {w:World} {m len cap:Nat} {f:Nat→Nat→Value} {a:Option Addr} (hl:len≤cap) (hm:cap≤9223372036854775807) (hS:SlA w 0 m len f a)
  (hel:∀ i,i<len→∃ X:α,Lvs w (dd X) ((zJ m).map (f i))):∃ xs:List α,DAt w (.arr (xs.map dd)) (.slice a len cap):=by
 obtain ⟨g,hg⟩:∃ g:Nat→α,∀ i,i<len→Lvs w (dd (g i)) ((zJ m).map (f i)) :=
  ⟨fun i=>if h:i<len then (hel i h).choose else default,fun i hi=>by simp only [hi,dif_pos]; exact (hel i hi).choose_spec⟩
 refine ⟨(zJ len).map g,?_⟩
 have hlen:(((zJ len).map g).map dd).length=len:=by simp
 have:=DAt.YE (w:=w) (es:=((zJ len).map g).map dd) (sz:=m) (cap:=cap) (a:=a) (f:=f) (by rw [hlen]; exact hl) hm (by rw [hlen]; exact hS) (fun i hi=>by
  rw [hlen] at hi
  have:=(hg i hi).len
  simpa using this) (fun i j hi hj=>by
  rw [hlen] at hi
  have h1:=hg i hi
  have h2:=h1.len
  simp only [zE,List.length_range] at h2
  simp only [List.getElem_map,List.getElem_range] at hj ⊢
  have:=h1.get j hj (by simp; omega)
  simpa using this)
 rw [hlen] at this
 exact this
instance:Inhabited Tm:=⟨Tm.zero⟩
instance:Inhabited Fm:=⟨Fm.zero⟩
section
variable {H:Type} {enc:TypeId × Value→H} {w:World} {base:Nat} {spare:Nat→Bool} {held:Bool}
end
end Go.Proofs.YtkjpmfmjebkkiaaGreat
set_option maxRecDepth 100000
set_option linter.unusedSimpArgs false
set_option linter.unusedVariables false
set_option linter.unusedSectionVars false
namespace Go.Proofs.YtkjpmfmjebkkiaaGreat
open Go.RowKit
theorem DRep.lt_ {own:Bool} {w:World} {S:Nat→Prop} {d:D} {v:Value} (h:DRep own w S d v):DRep own w (fun b=>S b∧b<w.heap.size) d v:=by
 induction h with
 | int S n=>exact .int _ n
 | byte S n=>exact .byte _ n
 | bool S b=>exact .bool _ b
 | str S s h=>exact .str _ s h
 | arr S sz es a cap f Sub h1 h2 h3 h4 h5 h6 h7 ih =>
  refine .arr _ sz es a cap f (fun i j x=>Sub i j x∧x<w.heap.size) h1 h2 ?_ h4 (fun i j x h=>⟨h5 i j x h.1,h.2⟩) (fun ho i j i' j' x h h'=>h6 ho i j i' j' x h.1 h'.1) ih
  rcases h3 with h3 | ⟨b,off,ha,hS,hl,hc,ho⟩
  ·exact .inl h3
  ·exact .inr ⟨b,off,ha,⟨hS,hl⟩,hl,hc,fun h=>⟨fun i j hx=>(ho h).1 i j hx.1,(ho h).2⟩⟩
theorem Fun.yes {f:FuncId} {args:List SV} (h:Fun Tryz.prog f args [] (.bool true) []) {w:World} {vs:List Value} (hgl:GL w fun b=>b<w.heap.size) (hvs:RepVs w (fun b=>b<w.heap.size) (fun _=>none) args vs):Calls Tryz.prog f vs.toArray w (Ret w (.bool true)):=by
 have nl:∀ g,¬ (Am [] g).live:=fun g hg=>by simp [Am,Ob.live] at hg
 refine (h w (fun b=>b<w.heap.size) (fun _=>none) (fun _ _=>False) vs ⟨fun b hb=>hb,fun g hg=>absurd hg (nl g),fun g b hg=>absurd hg (nl g),fun g b hg=>absurd hg (nl g),fun g g' b hg=>absurd hg (nl g),fun g _=>rfl,hgl⟩ hvs).mono ?_
 rintro e w' ⟨v,I',V',B',rfl,hr,hp⟩
 simp only [RepV] at hr
 subst hr
 exact ⟨rfl,hp.fr.os,hp.fr.tape.1,hp.fr.output,hp.fr.size,fun b hb=>hp.fr.block b hb fun ⟨g,hg,_⟩=>absurd hg (nl g)⟩
theorem S1 {w:World} {d:D} {ds:List D} {v:Value} {vs:List Value} (h:Lvs w (d :: ds) (v :: vs)):DAt w d v∧Lvs w ds vs:=by
 cases h with
 | cons h1 h2=>exact ⟨h1,h2⟩
theorem DAt.rep_sv {w:World} {d:D} {v:Value} (h:DAt w d v):RepV w (fun b=>b<w.heap.size) (fun _=>none) d.sv v :=
 D.rep_sv ((DRep.lt_ h).up fun b hb=>hb.2)
theorem Lvs.reps {w:World} {ds:List D} {vs:List Value} (h:Lvs w ds vs):RepVs w (fun b=>b<w.heap.size) (fun _=>none) (ds.map D.sv) vs:=by
 induction h with
 | nil=>simp [RepVs]
 | cons h hs ih=>simp only [List.map_cons,RepVs]; exact ⟨_,_,rfl,h.rep_sv,ih⟩
theorem Lvs.agg {w:World} {ds:List D} {vs:List Value} (h:Lvs w ds vs):RepV w (fun b=>b<w.heap.size) (fun _=>none) (.agg (ds.map D.sv)) (.agg vs.toArray):=by
 simp only [RepV]; exact ⟨vs,rfl,h.reps⟩
theorem Lvs.fits {w:World} {ds:List D} {vs:List Value} (h:Lvs w ds vs):D.fits ds:=by
 induction h with
 | nil=>trivial
 | cons h hs ih=>exact ⟨DRep.fit h,ih⟩
theorem Xr {w:World} {I:Nat→Prop} {V:Nat→Option Value}:RepVs w I V [] []:=by simp [RepVs]
theorem Vv {w:World} {I:Nat→Prop} {V:Nat→Option Value} {x:SV} {xs:List SV} {v:Value} {vs:List Value} (h:RepV w I V x v) (hs:RepVs w I V xs vs):RepVs w I V (x :: xs) (v :: vs):=by
 simp only [RepVs]; exact ⟨v,vs,rfl,h,hs⟩
instance:Inhabited Lt:=⟨Lt.zero⟩
instance:Inhabited Cl:=⟨Cl.zero⟩
section
variable {H:Type} {enc:TypeId × Value→H} {w:World} {base:Nat} {spare:Nat→Bool} {held:Bool}
theorem Me {fuel:Nat} (ih:∀ n,n<fuel→∀ v x,DataW.trod enc Tryz.prog w base spare held n 22 [v]=some x→∃ xs:List Tm,DAt w (.arr (xs.map Tm.d)) v) {cs:List Value} {x:DataW H × List MemPlace} (h:DataW.trod enc Tryz.prog w base spare held fuel 24 cs=some x):∃ X:Tm,Lvs w X.d cs:=by
 obtain ⟨n,hn,hlen,hf⟩:=Ou Tryz.underlying24 h
 rw [show Tryz.prog.cellsOf 24=2 by kernel_rfl] at hlen
 match cs,hlen with
 | [c0,c1],_ =>
  obtain ⟨y0,k0⟩:=hf 0 _ rfl
  have e0:(([c0,c1].drop 0).take (Tryz.prog.cellsOf 9))=[c0]:=by rw [show Tryz.prog.cellsOf 9=1 by kernel_rfl]; rfl
  obtain ⟨z0,q0,_,s0⟩:=DataW.trod_string Tryz.underlying9 k0
  have q0':c0=.string z0:=by
   have:[c0]=[.string z0]:=by rw [←e0]; exact q0
   simpa using this
  obtain ⟨y1,k1⟩:=hf 1 _ rfl
  have e1:(([c0,c1].drop 1).take (Tryz.prog.cellsOf 22))=[c1]:=by rw [show Tryz.prog.cellsOf 22=1 by kernel_rfl]; rfl
  have k1':DataW.trod enc Tryz.prog w base spare held n 22 [c1]=some y1:=by rw [←e1]; exact k1
  obtain ⟨z1,g1⟩:=ih n hn c1 y1 k1'
  subst q0'
  exact ⟨.mk z0 z1,by rw [Tm.d_eq]; exact (.cons (.str _ z0 s0) (.cons g1 .nil))⟩
theorem ON:∀ (fuel:Nat) (v:Value) (x:DataW H × List MemPlace),DataW.trod enc Tryz.prog w base spare held fuel 22 [v]=some x→∃ xs:List Tm,DAt w (.arr (xs.map Tm.d)) v:=by
 intro fuel
 induction fuel using Nat.strongRecOn with
 | _ fuel ih =>
  intro v x h
  obtain ⟨a,len,cap,f,rfl,hl,hm,hS,hr⟩:=Sy (P:=Tryz.prog) 2 (by kernel_rfl) (by omega) Tryz.underlying22 h
  exact Sz Tm.d hl hm hS fun i hi=>by
   obtain ⟨n,x',hn,h1⟩:=hr i hi
   exact Me (fun n' hn'=>ih n' (by omega)) h1
theorem Xs {fuel:Nat} {cs:List Value} {x:DataW H × List MemPlace} (h:DataW.trod enc Tryz.prog w base spare held fuel 24 cs=some x):∃ X:Tm,Lvs w X.d cs :=
 Me (fun n _=>ON n) h
theorem S2 {fuel:Nat} {cs:List Value} {x:DataW H × List MemPlace} (h:DataW.trod enc Tryz.prog w base spare held fuel 141 cs=some x):∃ X:Lt,Lvs w X.d cs:=by
 obtain ⟨n,hn,hlen,hf⟩:=Ou Tryz.underlying141 h
 rw [show Tryz.prog.cellsOf 141=3 by kernel_rfl] at hlen
 match cs,hlen with
 | [c0,c1,c2],_ =>
  obtain ⟨y0,k0⟩:=hf 0 _ rfl
  have e0:(([c0,c1,c2].drop 0).take (Tryz.prog.cellsOf 4))=[c0]:=by rw [show Tryz.prog.cellsOf 4=1 by kernel_rfl]; rfl
  obtain ⟨z0,q0,_⟩:=DataW.trod_bool Tryz.underlying4 k0
  have q0':c0=.bool z0:=by
   have:[c0]=[.bool z0]:=by rw [←e0]; exact q0
   simpa using this
  obtain ⟨y1,k1⟩:=hf 1 _ rfl
  have e1:(([c0,c1,c2].drop 1).take (Tryz.prog.cellsOf 24))=[c1,c2]:=by rw [show Tryz.prog.cellsOf 24=2 by kernel_rfl]; rfl
  have k1':DataW.trod enc Tryz.prog w base spare held n 24 [c1,c2]=some y1:=by rw [←e1]; exact k1
  obtain ⟨z1,g1⟩:=Xs k1'
  rw [Tm.d_eq] at g1
  obtain ⟨g1_0,g1⟩:=S1 g1
  obtain ⟨g1_1,g1⟩:=S1 g1
  subst q0'
  exact ⟨⟨z0,z1⟩,by rw [Lt.d_eq]; exact (.cons (.bool _ z0) (.cons g1_0 (.cons g1_1 .nil)))⟩
theorem QN {fuel:Nat} {v:Value} {x:DataW H × List MemPlace} (h:DataW.trod enc Tryz.prog w base spare held fuel 41 [v]=some x):∃ xs:List Lt,DAt w (.arr (xs.map Lt.d)) v:=by
 obtain ⟨a,len,cap,f,rfl,hl,hm,hS,hr⟩:=Sy (P:=Tryz.prog) 3 (by kernel_rfl) (by omega) Tryz.underlying41 h
 exact Sz Lt.d hl hm hS fun i hi=>by
  obtain ⟨n,x',hn,h1⟩:=hr i hi
  exact S2 h1
theorem TA {fuel:Nat} {cs:List Value} {x:DataW H × List MemPlace} (h:DataW.trod enc Tryz.prog w base spare held fuel 43 cs=some x):∃ X:Cl,Lvs w X.d cs:=by
 obtain ⟨n,hn,hlen,hf⟩:=Ou Tryz.underlying43 h
 rw [show Tryz.prog.cellsOf 43=1 by kernel_rfl] at hlen
 match cs,hlen with
 | [c0],_ =>
  obtain ⟨y0,k0⟩:=hf 0 _ rfl
  have e0:(([c0].drop 0).take (Tryz.prog.cellsOf 41))=[c0]:=by rw [show Tryz.prog.cellsOf 41=1 by kernel_rfl]; rfl
  have k0':DataW.trod enc Tryz.prog w base spare held n 41 [c0]=some y0:=by rw [←e0]; exact k0
  obtain ⟨z0,g0⟩:=QN k0'
  exact ⟨⟨z0⟩,by rw [Cl.d_eq]; exact (.cons g0 .nil)⟩
end
end Go.Proofs.YtkjpmfmjebkkiaaGreat
