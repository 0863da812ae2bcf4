/-
  Texts of this claim, one behind the other, each built on those ahead of it. No condition.
-/
import Derived.Test.YtepbennkcbmgoaaGreatDoorK52c
import Derived.Test.YtepbennkcbmgoaaGreatDoorK52d
set_option maxHeartbeats 16000000
open List renaming drop_eq_getElem_cons → zA, drop_eq_nil_of_le → zB, drop_zero → zD, length_cons → zE, getElem_mem → zF, length_map → zI, length_append → zJ, map_cons → zK, map_nil → zL, getElem_of_mem → zN, eq_nil_or_concat → zO, length_nil → zQ, mem_cons → zR, all_eq_true → zT, cons_append → zU, mergeSort_perm → zV, mem_append → zW, map_map → zY, append_assoc → zZ, all_map → z7, nil_append → yB, filterMap_cons → yC, mergeSort_nil → yF, getElem?_eq_getElem → yL, map_append → yO, append_nil → yP, foldl_cons → yQ
open Nat renaming lt_or_ge → zC, zero_le → zH, le_refl → zP, zero_add → yD, eq_zero_or_pos → yG, not_lt → yS
open Bool renaming and_eq_true → zG, and_self → zM, false_and → z8, and_false → yH, not_eq_true' → yI, true_and → yK, not_not → yN, false_or → yR
open Int renaming toNat_zero → zS
open List.cons renaming injEq → zX, inj → yJ
open Option renaming getD_none → yA, getD_some → yM
open Option.some renaming injEq → yT
set_option maxRecDepth 100000
set_option linter.unusedSimpArgs false
set_option linter.unusedVariables false
set_option linter.unusedSectionVars false
namespace Go.Proofs.YtepbennkcbmgoaaGreatDoor
open Go.RowKit
def J7:SC:=(.seq (.reg [⟨some 4,none,.mv (.c (.int .i64 0))⟩]) (.seq (.seq (.reg [⟨some 5,none,.mv (.c (.int .i64 0))⟩]) (.block 0 (.loop [1,1,0,0,0,1,0,0,0,0,0,0,0,0,0,0,0,0,0,0,0,0,0,0,0,0,0,0,0,0,0,0] (.seq (.seq (.reg [⟨some 6,none,.mv (.t 5)⟩,⟨some 7,none,.mv (.t 0)⟩,⟨some 8,none,.len false (.t 7)⟩,⟨some 9,none,.bin .lss false (.t 6) (.t 8)⟩]) (.cond (.t 9) .skip (.exit 0))) (.seq (.block 1 (.seq (.seq (.dreg [[],[],[0,1],[2,0,1],[3,2,0,1],[],[5],[4,3,2,0,1,6,5]] [⟨some 12,none,.mv (.t 0)⟩,⟨some 13,none,.mv (.t 5)⟩,⟨some 14,none,.iaddr 2 (.t 12) (.t 13)⟩,⟨some 15,none,.faddr 0 (.t 14)⟩,⟨some 16,none,.load false 1 (.t 15)⟩,⟨some 17,none,.mv (.t 1)⟩,⟨some 18,none,.call 63 [(.t 17)]⟩,⟨some 19,none,.bin .neq false (.t 16) (.t 18)⟩]) (.cond (.t 19) (.seq (.reg [⟨some 4,none,.mv (.c (.int .i64 (-(0+1))))⟩]) .ret) .skip)) (.seq (.reg [⟨some 20,none,.mv (.t 1)⟩,⟨some 21,none,.bin .add false (.t 20) (.c (.int .i64 1))⟩,⟨some 1,none,.mv (.t 21)⟩]) (.seq (.reg [⟨some 22,none,.mv (.t 0)⟩,⟨some 23,none,.mv (.t 5)⟩,⟨some 24,none,.iaddr 2 (.t 22) (.t 23)⟩,⟨some 25,none,.faddr 1 (.t 24)⟩,⟨some 26,none,.load false 1 (.t 25)⟩,⟨some 27,none,.mv (.t 1)⟩,⟨some 28,none,.call 74 [(.t 26),(.t 27)]⟩,⟨some 1,none,.mv (.t 28)⟩]) (.seq (.reg [⟨some 29,none,.mv (.t 1)⟩,⟨some 30,none,.bin .lss false (.t 29) (.c (.int .i64 0))⟩]) (.cond (.t 30) (.seq (.reg [⟨some 4,none,.mv (.c (.int .i64 (-(0+1))))⟩]) .ret) .skip)))))) (.reg [⟨some 10,none,.mv (.t 5)⟩,⟨some 11,none,.bin .add false (.t 10) (.c (.int .i64 1))⟩,⟨some 5,none,.mv (.t 11)⟩])))))) (.seq (.reg [⟨some 31,none,.mv (.t 1)⟩,⟨some 4,none,.mv (.t 31)⟩]) .ret)))
theorem PU:codeOf Tryz.prog 74=some ⟨32,J7,[(.tmp 4)]⟩:=by kernel_rfl
theorem Gr:modes 74=⟨[],.asis,none,false⟩:=by unfold modes; rfl
theorem Tm.mkS_len:∀ (xs:List Tm) (k:Int),(Tm.mkS xs k).1.length=xs.length
 | [],k=>by rw [Tm.mkS]
 | x :: xs,k=>by rw [Tm.mkS]; simp only [zE]; rw [Tm.mkS_len xs]
abbrev I5 (xs:List Tm):Prop:=∀ k:Int,1≤k→k+Tm.wtS xs≤1099511627776→E 74 [.arr ((Tm.mkS xs k).1.map Tm.d),.int .i64 k] []=some (.int .i64 (Tm.mkS xs k).2,[])
theorem LG (xs:List Tm) (ih:∀ x∈xs,I5 x.args):I5 xs:=by
 intro k0 h1 h2
 obtain ⟨ys,hys⟩:∃ ys,ys=(Tm.mkS xs k0).1:=⟨_,rfl⟩
 have hyl:ys.length=xs.length:=by rw [hys,Tm.mkS_len]
 rw [←hys]
 have hL:=Tm.length_wt xs
 refine Ad PU Gr (of_decide_eq_true rfl) ?_
 simp (disch:=omega) only [J7,go_sem,Aa]
 refine go_loop (α:=Int × (Int)) (fun a=>⟨slots 32 0 [(0,.arr (ys.map Tm.d)),(1,.int .i64 (a.2)),(5,.int .i64 (a.1))],[]⟩) (fun a=>∃ k:Nat,a.1=k∧k≤(ys).length∧1≤(a.2)∧(a.2)+Tm.wtS (xs.drop k)=k0+Tm.wtS xs∧ys.drop k=(Tm.mkS (xs.drop k) (a.2)).1∧(Tm.mkS xs k0).2=(Tm.mkS (xs.drop k) (a.2)).2) (fun a=>(ys).length-(a.1).toNat) (0,k0) ⟨0,rfl,zH _,h1,by rw [zD],by rw [zD,zD,hys],by rw [zD]⟩ (by simp (disch:=omega) only [go_sem,Aa]) ?_
 rintro ⟨i,kk⟩ ⟨k,hi,hk,hR⟩
 dsimp only at hi hR
 have hni:i.toNat=k:=by omega
 have hni1:(i+1).toNat=k+1:=by omega
 rcases zC k (ys).length with hlt | hge
 ·obtain ⟨hk1,hkn,hy,hm⟩:=hR
  have hlx:k<xs.length:=by omega
  have hdr:xs.drop k=xs[k] :: xs.drop (k+1):=zA hlx
  have hdy:=zA hlt
  rw [hdr,Tm.wtS] at hkn
  rw [hdr,Tm.mkS] at hm
  rw [hdr,Tm.mkS,hdy] at hy
  dsimp only at hy hm
  obtain ⟨hy1,hy2⟩:=yJ hy
  have hg:=get_at Tm.d hlt
  rw [hy1,Tm.mk1_d] at hg
  have hn1:=Tm.wt_eq xs[k]
  have e1:=Tm.mkS_end xs[k].args ((kk+1))
  have t0:=JY (k:=kk) (by omega) (by omega)
  have c58:=ih xs[k] (zF hlx) ((kk+1)) (by omega) (by omega)
  have he:=Tm.mk1_end xs[k] kk
  simp (disch:=omega) only [go_sem,Aa,hni,hg,DS,DT,t0,c58,Gr]
  refine ⟨(i+1,(xs[k].mk1 kk).2),⟨k+1,by dsimp only; omega,hlt,by dsimp only; omega,by dsimp only; omega,hy2,hm⟩,by dsimp only; omega,?_⟩
  dsimp only
  rw [Tm.mk1_eq]
  simp only [and_self,and_true,true_and]
  try omega
 ·obtain ⟨hk1,hkn,hy,hm⟩:=hR
  have hdr:xs.drop k=[]:=zB (by omega)
  rw [hdr,Tm.mkS] at hm
  rw [hm]
  simp (disch:=omega) only [go_sem,Aa,hni]
theorem OJ (x:Tm):I5 x.args:=LG x.args fun y hy=>OJ y
termination_by SizeOf.sizeOf x
decreasing_by exact Tm.lt_of_mem hy
theorem YR (xs:List Tm):I5 xs:=LG xs fun y _=>OJ y
def Hk:SC:=(.seq (.reg [⟨some 4,none,.mv (.c (.int .i64 0))⟩]) (.seq (.seq (.reg [⟨some 5,none,.mv (.c (.int .i64 0))⟩]) (.block 0 (.loop [1,1,0,0,0,1,0,0,0,0,0,0,0,0,0,0,0,0,0,0,0,0,0,0,0,0,0,0,0,0,0,0,0,0,0,0,0,0,0,0,0,0,0,0,0] (.seq (.seq (.reg [⟨some 6,none,.mv (.t 5)⟩,⟨some 7,none,.mv (.t 0)⟩,⟨some 8,none,.len false (.t 7)⟩,⟨some 9,none,.bin .lss false (.t 6) (.t 8)⟩]) (.cond (.t 9) .skip (.exit 0))) (.seq (.block 1 (.seq (.seq (.reg [⟨some 12,none,.mv (.t 0)⟩,⟨some 13,none,.mv (.t 5)⟩,⟨some 14,none,.iaddr 3 (.t 12) (.t 13)⟩,⟨some 15,none,.faddr 0 (.t 14)⟩,⟨some 16,none,.load false 1 (.t 15)⟩,⟨some 17,none,.mv (.t 1)⟩,⟨some 18,none,.bin .rem false (.t 17) (.c (.int .i64 3))⟩,⟨some 19,none,.bin .eql false (.t 18) (.c (.int .i64 0))⟩,⟨some 20,none,.bin .neq true (.t 16) (.t 19)⟩]) (.cond (.t 20) (.seq (.reg [⟨some 4,none,.mv (.c (.int .i64 (-(0+1))))⟩]) .ret) .skip)) (.seq (.reg [⟨some 21,none,.mv (.t 1)⟩,⟨some 22,none,.bin .add false (.t 21) (.c (.int .i64 1))⟩,⟨some 1,none,.mv (.t 22)⟩]) (.seq (.seq (.dreg [[],[],[0,1],[2,0,1],[3,2,0,1],[4,3,2,0,1],[],[6],[5,4,3,2,0,1,7,6]] [⟨some 23,none,.mv (.t 0)⟩,⟨some 24,none,.mv (.t 5)⟩,⟨some 25,none,.iaddr 3 (.t 23) (.t 24)⟩,⟨some 26,none,.faddr 1 (.t 25)⟩,⟨some 27,none,.faddr 0 (.t 26)⟩,⟨some 28,none,.load false 1 (.t 27)⟩,⟨some 29,none,.mv (.t 1)⟩,⟨some 30,none,.call 63 [(.t 29)]⟩,⟨some 31,none,.bin .neq false (.t 28) (.t 30)⟩]) (.cond (.t 31) (.seq (.reg [⟨some 4,none,.mv (.c (.int .i64 (-(0+1))))⟩]) .ret) .skip)) (.seq (.reg [⟨some 32,none,.mv (.t 1)⟩,⟨some 33,none,.bin .add false (.t 32) (.c (.int .i64 1))⟩,⟨some 1,none,.mv (.t 33)⟩]) (.seq (.reg [⟨some 34,none,.mv (.t 0)⟩,⟨some 35,none,.mv (.t 5)⟩,⟨some 36,none,.iaddr 3 (.t 34) (.t 35)⟩,⟨some 37,none,.faddr 1 (.t 36)⟩,⟨some 38,none,.faddr 1 (.t 37)⟩,⟨some 39,none,.load false 1 (.t 38)⟩,⟨some 40,none,.mv (.t 1)⟩,⟨some 41,none,.call 74 [(.t 39),(.t 40)]⟩,⟨some 1,none,.mv (.t 41)⟩]) (.seq (.reg [⟨some 42,none,.mv (.t 1)⟩,⟨some 43,none,.bin .lss false (.t 42) (.c (.int .i64 0))⟩]) (.cond (.t 43) (.seq (.reg [⟨some 4,none,.mv (.c (.int .i64 (-(0+1))))⟩]) .ret) .skip)))))))) (.reg [⟨some 10,none,.mv (.t 5)⟩,⟨some 11,none,.bin .add false (.t 10) (.c (.int .i64 1))⟩,⟨some 5,none,.mv (.t 11)⟩])))))) (.seq (.reg [⟨some 44,none,.mv (.t 1)⟩,⟨some 4,none,.mv (.t 44)⟩]) .ret)))
theorem MB:codeOf Tryz.prog 84=some ⟨45,Hk,[(.tmp 4)]⟩:=by kernel_rfl
theorem Hl:modes 84=⟨[],.asis,none,false⟩:=by unfold modes; rfl
theorem Lt.mkS_len:∀ (xs:List Lt) (k:Int),(Lt.mkS xs k).1.length=xs.length
 | [],k=>by rw [Lt.mkS]
 | x :: xs,k=>by rw [Lt.mkS]; simp only [zE]; rw [Lt.mkS_len xs]
abbrev LH (xs:List Lt):Prop:=∀ k:Int,1≤k→k+Lt.wtS xs≤1099511627776→E 84 [.arr ((Lt.mkS xs k).1.map Lt.d),.int .i64 k] []=some (.int .i64 (Lt.mkS xs k).2,[])
theorem OK (xs:List Lt):LH xs:=by
 intro k0 h1 h2
 obtain ⟨ys,hys⟩:∃ ys,ys=(Lt.mkS xs k0).1:=⟨_,rfl⟩
 have hyl:ys.length=xs.length:=by rw [hys,Lt.mkS_len]
 rw [←hys]
 have hL:=Lt.length_wt xs
 refine Ad MB Hl (of_decide_eq_true rfl) ?_
 simp (disch:=omega) only [Hk,go_sem,Aa]
 refine go_loop (α:=Int × (Int)) (fun a=>⟨slots 45 0 [(0,.arr (ys.map Lt.d)),(1,.int .i64 (a.2)),(5,.int .i64 (a.1))],[]⟩) (fun a=>∃ k:Nat,a.1=k∧k≤(ys).length∧1≤(a.2)∧(a.2)+Lt.wtS (xs.drop k)=k0+Lt.wtS xs∧ys.drop k=(Lt.mkS (xs.drop k) (a.2)).1∧(Lt.mkS xs k0).2=(Lt.mkS (xs.drop k) (a.2)).2) (fun a=>(ys).length-(a.1).toNat) (0,k0) ⟨0,rfl,zH _,h1,by rw [zD],by rw [zD,zD,hys],by rw [zD]⟩ (by simp (disch:=omega) only [go_sem,Aa]) ?_
 rintro ⟨i,kk⟩ ⟨k,hi,hk,hR⟩
 dsimp only at hi hR
 have hni:i.toNat=k:=by omega
 have hni1:(i+1).toNat=k+1:=by omega
 rcases zC k (ys).length with hlt | hge
 ·obtain ⟨hk1,hkn,hy,hm⟩:=hR
  have hlx:k<xs.length:=by omega
  have hdr:xs.drop k=xs[k] :: xs.drop (k+1):=zA hlx
  have hdy:=zA hlt
  rw [hdr,Lt.wtS] at hkn
  rw [hdr,Lt.mkS] at hm
  rw [hdr,Lt.mkS,hdy] at hy
  dsimp only at hy hm
  obtain ⟨hy1,hy2⟩:=yJ hy
  have hg:=get_at Lt.d hlt
  rw [hy1,Lt.mk1_d] at hg
  have hn1:=Lt.wt_eq xs[k]
  have e2:=Tm.mkS_end xs[k].atom.args ((kk+1+1))
  have t0:=JY (k:=(kk+1)) (by omega) (by omega)
  have c64:=YR xs[k].atom.args ((kk+1+1)) (by omega) (by omega)
  have he:=Lt.mk1_end xs[k] kk
  simp (disch:=omega) only [go_sem,Aa,hni,hg,DS,DT,t0,c64,Gr]
  refine ⟨(i+1,(xs[k].mk1 kk).2),⟨k+1,by dsimp only; omega,hlt,by dsimp only; omega,by dsimp only; omega,hy2,hm⟩,by dsimp only; omega,?_⟩
  dsimp only
  rw [Lt.mk1_eq]
  simp only [and_self,and_true,true_and]
  try omega
 ·obtain ⟨hk1,hkn,hy,hm⟩:=hR
  have hdr:xs.drop k=[]:=zB (by omega)
  rw [hdr,Lt.mkS] at hm
  rw [hm]
  simp (disch:=omega) only [go_sem,Aa,hni]
theorem Ty (xs:List Lt):LH xs:=OK xs
theorem QeZ {o:Ob} {es:List (List OT)} (h:toTree [o]=[.tree es []]):(∃ a b,o=.row a b es)∨o=.tree es []:=by
 cases o with
 | row a b e=>obtain ⟨h1,h2⟩:=yJ h; cases h1; exact .inl ⟨a,b,rfl⟩
 | tree e hs=>obtain ⟨h1,h2⟩:=yJ h; cases h1; exact .inr rfl
 | _=>simp [toTree] at h
noncomputable def Cl.mkr (x:Cl) (k:Int):Cl × Int:=((Cl.mk ((Lt.mkS x.lits k).1)),(Lt.mkS x.lits k).2)
def I6:SC:=(.seq (.reg [⟨some 2,none,.boxv 60 1 (.t 0)⟩,⟨some 4,none,.mv (.c (.int .i64 0))⟩]) (.seq (.reg [⟨some 5,none,.faddr 0 (.t 2)⟩,⟨some 6,none,.load false 1 (.t 5)⟩,⟨some 7,none,.mv (.t 1)⟩,⟨some 8,none,.call 83 [(.t 6),(.t 7)]⟩,⟨some 1,none,.mv (.t 8)⟩]) (.seq (.reg [⟨some 9,none,.mv (.t 1)⟩,⟨some 4,none,.mv (.t 9)⟩]) .ret)))
theorem OL:codeOf Tryz.prog 31=some ⟨10,I6,[(.tmp 4)]⟩:=by kernel_rfl
theorem Dn:modes 31=⟨[true],.asis,none,false⟩:=by unfold modes; rfl
theorem OM (x:Cl) (k:Int) (o0:Ob) (h1:1≤k) (h2:k+(Lt.wtS x.lits:Nat)≤1099511627776) (t0:toTree [o0]=[.tree (x.lits.map Lt.o) []]):E 31 [.agg [.ref 0],.int .i64 k] [o0]=some (.int .i64 (x.mkr k).2,[.tree ((Lt.mkS x.lits k).1.map Lt.o) []]):=by
 have e0:=Lt.mkS_end x.lits k
 rw [Cl.mkr]
 dsimp only
 have c0:=LF x.lits k [o0] (by omega) (by omega) t0
 rcases QeZ t0 with ⟨a0,b0,rfl⟩ | rfl <;>
  (
  refine Ad OL Dn (of_decide_eq_true rfl) ?_
  simp (disch:=omega) only [I6,go_sem,Aa,c0,EQ])
def I7:SC:=(.seq (.reg [⟨some 2,none,.boxv 60 1 (.t 0)⟩,⟨some 4,none,.mv (.c (.int .i64 0))⟩]) (.seq (.reg [⟨some 5,none,.faddr 0 (.t 2)⟩,⟨some 6,none,.load false 1 (.t 5)⟩,⟨some 7,none,.mv (.t 1)⟩,⟨some 8,none,.call 84 [(.t 6),(.t 7)]⟩,⟨some 1,none,.mv (.t 8)⟩]) (.seq (.seq (.reg [⟨some 9,none,.mv (.t 1)⟩,⟨some 10,none,.bin .lss false (.t 9) (.c (.int .i64 0))⟩]) (.cond (.t 10) (.seq (.reg [⟨some 4,none,.mv (.c (.int .i64 (-(0+1))))⟩]) .ret) .skip)) (.seq (.reg [⟨some 11,none,.mv (.t 1)⟩,⟨some 4,none,.mv (.t 11)⟩]) .ret))))
theorem ON:codeOf Tryz.prog 38=some ⟨12,I7,[(.tmp 4)]⟩:=by kernel_rfl
theorem Do:modes 38=⟨[],.asis,none,false⟩:=by unfold modes; rfl
theorem Xk (x:Cl) (k:Int) (h1:1≤k) (h2:k+(Lt.wtS x.lits:Nat)≤1099511627776):E 38 [.agg [.arr ((Lt.mkS x.lits k).1.map Lt.d)],.int .i64 k] []=some (.int .i64 (x.mkr k).2,[]):=by
 have e0:=Lt.mkS_end x.lits k
 rw [Cl.mkr]
 dsimp only
 have c0:=Ty x.lits k (by omega) (by omega)
 refine Ad ON Do (of_decide_eq_true rfl) ?_
 simp (disch:=omega) only [I7,go_sem,Aa,c0,Hl]
def Nb:SC:=(.seq (.reg [⟨some 2,none,.boxv 24 2 (.t 0)⟩,⟨some 4,none,.mv (.c (.int .i64 0))⟩]) (.seq (.reg [⟨some 5,none,.mv (.t 1)⟩,⟨some 6,none,.faddr 0 (.t 2)⟩,⟨some 7,none,.load false 1 (.t 6)⟩,⟨some 8,none,.len true (.t 7)⟩,⟨some 9,none,.bin .sub false (.t 5) (.t 8)⟩,⟨some 1,none,.mv (.t 9)⟩]) (.seq (.seq (.reg [⟨some 10,none,.mv (.t 1)⟩,⟨some 11,none,.bin .lss false (.t 10) (.c (.int .i64 0))⟩]) (.cond (.t 11) (.seq (.reg [⟨some 4,none,.mv (.c (.int .i64 (-(0+1))))⟩]) .ret) .skip)) (.seq (.reg [⟨some 12,none,.faddr 1 (.t 2)⟩,⟨some 13,none,.load false 1 (.t 12)⟩,⟨some 14,none,.mv (.t 1)⟩,⟨some 15,none,.call 107 [(.t 13),(.t 14)]⟩,⟨some 1,none,.mv (.t 15)⟩]) (.seq (.seq (.reg [⟨some 16,none,.mv (.t 1)⟩,⟨some 17,none,.bin .lss false (.t 16) (.c (.int .i64 0))⟩]) (.cond (.t 17) (.seq (.reg [⟨some 4,none,.mv (.c (.int .i64 (-(0+1))))⟩]) .ret) .skip)) (.seq (.reg [⟨some 18,none,.mv (.t 1)⟩,⟨some 4,none,.mv (.t 18)⟩]) .ret))))))
theorem Ur:codeOf Tryz.prog 47=some ⟨19,Nb,[(.tmp 4)]⟩:=by kernel_rfl
theorem G0:modes 47=⟨[],.asis,none,false⟩:=by unfold modes; rfl
def LI:SC:=(.seq (.reg [⟨some 4,none,.mv (.c (.int .i64 0))⟩]) (.seq (.reg [⟨some 6,none,.mv (.t 1)⟩,⟨some 7,none,.mv (.t 0)⟩,⟨some 8,none,.len false (.t 7)⟩,⟨some 9,none,.bin .sub false (.t 6) (.t 8)⟩,⟨some 1,none,.mv (.t 9)⟩]) (.seq (.seq (.reg [⟨some 10,none,.mv (.t 1)⟩,⟨some 11,none,.bin .lss false (.t 10) (.c (.int .i64 0))⟩]) (.cond (.t 11) (.seq (.reg [⟨some 4,none,.mv (.c (.int .i64 (-(0+1))))⟩]) .ret) .skip)) (.seq (.seq (.reg [⟨some 5,none,.mv (.c (.int .i64 0))⟩]) (.block 0 (.loop [1,1,0,0,0,1,0,0,0,0,0,0,0,0,0,0,0,0,0,0,0,0,0,0,0,0,0] (.seq (.seq (.reg [⟨some 12,none,.mv (.t 5)⟩,⟨some 13,none,.mv (.t 0)⟩,⟨some 14,none,.len false (.t 13)⟩,⟨some 15,none,.bin .lss false (.t 12) (.t 14)⟩]) (.cond (.t 15) .skip (.exit 0))) (.seq (.block 1 (.seq (.reg [⟨some 18,none,.mv (.t 0)⟩,⟨some 19,none,.mv (.t 5)⟩,⟨some 20,none,.iaddr 2 (.t 18) (.t 19)⟩,⟨some 21,none,.load true 2 (.t 20)⟩,⟨some 22,none,.mv (.t 1)⟩,⟨some 23,none,.call 47 [(.t 21),(.t 22)]⟩,⟨some 1,none,.mv (.t 23)⟩]) (.seq (.reg [⟨some 24,none,.mv (.t 1)⟩,⟨some 25,none,.bin .lss false (.t 24) (.c (.int .i64 0))⟩]) (.cond (.t 25) (.seq (.reg [⟨some 4,none,.mv (.c (.int .i64 (-(0+1))))⟩]) .ret) .skip)))) (.reg [⟨some 16,none,.mv (.t 5)⟩,⟨some 17,none,.bin .add false (.t 16) (.c (.int .i64 1))⟩,⟨some 5,none,.mv (.t 17)⟩])))))) (.seq (.reg [⟨some 26,none,.mv (.t 1)⟩,⟨some 4,none,.mv (.t 26)⟩]) .ret)))))
theorem Tz:codeOf Tryz.prog 107=some ⟨27,LI,[(.tmp 4)]⟩:=by kernel_rfl
theorem Ib:modes 107=⟨[],.asis,none,false⟩:=by unfold modes; rfl
abbrev OO (x:Tm):Prop:=D.fits x.d→∀ left:Int,0≤left→left≤1048576→E 47 [x.sv,.int .i64 left] []=some (.int .i64 (szR left x.bulk),[])
abbrev VD (xs:List Tm):Prop:=D.fit (.arr (xs.map Tm.d))→∀ left:Int,0≤left→left≤1048576→E 107 [.arr (xs.map Tm.d),.int .i64 left] []=some (.int .i64 (szR left (xs.length+Tm.sumB xs:Nat)),[])
theorem Xl (xs:List Tm) (h:∀ x∈xs,OO x):VD xs:=by
 intro hfit left h0 h1
 simp only [D.fit,zI] at hfit
 have q0:=Bi left (xs.length+Tm.sumB xs)
 refine Ad Tz Ib (of_decide_eq_true rfl) ?_
 simp (disch:=omega) only [LI,go_sem,Aa]
 repeat' (refine CL (fun hq=>?_) (fun hq=>?_) <;> (first | replace hq:=Ar.1 hq | replace hq:=C7.1 hq) <;> (try simp (disch:=omega) only [go_sem,Aa]))
 ·omega
 refine go_loop (α:=Int × Int) (fun a=>⟨slots 27 0 [(0,.arr (xs.map Tm.d)),(1,.int .i64 a.2),(5,.int .i64 a.1)],[]⟩) (fun a=>∃ k:Nat,a.1=k∧k≤xs.length∧0≤a.2∧a.2≤1048576∧szR a.2 (Tm.sumB (xs.drop k))=szR left (xs.length+Tm.sumB xs:Nat)) (fun a=>xs.length-a.1.toNat) (0,left-xs.length) ⟨0,rfl,zH _,by omega,by omega,?_⟩ (by simp (disch:=omega) only [go_sem,Aa]) ?_
 ·have q1:=Bi (left-xs.length) (Tm.sumB xs)
  rw [zD]
  dsimp only
  omega
 ·rintro ⟨i,l⟩ ⟨k,hi,hk,hl0,hl1,hs⟩
  dsimp only at hi hl0 hl1 hs
  rcases zC k xs.length with hlt | hge
  ·have hg:=get_at Tm.d hlt
   rw [Tm.d_eq] at hg
   have hd:Tm.sumB (xs.drop k)=xs[k].bulk+Tm.sumB (xs.drop (k+1)):=by rw [zA hlt,Tm.sumB]
   rw [hd] at hs
   have hc:=h xs[k] (zF hlt) (D.Ms hfit.2 _ (zF hlt)) l hl0 hl1
   have q1:=Bi l xs[k].bulk
   have q2:=Bi l (xs[k].bulk+Tm.sumB (xs.drop (k+1)))
   have q3:=Bi (l-xs[k].bulk) (Tm.sumB (xs.drop (k+1)))
   have hn:i.toNat=k:=by omega
   simp (disch:=omega) only [go_sem,Aa,hn,hg,hc,G0]
   repeat' (refine CL (fun hq=>?_) (fun hq=>?_) <;> (first | replace hq:=Ar.1 hq | replace hq:=C7.1 hq) <;> (try simp (disch:=omega) only [go_sem,Aa]))
   ·omega
   ·refine ⟨(i+1,l-xs[k].bulk),⟨k+1,by dsimp only; omega,hlt,by dsimp only; omega,by dsimp only; omega,by dsimp only; omega⟩,by dsimp only; omega,?_⟩
    have e:szR l xs[k].bulk=l-xs[k].bulk:=by omega
    simp only [e,and_self]
  ·have hd:xs.drop k=[]:=zB hge
   rw [hd] at hs
   have q1:=Bi l (Tm.sumB [])
   simp only [Tm.sumB] at hs q1
   simp (disch:=omega) only [go_sem,Aa]
   omega
theorem YS (x:Tm) (h_args:VD x.args):OO x:=by
 intro hfit left h0 h1
 rw [Tm.d_eq] at hfit
 simp only [D.fits,D.fit] at hfit
 replace h_args:=h_args (by simp only [D.fit,zI]; simp only [zI] at hfit; simp only [hfit,and_self])
 have q:=Bi left x.bulk
 have qb:=Tm.bulk_eq x
 have q0:=Bi (left-(x.name.size:Int)) ((x.args.length+Tm.sumB x.args))
 refine Ad Ur G0 (of_decide_eq_true rfl) ?_
 simp (disch:=omega) only [Nb,go_sem,Aa,h_args,Ib]
 repeat' (refine CL (fun hq=>?_) (fun hq=>?_) <;> (first | replace hq:=Ar.1 hq | replace hq:=C7.1 hq) <;> (try simp (disch:=omega) only [go_sem,Aa,h_args,Ib]))
 all_goals omega
theorem YT (x:Tm):OO x:=YS x (Xl x.args fun y hy=>YT y)
termination_by SizeOf.sizeOf x
decreasing_by exact Tm.lt_of_mem hy
def J8:SC:=(.seq (.reg [⟨some 2,none,.boxv 165 3 (.t 0)⟩,⟨some 4,none,.mv (.c (.int .i64 0))⟩]) (.seq (.reg [⟨some 5,none,.faddr 1 (.t 2)⟩,⟨some 6,none,.load true 2 (.t 5)⟩,⟨some 7,none,.mv (.t 1)⟩,⟨some 8,none,.call 47 [(.t 6),(.t 7)]⟩,⟨some 1,none,.mv (.t 8)⟩]) (.seq (.seq (.reg [⟨some 9,none,.mv (.t 1)⟩,⟨some 10,none,.bin .lss false (.t 9) (.c (.int .i64 0))⟩]) (.cond (.t 10) (.seq (.reg [⟨some 4,none,.mv (.c (.int .i64 (-(0+1))))⟩]) .ret) .skip)) (.seq (.reg [⟨some 11,none,.mv (.t 1)⟩,⟨some 4,none,.mv (.t 11)⟩]) .ret))))
theorem PV:codeOf Tryz.prog 142=some ⟨12,J8,[(.tmp 4)]⟩:=by kernel_rfl
theorem J9:modes 142=⟨[],.asis,none,false⟩:=by unfold modes; rfl
def I8:SC:=(.seq (.reg [⟨some 4,none,.mv (.c (.int .i64 0))⟩]) (.seq (.reg [⟨some 6,none,.mv (.t 1)⟩,⟨some 7,none,.mv (.t 0)⟩,⟨some 8,none,.len false (.t 7)⟩,⟨some 9,none,.bin .sub false (.t 6) (.t 8)⟩,⟨some 1,none,.mv (.t 9)⟩]) (.seq (.seq (.reg [⟨some 10,none,.mv (.t 1)⟩,⟨some 11,none,.bin .lss false (.t 10) (.c (.int .i64 0))⟩]) (.cond (.t 11) (.seq (.reg [⟨some 4,none,.mv (.c (.int .i64 (-(0+1))))⟩]) .ret) .skip)) (.seq (.seq (.reg [⟨some 5,none,.mv (.c (.int .i64 0))⟩]) (.block 0 (.loop [1,1,0,0,0,1,0,0,0,0,0,0,0,0,0,0,0,0,0,0,0,0,0,0,0,0,0] (.seq (.seq (.reg [⟨some 12,none,.mv (.t 5)⟩,⟨some 13,none,.mv (.t 0)⟩,⟨some 14,none,.len false (.t 13)⟩,⟨some 15,none,.bin .lss false (.t 12) (.t 14)⟩]) (.cond (.t 15) .skip (.exit 0))) (.seq (.block 1 (.seq (.reg [⟨some 18,none,.mv (.t 0)⟩,⟨some 19,none,.mv (.t 5)⟩,⟨some 20,none,.iaddr 3 (.t 18) (.t 19)⟩,⟨some 21,none,.load true 3 (.t 20)⟩,⟨some 22,none,.mv (.t 1)⟩,⟨some 23,none,.call 142 [(.t 21),(.t 22)]⟩,⟨some 1,none,.mv (.t 23)⟩]) (.seq (.reg [⟨some 24,none,.mv (.t 1)⟩,⟨some 25,none,.bin .lss false (.t 24) (.c (.int .i64 0))⟩]) (.cond (.t 25) (.seq (.reg [⟨some 4,none,.mv (.c (.int .i64 (-(0+1))))⟩]) .ret) .skip)))) (.reg [⟨some 16,none,.mv (.t 5)⟩,⟨some 17,none,.bin .add false (.t 16) (.c (.int .i64 1))⟩,⟨some 5,none,.mv (.t 17)⟩])))))) (.seq (.reg [⟨some 26,none,.mv (.t 1)⟩,⟨some 4,none,.mv (.t 26)⟩]) .ret)))))
theorem OP:codeOf Tryz.prog 75=some ⟨27,I8,[(.tmp 4)]⟩:=by kernel_rfl
theorem FN:modes 75=⟨[],.asis,none,false⟩:=by unfold modes; rfl
abbrev LJ (x:Lt):Prop:=D.fits x.d→∀ left:Int,0≤left→left≤1048576→E 142 [x.sv,.int .i64 left] []=some (.int .i64 (szR left x.bulk),[])
abbrev OQ (xs:List Lt):Prop:=D.fit (.arr (xs.map Lt.d))→∀ left:Int,0≤left→left≤1048576→E 75 [.arr (xs.map Lt.d),.int .i64 left] []=some (.int .i64 (szR left (xs.length+Lt.sumB xs:Nat)),[])
theorem Rb (xs:List Lt) (h:∀ x∈xs,LJ x):OQ xs:=by
 intro hfit left h0 h1
 simp only [D.fit,zI] at hfit
 have q0:=Bi left (xs.length+Lt.sumB xs)
 refine Ad OP FN (of_decide_eq_true rfl) ?_
 simp (disch:=omega) only [I8,go_sem,Aa]
 repeat' (refine CL (fun hq=>?_) (fun hq=>?_) <;> (first | replace hq:=Ar.1 hq | replace hq:=C7.1 hq) <;> (try simp (disch:=omega) only [go_sem,Aa]))
 ·omega
 refine go_loop (α:=Int × Int) (fun a=>⟨slots 27 0 [(0,.arr (xs.map Lt.d)),(1,.int .i64 a.2),(5,.int .i64 a.1)],[]⟩) (fun a=>∃ k:Nat,a.1=k∧k≤xs.length∧0≤a.2∧a.2≤1048576∧szR a.2 (Lt.sumB (xs.drop k))=szR left (xs.length+Lt.sumB xs:Nat)) (fun a=>xs.length-a.1.toNat) (0,left-xs.length) ⟨0,rfl,zH _,by omega,by omega,?_⟩ (by simp (disch:=omega) only [go_sem,Aa]) ?_
 ·have q1:=Bi (left-xs.length) (Lt.sumB xs)
  rw [zD]
  dsimp only
  omega
 ·rintro ⟨i,l⟩ ⟨k,hi,hk,hl0,hl1,hs⟩
  dsimp only at hi hl0 hl1 hs
  rcases zC k xs.length with hlt | hge
  ·have hg:=get_at Lt.d hlt
   rw [Lt.d_eq] at hg
   have hd:Lt.sumB (xs.drop k)=xs[k].bulk+Lt.sumB (xs.drop (k+1)):=by rw [zA hlt,Lt.sumB]
   rw [hd] at hs
   have hc:=h xs[k] (zF hlt) (D.Ms hfit.2 _ (zF hlt)) l hl0 hl1
   have q1:=Bi l xs[k].bulk
   have q2:=Bi l (xs[k].bulk+Lt.sumB (xs.drop (k+1)))
   have q3:=Bi (l-xs[k].bulk) (Lt.sumB (xs.drop (k+1)))
   have hn:i.toNat=k:=by omega
   simp (disch:=omega) only [go_sem,Aa,hn,hg,hc,J9]
   repeat' (refine CL (fun hq=>?_) (fun hq=>?_) <;> (first | replace hq:=Ar.1 hq | replace hq:=C7.1 hq) <;> (try simp (disch:=omega) only [go_sem,Aa]))
   ·omega
   ·refine ⟨(i+1,l-xs[k].bulk),⟨k+1,by dsimp only; omega,hlt,by dsimp only; omega,by dsimp only; omega,by dsimp only; omega⟩,by dsimp only; omega,?_⟩
    have e:szR l xs[k].bulk=l-xs[k].bulk:=by omega
    simp only [e,and_self]
  ·have hd:xs.drop k=[]:=zB hge
   rw [hd] at hs
   have q1:=Bi l (Lt.sumB [])
   simp only [Lt.sumB] at hs q1
   simp (disch:=omega) only [go_sem,Aa]
   omega
theorem T0 (x:Lt) (h_atom:OO x.atom):LJ x:=by
 intro hfit left h0 h1
 rw [Lt.d_eq] at hfit
 simp only [D.fits,D.fit] at hfit
 replace h_atom:=h_atom (by rw [Tm.d_eq]; simp only [D.fits,D.fit,hfit,and_self])
 have q:=Bi left x.bulk
 have qb:=Lt.bulk_eq x
 have q0:=Bi left (x.atom.bulk)
 refine Ad PV J9 (of_decide_eq_true rfl) ?_
 simp (disch:=omega) only [J8,go_sem,Aa,h_atom,G0]
 repeat' (refine CL (fun hq=>?_) (fun hq=>?_) <;> (first | replace hq:=Ar.1 hq | replace hq:=C7.1 hq) <;> (try simp (disch:=omega) only [go_sem,Aa,h_atom,G0]))
 all_goals omega
theorem YU (x:Lt):LJ x:=T0 x (YT x.atom)
def KB:SC:=(.seq (.reg [⟨some 2,none,.boxv 53 1 (.t 0)⟩,⟨some 4,none,.mv (.c (.int .i64 0))⟩]) (.seq (.reg [⟨some 5,none,.faddr 0 (.t 2)⟩,⟨some 6,none,.load false 1 (.t 5)⟩,⟨some 7,none,.mv (.t 1)⟩,⟨some 8,none,.call 75 [(.t 6),(.t 7)]⟩,⟨some 1,none,.mv (.t 8)⟩]) (.seq (.seq (.reg [⟨some 9,none,.mv (.t 1)⟩,⟨some 10,none,.bin .lss false (.t 9) (.c (.int .i64 0))⟩]) (.cond (.t 10) (.seq (.reg [⟨some 4,none,.mv (.c (.int .i64 (-(0+1))))⟩]) .ret) .skip)) (.seq (.reg [⟨some 11,none,.mv (.t 1)⟩,⟨some 4,none,.mv (.t 11)⟩]) .ret))))
theorem Rc:codeOf Tryz.prog 25=some ⟨12,KB,[(.tmp 4)]⟩:=by kernel_rfl
theorem Ch:modes 25=⟨[],.asis,none,false⟩:=by unfold modes; rfl
def JA:SC:=(.seq (.reg [⟨some 4,none,.mv (.c (.int .i64 0))⟩]) (.seq (.reg [⟨some 6,none,.mv (.t 1)⟩,⟨some 7,none,.mv (.t 0)⟩,⟨some 8,none,.len false (.t 7)⟩,⟨some 9,none,.bin .sub false (.t 6) (.t 8)⟩,⟨some 1,none,.mv (.t 9)⟩]) (.seq (.seq (.reg [⟨some 10,none,.mv (.t 1)⟩,⟨some 11,none,.bin .lss false (.t 10) (.c (.int .i64 0))⟩]) (.cond (.t 11) (.seq (.reg [⟨some 4,none,.mv (.c (.int .i64 (-(0+1))))⟩]) .ret) .skip)) (.seq (.seq (.reg [⟨some 5,none,.mv (.c (.int .i64 0))⟩]) (.block 0 (.loop [1,1,0,0,0,1,0,0,0,0,0,0,0,0,0,0,0,0,0,0,0,0,0,0,0,0,0] (.seq (.seq (.reg [⟨some 12,none,.mv (.t 5)⟩,⟨some 13,none,.mv (.t 0)⟩,⟨some 14,none,.len false (.t 13)⟩,⟨some 15,none,.bin .lss false (.t 12) (.t 14)⟩]) (.cond (.t 15) .skip (.exit 0))) (.seq (.block 1 (.seq (.reg [⟨some 18,none,.mv (.t 0)⟩,⟨some 19,none,.mv (.t 5)⟩,⟨some 20,none,.iaddr 1 (.t 18) (.t 19)⟩,⟨some 21,none,.load true 1 (.t 20)⟩,⟨some 22,none,.mv (.t 1)⟩,⟨some 23,none,.call 25 [(.t 21),(.t 22)]⟩,⟨some 1,none,.mv (.t 23)⟩]) (.seq (.reg [⟨some 24,none,.mv (.t 1)⟩,⟨some 25,none,.bin .lss false (.t 24) (.c (.int .i64 0))⟩]) (.cond (.t 25) (.seq (.reg [⟨some 4,none,.mv (.c (.int .i64 (-(0+1))))⟩]) .ret) .skip)))) (.reg [⟨some 16,none,.mv (.t 5)⟩,⟨some 17,none,.bin .add false (.t 16) (.c (.int .i64 1))⟩,⟨some 5,none,.mv (.t 17)⟩])))))) (.seq (.reg [⟨some 26,none,.mv (.t 1)⟩,⟨some 4,none,.mv (.t 26)⟩]) .ret)))))
theorem PW:codeOf Tryz.prog 34=some ⟨27,JA,[(.tmp 4)]⟩:=by kernel_rfl
theorem CN:modes 34=⟨[],.asis,none,false⟩:=by unfold modes; rfl
abbrev N9 (x:Cl):Prop:=D.fits x.d→∀ left:Int,0≤left→left≤1048576→E 25 [x.sv,.int .i64 left] []=some (.int .i64 (szR left x.bulk),[])
abbrev QG (xs:List Cl):Prop:=D.fit (.arr (xs.map Cl.d))→∀ left:Int,0≤left→left≤1048576→E 34 [.arr (xs.map Cl.d),.int .i64 left] []=some (.int .i64 (szR left (xs.length+Cl.sumB xs:Nat)),[])
theorem T1 (xs:List Cl) (h:∀ x∈xs,N9 x):QG xs:=by
 intro hfit left h0 h1
 simp only [D.fit,zI] at hfit
 have q0:=Bi left (xs.length+Cl.sumB xs)
 refine Ad PW CN (of_decide_eq_true rfl) ?_
 simp (disch:=omega) only [JA,go_sem,Aa]
 repeat' (refine CL (fun hq=>?_) (fun hq=>?_) <;> (first | replace hq:=Ar.1 hq | replace hq:=C7.1 hq) <;> (try simp (disch:=omega) only [go_sem,Aa]))
 ·omega
 refine go_loop (α:=Int × Int) (fun a=>⟨slots 27 0 [(0,.arr (xs.map Cl.d)),(1,.int .i64 a.2),(5,.int .i64 a.1)],[]⟩) (fun a=>∃ k:Nat,a.1=k∧k≤xs.length∧0≤a.2∧a.2≤1048576∧szR a.2 (Cl.sumB (xs.drop k))=szR left (xs.length+Cl.sumB xs:Nat)) (fun a=>xs.length-a.1.toNat) (0,left-xs.length) ⟨0,rfl,zH _,by omega,by omega,?_⟩ (by simp (disch:=omega) only [go_sem,Aa]) ?_
 ·have q1:=Bi (left-xs.length) (Cl.sumB xs)
  rw [zD]
  dsimp only
  omega
 ·rintro ⟨i,l⟩ ⟨k,hi,hk,hl0,hl1,hs⟩
  dsimp only at hi hl0 hl1 hs
  rcases zC k xs.length with hlt | hge
  ·have hg:=get_at Cl.d hlt
   rw [Cl.d_eq] at hg
   have hd:Cl.sumB (xs.drop k)=xs[k].bulk+Cl.sumB (xs.drop (k+1)):=by rw [zA hlt,Cl.sumB]
   rw [hd] at hs
   have hc:=h xs[k] (zF hlt) (D.Ms hfit.2 _ (zF hlt)) l hl0 hl1
   have q1:=Bi l xs[k].bulk
   have q2:=Bi l (xs[k].bulk+Cl.sumB (xs.drop (k+1)))
   have q3:=Bi (l-xs[k].bulk) (Cl.sumB (xs.drop (k+1)))
   have hn:i.toNat=k:=by omega
   simp (disch:=omega) only [go_sem,Aa,hn,hg,hc,Ch]
   repeat' (refine CL (fun hq=>?_) (fun hq=>?_) <;> (first | replace hq:=Ar.1 hq | replace hq:=C7.1 hq) <;> (try simp (disch:=omega) only [go_sem,Aa]))
   ·omega
   ·refine ⟨(i+1,l-xs[k].bulk),⟨k+1,by dsimp only; omega,hlt,by dsimp only; omega,by dsimp only; omega,by dsimp only; omega⟩,by dsimp only; omega,?_⟩
    have e:szR l xs[k].bulk=l-xs[k].bulk:=by omega
    simp only [e,and_self]
  ·have hd:xs.drop k=[]:=zB hge
   rw [hd] at hs
   have q1:=Bi l (Cl.sumB [])
   simp only [Cl.sumB] at hs q1
   simp (disch:=omega) only [go_sem,Aa]
   omega
theorem Us (x:Cl) (h_lits:OQ x.lits):N9 x:=by
 intro hfit left h0 h1
 rw [Cl.d_eq] at hfit
 simp only [D.fits,D.fit] at hfit
 replace h_lits:=h_lits (by simp only [D.fit,zI]; simp only [zI] at hfit; simp only [hfit,and_self])
 have q:=Bi left x.bulk
 have qb:=Cl.bulk_eq x
 have q0:=Bi left ((x.lits.length+Lt.sumB x.lits))
 refine Ad Rc Ch (of_decide_eq_true rfl) ?_
 simp (disch:=omega) only [KB,go_sem,Aa,h_lits,FN]
 repeat' (refine CL (fun hq=>?_) (fun hq=>?_) <;> (first | replace hq:=Ar.1 hq | replace hq:=C7.1 hq) <;> (try simp (disch:=omega) only [go_sem,Aa,h_lits,FN]))
 all_goals omega
theorem T2 (x:Cl):N9 x:=Us x (Rb x.lits fun y hy=>YU y)
theorem YV (xs:List Cl):QG xs:=T1 xs fun x _=>T2 x
def Nc:SC:=(.seq (.reg [⟨some 1,none,.boxv 24 2 (.t 0)⟩,⟨(some 2),none,(.alloc 33 [(.str ⟨#[]⟩),.nil])⟩]) (.seq (.reg [⟨(some 3),none,(.alloc 33 [(.str ⟨#[]⟩),.nil])⟩]) (.seq (.reg [⟨some 4,none,.faddr 0 (.t 1)⟩,⟨some 5,none,.load false 1 (.t 4)⟩,⟨some 6,none,.faddr 0 (.t 3)⟩,⟨none,none,(.store 1 (.t 6) (.t 5))⟩]) (.seq (.reg [⟨some 7,none,.faddr 1 (.t 1)⟩,⟨some 8,none,.load false 1 (.t 7)⟩,⟨some 9,none,.call 115 [(.t 8)]⟩,⟨some 10,none,.faddr 1 (.t 3)⟩,⟨none,none,(.store 1 (.t 10) (.t 9))⟩]) (.seq (.reg [⟨some 11,none,.load true 2 (.t 3)⟩,⟨none,none,(.store 2 (.t 2) (.t 11))⟩]) .ret)))))
theorem Ut:codeOf Tryz.prog 52=some ⟨12,Nc,[(.cell 2 true 2)]⟩:=by kernel_rfl
theorem Jc:modes 52=⟨[],.asis,none,false⟩:=by unfold modes; rfl
def LK:SC:=(.seq (.reg [⟨some 2,none,.mv (.c .nil)⟩]) (.seq (.reg [⟨some 5,none,.mv (.t 0)⟩,⟨some 6,none,.len false (.t 5)⟩,⟨(some 7),none,(.mkslice 33 2 40 [(.str ⟨#[]⟩),.nil] (.t 6))⟩,⟨some 3,none,.mv (.t 7)⟩]) (.seq (.seq (.reg [⟨some 4,none,.mv (.c (.int .i64 0))⟩]) (.block 0 (.loop [1,0,0,1,1,0,0,0,0,0,0,0,0,0,0,0,0,0,0,0,0,0,0] (.seq (.seq (.reg [⟨some 8,none,.mv (.t 4)⟩,⟨some 9,none,.mv (.t 0)⟩,⟨some 10,none,.len false (.t 9)⟩,⟨some 11,none,.bin .lss false (.t 8) (.t 10)⟩]) (.cond (.t 11) .skip (.exit 0))) (.seq (.block 1 (.reg [⟨some 14,none,.mv (.t 3)⟩,⟨some 15,none,.mv (.t 4)⟩,⟨some 16,none,.mv (.t 0)⟩,⟨some 17,none,.mv (.t 4)⟩,⟨some 18,none,.iaddr 2 (.t 16) (.t 17)⟩,⟨some 19,none,.load true 2 (.t 18)⟩,⟨some 20,none,.call 52 [(.t 19)]⟩,⟨some 21,none,.iaddr 2 (.t 14) (.t 15)⟩,⟨none,none,(.store 2 (.t 21) (.t 20))⟩])) (.reg [⟨some 12,none,.mv (.t 4)⟩,⟨some 13,none,.bin .add false (.t 12) (.c (.int .i64 1))⟩,⟨some 4,none,.mv (.t 13)⟩])))))) (.seq (.reg [⟨some 22,none,.mv (.t 3)⟩,⟨some 2,none,.mv (.t 22)⟩]) .ret))))
theorem T3:codeOf Tryz.prog 115=some ⟨23,LK,[(.tmp 2)]⟩:=by kernel_rfl
theorem LL:modes 115=⟨[],.asis,none,false⟩:=by unfold modes; rfl
abbrev OR (x:Tm):Prop:=x.bulk≤1048576→E 52 [x.sv] []=some (x.osv,x.obs)
abbrev VE (xs:List Tm):Prop:=xs.length+Tm.sumB xs≤1048576→E 115 [.arr (xs.map Tm.d)] []=some (.ref 0,[.row 33 2 (xs.map Tm.o)])
theorem Xm (xs:List Tm) (h:∀ x∈xs,OR x):VE xs:=by
 intro hb
 refine Ad T3 LL (of_decide_eq_true rfl) ?_
 simp (disch:=omega) only [LK,go_sem,Aa]
 refine go_loop (α:=Int) (fun i=>⟨slots 23 0 [(0,.arr (xs.map Tm.d)),(3,.ref 0),(4,.int .i64 i)],[.row 33 2 (FW Tm.o [.str ⟨#[]⟩,.ow []] xs i.toNat)]⟩) (fun i=>∃ k:Nat,i=k∧k≤xs.length) (fun i=>xs.length-i.toNat) 0 ⟨0,rfl,zH _⟩ (by simp (disch:=omega) only [go_sem,Aa,HM,zS]) ?_
 ·rintro i ⟨k,rfl,hk⟩
  obtain ⟨i,hi⟩:∃ i:Int,i=(k:Int):=⟨_,rfl⟩
  rw [←hi]
  have hn:i.toNat=k:=by omega
  have hn1:(i+1).toNat=k+1:=by omega
  rcases zC k xs.length with hlt | hge
  ·have hg:=get_at Tm.d hlt
   rw [Tm.d_eq] at hg
   have hz:=Jt Tm.o [.str ⟨#[]⟩,.ow []] hlt
   have hle:=Tm.bulk_le xs k hlt
   have hc:=h xs[k] (zF hlt) (by omega)
   have hs:=Ju Tm.o [.str ⟨#[]⟩,.ow []] hlt
   rw [Tm.o_eq] at hs
   simp (disch:=omega) only [go_sem,Aa,hn,hg,hc,hz,Jr,Jc,Tm.osv,Tm.obs]
   refine ⟨i+1,⟨k+1,by omega,hlt⟩,by omega,?_⟩
   simp (disch:=omega) only [go_sem,Aa,hn1,hs]
  ·obtain rfl:k=xs.length:=by omega
   simp (disch:=omega) only [go_sem,Aa,hn,Js]
theorem YW (x:Tm) (h_args:VE x.args):OR x:=by
 intro hb
 have qb:=Tm.bulk_eq x
 replace h_args:=h_args (by omega)
 refine Ad Ut Jc (of_decide_eq_true rfl) ?_
 simp (disch:=omega) only [Nc,go_sem,Aa,h_args,LL]
theorem YX (x:Tm):OR x:=YW x (Xm x.args fun y hy=>YX y)
termination_by SizeOf.sizeOf x
decreasing_by exact Tm.lt_of_mem hy
def JB:SC:=(.seq (.reg [⟨some 1,none,.boxv 165 3 (.t 0)⟩,⟨(some 2),none,(.alloc 122 [(.bool false),(.str ⟨#[]⟩),.nil])⟩]) (.seq (.reg [⟨(some 3),none,(.alloc 122 [(.bool false),(.str ⟨#[]⟩),.nil])⟩]) (.seq (.reg [⟨some 4,none,.faddr 0 (.t 1)⟩,⟨some 5,none,.load false 1 (.t 4)⟩,⟨some 6,none,.faddr 0 (.t 3)⟩,⟨none,none,(.store 1 (.t 6) (.t 5))⟩]) (.seq (.reg [⟨some 7,none,.faddr 1 (.t 1)⟩,⟨some 8,none,.load true 2 (.t 7)⟩,⟨some 9,none,.call 52 [(.t 8)]⟩,⟨some 10,none,.faddr 1 (.t 3)⟩,⟨none,none,(.store 2 (.t 10) (.t 9))⟩]) (.seq (.reg [⟨some 11,none,.load true 3 (.t 3)⟩,⟨none,none,(.store 3 (.t 2) (.t 11))⟩]) .ret)))))
theorem PX:codeOf Tryz.prog 146=some ⟨12,JB,[(.cell 2 true 3)]⟩:=by kernel_rfl
theorem JC:modes 146=⟨[],.asis,none,false⟩:=by unfold modes; rfl
def I9:SC:=(.seq (.reg [⟨some 2,none,.mv (.c .nil)⟩]) (.seq (.reg [⟨some 5,none,.mv (.t 0)⟩,⟨some 6,none,.len false (.t 5)⟩,⟨(some 7),none,(.mkslice 122 3 48 [(.bool false),(.str ⟨#[]⟩),.nil] (.t 6))⟩,⟨some 3,none,.mv (.t 7)⟩]) (.seq (.seq (.reg [⟨some 4,none,.mv (.c (.int .i64 0))⟩]) (.block 0 (.loop [1,0,0,1,1,0,0,0,0,0,0,0,0,0,0,0,0,0,0,0,0,0,0] (.seq (.seq (.reg [⟨some 8,none,.mv (.t 4)⟩,⟨some 9,none,.mv (.t 0)⟩,⟨some 10,none,.len false (.t 9)⟩,⟨some 11,none,.bin .lss false (.t 8) (.t 10)⟩]) (.cond (.t 11) .skip (.exit 0))) (.seq (.block 1 (.reg [⟨some 14,none,.mv (.t 3)⟩,⟨some 15,none,.mv (.t 4)⟩,⟨some 16,none,.mv (.t 0)⟩,⟨some 17,none,.mv (.t 4)⟩,⟨some 18,none,.iaddr 3 (.t 16) (.t 17)⟩,⟨some 19,none,.load true 3 (.t 18)⟩,⟨some 20,none,.call 146 [(.t 19)]⟩,⟨some 21,none,.iaddr 3 (.t 14) (.t 15)⟩,⟨none,none,(.store 3 (.t 21) (.t 20))⟩])) (.reg [⟨some 12,none,.mv (.t 4)⟩,⟨some 13,none,.bin .add false (.t 12) (.c (.int .i64 1))⟩,⟨some 4,none,.mv (.t 13)⟩])))))) (.seq (.reg [⟨some 22,none,.mv (.t 3)⟩,⟨some 2,none,.mv (.t 22)⟩]) .ret))))
theorem OS:codeOf Tryz.prog 78=some ⟨23,I9,[(.tmp 2)]⟩:=by kernel_rfl
theorem IA:modes 78=⟨[],.asis,none,false⟩:=by unfold modes; rfl
abbrev LM (x:Lt):Prop:=x.bulk≤1048576→E 146 [x.sv] []=some (x.osv,x.obs)
abbrev OU (xs:List Lt):Prop:=xs.length+Lt.sumB xs≤1048576→E 78 [.arr (xs.map Lt.d)] []=some (.ref 0,[.row 122 3 (xs.map Lt.o)])
theorem Rd (xs:List Lt) (h:∀ x∈xs,LM x):OU xs:=by
 intro hb
 refine Ad OS IA (of_decide_eq_true rfl) ?_
 simp (disch:=omega) only [I9,go_sem,Aa]
 refine go_loop (α:=Int) (fun i=>⟨slots 23 0 [(0,.arr (xs.map Lt.d)),(3,.ref 0),(4,.int .i64 i)],[.row 122 3 (FW Lt.o [.bool false,.str ⟨#[]⟩,.ow []] xs i.toNat)]⟩) (fun i=>∃ k:Nat,i=k∧k≤xs.length) (fun i=>xs.length-i.toNat) 0 ⟨0,rfl,zH _⟩ (by simp (disch:=omega) only [go_sem,Aa,HM,zS]) ?_
 ·rintro i ⟨k,rfl,hk⟩
  obtain ⟨i,hi⟩:∃ i:Int,i=(k:Int):=⟨_,rfl⟩
  rw [←hi]
  have hn:i.toNat=k:=by omega
  have hn1:(i+1).toNat=k+1:=by omega
  rcases zC k xs.length with hlt | hge
  ·have hg:=get_at Lt.d hlt
   rw [Lt.d_eq] at hg
   have hz:=Jt Lt.o [.bool false,.str ⟨#[]⟩,.ow []] hlt
   have hle:=Lt.bulk_le xs k hlt
   have hc:=h xs[k] (zF hlt) (by omega)
   have hs:=Ju Lt.o [.bool false,.str ⟨#[]⟩,.ow []] hlt
   rw [Lt.o_eq] at hs
   simp (disch:=omega) only [go_sem,Aa,hn,hg,hc,hz,Jr,JC,Lt.osv,Lt.obs]
   refine ⟨i+1,⟨k+1,by omega,hlt⟩,by omega,?_⟩
   simp (disch:=omega) only [go_sem,Aa,hn1,hs]
  ·obtain rfl:k=xs.length:=by omega
   simp (disch:=omega) only [go_sem,Aa,hn,Js]
theorem T4 (x:Lt) (h_atom:OR x.atom):LM x:=by
 intro hb
 have qb:=Lt.bulk_eq x
 replace h_atom:=h_atom (by omega)
 refine Ad PX JC (of_decide_eq_true rfl) ?_
 simp (disch:=omega) only [JB,go_sem,Aa,h_atom,Jc]
theorem YY (x:Lt):LM x:=T4 x (YX x.atom)
def KC:SC:=(.seq (.reg [⟨some 1,none,.boxv 53 1 (.t 0)⟩,⟨some 2,none,.alloc 60 [.nil]⟩]) (.seq (.reg [⟨some 3,none,.alloc 60 [.nil]⟩]) (.seq (.reg [⟨some 4,none,.faddr 0 (.t 1)⟩,⟨some 5,none,.load false 1 (.t 4)⟩,⟨some 6,none,.call 78 [(.t 5)]⟩,⟨some 7,none,.faddr 0 (.t 3)⟩,⟨none,none,(.store 1 (.t 7) (.t 6))⟩]) (.seq (.reg [⟨some 8,none,.load true 1 (.t 3)⟩,⟨none,none,(.store 1 (.t 2) (.t 8))⟩]) .ret))))
theorem Re:codeOf Tryz.prog 27=some ⟨9,KC,[(.cell 2 true 1)]⟩:=by kernel_rfl
theorem Di:modes 27=⟨[],.asis,none,false⟩:=by unfold modes; rfl
def JD:SC:=(.seq (.reg [⟨some 2,none,.mv (.c .nil)⟩]) (.seq (.reg [⟨some 5,none,.mv (.t 0)⟩,⟨some 6,none,.len false (.t 5)⟩,⟨some 7,none,.mkslice 60 1 24 [.nil] (.t 6)⟩,⟨some 3,none,.mv (.t 7)⟩]) (.seq (.seq (.reg [⟨some 4,none,.mv (.c (.int .i64 0))⟩]) (.block 0 (.loop [1,0,0,1,1,0,0,0,0,0,0,0,0,0,0,0,0,0,0,0,0,0,0] (.seq (.seq (.reg [⟨some 8,none,.mv (.t 4)⟩,⟨some 9,none,.mv (.t 0)⟩,⟨some 10,none,.len false (.t 9)⟩,⟨some 11,none,.bin .lss false (.t 8) (.t 10)⟩]) (.cond (.t 11) .skip (.exit 0))) (.seq (.block 1 (.reg [⟨some 14,none,.mv (.t 3)⟩,⟨some 15,none,.mv (.t 4)⟩,⟨some 16,none,.mv (.t 0)⟩,⟨some 17,none,.mv (.t 4)⟩,⟨some 18,none,.iaddr 1 (.t 16) (.t 17)⟩,⟨some 19,none,.load true 1 (.t 18)⟩,⟨some 20,none,.call 27 [(.t 19)]⟩,⟨some 21,none,.iaddr 1 (.t 14) (.t 15)⟩,⟨none,none,(.store 1 (.t 21) (.t 20))⟩])) (.reg [⟨some 12,none,.mv (.t 4)⟩,⟨some 13,none,.bin .add false (.t 12) (.c (.int .i64 1))⟩,⟨some 4,none,.mv (.t 13)⟩])))))) (.seq (.reg [⟨some 22,none,.mv (.t 3)⟩,⟨some 2,none,.mv (.t 22)⟩]) .ret))))
theorem PY:codeOf Tryz.prog 36=some ⟨23,JD,[(.tmp 2)]⟩:=by kernel_rfl
theorem DA:modes 36=⟨[],.asis,none,false⟩:=by unfold modes; rfl
abbrev NA (x:Cl):Prop:=x.bulk≤1048576→E 27 [x.sv] []=some (x.osv,x.obs)
abbrev QH (xs:List Cl):Prop:=xs.length+Cl.sumB xs≤1048576→E 36 [.arr (xs.map Cl.d)] []=some (.ref 0,[.row 60 1 (xs.map Cl.o)])
theorem T5 (xs:List Cl) (h:∀ x∈xs,NA x):QH xs:=by
 intro hb
 refine Ad PY DA (of_decide_eq_true rfl) ?_
 simp (disch:=omega) only [JD,go_sem,Aa]
 refine go_loop (α:=Int) (fun i=>⟨slots 23 0 [(0,.arr (xs.map Cl.d)),(3,.ref 0),(4,.int .i64 i)],[.row 60 1 (FW Cl.o [.ow []] xs i.toNat)]⟩) (fun i=>∃ k:Nat,i=k∧k≤xs.length) (fun i=>xs.length-i.toNat) 0 ⟨0,rfl,zH _⟩ (by simp (disch:=omega) only [go_sem,Aa,HM,zS]) ?_
 ·rintro i ⟨k,rfl,hk⟩
  obtain ⟨i,hi⟩:∃ i:Int,i=(k:Int):=⟨_,rfl⟩
  rw [←hi]
  have hn:i.toNat=k:=by omega
  have hn1:(i+1).toNat=k+1:=by omega
  rcases zC k xs.length with hlt | hge
  ·have hg:=get_at Cl.d hlt
   rw [Cl.d_eq] at hg
   have hz:=Jt Cl.o [.ow []] hlt
   have hle:=Cl.bulk_le xs k hlt
   have hc:=h xs[k] (zF hlt) (by omega)
   have hs:=Ju Cl.o [.ow []] hlt
   rw [Cl.o_eq] at hs
   simp (disch:=omega) only [go_sem,Aa,hn,hg,hc,hz,Jr,Di,Cl.osv,Cl.obs]
   refine ⟨i+1,⟨k+1,by omega,hlt⟩,by omega,?_⟩
   simp (disch:=omega) only [go_sem,Aa,hn1,hs]
  ·obtain rfl:k=xs.length:=by omega
   simp (disch:=omega) only [go_sem,Aa,hn,Js]
theorem Uu (x:Cl) (h_lits:OU x.lits):NA x:=by
 intro hb
 have qb:=Cl.bulk_eq x
 replace h_lits:=h_lits (by omega)
 refine Ad Re Di (of_decide_eq_true rfl) ?_
 simp (disch:=omega) only [KC,go_sem,Aa,h_lits,IA]
theorem T6 (x:Cl):NA x:=Uu x (Rd x.lits fun y hy=>YY y)
theorem YZ (xs:List Cl):QH xs:=T5 xs fun x _=>T6 x
def Nd:SC:=(.seq (.reg [⟨some 2,none,.boxv 33 2 (.t 0)⟩,⟨some 3,none,.boxv 33 2 (.t 1)⟩,⟨some 4,none,.mv (.c (.bool false))⟩]) (.seq (.seq (.reg [⟨some 5,none,.faddr 0 (.t 2)⟩,⟨some 6,none,.load false 1 (.t 5)⟩,⟨some 7,none,.faddr 0 (.t 3)⟩,⟨some 8,none,.load false 1 (.t 7)⟩,⟨some 9,none,.bin .neq false (.t 6) (.t 8)⟩]) (.cond (.t 9) (.seq (.reg [⟨some 4,none,.mv (.c (.bool false))⟩]) .ret) .skip)) (.seq (.seq (.reg [⟨some 10,none,.faddr 1 (.t 2)⟩,⟨some 11,none,.load false 1 (.t 10)⟩,⟨some 12,none,.faddr 1 (.t 3)⟩,⟨some 13,none,.load false 1 (.t 12)⟩,⟨some 14,none,.call 134 [(.t 11),(.t 13)]⟩,⟨some 15,none,.un .not (.t 14)⟩]) (.cond (.t 15) (.seq (.reg [⟨some 4,none,.mv (.c (.bool false))⟩]) .ret) .skip)) (.seq (.reg [⟨some 4,none,.mv (.c (.bool true))⟩]) .ret))))
theorem Uv:codeOf Tryz.prog 61=some ⟨16,Nd,[(.tmp 4)]⟩:=by kernel_rfl
theorem Jd:modes 61=⟨[],.asis,none,false⟩:=by unfold modes; rfl
def LN:SC:=(.seq (.reg [⟨some 4,none,.mv (.c (.bool false))⟩]) (.seq (.seq (.reg [⟨some 6,none,.mv (.t 0)⟩,⟨some 7,none,.len false (.t 6)⟩,⟨some 8,none,.mv (.t 1)⟩,⟨some 9,none,.len false (.t 8)⟩,⟨some 10,none,.bin .neq false (.t 7) (.t 9)⟩]) (.cond (.t 10) (.seq (.reg [⟨some 4,none,.mv (.c (.bool false))⟩]) .ret) .skip)) (.seq (.seq (.reg [⟨some 5,none,.mv (.c (.int .i64 0))⟩]) (.block 0 (.loop [1,1,0,0,0,1,0,0,0,0,0,0,0,0,0,0,0,0,0,0,0,0,0,0,0,0,0] (.seq (.seq (.reg [⟨some 11,none,.mv (.t 5)⟩,⟨some 12,none,.mv (.t 0)⟩,⟨some 13,none,.len false (.t 12)⟩,⟨some 14,none,.bin .lss false (.t 11) (.t 13)⟩]) (.cond (.t 14) .skip (.exit 0))) (.seq (.block 1 (.seq (.dreg [[],[],[0,1],[2,0,1],[],[],[4,5],[6,4,5],[3,2,0,1,7,6,4,5],[8,3,2,0,1,7,6,4,5]] [⟨some 17,none,.mv (.t 0)⟩,⟨some 18,none,.mv (.t 5)⟩,⟨some 19,none,.iaddr 2 (.t 17) (.t 18)⟩,⟨some 20,none,.load true 2 (.t 19)⟩,⟨some 21,none,.mv (.t 1)⟩,⟨some 22,none,.mv (.t 5)⟩,⟨some 23,none,.iaddr 2 (.t 21) (.t 22)⟩,⟨some 24,none,.load true 2 (.t 23)⟩,⟨some 25,none,.call 61 [(.t 20),(.t 24)]⟩,⟨some 26,none,.un .not (.t 25)⟩]) (.cond (.t 26) (.seq (.reg [⟨some 4,none,.mv (.c (.bool false))⟩]) .ret) .skip))) (.reg [⟨some 15,none,.mv (.t 5)⟩,⟨some 16,none,.bin .add false (.t 15) (.c (.int .i64 1))⟩,⟨some 5,none,.mv (.t 16)⟩])))))) (.seq (.reg [⟨some 4,none,.mv (.c (.bool true))⟩]) .ret))))
theorem T7:codeOf Tryz.prog 134=some ⟨27,LN,[(.tmp 4)]⟩:=by kernel_rfl
theorem LO:modes 134=⟨[],.asis,none,false⟩:=by unfold modes; rfl
abbrev OV (x:Tm):Prop:=x.bulk≤1048576→E 61 [x.sv,x.sv] []=some (.bool true,[])
abbrev VF (xs:List Tm):Prop:=xs.length+Tm.sumB xs≤1048576→E 134 [.arr (xs.map Tm.d),.arr (xs.map Tm.d)] []=some (.bool true,[])
theorem Xn (xs:List Tm) (h:∀ x∈xs,OV x):VF xs:=by
 intro hb
 refine Ad T7 LO (of_decide_eq_true rfl) ?_
 simp (disch:=omega) only [LN,go_sem,Aa]
 refine go_loop (α:=Int) (fun i=>⟨slots 27 0 [(0,.arr (xs.map Tm.d)),(1,.arr (xs.map Tm.d)),(5,.int .i64 i)],[]⟩) (fun i=>∃ k:Nat,i=k∧k≤xs.length) (fun i=>xs.length-i.toNat) 0 ⟨0,rfl,zH _⟩ (by simp (disch:=omega) only [go_sem,Aa]) ?_
 ·rintro i ⟨k,rfl,hk⟩
  obtain ⟨i,hi⟩:∃ i:Int,i=(k:Int):=⟨_,rfl⟩
  rw [←hi]
  have hn:i.toNat=k:=by omega
  rcases zC k xs.length with hlt | hge
  ·have hg:=get_at Tm.d hlt
   rw [Tm.d_eq] at hg
   have hle:=Tm.bulk_le xs k hlt
   have hc:=h xs[k] (zF hlt) (by omega)
   simp (disch:=omega) only [go_sem,Aa,hn,hg,hc,Jd]
   refine ⟨i+1,⟨k+1,by omega,hlt⟩,by omega,?_⟩
   trivial
  ·obtain rfl:k=xs.length:=by omega
   simp (disch:=omega) only [go_sem,Aa,hn]
theorem Za (x:Tm) (h_args:VF x.args):OV x:=by
 intro hb
 have qb:=Tm.bulk_eq x
 replace h_args:=h_args (by omega)
 refine Ad Uv Jd (of_decide_eq_true rfl) ?_
 simp (disch:=omega) only [Nd,go_sem,Aa,h_args,LO,DT]
theorem Zb (x:Tm):OV x:=Za x (Xn x.args fun y hy=>Zb y)
termination_by SizeOf.sizeOf x
decreasing_by exact Tm.lt_of_mem hy
def JE:SC:=(.seq (.reg [⟨some 2,none,.boxv 122 3 (.t 0)⟩,⟨some 3,none,.boxv 122 3 (.t 1)⟩,⟨some 4,none,.mv (.c (.bool false))⟩]) (.seq (.seq (.reg [⟨some 5,none,.faddr 0 (.t 2)⟩,⟨some 6,none,.load false 1 (.t 5)⟩,⟨some 7,none,.faddr 0 (.t 3)⟩,⟨some 8,none,.load false 1 (.t 7)⟩,⟨some 9,none,.bin .neq true (.t 6) (.t 8)⟩]) (.cond (.t 9) (.seq (.reg [⟨some 4,none,.mv (.c (.bool false))⟩]) .ret) .skip)) (.seq (.seq (.reg [⟨some 10,none,.faddr 1 (.t 2)⟩,⟨some 11,none,.load true 2 (.t 10)⟩,⟨some 12,none,.faddr 1 (.t 3)⟩,⟨some 13,none,.load true 2 (.t 12)⟩,⟨some 14,none,.call 61 [(.t 11),(.t 13)]⟩,⟨some 15,none,.un .not (.t 14)⟩]) (.cond (.t 15) (.seq (.reg [⟨some 4,none,.mv (.c (.bool false))⟩]) .ret) .skip)) (.seq (.reg [⟨some 4,none,.mv (.c (.bool true))⟩]) .ret))))
theorem PZ:codeOf Tryz.prog 157=some ⟨16,JE,[(.tmp 4)]⟩:=by kernel_rfl
theorem JF:modes 157=⟨[],.asis,none,false⟩:=by unfold modes; rfl
def IB:SC:=(.seq (.reg [⟨some 4,none,.mv (.c (.bool false))⟩]) (.seq (.seq (.reg [⟨some 6,none,.mv (.t 0)⟩,⟨some 7,none,.len false (.t 6)⟩,⟨some 8,none,.mv (.t 1)⟩,⟨some 9,none,.len false (.t 8)⟩,⟨some 10,none,.bin .neq false (.t 7) (.t 9)⟩]) (.cond (.t 10) (.seq (.reg [⟨some 4,none,.mv (.c (.bool false))⟩]) .ret) .skip)) (.seq (.seq (.reg [⟨some 5,none,.mv (.c (.int .i64 0))⟩]) (.block 0 (.loop [1,1,0,0,0,1,0,0,0,0,0,0,0,0,0,0,0,0,0,0,0,0,0,0,0,0,0] (.seq (.seq (.reg [⟨some 11,none,.mv (.t 5)⟩,⟨some 12,none,.mv (.t 0)⟩,⟨some 13,none,.len false (.t 12)⟩,⟨some 14,none,.bin .lss false (.t 11) (.t 13)⟩]) (.cond (.t 14) .skip (.exit 0))) (.seq (.block 1 (.seq (.dreg [[],[],[0,1],[2,0,1],[],[],[4,5],[6,4,5],[3,2,0,1,7,6,4,5],[8,3,2,0,1,7,6,4,5]] [⟨some 17,none,.mv (.t 0)⟩,⟨some 18,none,.mv (.t 5)⟩,⟨some 19,none,.iaddr 3 (.t 17) (.t 18)⟩,⟨some 20,none,.load true 3 (.t 19)⟩,⟨some 21,none,.mv (.t 1)⟩,⟨some 22,none,.mv (.t 5)⟩,⟨some 23,none,.iaddr 3 (.t 21) (.t 22)⟩,⟨some 24,none,.load true 3 (.t 23)⟩,⟨some 25,none,.call 157 [(.t 20),(.t 24)]⟩,⟨some 26,none,.un .not (.t 25)⟩]) (.cond (.t 26) (.seq (.reg [⟨some 4,none,.mv (.c (.bool false))⟩]) .ret) .skip))) (.reg [⟨some 15,none,.mv (.t 5)⟩,⟨some 16,none,.bin .add false (.t 15) (.c (.int .i64 1))⟩,⟨some 5,none,.mv (.t 16)⟩])))))) (.seq (.reg [⟨some 4,none,.mv (.c (.bool true))⟩]) .ret))))
theorem OW:codeOf Tryz.prog 82=some ⟨27,IB,[(.tmp 4)]⟩:=by kernel_rfl
theorem IC:modes 82=⟨[],.asis,none,false⟩:=by unfold modes; rfl
abbrev LP (x:Lt):Prop:=x.bulk≤1048576→E 157 [x.sv,x.sv] []=some (.bool true,[])
abbrev OX (xs:List Lt):Prop:=xs.length+Lt.sumB xs≤1048576→E 82 [.arr (xs.map Lt.d),.arr (xs.map Lt.d)] []=some (.bool true,[])
theorem Rf (xs:List Lt) (h:∀ x∈xs,LP x):OX xs:=by
 intro hb
 refine Ad OW IC (of_decide_eq_true rfl) ?_
 simp (disch:=omega) only [IB,go_sem,Aa]
 refine go_loop (α:=Int) (fun i=>⟨slots 27 0 [(0,.arr (xs.map Lt.d)),(1,.arr (xs.map Lt.d)),(5,.int .i64 i)],[]⟩) (fun i=>∃ k:Nat,i=k∧k≤xs.length) (fun i=>xs.length-i.toNat) 0 ⟨0,rfl,zH _⟩ (by simp (disch:=omega) only [go_sem,Aa]) ?_
 ·rintro i ⟨k,rfl,hk⟩
  obtain ⟨i,hi⟩:∃ i:Int,i=(k:Int):=⟨_,rfl⟩
  rw [←hi]
  have hn:i.toNat=k:=by omega
  rcases zC k xs.length with hlt | hge
  ·have hg:=get_at Lt.d hlt
   rw [Lt.d_eq] at hg
   have hle:=Lt.bulk_le xs k hlt
   have hc:=h xs[k] (zF hlt) (by omega)
   simp (disch:=omega) only [go_sem,Aa,hn,hg,hc,JF]
   refine ⟨i+1,⟨k+1,by omega,hlt⟩,by omega,?_⟩
   trivial
  ·obtain rfl:k=xs.length:=by omega
   simp (disch:=omega) only [go_sem,Aa,hn]
theorem T8 (x:Lt) (h_atom:OV x.atom):LP x:=by
 intro hb
 have qb:=Lt.bulk_eq x
 replace h_atom:=h_atom (by omega)
 refine Ad PZ JF (of_decide_eq_true rfl) ?_
 simp (disch:=omega) only [JE,go_sem,Aa,h_atom,Jd,DT]
theorem Zc (x:Lt):LP x:=T8 x (Zb x.atom)
def KD:SC:=(.seq (.reg [⟨some 2,none,.boxv 60 1 (.t 0)⟩,⟨some 3,none,.boxv 60 1 (.t 1)⟩,⟨some 4,none,.mv (.c (.bool false))⟩]) (.seq (.seq (.reg [⟨some 5,none,.faddr 0 (.t 2)⟩,⟨some 6,none,.load false 1 (.t 5)⟩,⟨some 7,none,.faddr 0 (.t 3)⟩,⟨some 8,none,.load false 1 (.t 7)⟩,⟨some 9,none,.call 82 [(.t 6),(.t 8)]⟩,⟨some 10,none,.un .not (.t 9)⟩]) (.cond (.t 10) (.seq (.reg [⟨some 4,none,.mv (.c (.bool false))⟩]) .ret) .skip)) (.seq (.reg [⟨some 4,none,.mv (.c (.bool true))⟩]) .ret)))
theorem Rg:codeOf Tryz.prog 30=some ⟨11,KD,[(.tmp 4)]⟩:=by kernel_rfl
theorem Dj:modes 30=⟨[],.asis,none,false⟩:=by unfold modes; rfl
def JG:SC:=(.seq (.reg [⟨some 4,none,.mv (.c (.bool false))⟩]) (.seq (.seq (.reg [⟨some 6,none,.mv (.t 0)⟩,⟨some 7,none,.len false (.t 6)⟩,⟨some 8,none,.mv (.t 1)⟩,⟨some 9,none,.len false (.t 8)⟩,⟨some 10,none,.bin .neq false (.t 7) (.t 9)⟩]) (.cond (.t 10) (.seq (.reg [⟨some 4,none,.mv (.c (.bool false))⟩]) .ret) .skip)) (.seq (.seq (.reg [⟨some 5,none,.mv (.c (.int .i64 0))⟩]) (.block 0 (.loop [1,1,0,0,0,1,0,0,0,0,0,0,0,0,0,0,0,0,0,0,0,0,0,0,0,0,0] (.seq (.seq (.reg [⟨some 11,none,.mv (.t 5)⟩,⟨some 12,none,.mv (.t 0)⟩,⟨some 13,none,.len false (.t 12)⟩,⟨some 14,none,.bin .lss false (.t 11) (.t 13)⟩]) (.cond (.t 14) .skip (.exit 0))) (.seq (.block 1 (.seq (.dreg [[],[],[0,1],[2,0,1],[],[],[4,5],[6,4,5],[3,2,0,1,7,6,4,5],[8,3,2,0,1,7,6,4,5]] [⟨some 17,none,.mv (.t 0)⟩,⟨some 18,none,.mv (.t 5)⟩,⟨some 19,none,.iaddr 1 (.t 17) (.t 18)⟩,⟨some 20,none,.load true 1 (.t 19)⟩,⟨some 21,none,.mv (.t 1)⟩,⟨some 22,none,.mv (.t 5)⟩,⟨some 23,none,.iaddr 1 (.t 21) (.t 22)⟩,⟨some 24,none,.load true 1 (.t 23)⟩,⟨some 25,none,.call 30 [(.t 20),(.t 24)]⟩,⟨some 26,none,.un .not (.t 25)⟩]) (.cond (.t 26) (.seq (.reg [⟨some 4,none,.mv (.c (.bool false))⟩]) .ret) .skip))) (.reg [⟨some 15,none,.mv (.t 5)⟩,⟨some 16,none,.bin .add false (.t 15) (.c (.int .i64 1))⟩,⟨some 5,none,.mv (.t 16)⟩])))))) (.seq (.reg [⟨some 4,none,.mv (.c (.bool true))⟩]) .ret))))
theorem Qa:codeOf Tryz.prog 29=some ⟨27,JG,[(.tmp 4)]⟩:=by kernel_rfl
theorem DB:modes 29=⟨[],.asis,none,false⟩:=by unfold modes; rfl
abbrev NB (x:Cl):Prop:=x.bulk≤1048576→E 30 [x.sv,x.sv] []=some (.bool true,[])
abbrev QI (xs:List Cl):Prop:=xs.length+Cl.sumB xs≤1048576→E 29 [.arr (xs.map Cl.d),.arr (xs.map Cl.d)] []=some (.bool true,[])
theorem T9 (xs:List Cl) (h:∀ x∈xs,NB x):QI xs:=by
 intro hb
 refine Ad Qa DB (of_decide_eq_true rfl) ?_
 simp (disch:=omega) only [JG,go_sem,Aa]
 refine go_loop (α:=Int) (fun i=>⟨slots 27 0 [(0,.arr (xs.map Cl.d)),(1,.arr (xs.map Cl.d)),(5,.int .i64 i)],[]⟩) (fun i=>∃ k:Nat,i=k∧k≤xs.length) (fun i=>xs.length-i.toNat) 0 ⟨0,rfl,zH _⟩ (by simp (disch:=omega) only [go_sem,Aa]) ?_
 ·rintro i ⟨k,rfl,hk⟩
  obtain ⟨i,hi⟩:∃ i:Int,i=(k:Int):=⟨_,rfl⟩
  rw [←hi]
  have hn:i.toNat=k:=by omega
  rcases zC k xs.length with hlt | hge
  ·have hg:=get_at Cl.d hlt
   rw [Cl.d_eq] at hg
   have hle:=Cl.bulk_le xs k hlt
   have hc:=h xs[k] (zF hlt) (by omega)
   simp (disch:=omega) only [go_sem,Aa,hn,hg,hc,Dj]
   refine ⟨i+1,⟨k+1,by omega,hlt⟩,by omega,?_⟩
   trivial
  ·obtain rfl:k=xs.length:=by omega
   simp (disch:=omega) only [go_sem,Aa,hn]
theorem Uw (x:Cl) (h_lits:OX x.lits):NB x:=by
 intro hb
 have qb:=Cl.bulk_eq x
 replace h_lits:=h_lits (by omega)
 refine Ad Rg Dj (of_decide_eq_true rfl) ?_
 simp (disch:=omega) only [KD,go_sem,Aa,h_lits,IC,DT]
theorem NC (x:Cl):NB x:=Uw x (Rf x.lits fun y hy=>Zc y)
theorem Zd (xs:List Cl):QI xs:=T9 xs fun x _=>NC x
theorem A4:modes 281=⟨[true],.asis,some DJ,false⟩:=by unfold modes; rfl
theorem Qfa (l:List Bd) (hl:l.length≤1099511627776) (hn:(l.map Bd.var).Nodup):E 281 [.ref 0,.fn 282 []] [.row 227 3 (l.map Bd.o)]=some (.tup [],[.row 227 3 ((l.mergeSort bdLe).map Bd.o)]):=by
 rw [GT (g:=DJ) (congrArg FM.ext A4)]
 unfold DJ
 simp only
 have e1:(l.map Bd.o).map Ud=l.map Bd.var:=by rw [zY]; rfl
 rw [At ⟨by first | trivial | rfl,by first | trivial | rfl,fun e he=>by obtain ⟨b,_,rfl⟩:=List.mem_map.1 he; exact ⟨_,_,_,rfl⟩,by rw [e1]; exact hn,by simpa using hl⟩,cond_true]
 have e2:(l.mergeSort bdLe).map Bd.o=(l.map Bd.o).mergeSort rowLe:=List.map_mergeSort fun a _ b _=>rfl
 rw [e2]
theorem Qc1:E 281 [.nil,.fn 282 []] []=some (.tup [],[]):=by
 rw [GT (g:=DJ) (congrArg FM.ext A4)]
 unfold DJ
 simp only
 rw [At (by first | trivial | rfl),cond_true]
def KE:SC:=(.seq (.reg [⟨some 2,none,.boxv 142 1 (.t 0)⟩,⟨some 3,none,.boxv 142 1 (.t 1)⟩,⟨some 4,none,.alloc 142 [.nil]⟩,⟨some 5,none,.mv (.c (.bool false))⟩]) (.seq (.reg [⟨some 14,none,.build [.nil] []⟩,⟨some 6,none,.alloc 142 [.nil]⟩,⟨none,none,(.store 1 (.t 6) (.t 14))⟩]) (.seq (.seq (.reg [⟨some 15,none,.faddr 0 (.t 2)⟩,⟨some 16,none,.load false 1 (.t 15)⟩,⟨some 17,none,.len false (.t 16)⟩,⟨some 18,none,.mv (.c (.int .i64 0))⟩]) (.block 0 (.loop [0,0,1,1,1,0,1,0,0,0,0,0,0,0,0,0,1,1,1,0,0,0,0,0,0,0,0,0,0,0,0,0,0,0,0,0,0,0,0,0,0,0,0,0,0,0,0,0,0,0,0,0,0,0,0,0,0,0,0,0,0,0,0,0,0,0,0,0,0,0,0,0,0,0,0,0,0] (.seq (.reg [⟨some 19,none,.bin .lss false (.t 18) (.t 17)⟩]) (.seq (.cond (.t 19) .skip (.exit 0)) (.seq (.block 1 (.seq (.reg [⟨some 20,none,.iaddr 3 (.t 16) (.t 18)⟩,⟨some 21,none,.load true 3 (.t 20)⟩,⟨(some 8),none,(.alloc 227 [(.str ⟨#[]⟩),(.str ⟨#[]⟩),.nil])⟩,⟨none,none,(.store 3 (.t 8) (.t 21))⟩]) (.seq (.reg [⟨some 22,none,.load true 1 (.t 3)⟩,⟨some 23,none,.faddr 1 (.t 8)⟩,⟨some 24,none,.load true 2 (.t 23)⟩,⟨some 25,none,.call 276 [(.t 22),(.t 24)]⟩,⟨(some 9),none,(.alloc 33 [(.str ⟨#[]⟩),.nil])⟩,⟨none,none,(.store 2 (.t 9) (.t 25))⟩]) (.seq (.reg [⟨some 26,none,.faddr 0 (.t 9)⟩,⟨some 27,none,.load false 1 (.t 26)⟩,⟨some 28,none,.faddr 0 (.t 8)⟩,⟨some 29,none,.load false 1 (.t 28)⟩,⟨some 30,none,.bin .neq false (.t 27) (.t 29)⟩]) (.cond (.t 30) (.reg [⟨some 31,none,.faddr 0 (.t 6)⟩,⟨some 32,none,.load false 1 (.t 31)⟩,⟨some 33,none,.faddr 0 (.t 8)⟩,⟨some 34,none,.load false 1 (.t 33)⟩,⟨some 35,none,.load true 2 (.t 9)⟩,⟨(some 36),none,(.build [(.str ⟨#[]⟩),(.str ⟨#[]⟩),.nil] [(0,(1,(.t 34))),(1,(2,(.t 35)))])⟩,⟨(some 37),none,(.mkrow 227 3 [(.str ⟨#[]⟩),(.str ⟨#[]⟩),.nil] 1 [(0,(.t 36))])⟩,⟨(some 38),none,(.append 227 3 56 [(.str ⟨#[]⟩),(.str ⟨#[]⟩),.nil] (.t 32) (.t 37))⟩,⟨some 39,none,.faddr 0 (.t 6)⟩,⟨none,none,(.store 1 (.t 39) (.t 38))⟩]) .skip))))) (.reg [⟨some 40,none,.bin .add false (.t 18) (.c (.int .i64 1))⟩,⟨some 18,none,.mv (.t 40)⟩]))))))) (.seq (.seq (.reg [⟨some 41,none,.faddr 0 (.t 3)⟩,⟨some 42,none,.load false 1 (.t 41)⟩,⟨some 43,none,.len false (.t 42)⟩,⟨some 44,none,.mv (.c (.int .i64 0))⟩]) (.block 2 (.loop [0,0,1,0,1,0,1,0,0,0,0,0,0,0,0,0,0,0,0,0,0,0,0,0,0,0,0,0,0,0,0,0,0,0,0,0,0,0,0,0,0,0,1,1,1,0,0,0,0,0,0,0,0,0,0,0,0,0,0,0,0,0,0,0,0,0,0,0,0,0,0,0,0,0,0,0,0] (.seq (.reg [⟨some 45,none,.bin .lss false (.t 44) (.t 43)⟩]) (.seq (.cond (.t 45) .skip (.exit 2)) (.seq (.block 3 (.seq (.reg [⟨some 46,none,.iaddr 3 (.t 42) (.t 44)⟩,⟨some 47,none,.load true 3 (.t 46)⟩,⟨(some 11),none,(.alloc 227 [(.str ⟨#[]⟩),(.str ⟨#[]⟩),.nil])⟩,⟨none,none,(.store 3 (.t 11) (.t 47))⟩]) (.seq (.reg [⟨some 49,none,.load true 1 (.t 2)⟩,⟨some 50,none,.faddr 0 (.t 11)⟩,⟨some 51,none,.load false 1 (.t 50)⟩,⟨some 52,none,.call 280 [(.t 49),(.t 51)]⟩,⟨some 48,none,.mv (.t 52)⟩,⟨some 53,none,.ext (.t 48) 0⟩,⟨some 54,none,.ext (.t 48) 1⟩,⟨(some 12),none,(.alloc 33 [(.str ⟨#[]⟩),.nil])⟩,⟨none,none,(.store 2 (.t 12) (.t 53))⟩,⟨some 13,none,.mv (.t 54)⟩]) (.seq (.reg [⟨some 55,none,.mv (.t 13)⟩,⟨some 56,none,.un .not (.t 55)⟩]) (.cond (.t 56) (.dreg [[],[0],[],[2],[],[4],[5,4],[3,2,6,5,4],[7,3,2,6,5,4],[1,0,8,7,3,2,6,5,4],[0,1,2,3,4,5,6,7,8,9],[10,0,1,2,3,4,5,6,7,8,9]] [⟨some 57,none,.faddr 0 (.t 6)⟩,⟨some 58,none,.load false 1 (.t 57)⟩,⟨some 59,none,.faddr 0 (.t 11)⟩,⟨some 60,none,.load false 1 (.t 59)⟩,⟨some 61,none,.faddr 1 (.t 11)⟩,⟨some 62,none,.load true 2 (.t 61)⟩,⟨some 63,none,.call 187 [(.t 62)]⟩,⟨(some 64),none,(.build [(.str ⟨#[]⟩),(.str ⟨#[]⟩),.nil] [(0,(1,(.t 60))),(1,(2,(.t 63)))])⟩,⟨(some 65),none,(.mkrow 227 3 [(.str ⟨#[]⟩),(.str ⟨#[]⟩),.nil] 1 [(0,(.t 64))])⟩,⟨(some 66),none,(.append 227 3 56 [(.str ⟨#[]⟩),(.str ⟨#[]⟩),.nil] (.t 58) (.t 65))⟩,⟨some 67,none,.faddr 0 (.t 6)⟩,⟨none,none,(.store 1 (.t 67) (.t 66))⟩]) .skip))))) (.reg [⟨some 68,none,.bin .add false (.t 44) (.c (.int .i64 1))⟩,⟨some 44,none,.mv (.t 68)⟩]))))))) (.seq (.reg [⟨some 69,none,.faddr 0 (.t 6)⟩,⟨some 70,none,.load false 1 (.t 69)⟩,⟨some 71,none,.call 281 [(.t 70),(.c (.fn 282 []))]⟩]) (.seq (.seq (.reg [⟨some 72,none,.load true 1 (.t 6)⟩,⟨some 73,none,.call 279 [(.t 72)]⟩,⟨some 74,none,.un .not (.t 73)⟩]) (.cond (.t 74) (.seq (.reg [⟨some 75,none,.build [.nil] []⟩,⟨none,none,(.store 1 (.t 4) (.t 75))⟩,⟨some 5,none,.mv (.c (.bool false))⟩]) .ret) .skip)) (.seq (.reg [⟨some 76,none,.load true 1 (.t 6)⟩,⟨none,none,(.store 1 (.t 4) (.t 76))⟩,⟨some 5,none,.mv (.c (.bool true))⟩]) .ret)))))))
theorem Rh:codeOf Tryz.prog 211=some ⟨77,KE,[(.cell 4 true 1),(.tmp 5)]⟩:=by kernel_rfl
theorem Aj:modes 211=⟨[],.own [some (227,3),none],none,false⟩:=by unfold modes; rfl
theorem Sb.TA {u:Sb} (hu:u.ok=true) {t:Tm} (ht:t.valid=true):(t.ap u.look).nodes≤900:=by
 have h:=Tm.J2 (Sb.FF hu) t
 have h2:t.nodes≤30:=Tm.As (by unfold Tm.expr; rw [ht]; rfl)
 omega
theorem Ze {t:Tm} (h:t.valid=true):t.names=true:=by
 unfold Tm.valid at h; rw [zG] at h; exact h.2
theorem E9 {t:Tm} (h:t.valid=true):t.nodes≤30:=Tm.As (by unfold Tm.expr; rw [h]; rfl)
theorem ok_len {s:Sb} (h:s.ok=true):s.binds.length≤12:=by
 unfold Sb.ok at h; rw [zG,decide_eq_true_eq] at h; exact h.1
theorem QdO (s u:Sb):(Cy s u).binds.length≤s.binds.length+u.binds.length:=by
 unfold Cy
 show ((C5 s u).mergeSort bdLe).length≤_
 rw [(zV _ _).length_eq]
 exact Tx s u
theorem Qa6 {s u:Sb} (hs:s.ok=true) (hu:u.ok=true) {b:Bd} (h:b∈C5 s u):b.term.nodes≤900:=by
 unfold C5 at h
 rcases zW.1 h with h | h
 ·obtain ⟨c,hc,_,e⟩:=VC h
  obtain ⟨k,hk,rfl⟩:=zN hc
  rw [e]
  exact Sb.TA hu (DM (Sb.K6 hs hk))
 ·have hc:=(List.mem_filter.1 h).1
  obtain ⟨k,hk,rfl⟩:=zN hc
  have:=E9 (DM (Sb.K6 hu hk))
  omega
theorem VG {s u:Sb} (hs:s.ok=true) (hu:u.ok=true):(Cy s u).tame:=by
 have h1:=QdO s u
 have h2:=ok_len hs
 have h3:=ok_len hu
 refine ⟨by omega,fun y hy=>?_⟩
 have:=Qa6 hs hu ((zV (C5 s u) bdLe).mem_iff.1 hy)
 omega
noncomputable def C6 (s u:Sb):Bool:=(Cy s u).ok
noncomputable def FO (s u:Sb):Sb:=bif C6 s u then Cy s u else ⟨[]⟩
theorem Kk (s u:Sb) (hs:s.ok=true) (hu:u.ok=true) (hts:s.tame) (htu:u.tame):E 211 [s.sv,u.sv] []=some (.tup [(FO s u).osv,.bool (C6 s u)],(FO s u).obs):=by
 have hsl:=ok_len hs
 have hul:=ok_len hu
 have hnil:(([]:List Bd)=[])=True:=eq_self _
 refine Ad Rh Aj (of_decide_eq_true rfl) ?_
 simp (disch:=omega) only [KE,go_sem,Aa]
 refine go_loop (α:=Int × List Bd) (fun a=>⟨slots 77 0 [(2,.ptr 0 0),(3,.ptr 1 0),(4,.ptr 2 0),(6,.ptr 3 0),(16,.arr (s.binds.map Bd.d)),(17,.int .i64 s.binds.length),(18,.int .i64 a.1)],(if a.2=[] then [.box 142 [.arr (s.binds.map Bd.d)],.box 142 [.arr (u.binds.map Bd.d)],.box 142 [.nil],.box 142 [.nil]] else [.box 142 [.arr (s.binds.map Bd.d)],.box 142 [.arr (u.binds.map Bd.d)],.box 142 [.nil],.box 142 [.ref 4],.row 227 3 (a.2.map Bd.o)])⟩) (fun a=>∃ k:Nat,a.1=k∧k≤s.binds.length∧a.2++(s.binds.drop k).filterMap (CV u)=Ia s u∧a.2.length≤k) (fun a=>s.binds.length-a.1.toNat) (0,[]) ⟨0,rfl,zH _,by rw [zD]; rfl,zP _⟩ (by simp (disch:=omega) only [go_sem,Aa,hnil,if_true]) ?_
 rintro ⟨i,acc⟩ ⟨k,hi,hk,hR,hal⟩
 dsimp only at hi hR hal
 have hni:i.toNat=k:=by omega
 have hni1:(i+1).toNat=k+1:=by omega
 rcases zC k s.binds.length with hlt | hge
 ·have hg:=get_at Bd.d hlt
  rw [Bd.d_eq] at hg
  have hval:=DM (Sb.K6 hs hlt)
  have hc:=Qbv u hu htu s.binds[k].term (Ze hval) (by have:=E9 hval; omega)
  rw [zA hlt,yC] at hR
  cases hq:dec ((s.binds[k].term.ap u.look).name=s.binds[k].var) with
  | true =>
   have ho:CV u s.binds[k]=none:=by unfold CV; rw [hq]; rfl
   rw [ho] at hR
   rcases zO acc with ha | ⟨ys,y,ha⟩
   ·subst ha
    simp (disch:=omega) only [go_sem,Aa,hni,hg,hc,hq,hnil,if_true,Tm.osv,Tm.obs,Aw,A5,AZ]
    exact ⟨(i+1,[]),⟨k+1,by dsimp only; omega,hlt,hR,by dsimp only; omega⟩,by dsimp only; omega,by first | trivial | rfl | simp only [hnil,if_true,and_self]⟩
   ·have hne:(acc=[])=False:=eq_false (by rw [ha]; simp)
    simp (disch:=omega) only [go_sem,Aa,hni,hg,hc,hq,hne,if_false,Tm.osv,Tm.obs,zI,Aw,A5,AZ]
    exact ⟨(i+1,acc),⟨k+1,by dsimp only; omega,hlt,hR,by dsimp only; omega⟩,by dsimp only; omega,by first | trivial | rfl | simp only [hne,if_false,and_self]⟩
  | false =>
   have ho:CV u s.binds[k]=some ⟨s.binds[k].var,s.binds[k].term.ap u.look⟩:=by unfold CV; rw [hq]; rfl
   rw [ho] at hR
   obtain ⟨b,hb⟩:∃ b:Bd,b=⟨s.binds[k].var,s.binds[k].term.ap u.look⟩:=⟨_,rfl⟩
   have hbo:[OT.str s.binds[k].var,.str (s.binds[k].term.ap u.look).name,.ow ((s.binds[k].term.ap u.look).args.map Tm.o)]=b.o:=by rw [hb]; rfl
   have hR':(acc++[b])++(s.binds.drop (k+1)).filterMap (CV u)=Ia s u:=by rw [hb,zZ]; exact hR
   have hnea:(acc++[b]=[])=False:=eq_false (by simp)
   have hlen:(acc++[b]).length≤k+1:=by rw [zJ]; simp only [zE,zQ]; omega
   rcases zO acc with ha | ⟨ys,y,ha⟩
   ·subst ha
    have hneb:([b]=[])=False:=eq_false (by simp)
    simp (disch:=omega) only [go_sem,Aa,hni,hg,hc,hq,hnil,if_true,Tm.osv,Tm.obs,Aw,A5,AZ]
    exact ⟨(i+1,[b]),⟨k+1,by dsimp only; omega,hlt,hR',by simp⟩,by dsimp only; omega,by simp only [hneb,if_false,← hbo,zK,zL,and_self]⟩
   ·have hne:(acc=[])=False:=eq_false (by rw [ha]; simp)
    simp (disch:=omega) only [go_sem,Aa,hni,hg,hc,hq,hne,if_false,Tm.osv,Tm.obs,zI,Aw,A5,AZ]
    exact ⟨(i+1,acc++[b]),⟨k+1,by dsimp only; omega,hlt,hR',by dsimp only; omega⟩,by dsimp only; omega,by simp only [hnea,if_false,← hbo,yO,zK,zL,and_self]⟩
 rw [zB hge,List.filterMap_nil,yP] at hR
 subst hR
 have hl1:(Ia s u).length≤12:=by omega
 have htame:=VG hs hu
 have hvalid:=Ek (Cy s u) htame
 have hnd:=OG (Sb.K5 hs) (Sb.K5 hu)
 have hcl:=Tx s u
 have hsort:=Qfa (C5 s u) (by omega) hnd
 have hsn:=Qc1
 have hosv:(Cy s u).sv=.agg [.arr (((C5 s u).mergeSort bdLe).map Bd.d)]:=rfl
 rw [hosv] at hvalid
 have hor:((Ia s u=[])=True)∨((Ia s u=[])=False):=by
  by_cases h:Ia s u=[]
  ·exact .inl (eq_true h)
  ·exact .inr (eq_false h)
 rcases hor with hE | hE
 all_goals
  simp (disch:=omega) only [go_sem,Aa,hni,hE,if_true,if_false]
  refine go_loop (α:=Int × List Bd) (fun a=>⟨slots 77 0 [(2,.ptr 0 0),(4,.ptr 1 0),(6,.ptr 2 0),(42,.arr (u.binds.map Bd.d)),(43,.int .i64 u.binds.length),(44,.int .i64 a.1)],(if a.2=[] then [.box 142 [.arr (s.binds.map Bd.d)],.box 142 [.nil],.box 142 [.nil]] else [.box 142 [.arr (s.binds.map Bd.d)],.box 142 [.nil],.box 142 [.ref 3],.row 227 3 (a.2.map Bd.o)])⟩) (fun a=>∃ k:Nat,a.1=k∧k≤u.binds.length∧a.2++(u.binds.drop k).filter (fun b=>!El s.binds b.var)=C5 s u∧a.2.length≤12+k) (fun a=>u.binds.length-a.1.toNat) (0,Ia s u) ⟨0,rfl,zH _,by rw [zD]; rfl,by dsimp only; omega⟩ (by simp (disch:=omega) only [go_sem,Aa,hE,if_true,if_false]) ?_
  rintro ⟨i,acc⟩ ⟨k,hi,hk,hR,hal⟩
  dsimp only at hi hR hal
  have hni:i.toNat=k:=by omega
  have hni1:(i+1).toNat=k+1:=by omega
  rcases zC k u.binds.length with hlt | hge
  ·have hg:=get_at Bd.d hlt
   rw [Bd.d_eq] at hg
   have hval:=DM (Sb.K6 hu hlt)
   have hc:=Ke u.binds[k].term (by have:=E9 hval; omega)
   rw [zA hlt,List.filter_cons] at hR
   cases hh:El s.binds u.binds[k].var with
   | true =>
    have hq:=Qat s hs u.binds[k].var (by omega) hh (Iz hh)
    rw [hh,if_neg (by simp)] at hR
    rcases zO acc with ha | ⟨ys,y,ha⟩
    ·subst ha
     simp (disch:=omega) only [go_sem,Aa,hni,hg,hc,hq,hnil,if_true,Tm.osv,Tm.obs,Aw,A5,AZ]
     exact ⟨(i+1,[]),⟨k+1,by dsimp only; omega,hlt,hR,by simp⟩,by dsimp only; omega,by first | trivial | rfl | simp only [hnil,if_true,and_self]⟩
    ·have hne:(acc=[])=False:=eq_false (by rw [ha]; simp)
     simp (disch:=omega) only [go_sem,Aa,hni,hg,hc,hq,hne,if_false,Tm.osv,Tm.obs,zI,Aw,A5,AZ]
     exact ⟨(i+1,acc),⟨k+1,by dsimp only; omega,hlt,hR,by dsimp only; omega⟩,by dsimp only; omega,by first | trivial | rfl | simp only [hne,if_false,and_self]⟩
   | false =>
    have hq:=Qcw s hs u.binds[k].var (by omega) hh
    rw [hh,if_pos (by simp)] at hR
    have hbo:[OT.str u.binds[k].var,.str u.binds[k].term.name,.ow (u.binds[k].term.args.map Tm.o)]=u.binds[k].o:=rfl
    have hR':(acc++[u.binds[k]])++(u.binds.drop (k+1)).filter (fun b=>!El s.binds b.var)=C5 s u:=by rw [zZ]; exact hR
    have hnea:(acc++[u.binds[k]]=[])=False:=eq_false (by simp)
    have hlen:(acc++[u.binds[k]]).length≤12+(k+1):=by rw [zJ]; simp only [zE,zQ]; omega
    rcases zO acc with ha | ⟨ys,y,ha⟩
    ·subst ha
     have hneb:([u.binds[k]]=[])=False:=eq_false (by simp)
     simp (disch:=omega) only [go_sem,Aa,hni,hg,hc,hq,hnil,if_true,Tm.osv,Tm.obs,Aw,A5,AZ]
     exact ⟨(i+1,[u.binds[k]]),⟨k+1,by dsimp only; omega,hlt,hR',by simp; omega⟩,by dsimp only; omega,by simp only [hneb,if_false,← hbo,zK,zL,and_self]⟩
    ·have hne:(acc=[])=False:=eq_false (by rw [ha]; simp)
     simp (disch:=omega) only [go_sem,Aa,hni,hg,hc,hq,hne,if_false,Tm.osv,Tm.obs,zI,Aw,A5,AZ]
     exact ⟨(i+1,acc++[u.binds[k]]),⟨k+1,by dsimp only; omega,hlt,hR',by dsimp only; omega⟩,by dsimp only; omega,by simp only [hnea,if_false,← hbo,yO,zK,zL,and_self]⟩
  ·rw [zB hge,List.filter_nil,yP] at hR
   subst hR
   unfold FO
   cases hok:C6 s u with
   | false =>
    have hok':(Cy s u).ok=false:=hok
    rw [hok'] at hvalid
    simp only [cond_false]
    rcases zO (C5 s u) with ha | ⟨ys,y,ha⟩
    ·have hz:(C5 s u=[])=True:=eq_true ha
     rw [ha,yF,zL] at hvalid
     simp (disch:=omega) only [go_sem,Aa,hni,hz,if_true,hsn,hvalid,Ax,A4]
     try rfl
    ·have hz:(C5 s u=[])=False:=eq_false (by rw [ha]; simp)
     simp (disch:=omega) only [go_sem,Aa,hni,hz,if_false,hsort,hvalid,Bd.erss,Bd.fus,Ax,A4]
     try rfl
   | true =>
    have hok':(Cy s u).ok=true:=hok
    rw [hok'] at hvalid
    simp only [cond_true]
    rcases zO (C5 s u) with ha | ⟨ys,y,ha⟩
    ·have hz:(C5 s u=[])=True:=eq_true ha
     have hcs:Cy s u=⟨[]⟩:=by unfold Cy; rw [ha,yF]
     rw [hcs]
     rw [ha,yF,zL] at hvalid
     simp (disch:=omega) only [go_sem,Aa,hni,hz,if_true,hsn,hvalid,Ax,A4]
     try rfl
    ·have hz:(C5 s u=[])=False:=eq_false (by rw [ha]; simp)
     simp (disch:=omega) only [go_sem,Aa,hni,hz,if_false,hsort,hvalid,Bd.erss,Bd.fus,Ax,A4]
     try rfl
def Kl:SC:=(.seq (.reg [⟨some 3,none,.boxv 142 1 (.t 0)⟩,⟨some 5,none,.boxv 33 2 (.t 2)⟩,⟨some 6,none,.alloc 142 [.nil]⟩]) (.seq (.seq (.reg [⟨some 9,none,.faddr 0 (.t 5)⟩,⟨some 10,none,.load false 1 (.t 9)⟩,⟨some 11,none,.mv (.t 1)⟩,⟨some 12,none,.bin .eql false (.t 10) (.t 11)⟩]) (.cond (.t 12) (.seq (.reg [⟨some 13,none,.load true 1 (.t 3)⟩,⟨none,none,(.store 1 (.t 6) (.t 13))⟩]) .ret) .skip)) (.seq (.reg [⟨some 7,none,.mv (.c (.int .i64 0))⟩]) (.seq (.block 0 (.loop [0,1,0,1,0,1,1,1,0,0,0,0,0,0,0,0,0,0,0,0,0,0,0,0,0,0,0,0,0,0,0,0,0,0,0,0,0,0,0,0,0,0,0,0,0,0,0,0,0,0,0] (.seq (.seq (.reg [⟨some 14,none,.mv (.t 7)⟩,⟨some 15,none,.faddr 0 (.t 3)⟩,⟨some 16,none,.load false 1 (.t 15)⟩,⟨some 17,none,.len false (.t 16)⟩,⟨some 18,none,.bin .lss false (.t 14) (.t 17)⟩,⟨some 19,none,.mv (.t 18)⟩,⟨(some 20),(some (19,true)),(.faddr 0 (.t 3))⟩,⟨(some 21),(some (19,true)),(.load false 1 (.t 20))⟩,⟨(some 22),(some (19,true)),(.mv (.t 7))⟩,⟨(some 23),(some (19,true)),(.iaddr 3 (.t 21) (.t 22))⟩,⟨(some 24),(some (19,true)),(.faddr 0 (.t 23))⟩,⟨(some 25),(some (19,true)),(.load false 1 (.t 24))⟩,⟨(some 26),(some (19,true)),(.mv (.t 1))⟩,⟨(some 27),(some (19,true)),(.bin .lss false (.t 25) (.t 26))⟩,⟨some 28,none,.pick (.t 19) (.t 27) (.c (.bool false))⟩]) (.cond (.t 28) .skip (.exit 0))) (.block 1 (.reg [⟨some 29,none,.mv (.t 7)⟩,⟨some 30,none,.bin .add false (.t 29) (.c (.int .i64 1))⟩,⟨some 7,none,.mv (.t 30)⟩]))))) (.seq (.reg [⟨(some 31),none,(.mkrow 227 3 [(.str ⟨#[]⟩),(.str ⟨#[]⟩),.nil] 0 [])⟩,⟨some 32,none,.faddr 0 (.t 3)⟩,⟨some 33,none,.load false 1 (.t 32)⟩,⟨some 34,none,.mv (.t 7)⟩,⟨some 35,none,.slice false 3 (.t 33) none (some (.t 34))⟩,⟨(some 36),none,(.append 227 3 56 [(.str ⟨#[]⟩),(.str ⟨#[]⟩),.nil] (.t 31) (.t 35))⟩,⟨some 8,none,.mv (.t 36)⟩]) (.seq (.reg [⟨some 37,none,.mv (.t 8)⟩,⟨some 38,none,.mv (.t 1)⟩,⟨some 39,none,.load true 2 (.t 5)⟩,⟨some 40,none,.call 135 [(.t 39)]⟩,⟨(some 41),none,(.build [(.str ⟨#[]⟩),(.str ⟨#[]⟩),.nil] [(0,(1,(.t 38))),(1,(2,(.t 40)))])⟩,⟨(some 42),none,(.mkrow 227 3 [(.str ⟨#[]⟩),(.str ⟨#[]⟩),.nil] 1 [(0,(.t 41))])⟩,⟨(some 43),none,(.append 227 3 56 [(.str ⟨#[]⟩),(.str ⟨#[]⟩),.nil] (.t 37) (.t 42))⟩,⟨some 8,none,.mv (.t 43)⟩]) (.seq (.reg [⟨some 44,none,.mv (.t 8)⟩,⟨some 45,none,.faddr 0 (.t 3)⟩,⟨some 46,none,.load false 1 (.t 45)⟩,⟨some 47,none,.mv (.t 7)⟩,⟨some 48,none,.slice false 3 (.t 46) (some (.t 47)) none⟩,⟨(some 49),none,(.append 227 3 56 [(.str ⟨#[]⟩),(.str ⟨#[]⟩),.nil] (.t 44) (.t 48))⟩,⟨some 50,none,.build [.nil] [(0,(1,(.t 49)))]⟩,⟨none,none,(.store 1 (.t 6) (.t 50))⟩]) .ret)))))))
theorem OY:codeOf Tryz.prog 174=some ⟨51,Kl,[(.cell 6 true 1)]⟩:=by kernel_rfl
theorem CI:modes 174=⟨[],.frz,none,false⟩:=by unfold modes; rfl
def JH:SC:=(.seq (.reg [⟨some 2,none,.boxv 142 1 (.t 0)⟩,⟨some 3,none,.boxv 142 1 (.t 1)⟩,⟨some 4,none,.alloc 142 [.nil]⟩]) (.seq (.reg [⟨some 8,none,.build [.nil] []⟩,⟨some 5,none,.alloc 142 [.nil]⟩,⟨none,none,(.store 1 (.t 5) (.t 8))⟩]) (.seq (.seq (.reg [⟨some 6,none,.mv (.c (.int .i64 0))⟩]) (.block 0 (.loop [0,0,1,1,1,1,1,0,0,0,0,0,0,0,0,0,0,0,0,0,0,0,0,0,0,0,0,0,0,0,0,0,0,0,0,0,0,0,0,0,0,0,0,0,0,0,0,0,0,0,0,0,0,0,0,0,0,0,0,0,0,0,0] (.seq (.seq (.reg [⟨some 9,none,.mv (.t 6)⟩,⟨some 10,none,.faddr 0 (.t 2)⟩,⟨some 11,none,.load false 1 (.t 10)⟩,⟨some 12,none,.len false (.t 11)⟩,⟨some 13,none,.bin .lss false (.t 9) (.t 12)⟩]) (.cond (.t 13) .skip (.exit 0))) (.seq (.block 1 (.dreg [[],[],[1],[],[2,1,3],[4,2,1,3],[5,4,2,1,3],[],[],[8],[],[9,8,10],[11,9,8,10],[12,11,9,8,10],[7,13,12,11,9,8,10],[0,6,5,4,2,1,3,14,7,13,12,11,9,8,10],[15,0,6,5,4,2,1,3,14,7,13,12,11,9,8,10]] [⟨some 16,none,.load true 1 (.t 5)⟩,⟨some 17,none,.faddr 0 (.t 2)⟩,⟨some 18,none,.load false 1 (.t 17)⟩,⟨some 19,none,.mv (.t 6)⟩,⟨some 20,none,.iaddr 3 (.t 18) (.t 19)⟩,⟨some 21,none,.faddr 0 (.t 20)⟩,⟨some 22,none,.load false 1 (.t 21)⟩,⟨some 23,none,.load true 1 (.t 3)⟩,⟨some 24,none,.faddr 0 (.t 2)⟩,⟨some 25,none,.load false 1 (.t 24)⟩,⟨some 26,none,.mv (.t 6)⟩,⟨some 27,none,.iaddr 3 (.t 25) (.t 26)⟩,⟨some 28,none,.faddr 1 (.t 27)⟩,⟨some 29,none,.load true 2 (.t 28)⟩,⟨some 30,none,.call 173 [(.t 23),(.t 29)]⟩,⟨some 31,none,.call 174 [(.t 16),(.t 22),(.t 30)]⟩,⟨none,none,(.store 1 (.t 5) (.t 31))⟩])) (.reg [⟨some 14,none,.mv (.t 6)⟩,⟨some 15,none,.bin .add false (.t 14) (.c (.int .i64 1))⟩,⟨some 6,none,.mv (.t 15)⟩])))))) (.seq (.seq (.reg [⟨some 7,none,.mv (.c (.int .i64 0))⟩]) (.block 2 (.loop [0,0,1,1,1,1,0,1,0,0,0,0,0,0,0,0,0,0,0,0,0,0,0,0,0,0,0,0,0,0,0,0,0,0,0,0,0,0,0,0,0,0,0,0,0,0,0,0,0,0,0,0,0,0,0,0,0,0,0,0,0,0,0] (.seq (.seq (.reg [⟨some 32,none,.mv (.t 7)⟩,⟨some 33,none,.faddr 0 (.t 3)⟩,⟨some 34,none,.load false 1 (.t 33)⟩,⟨some 35,none,.len false (.t 34)⟩,⟨some 36,none,.bin .lss false (.t 32) (.t 35)⟩]) (.cond (.t 36) .skip (.exit 2))) (.seq (.block 3 (.seq (.dreg [[],[],[1],[],[2,1,3],[4,2,1,3],[5,4,2,1,3],[0,6,5,4,2,1,3],[7,0,6,5,4,2,1,3]] [⟨some 39,none,.load true 1 (.t 2)⟩,⟨some 40,none,.faddr 0 (.t 3)⟩,⟨some 41,none,.load false 1 (.t 40)⟩,⟨some 42,none,.mv (.t 7)⟩,⟨some 43,none,.iaddr 3 (.t 41) (.t 42)⟩,⟨some 44,none,.faddr 0 (.t 43)⟩,⟨some 45,none,.load false 1 (.t 44)⟩,⟨some 46,none,.call 239 [(.t 39),(.t 45)]⟩,⟨some 47,none,.bin .lss false (.t 46) (.c (.int .i64 0))⟩]) (.cond (.t 47) (.dreg [[],[],[1],[],[2,1,3],[4,2,1,3],[5,4,2,1,3],[],[7],[],[8,7,9],[10,8,7,9],[11,10,8,7,9],[0,6,5,4,2,1,3,12,11,10,8,7,9],[13,0,6,5,4,2,1,3,12,11,10,8,7,9]] [⟨some 48,none,.load true 1 (.t 5)⟩,⟨some 49,none,.faddr 0 (.t 3)⟩,⟨some 50,none,.load false 1 (.t 49)⟩,⟨some 51,none,.mv (.t 7)⟩,⟨some 52,none,.iaddr 3 (.t 50) (.t 51)⟩,⟨some 53,none,.faddr 0 (.t 52)⟩,⟨some 54,none,.load false 1 (.t 53)⟩,⟨some 55,none,.faddr 0 (.t 3)⟩,⟨some 56,none,.load false 1 (.t 55)⟩,⟨some 57,none,.mv (.t 7)⟩,⟨some 58,none,.iaddr 3 (.t 56) (.t 57)⟩,⟨some 59,none,.faddr 1 (.t 58)⟩,⟨some 60,none,.load true 2 (.t 59)⟩,⟨some 61,none,.call 174 [(.t 48),(.t 54),(.t 60)]⟩,⟨none,none,(.store 1 (.t 5) (.t 61))⟩]) .skip))) (.reg [⟨some 37,none,.mv (.t 7)⟩,⟨some 38,none,.bin .add false (.t 37) (.c (.int .i64 1))⟩,⟨some 7,none,.mv (.t 38)⟩])))))) (.seq (.reg [⟨some 62,none,.load true 1 (.t 5)⟩,⟨none,none,(.store 1 (.t 4) (.t 62))⟩]) .ret)))))
theorem Qb:codeOf Tryz.prog 328=some ⟨63,JH,[(.cell 4 true 1)]⟩:=by kernel_rfl
theorem Gs:modes 328=⟨[],.frz,none,false⟩:=by unfold modes; rfl
def Bu:SC:=(.seq (.reg [⟨some 2,none,.boxv 142 1 (.t 0)⟩,⟨some 3,none,.boxv 142 1 (.t 1)⟩,⟨some 4,none,.alloc 142 [.nil]⟩,⟨some 5,none,.mv (.c (.bool false))⟩]) (.seq (.seq (.reg [⟨some 7,none,.load true 1 (.t 2)⟩,⟨some 8,none,.call 310 [(.t 7)]⟩,⟨some 9,none,.un .not (.t 8)⟩,⟨some 10,none,.mv (.t 9)⟩,⟨(some 11),(some (10,false)),(.load true 1 (.t 3))⟩,⟨(some 12),(some (10,false)),(.call 310 [(.t 11)])⟩,⟨(some 13),(some (10,false)),(.un .not (.t 12))⟩,⟨some 14,none,.pick (.t 10) (.c (.bool true)) (.t 13)⟩]) (.cond (.t 14) (.seq (.reg [⟨some 15,none,.build [.nil] []⟩,⟨none,none,(.store 1 (.t 4) (.t 15))⟩,⟨some 5,none,.mv (.c (.bool false))⟩]) .ret) .skip)) (.seq (.reg [⟨some 16,none,.load true 1 (.t 2)⟩,⟨some 17,none,.load true 1 (.t 3)⟩,⟨some 18,none,.call 328 [(.t 16),(.t 17)]⟩,⟨some 6,none,.alloc 142 [.nil]⟩,⟨none,none,(.store 1 (.t 6) (.t 18))⟩]) (.seq (.seq (.reg [⟨some 19,none,.load true 1 (.t 6)⟩,⟨some 20,none,.call 310 [(.t 19)]⟩,⟨some 21,none,.un .not (.t 20)⟩]) (.cond (.t 21) (.seq (.reg [⟨some 22,none,.build [.nil] []⟩,⟨none,none,(.store 1 (.t 4) (.t 22))⟩,⟨some 5,none,.mv (.c (.bool false))⟩]) .ret) .skip)) (.seq (.reg [⟨some 23,none,.load true 1 (.t 6)⟩,⟨none,none,(.store 1 (.t 4) (.t 23))⟩,⟨some 5,none,.mv (.c (.bool true))⟩]) .ret)))))
theorem BO:codeOf Tryz.prog 312=some ⟨24,Bu,[(.cell 4 true 1),(.tmp 5)]⟩:=by kernel_rfl
theorem Bv:modes 312=⟨[],.frz,none,false⟩:=by unfold modes; rfl
noncomputable def Sb.put (x:Sb) (b:Bd):Sb:=bif dec (b.term.name=b.var) then x else ⟨GJ x.binds b⟩
theorem Bd.ot_take (xs:List Bd) (k:Nat):((xs.map Bd.d).take k).map (fun x=>x.map D.ot)=(xs.take k).map fun b=>b.d.map D.ot:=by
 rw [←List.map_take,zY]; rfl
theorem Bd.ot_drop (xs:List Bd) (k:Nat):((xs.map Bd.d).drop k).map (fun x=>x.map D.ot)=(xs.drop k).map fun b=>b.d.map D.ot:=by
 rw [←List.map_drop,zY]; rfl
theorem Bd.al3 (xs:List Bd):((xs.map fun b=>b.d.map D.ot).all fun l=>l.length == 3)=true:=by
 rw [z7,zT]
 intro x _
 show ((x.d.map D.ot).length == 3)=true
 rw [Bd.d_eq]; rfl
theorem Bd.ald3 (xs:List Bd):((xs.map Bd.d).all fun l=>l.length == 3)=true:=by
 rw [z7,zT]
 intro x _
 show (x.d.length == 3)=true
 rw [Bd.d_eq]; rfl
theorem Bd.dfu:∀ xs:List Bd,OT.AA (xs.map fun b=>b.d.map D.ot)=true
 | []=>rfl
 | x :: xs=>by rw [zK,Bd.d_eq]; simp [OT.AA,OT.CB,OT.full,D.ot,Bd.dfu xs]
theorem Bd.der:∀ xs:List Bd,OT.erss (xs.map fun b=>b.d.map D.ot)=xs.map Bd.d
 | []=>rfl
 | x :: xs=>by rw [zK,zK,Bd.d_eq]; simp [OT.erss,OT.ers,OT.er,D.ot,Bd.der xs]
theorem Qc2 {xs:List Bd} {n:ByteArray} {k:Nat} (h:k+Bo (xs.drop k) n=Bo xs n) (hk:k<xs.length):(strLt xs[k].var n=true∧k+1+Bo (xs.drop (k+1)) n=Bo xs n)∨(strLt xs[k].var n=false∧k=Bo xs n):=by
 rw [zA hk,Bo] at h
 cases hq:strLt xs[k].var n with
 | true=>rw [hq] at h; simp only [cond_true,if_true] at h; exact .inl ⟨rfl,by omega⟩
 | false=>rw [hq] at h; simp only [cond_false,Bool.false_eq_true,if_false] at h; exact .inr ⟨rfl,by omega⟩
theorem Xo (x:Sb) (n:ByteArray) (t:Tm) (hl:x.binds.length≤1048576) (ht:t.nodes≤1099511627776):E 174 [x.sv,.str n,t.sv] []=some ((x.put ⟨n,t⟩).sv,[]):=by
 have ho:=O1 t ht
 have e1:=Bd.ot_take x.binds (Bo x.binds n)
 have e2:=Bd.ot_drop x.binds (Bo x.binds n)
 have e3:=Bd.al3 (x.binds.take (Bo x.binds n))
 have e4:=Bd.al3 (x.binds.drop (Bo x.binds n))
 have e5:=Bd.ald3 x.binds
 have l1:=WX n x.binds
 have e6:(x.binds.map Bd.d).take x.binds.length=x.binds.map Bd.d:=List.take_of_length_le (by simp)
 have e7:(x.binds.take (Bo x.binds n)).length=Bo x.binds n:=by rw [List.length_take]; omega
 have e8:(x.binds.drop (Bo x.binds n)).length=x.binds.length-Bo x.binds n:=List.length_drop
 have hin:=YO ⟨n,t⟩ x.binds
 have hx2:(x.binds.take (Bo x.binds n)).map (fun b=>b.d.map D.ot)++[[OT.str n,.str t.name,.sh (t.args.map Tm.d)]]++(x.binds.drop (Bo x.binds n)).map (fun b=>b.d.map D.ot)=(GJ x.binds ⟨n,t⟩).map fun b=>b.d.map D.ot:=by
  rw [hin]
  simp only [yO,zK,zZ,zU,yB]
  rw [Bd.d_eq]; rfl
 have hfu:=Bd.dfu (GJ x.binds ⟨n,t⟩)
 have her:=Bd.der (GJ x.binds ⟨n,t⟩)
 have hsv:(Sb.mk (GJ x.binds ⟨n,t⟩)).sv=.agg [.arr ((GJ x.binds ⟨n,t⟩).map Bd.d)]:=rfl
 unfold Sb.put
 cases hq:dec (t.name=n) with
 | true =>
  simp only [hq,cond_true]
  refine Ad OY CI (of_decide_eq_true rfl) ?_
  simp (disch:=omega) only [Kl,go_sem,Aa,hq]
  try rfl
 | false =>
  simp only [hq,cond_false]
  rw [hsv]
  refine Ad OY CI (of_decide_eq_true rfl) ?_
  simp (disch:=omega) only [Kl,go_sem,Aa,hq]
  refine go_loop (α:=Int) (fun a=>⟨slots 51 0 [(1,.str n),(3,.ptr 0 0),(5,.ptr 1 0),(6,.ptr 2 0),(7,.int .i64 a)],[.box 142 [.arr (x.binds.map Bd.d)],.box 33 [.str t.name,.arr (t.args.map Tm.d)],.box 142 [.nil]]⟩) (fun a=>∃ k:Nat,a=k∧k≤(x.binds).length∧k+Bo (x.binds.drop k) n=Bo x.binds n) (fun a=>(x.binds).length-(a).toNat) 0 ⟨0,rfl,zH _,by rw [zD,yD]⟩ (by simp (disch:=omega) only [go_sem,Aa]) ?_
  rintro i ⟨k,hi,hk,hR⟩
  have hni:i.toNat=k:=by omega
  have hni1:(i+1).toNat=k+1:=by omega
  rcases zC k (x.binds).length with hlt | hge
  ·have hg:=get_at Bd.d hlt
   rw [Bd.d_eq] at hg
   rcases Qc2 hR hlt with ⟨q,hR'⟩ | ⟨q,hk'⟩
   ·simp (disch:=omega) only [go_sem,Aa,hni,hg,q]
    exact ⟨i+1,⟨k+1,by omega,hlt,hR'⟩,by omega,by first | trivial | rfl⟩
   ·subst hk'
    simp (disch:=omega) only [go_sem,Aa,hni,hg,q,ho,e1,e2,e3,e4,e5,e6,e7,e8,hx2,hfu,her,zJ,zS,Cv]
  ·obtain rfl:k=x.binds.length:=by omega
   have hk':x.binds.length=Bo x.binds n:=by rw [←hR,zB (zP _)]; simp [Bo]
   rw [hk'] at hni
   simp (disch:=omega) only [go_sem,Aa,hni,ho,e1,e2,e3,e4,e5,e6,e7,e8,hx2,hfu,her,zJ,zS,Cv]
theorem QdP (b:Bd) (xs:List Bd):(GJ xs b).length=xs.length+1:=by rw [(M2 b xs).length_eq]; rfl
theorem Qfb (u:Sb) (acc:List Bd) (b:Bd):(Sb.mk acc).put ⟨b.var,b.term.ap u.look⟩=⟨Jb acc (match CV u b with | some c=>[c] | none=>[])⟩:=by
 unfold Sb.put CV
 cases dec ((b.term.ap u.look).name=b.var) with
 | true=>rfl
 | false=>rfl
theorem Qfc {acc:List Bd} {b:Bd} (h:Il b=true):(Sb.mk acc).put b=⟨GJ acc b⟩:=by
 unfold Il at h
 rw [zG,zG,yI] at h
 unfold Sb.put
 rw [h.2.2]; rfl
theorem Zf (s u:Sb) (hs:s.ok=true) (hu:u.ok=true) (hts:s.tame) (htu:u.tame):E 328 [s.sv,u.sv] []=some ((Cy s u).sv,[]):=by
 have hsl:=ok_len hs
 have hul:=ok_len hu
 have hend:Jb [] (C5 s u)=(Cy s u).binds:=Qc0 (OG (Sb.K5 hs) (Sb.K5 hu))
 have h00:((0:Int)=0)=True:=eq_self _
 have hsv:(Cy s u).sv=.agg [.arr ((Cy s u).binds.map Bd.d)]:=rfl
 rw [hsv]
 refine Ad Qb Gs (of_decide_eq_true rfl) ?_
 simp (disch:=omega) only [JH,go_sem,Aa]
 refine go_loop (α:=Int × List Bd) (fun a=>⟨slots 63 0 [(2,.ptr 0 0),(3,.ptr 1 0),(4,.ptr 2 0),(5,.ptr 3 0),(6,.int .i64 a.1)],[.box 142 [.arr (s.binds.map Bd.d)],.box 142 [.arr (u.binds.map Bd.d)],.box 142 [.nil],.box 142 [if a.1=0 then .nil else .arr (a.2.map Bd.d)]]⟩) (fun a=>∃ k:Nat,a.1=k∧k≤s.binds.length∧Jb a.2 ((s.binds.drop k).filterMap (CV u))=Jb [] (Ia s u)∧a.2.length≤k∧(k=0→a.2=[])) (fun a=>s.binds.length-a.1.toNat) (0,[]) ⟨0,rfl,zH _,by rw [zD]; rfl,zP _,fun _=>rfl⟩ (by simp (disch:=omega) only [go_sem,Aa,h00,if_true]) ?_
 rintro ⟨i,acc⟩ ⟨k,hi,hk,hR,hal,hz⟩
 dsimp only at hi hR hal hz
 have hni:i.toNat=k:=by omega
 have hni1:(i+1).toNat=k+1:=by omega
 have hi1:(i+1=0)=False:=eq_false (by omega)
 rcases zC k s.binds.length with hlt | hge
 ·have hg:=get_at Bd.d hlt
  rw [Bd.d_eq] at hg
  have hval:=DM (Sb.K6 hs hlt)
  have hc:=PJ u hu htu s.binds[k].term (by have:=E9 hval; omega)
  have hn9:=Sb.TA hu hval
  have hp:=Xo ⟨acc⟩ s.binds[k].var (s.binds[k].term.ap u.look) (by show acc.length≤_; omega) (by omega)
  rw [Qfb] at hp
  obtain ⟨acc2,ha2⟩:∃ acc2,acc2=Jb acc (match CV u s.binds[k] with | some c=>[c] | none=>[]):=⟨_,rfl⟩
  rw [←ha2] at hp
  have hp:E 174 [.agg [.arr (acc.map Bd.d)],.str s.binds[k].var,(s.binds[k].term.ap u.look).sv] []=some (.agg [.arr (acc2.map Bd.d)],[]):=hp
  have hl2:acc2.length≤k+1:=by
   rw [ha2,(PS _ acc).length_eq,zJ]
   cases CV u s.binds[k] with
   | none=>simp only [zQ]; omega
   | some c=>simp only [zE,zQ]; omega
  have hR2:Jb acc2 ((s.binds.drop (k+1)).filterMap (CV u))=Jb [] (Ia s u):=by
   rw [←hR,zA hlt,yC,ha2]
   cases CV u s.binds[k] with
   | none=>rfl
   | some c=>rfl
  rcases yG k with h0 | h0
  ·have hi0:(i=0)=True:=eq_true (by omega)
   obtain rfl:=hz h0
   rw [zL] at hp
   simp (disch:=omega) only [go_sem,Aa,hni,hg,hc,hp,hi0,if_true,AG,CI,BQ]
   exact ⟨(i+1,acc2),⟨k+1,by dsimp only; omega,hlt,hR2,by dsimp only; omega,by intro h; omega⟩,by dsimp only; omega,by simp only [hi1,if_false,and_self]⟩
  ·have hi0:(i=0)=False:=eq_false (by omega)
   simp (disch:=omega) only [go_sem,Aa,hni,hg,hc,hp,hi0,if_false,AG,CI,BQ]
   exact ⟨(i+1,acc2),⟨k+1,by dsimp only; omega,hlt,hR2,by dsimp only; omega,by intro h; omega⟩,by dsimp only; omega,by simp only [hi1,if_false,and_self]⟩
 rw [zB hge,List.filterMap_nil] at hR
 have hR:acc=Jb [] (Ia s u):=hR
 have hor:∃ fl:Bool,(if i=0 then SV.nil else SV.arr (acc.map Bd.d))=(bif fl then SV.arr (acc.map Bd.d) else SV.nil)∧(fl=false→acc=[]):=by
  rcases yG k with h0 | h0
  ·exact ⟨false,by rw [if_pos (by omega)]; rfl,fun _=>hz h0⟩
  ·exact ⟨true,by rw [if_neg (by omega)]; rfl,fun h=>by cases h⟩
 obtain ⟨fl,hfl,hfz⟩:=hor
 rw [hfl]
 simp (disch:=omega) only [go_sem,Aa,hni]
 refine go_loop (α:=Int × Bool × List Bd) (fun a=>⟨slots 63 0 [(2,.ptr 0 0),(3,.ptr 1 0),(4,.ptr 2 0),(5,.ptr 3 0),(7,.int .i64 a.1)],[.box 142 [.arr (s.binds.map Bd.d)],.box 142 [.arr (u.binds.map Bd.d)],.box 142 [.nil],.box 142 [bif a.2.1 then .arr (a.2.2.map Bd.d) else .nil]]⟩) (fun a=>∃ k:Nat,a.1=k∧k≤u.binds.length∧Jb a.2.2 ((u.binds.drop k).filter (fun b=>!El s.binds b.var))=Jb [] (C5 s u)∧a.2.2.length≤12+k∧(a.2.1=false→a.2.2=[])) (fun a=>u.binds.length-a.1.toNat) (0,fl,acc) ⟨0,rfl,zH _,by rw [zD,hR,← QdN]; rfl,by dsimp only; omega,hfz⟩ (by cases fl <;> (simp (disch:=omega) only [go_sem,Aa])) ?_
 clear hR hfl hfz hal hz
 rintro ⟨i,fl,acc⟩ ⟨k,hi,hk,hR,hal,hfz⟩
 dsimp only at hi hR hal hfz
 have hni:i.toNat=k:=by omega
 have hni1:(i+1).toNat=k+1:=by omega
 rcases zC k u.binds.length with hlt | hge
 ·have hg:=get_at Bd.d hlt
  rw [Bd.d_eq] at hg
  have hbok:=Sb.K6 hu hlt
  have hval:=DM hbok
  have hf:=Y5 s u.binds[k].var (by omega)
  rw [Te (Sb.K5 hs)] at hf
  rw [zA hlt,List.filter_cons] at hR
  cases hh:El s.binds u.binds[k].var with
  | true =>
   rw [hh,if_pos rfl] at hf
   rw [hh,if_neg (by simp)] at hR
   cases fl with
   | false =>
    simp (disch:=omega) only [go_sem,Aa,hni,hg,hf,AG,CI,BQ]
    exact ⟨(i+1,false,acc),⟨k+1,by dsimp only; omega,hlt,hR,by dsimp only; omega,hfz⟩,by dsimp only; omega,by first | trivial | rfl⟩
   | true =>
    simp (disch:=omega) only [go_sem,Aa,hni,hg,hf,AG,CI,BQ]
    exact ⟨(i+1,true,acc),⟨k+1,by dsimp only; omega,hlt,hR,by dsimp only; omega,hfz⟩,by dsimp only; omega,by first | trivial | rfl⟩
  | false =>
   rw [hh,if_neg (by simp)] at hf
   rw [hh,if_pos (by simp)] at hR
   have hp:=Xo ⟨acc⟩ u.binds[k].var u.binds[k].term (by show acc.length≤_; omega) (by have:=E9 hval; omega)
   have hpt:(Sb.mk acc).put ⟨u.binds[k].var,u.binds[k].term⟩=⟨GJ acc u.binds[k]⟩:=Qfc hbok
   rw [hpt] at hp
   have hp:E 174 [.agg [.arr (acc.map Bd.d)],.str u.binds[k].var,u.binds[k].term.sv] []=some (.agg [.arr ((GJ acc u.binds[k]).map Bd.d)],[]):=hp
   have hl2:(GJ acc u.binds[k]).length≤12+(k+1):=by rw [QdP]; omega
   cases fl with
   | false =>
    obtain rfl:=hfz rfl
    rw [zL] at hp
    simp (disch:=omega) only [go_sem,Aa,hni,hg,hf,hp,AG,CI,BQ]
    exact ⟨(i+1,true,GJ [] u.binds[k]),⟨k+1,by dsimp only; omega,hlt,hR,hl2,by intro h; cases h⟩,by dsimp only; omega,by first | trivial | rfl⟩
   | true =>
    simp (disch:=omega) only [go_sem,Aa,hni,hg,hf,hp,AG,CI,BQ]
    exact ⟨(i+1,true,GJ acc u.binds[k]),⟨k+1,by dsimp only; omega,hlt,hR,hl2,by intro h; cases h⟩,by dsimp only; omega,by first | trivial | rfl⟩
 ·rw [zB hge,List.filter_nil] at hR
  have hR:acc=Jb [] (C5 s u):=hR
  rw [←hend,← hR]
  cases fl with
  | false =>
   obtain rfl:=hfz rfl
   simp (disch:=omega) only [go_sem,Aa,hni,zL]
  | true =>
   simp (disch:=omega) only [go_sem,Aa,hni,zL]
noncomputable def Ux (s u:Sb):Bool:=s.ok&&(u.ok&&C6 s u)
noncomputable def Zg (s u:Sb):Sb:=bif Ux s u then Cy s u else ⟨[]⟩
theorem Uy (s u:Sb) (hts:s.tame) (htu:u.tame):E 312 [s.sv,u.sv] []=some (.tup [(Zg s u).sv,.bool (Ux s u)],[]):=by
 have h1:=O4 s hts
 have h2:=O4 u htu
 have z1:(Sb.mk []).osv=.agg [.ref 0]:=rfl
 have z2:(Sb.mk []).obs=[.row 227 3 []]:=rfl
 have z3:(Sb.mk []).sv=.agg [.arr []]:=rfl
 cases hs:s.ok with
 | false =>
  have e:Ux s u=false:=by unfold Ux; rw [hs]; rfl
  rw [hs] at h1
  unfold Zg
  rw [e]
  simp only [cond_false,z1,z2,z3]
  refine Ad BO Bv (of_decide_eq_true rfl) ?_
  simp (disch:=omega) only [Bu,go_sem,Aa,h1,h2,Cw]
 | true =>
  rw [hs] at h1
  cases hu:u.ok with
  | false =>
   have e:Ux s u=false:=by unfold Ux; rw [hu,z8,yH]
   rw [hu] at h2
   unfold Zg
   rw [e]
   simp only [cond_false,z1,z2,z3]
   refine Ad BO Bv (of_decide_eq_true rfl) ?_
   simp (disch:=omega) only [Bu,go_sem,Aa,h1,h2,Cw]
  | true =>
   rw [hu] at h2
   have e:Ux s u=C6 s u:=by unfold Ux; rw [hs,hu]; rfl
   have h3:=Zf s u hs hu hts htu
   unfold Zg
   rw [e]
   have h4:=O4 (Cy s u) (VG hs hu)
   have z6:(Cy s u).sv=.agg [.arr ((Cy s u).binds.map Bd.d)]:=rfl
   have e2:C6 s u=(Cy s u).ok:=rfl
   rw [←e2] at h4
   rw [z6] at h3 h4
   cases hq:C6 s u with
   | false =>
    rw [hq] at h4
    simp only [cond_false,z3]
    refine Ad BO Bv (of_decide_eq_true rfl) ?_
    simp (disch:=omega) only [Bu,go_sem,Aa,h1,h2,h3,h4,Cw,Gs]
   | true =>
    rw [hq] at h4
    simp only [cond_true,z6]
    refine Ad BO Bv (of_decide_eq_true rfl) ?_
    simp (disch:=omega) only [Bu,go_sem,Aa,h1,h2,h3,h4,Cw,Gs]
theorem Zh:∀ {xs:List ByteArray} {n m:ByteArray},m∈Ej xs n ↔ m∈xs∨m=n
 | [],n,m=>by simp [Ej]
 | x :: xs,n,m=>by
  rw [Ej]
  cases strLt x n with
  | true=>rw [cond_true,zR,Zh,zR,or_assoc]
  | false =>
   rw [cond_false]
   by_cases h:x=n
   ·rw [At h,cond_true]
    exact ⟨.inl,fun h'=>h'.elim id fun e=>by subst e; subst h; simp⟩
   ·rw [Ay h,cond_false,zR]
    exact or_comm
theorem Zi:∀ (xs:List ByteArray) (n:ByteArray),(Ej xs n).length≤xs.length+1
 | [],n=>by simp [Ej]
 | x :: xs,n=>by
  have h:=Zi xs n
  rw [Ej]
  cases strLt x n with
  | true=>simp only [cond_true,zE]; omega
  | false =>
   rw [cond_false]
   cases dec (x=n) with
   | true=>simp only [cond_true,zE]; omega
   | false=>simp only [cond_false,zE]; omega
theorem Qb8:∀ (xs:List ByteArray) (n:ByteArray),CP xs n≤xs.length
 | [],n=>by simp [CP]
 | x :: xs,n=>by
  have h:=Qb8 xs n
  rw [CP]
  cases strLt x n with
  | true=>simp only [cond_true,zE]; omega
  | false=>simp only [cond_false,zE]; omega
theorem Km:∀ {xs:List ByteArray} {n:ByteArray} (h:CP xs n<xs.length),xs[CP xs n]=n→Ej xs n=xs
 | [],n,h,_=>by simp at h
 | x :: xs,n,h,e=>by
  rw [Ej]
  cases hq:strLt x n with
  | true =>
   simp only [CP,hq,cond_true,zE,List.getElem_cons_succ] at h e
   rw [cond_true,Km (by omega) e]
  | false =>
   simp only [CP,hq,cond_false,List.getElem_cons_zero] at e
   rw [cond_false,At e]; rfl
theorem FP:∀ {xs:List ByteArray} {n:ByteArray},(∀ h:CP xs n<xs.length,¬ xs[CP xs n]=n)→Ej xs n=xs.take (CP xs n)++n :: xs.drop (CP xs n)
 | [],n,_=>by simp [Ej,CP]
 | x :: xs,n,h=>by
  rw [Ej]
  cases hq:strLt x n with
  | true =>
   simp only [CP,hq,cond_true,zE,List.getElem_cons_succ] at h ⊢
   rw [FP fun h'=>h (by omega)]
   simp
  | false =>
   simp only [CP,hq,cond_false,List.getElem_cons_zero] at h ⊢
   rw [Ay (h (by simp))]
   simp
theorem VH {xs:List ByteArray} {n:ByteArray} {k:Nat} (h:k+CP (xs.drop k) n=CP xs n) (hk:k<xs.length):(strLt xs[k] n=true∧k+1+CP (xs.drop (k+1)) n=CP xs n)∨(strLt xs[k] n=false∧k=CP xs n):=by
 rw [zA hk,CP] at h
 cases hq:strLt xs[k] n with
 | true=>rw [hq,cond_true] at h; exact .inl ⟨rfl,by omega⟩
 | false=>rw [hq,cond_false] at h; exact .inr ⟨rfl,by omega⟩
theorem ot_take (xs:List ByteArray) (k:Nat):((xs.map fun s=>[D.str s]).take k).map (fun x=>x.map D.ot)=(xs.take k).map fun s=>[OT.str s]:=by
 rw [←List.map_take,zY]; rfl
theorem ot_drop (xs:List ByteArray) (k:Nat):((xs.map fun s=>[D.str s]).drop k).map (fun x=>x.map D.ot)=(xs.drop k).map fun s=>[OT.str s]:=by
 rw [←List.map_drop,zY]; rfl
theorem Qb9 (xs:List ByteArray):((xs.map fun s=>[OT.str s]).all fun l=>l.length == 1)=true:=by
 rw [z7,zT]
 intro x _; rfl
theorem QdQ (xs:List ByteArray):((xs.map fun s=>[D.str s]).all fun l=>l.length == 1)=true:=by
 rw [z7,zT]
 intro x _; rfl
namespace Wd
attribute [local go_sem] Fz Sc SV.isNil Ob.idsB SV.idsB SV.MJ List.getElem?_cons_zero List.getElem?_cons_succ OT.AA OT.CB OT.full entry toTree US Sq UR GB Gb Fs XV Ql Wa OT.erss OT.ers OT.er OT.BF OT.DG OT.noSh quiet obB RH GP meets IN go_skip Rs go_ret Wz Rt W2 Of Ru Rv Rw W3 W4 W5 Qbf Qbg Qbh Rx Ry Og Ml Rz Oh Mm R0 W6 W7 Qbi W8 W9 WA Qbj WB WC Oi WD WE WF WG WH WI WJ WK Qy Sk Dc seen Mn JW R1 R2 WL Mo Ep Oj Ok Ol WM WN R6 WO order opF fOp FS UO QbS UM UN XU IQ eqK A3 gets Ap QT EU D5 M3 Pu AN VZ SV.cellsN SV.one Kv splice Ev TV Ku KR Es BE Cm B7 Kw Kx VQ eOp.mkEs eOp.addS D.sv OT.sv D.ot Ij nodupB reach SV.refs SV.Qw SV.ptrs SV.Qx Ob.refs Ob.liveB F0 EC SV.back SV.ML Ob.back Ii Ip CO Bh Bp H5 F1 SV.ren SV.M4 Ob.ren mkU sgp gc MN names M5 Wb Wc We Nt ZM Wh Wi Wj Wk Wl Wm SC.mark Q0 F2 slots NQ VY rxV KW Sj SV.noSh SV.MH Ob.noSh SV.own SV.So Gc cond_true cond_false zE zQ zK zL List.drop_succ_cons zD List.drop_nil List.take_succ_cons List.take_zero List.take_nil yP yB zU List.all_cons List.all_nil List.getD_cons_zero List.getD_cons_succ List.any_cons List.any_nil List.contains_cons List.contains_nil List.isEmpty_nil List.isEmpty_cons List.flatten_cons List.flatten_nil List.replicate_succ List.replicate_zero List.set_cons_zero List.set_cons_succ Nat.add_zero yD zP zH Bool.and_true yK zM Bool.or_false yR Bool.true_or Bool.or_true Bool.not_true Bool.not_false z8 yH decide_true decide_false beq_self_eq_true if_true if_false Option.map_some Option.map_none yT yM yA Int.toNat_natCast true_and and_true and_self eq_self_iff_true zI Bool.false_eq_true Bool.true_eq_false Prod.mk.injEq SV.int.injEq SV.bool.injEq SV.str.injEq SV.agg.injEq SV.tup.injEq SV.arr.injEq zX St.mk.injEq Int.zero_add Qbl Qbm WP At Ay Qe9 svK svD Z9 svM MV.sv UA Sh NR Si GR St.app TY MK.sv Mp Mq Mr R4 R5 mode
def Kn:SC:=(.seq (.reg [⟨some 4,none,.mv (.c .nil)⟩]) (.seq (.reg [⟨some 5,none,.mv (.c (.int .i64 0))⟩]) (.seq (.block 0 (.loop [1,1,0,0,0,1,0,0,0,0,0,0,0,0,0,0,0,0,0,0,0,0,0,0,0,0,0,0,0,0,0,0,0,0,0,0,0,0,0,0,0,0,0,0,0] (.seq (.seq (.reg [⟨some 6,none,.mv (.t 5)⟩,⟨some 7,none,.mv (.t 0)⟩,⟨some 8,none,.len false (.t 7)⟩,⟨some 9,none,.bin .lss false (.t 6) (.t 8)⟩,⟨some 10,none,.mv (.t 9)⟩,⟨(some 11),(some (10,true)),(.mv (.t 0))⟩,⟨(some 12),(some (10,true)),(.mv (.t 5))⟩,⟨(some 13),(some (10,true)),(.iaddr 1 (.t 11) (.t 12))⟩,⟨(some 14),(some (10,true)),(.load false 1 (.t 13))⟩,⟨(some 15),(some (10,true)),(.mv (.t 1))⟩,⟨(some 16),(some (10,true)),(.bin .lss false (.t 14) (.t 15))⟩,⟨some 17,none,.pick (.t 10) (.t 16) (.c (.bool false))⟩]) (.cond (.t 17) .skip (.exit 0))) (.block 1 (.reg [⟨some 18,none,.mv (.t 5)⟩,⟨some 19,none,.bin .add false (.t 18) (.c (.int .i64 1))⟩,⟨some 5,none,.mv (.t 19)⟩]))))) (.seq (.seq (.reg [⟨some 20,none,.mv (.t 5)⟩,⟨some 21,none,.mv (.t 0)⟩,⟨some 22,none,.len false (.t 21)⟩,⟨some 23,none,.bin .lss false (.t 20) (.t 22)⟩,⟨some 24,none,.mv (.t 23)⟩,⟨(some 25),(some (24,true)),(.mv (.t 0))⟩,⟨(some 26),(some (24,true)),(.mv (.t 5))⟩,⟨(some 27),(some (24,true)),(.iaddr 1 (.t 25) (.t 26))⟩,⟨(some 28),(some (24,true)),(.load false 1 (.t 27))⟩,⟨(some 29),(some (24,true)),(.mv (.t 1))⟩,⟨(some 30),(some (24,true)),(.bin .eql false (.t 28) (.t 29))⟩,⟨some 31,none,.pick (.t 24) (.t 30) (.c (.bool false))⟩]) (.cond (.t 31) (.seq (.reg [⟨some 32,none,.mv (.t 0)⟩,⟨some 4,none,.mv (.t 32)⟩]) .ret) .skip)) (.seq (.dreg [[],[],[],[1,2],[0,3,1,2],[],[5],[4,0,3,1,2,6,5],[],[],[8,9],[7,4,0,3,1,2,6,5,10,8,9],[11,7,4,0,3,1,2,6,5,10,8,9]] [⟨(some 33),none,(.mkrow 9 1 [(.str ⟨#[]⟩)] 0 [])⟩,⟨some 34,none,.mv (.t 0)⟩,⟨some 35,none,.mv (.t 5)⟩,⟨some 36,none,.slice false 1 (.t 34) none (some (.t 35))⟩,⟨(some 37),none,(.append 9 1 16 [(.str ⟨#[]⟩)] (.t 33) (.t 36))⟩,⟨some 38,none,.mv (.t 1)⟩,⟨(some 39),none,(.mkrow 9 1 [(.str ⟨#[]⟩)] 1 [(0,(.t 38))])⟩,⟨(some 40),none,(.append 9 1 16 [(.str ⟨#[]⟩)] (.t 37) (.t 39))⟩,⟨some 41,none,.mv (.t 0)⟩,⟨some 42,none,.mv (.t 5)⟩,⟨some 43,none,.slice false 1 (.t 41) (some (.t 42)) none⟩,⟨(some 44),none,(.append 9 1 16 [(.str ⟨#[]⟩)] (.t 40) (.t 43))⟩,⟨some 4,none,.mv (.t 44)⟩]) .ret)))))
theorem OZ:codeOf Tryz.prog 238=some ⟨45,Kn,[(.tmp 4)]⟩:=by kernel_rfl
theorem EI:modes 238=⟨[],.asis,none,false⟩:=rfl
theorem Qfd {xs:List ByteArray} {k:Nat} (h:k<xs.length):(xs.map fun s=>[OT.str s])[k]?=some [OT.str xs[k]]:=by rw [List.getElem?_map,yL h]; rfl
theorem l2PutN_E (xs:List ByteArray) (n:ByteArray) (hl:xs.length≤1048576) (hg:xs.length<(Ej xs n).length):E 238 [.arr (xs.map fun s=>[D.str s]),.str n] []=some (.ref 0,[.row 9 1 ((Ej xs n).map fun s=>[OT.str s])]):=by
 have e1:=ot_take xs (CP xs n)
 have e2:=ot_drop xs (CP xs n)
 have e3:=Qb9 (xs.take (CP xs n))
 have e4:=Qb9 (xs.drop (CP xs n))
 have e5:=QdQ xs
 have l1:=Qb8 xs n
 have e6:(xs.map fun s=>[D.str s]).take xs.length=xs.map fun s=>[D.str s]:=List.take_of_length_le (by simp)
 have e7:(xs.take (CP xs n)).length=CP xs n:=by rw [List.length_take]; omega
 have e8:(xs.drop (CP xs n)).length=xs.length-CP xs n:=List.length_drop
 refine Ad OZ EI (of_decide_eq_true rfl) ?_
 simp (disch:=omega) only [Kn,go_sem,Aa]
 refine go_loop (α:=Int) (fun a=>⟨slots 45 0 [(0,.arr (xs.map fun s=>[D.str s])),(1,.str n),(5,.int .i64 a)],[]⟩) (fun a=>∃ k:Nat,a=k∧k≤(xs).length∧k+CP (xs.drop k) n=CP xs n) (fun a=>(xs).length-(a).toNat) 0 ⟨0,rfl,zH _,by rw [zD,yD]⟩ (by simp (disch:=omega) only [go_sem,Aa]) ?_
 rintro i ⟨k,hi,hk,hR⟩
 have hni:i.toNat=k:=by omega
 have hni1:(i+1).toNat=k+1:=by omega
 rcases zC k (xs).length with hlt | hge
 ·have hg':=get_at (fun s=>[D.str s]) hlt
  rcases VH hR hlt with ⟨q,hR'⟩ | ⟨q,hk'⟩
  ·simp (disch:=omega) only [go_sem,Aa,hni,hg',q]
   exact ⟨i+1,⟨k+1,by omega,hlt,hR'⟩,by omega,by first | trivial | rfl⟩
  ·subst hk'
   by_cases h0:xs[CP xs n]=n
   ·have hi0:=Km hlt h0
    rw [hi0] at hg
    exact absurd hg (Nat.lt_irrefl _)
   ·have hi0:=FP (fun _=>h0)
    have hx2:(xs.take (CP xs n)).map (fun s=>[OT.str s])++[[OT.str n]]++(xs.drop (CP xs n)).map (fun s=>[OT.str s])=(Ej xs n).map fun s=>[OT.str s]:=by rw [hi0]; simp
    simp (disch:=omega) only [go_sem,Aa,hni,hg',q,h0,e1,e2,e3,e4,e5,e6,e7,e8,hx2,zJ,zS]
 ·obtain rfl:k=xs.length:=by omega
  have hk':xs.length=CP xs n:=by rw [←hR,zB (zP _)]; simp [CP]
  have hi0:=FP (xs:=xs) (n:=n) (fun h=>by omega)
  have hx2:(xs.take (CP xs n)).map (fun s=>[OT.str s])++[[OT.str n]]++(xs.drop (CP xs n)).map (fun s=>[OT.str s])=(Ej xs n).map fun s=>[OT.str s]:=by rw [hi0]; simp
  rw [hk'] at hni
  simp (disch:=omega) only [go_sem,Aa,hni,e1,e2,e3,e4,e5,e6,e7,e8,hx2,zJ,zS]
theorem l2PutT_E (xs:List ByteArray) (n:ByteArray) (hl:xs.length≤1048576) (hg:¬ xs.length<(Ej xs n).length):E 238 [.ref 0,.str n] [.row 9 1 (xs.map fun s=>[OT.str s])]=some (.ref 0,[.row 9 1 (xs.map fun s=>[OT.str s])]):=by
 refine Ad OZ EI (of_decide_eq_true rfl) ?_
 simp (disch:=omega) only [Kn,go_sem,Aa]
 refine go_loop (α:=Int) (fun a=>⟨slots 45 0 [(0,.ref 0),(1,.str n),(5,.int .i64 a)],[.row 9 1 (xs.map fun s=>[OT.str s])]⟩) (fun a=>∃ k:Nat,a=k∧k≤(xs).length∧k+CP (xs.drop k) n=CP xs n) (fun a=>(xs).length-(a).toNat) 0 ⟨0,rfl,zH _,by rw [zD,yD]⟩ (by simp (disch:=omega) only [go_sem,Aa]) ?_
 rintro i ⟨k,hi,hk,hR⟩
 have hni:i.toNat=k:=by omega
 have hni1:(i+1).toNat=k+1:=by omega
 rcases zC k (xs).length with hlt | hge
 ·have hg':=Qfd hlt
  rcases VH hR hlt with ⟨q,hR'⟩ | ⟨q,hk'⟩
  ·simp (disch:=omega) only [go_sem,Aa,hni,hg',q]
   exact ⟨i+1,⟨k+1,by omega,hlt,hR'⟩,by omega,by first | trivial | rfl⟩
  ·subst hk'
   by_cases h0:xs[CP xs n]=n
   ·simp (disch:=omega) only [go_sem,Aa,hni,hg',q,h0,HS,DT]
   ·have hi0:=FP (fun _=>h0)
    refine absurd ?_ hg
    rw [hi0]; simp; omega
 ·obtain rfl:k=xs.length:=by omega
  have hk':xs.length=CP xs n:=by rw [←hR,zB (zP _)]; simp [CP]
  have hi0:=FP (xs:=xs) (n:=n) (fun h=>by omega)
  refine absurd ?_ hg
  rw [hi0]; simp; omega
end Wd
theorem EI:modes 238=⟨[true],.asis,some PA,false⟩:=by unfold modes; rfl
theorem QdR (xs:List ByteArray) (n:ByteArray) (hl:xs.length≤1048576):E 238 [.ref 0,.str n] [.row 9 1 (xs.map fun s=>[OT.str s])]=some (bif dec (xs.length<(Ej xs n).length) then .ref 1 else .ref 0,bif dec (xs.length<(Ej xs n).length) then [.gone,.row 9 1 ((Ej xs n).map fun s=>[OT.str s])] else [.row 9 1 (xs.map fun s=>[OT.str s])]):=by
 rw [GT (g:=PA) (congrArg FM.ext EI)]
 unfold PA
 simp only [Qdr]
 rw [At ⟨trivial,fun h=>(FunD.toFun (Wd.E_told (Wd.l2PutT_E xs n hl h))),fun h=>FunD.toFun (Wd.E_told (Wd.l2PutN_E xs n hl h))⟩,cond_true]
 cases dec (xs.length<(Ej xs n).length) <;> rfl
theorem Qc3 (xs:List ByteArray) (n:ByteArray):xs.length≤(Ej xs n).length:=by
 rcases zC (CP xs n) xs.length with h | h
 ·by_cases h0:xs[CP xs n]=n
  ·rw [Km h h0]; exact zP _
  ·rw [FP (fun _=>h0)]; simp; omega
 ·rw [FP (fun h'=>by omega)]; simp; omega
theorem Qc4 {xs:List ByteArray} {n:ByteArray} (h:(Ej xs n).length≤xs.length):Ej xs n=xs:=by
 rcases zC (CP xs n) xs.length with h1 | h1
 ·by_cases h0:xs[CP xs n]=n
  ·exact Km h1 h0
  ·rw [FP (fun _=>h0)] at h
   simp at h
   omega
 ·rw [FP (fun h'=>by omega)] at h
  simp at h
  omega
noncomputable def Hr (l ns:List ByteArray):List ByteArray:=ns.foldl Ej l
theorem TB:∀ (ns l:List ByteArray),(Hr l ns).length≤l.length+ns.length
 | [],l=>by simp [Hr]
 | n :: ns,l=>by
  have h:=TB ns (Ej l n)
  have h2:=Zi l n
  simp only [Hr,yQ,zE] at h ⊢
  omega
theorem Zj:∀ {ns l:List ByteArray} {m:ByteArray},m∈Hr l ns ↔ m∈l∨m∈ns
 | [],l,m=>by simp [Hr]
 | n :: ns,l,m=>by
  have h:=Zj (ns:=ns) (l:=Ej l n) (m:=m)
  simp only [Hr,yQ] at h ⊢
  rw [h,Zh]
  simp only [zR]
  exact or_assoc
theorem QdS (l a b:List ByteArray):Hr l (a++b)=Hr (Hr l a) b:=List.foldl_append
def G3:SC:=(.seq (.reg [⟨some 3,none,.boxv 33 2 (.t 1)⟩,⟨some 4,none,.mv (.c .nil)⟩]) (.seq (.seq (.reg [⟨some 6,none,.faddr 0 (.t 3)⟩,⟨some 7,none,.load false 1 (.t 6)⟩,⟨some 8,none,.call 191 [(.t 7)]⟩]) (.cond (.t 8) (.seq (.reg [⟨some 9,none,.mv (.t 0)⟩,⟨some 10,none,.faddr 0 (.t 3)⟩,⟨some 11,none,.load false 1 (.t 10)⟩,⟨some 12,none,.call 238 [(.t 9),(.t 11)]⟩,⟨some 4,none,.mv (.t 12)⟩]) .ret) .skip)) (.seq (.seq (.reg [⟨some 5,none,.mv (.c (.int .i64 0))⟩]) (.block 0 (.loop [1,0,0,1,0,1,0,0,0,0,0,0,0,0,0,0,0,0,0,0,0,0,0,0,0,0,0,0] (.seq (.seq (.reg [⟨some 13,none,.mv (.t 5)⟩,⟨some 14,none,.faddr 1 (.t 3)⟩,⟨some 15,none,.load false 1 (.t 14)⟩,⟨some 16,none,.len false (.t 15)⟩,⟨some 17,none,.bin .lss false (.t 13) (.t 16)⟩]) (.cond (.t 17) .skip (.exit 0))) (.seq (.block 1 (.reg [⟨some 20,none,.mv (.t 0)⟩,⟨some 21,none,.faddr 1 (.t 3)⟩,⟨some 22,none,.load false 1 (.t 21)⟩,⟨some 23,none,.mv (.t 5)⟩,⟨some 24,none,.iaddr 2 (.t 22) (.t 23)⟩,⟨some 25,none,.load true 2 (.t 24)⟩,⟨some 26,none,.call 295 [(.t 20),(.t 25)]⟩,⟨some 0,none,.mv (.t 26)⟩])) (.reg [⟨some 18,none,.mv (.t 5)⟩,⟨some 19,none,.bin .add false (.t 18) (.c (.int .i64 1))⟩,⟨some 5,none,.mv (.t 19)⟩])))))) (.seq (.reg [⟨some 27,none,.mv (.t 0)⟩,⟨some 4,none,.mv (.t 27)⟩]) .ret))))
theorem Je:codeOf Tryz.prog 295=some ⟨28,G3,[(.tmp 4)]⟩:=by kernel_rfl
theorem Eh:modes 295=⟨[true],.asis,none,false⟩:=by unfold modes; rfl
def Jf:SC:=(.seq (.reg [⟨some 1,none,.boxv 33 2 (.t 0)⟩,⟨some 2,none,.mv (.c .nil)⟩]) (.seq (.reg [⟨(some 3),none,(.mkrow 9 1 [(.str ⟨#[]⟩)] 0 [])⟩,⟨some 4,none,.load true 2 (.t 1)⟩,⟨some 5,none,.call 295 [(.t 3),(.t 4)]⟩,⟨some 2,none,.mv (.t 5)⟩]) .ret))
theorem Nf:codeOf Tryz.prog 237=some ⟨6,Jf,[(.tmp 2)]⟩:=by kernel_rfl
theorem G4:modes 237=⟨[],.frz,none,false⟩:=by unfold modes; rfl
theorem VI:∀ (ns l:List ByteArray),l.length≤(Hr l ns).length
 | [],l=>zP _
 | n :: ns,l=>by
  have h:=VI ns (Ej l n)
  have h2:=Qc3 l n
  simp only [Hr,yQ] at h ⊢
  omega
abbrev QdT (x:Tm):Prop:=∀ l:List ByteArray,l.length+x.nodes≤1048576→E 295 [.ref 0,x.sv] [.row 9 1 (l.map fun s=>[OT.str s])]=some ((bif dec (l.length<(Hr l x.vs).length) then .ref 1 else .ref 0),(bif dec (l.length<(Hr l x.vs).length) then [.gone,.row 9 1 ((Hr l x.vs).map fun s=>[OT.str s])] else [.row 9 1 ((Hr l x.vs).map fun s=>[OT.str s])]))
theorem Qc5 (x:Tm) (ih:∀ y∈x.args,QdT y):QdT x:=by
 intro l hn
 have hl:=Tm.length_le x.args
 have hne:=Tm.An x
 have hvs:=Tm.FY x
 have hp:=QdR l x.name (by omega)
 have hxs:x.sv=.agg [.str x.name,.arr (x.args.map Tm.d)]:=rfl
 cases hvv:Ao x.name with
 | true =>
  rw [hvv] at hvs
  have e:Hr l x.vs=Ej l x.name:=by rw [hvs]; rfl
  rw [e]
  rcases zC l.length (Ej l x.name).length with q | q
  all_goals
   first
    |rw [At q] at hp ⊢
    |rw [Ay (yS.2 q)] at hp ⊢
   simp only [cond_true,cond_false] at hp ⊢
  ·refine Ad Je Eh (of_decide_eq_true rfl) ?_
   simp (disch:=omega) only [G3,go_sem,Aa,hvv,hp,Ah,Am,EI]
  ·have e2:Ej l x.name=l:=Qc4 q
   rw [e2]
   refine Ad Je Eh (of_decide_eq_true rfl) ?_
   simp (disch:=omega) only [G3,go_sem,Aa,hvv,hp,Ah,Am,EI]
 | false =>
  rw [hvv] at hvs
  simp only [cond_false] at hvs
  rw [hvs]
  have hgl:dec (l.length < l.length)=false:=Ay (by omega)
  refine Ad Je Eh (of_decide_eq_true rfl) ?_
  simp (disch:=omega) only [G3,go_sem,Aa,hvv,Ah,Am]
  refine go_loop (α:=Int × (List ByteArray)) (fun a=>⟨slots 28 0 [(0,(bif dec (l.length < (a.2).length) then .ref 1 else .ref 0)),(3,(bif dec (l.length < (a.2).length) then .ptr 2 0 else .ptr 1 0)),(5,.int .i64 (a.1))],(bif dec (l.length < (a.2).length) then [.gone,.row 9 1 ((a.2).map fun s=>[OT.str s]),.box 33 [.str x.name,.arr (x.args.map Tm.d)]] else [.row 9 1 ((a.2).map fun s=>[OT.str s]),.box 33 [.str x.name,.arr (x.args.map Tm.d)]])⟩) (fun a=>∃ k:Nat,a.1=k∧k≤(x.args).length∧Hr (a.2) (Tm.vsL (x.args.drop k))=Hr l (Tm.vsL x.args)∧(a.2).length+Tm.Bf (x.args.drop k)≤1048576∧l.length≤(a.2).length) (fun a=>(x.args).length - (a.1).toNat) (0,l) ⟨0,rfl,zH _,by rw [zD],by rw [zD]; dsimp only; omega,zP _⟩ (by simp (disch:=omega) only [go_sem,Aa,hgl]) ?_
  rintro ⟨i,acc⟩ ⟨k,hi,hk,hR⟩
  dsimp only at hi hR
  have hni:i.toNat=k:=by omega
  have hni1:(i+1).toNat=k+1:=by omega
  rcases zC k (x.args).length with hlt | hge
  ·have hg:=get_at Tm.d hlt
   rw [Tm.d_eq] at hg
   obtain ⟨hR1,hR2,hR3⟩:=hR
   rw [zA hlt,Tm.vsL,QdS] at hR1
   rw [zA hlt,Tm.Bf] at hR2
   have hc:=ih x.args[k] (zF hlt) acc (by omega)
   have hlen:=TB x.args[k].vs acc
   have hgr:=VI x.args[k].vs acc
   have hvl:=Tm.vs_len x.args[k]
   obtain ⟨acc2,ha2⟩:∃ a,a=Hr acc x.args[k].vs:=⟨_,rfl⟩
   rw [←ha2] at hc hlen hgr hR1
   rcases zC l.length acc.length with q1 | q1 <;> rcases zC acc.length acc2.length with q2 | q2
   all_goals
    first
     |rw [At q2] at hc
     |rw [Ay (yS.2 q2)] at hc
    simp only [cond_true,cond_false] at hc
    first
     |have d1:=At q1
     |have d1:=Ay (yS.2 q1)
    first
     |have d2:dec (l.length < acc2.length)=true:=At (by omega)
     |have d2:dec (l.length < acc2.length)=false:=Ay (by omega)
    simp (disch:=omega) only [go_sem,Aa,hni,hg,hc,d1,Eh]
    refine ⟨(i+1,acc2),⟨k+1,by dsimp only; omega,hlt,hR1,by dsimp only; omega,by dsimp only; omega⟩,by dsimp only; omega,?_⟩
    first | done | simp (disch:=omega) only [go_sem,Aa,d2]
  ·rw [zB hge,Tm.vsL] at hR
   obtain ⟨hR1,hR2,hR3⟩:=hR
   have hR1:acc=Hr l (Tm.vsL x.args):=hR1
   rw [←hR1]
   rcases zC l.length acc.length with q1 | q1
   ·have d1:=At q1
    simp (disch:=omega) only [go_sem,Aa,hni,d1]
   ·have d1:=Ay (yS.2 q1)
    simp (disch:=omega) only [go_sem,Aa,hni,d1]
theorem Zk (x:Tm):QdT x:=Qc5 x fun y hy=>Zk y
termination_by SizeOf.sizeOf x
decreasing_by exact Tm.lt_of_mem hy
theorem QdU (x:Tm) (hn:x.nodes≤1048576):E 237 [x.sv] []=some (.arr ((Hr [] x.vs).map fun s=>[D.str s]),[]):=by
 have h:=Zk x [] (by simpa using hn)
 rw [zL,zQ] at h
 obtain ⟨ns,hns⟩:∃ ns,ns=Hr [] x.vs:=⟨_,rfl⟩
 rw [←hns] at h ⊢
 rcases zC 0 ns.length with q | q
 ·rw [At q] at h
  simp only [cond_true] at h
  refine Ad Nf G4 (of_decide_eq_true rfl) ?_
  simp (disch:=omega) only [Jf,go_sem,Aa,h,Eh]
 ·have e:ns=[]:=List.eq_nil_of_length_eq_zero (by omega)
  subst e
  rw [Ay (by simp)] at h
  simp only [cond_false,zL] at h
  refine Ad Nf G4 (of_decide_eq_true rfl) ?_
  simp (disch:=omega) only [Jf,go_sem,Aa,h,Eh]
theorem Sb.Zl {s:Sb} {n:ByteArray} {t:Tm} (h:s.look n=some t):(⟨n,t⟩:Bd)∈s.binds:=by
 cases hh:El s.binds n with
 | false=>rw [Sb.R9 hh] at h; cases h
 | true =>
  have hlt:=Iz hh
  rw [Sb.L4 hh hlt] at h
  obtain rfl:=Option.some.inj h
  have e:=Xa hh hlt
  have h1:=zF hlt
  have h2:∀ c:Bd,c.var=n→(⟨n,c.term⟩:Bd)=c:=fun c e=>by rw [←e]
  rw [h2 _ e]; exact h1
theorem Sb.JI {s:Sb} (hs:O5 s.binds) {n:ByteArray}:s.look n=none ↔ ∀ b∈s.binds,b.var≠n:=by
 cases hh:El s.binds n with
 | false =>
  rw [Sb.R9 hh]
  refine ⟨fun _ b hb e=>?_,fun _=>rfl⟩
  rw [YP hs] at hh
  exact List.any_eq_false.1 hh b hb (At e)
 | true =>
  have hlt:=Iz hh
  rw [Sb.L4 hh hlt]
  exact ⟨fun h=>(by cases h),fun h=>absurd (Xa hh hlt) (h _ (zF hlt))⟩
theorem Sb.LQ {s:Sb} (hs:O5 s.binds) {b:Bd} (h:b∈s.binds):s.look b.var=some b.term:=by
 cases hq:s.look b.var with
 | none=>exact absurd rfl ((Sb.JI hs).1 hq b h)
 | some t =>
  have h2:=Sb.Zl hq
  obtain ⟨i,hi,e1⟩:=zN h
  obtain ⟨j,hj,e2⟩:=zN h2
  have hij:i=j:=(List.getElem_inj (h₀:=by simpa using hi) (h₁:=by simpa using hj) (N7 hs)).1 (by simp only [List.getElem_map,e1,e2])
  subst hij
  rw [e1] at e2
  rw [e2]
theorem Tm.QdV {f:ByteArray→Option Tm} (x:Tm) {v:ByteArray} (h:v∈(x.ap f).vs):(v∈x.vs∧f v=none)∨∃ w∈x.vs,∃ t,f w=some t∧v∈t.vs:=by
 rw [Tm.I1] at h
 by_cases hv:Ao x.name=true
 ·rw [if_pos hv] at h
  have hx:x.vs=[x.name]:=by rw [Tm.FY,hv]; rfl
  cases hq:f x.name with
  | none =>
   rw [hq,yA,Tm.FY] at h
   have h:v∈(bif Ao x.name then [x.name] else _):=h
   rw [hv,cond_true] at h
   have e:v=x.name:=by simpa using h
   subst e
   exact .inl ⟨by rw [hx]; simp,hq⟩
  | some t =>
   rw [hq,yM] at h
   exact .inr ⟨x.name,by rw [hx]; simp,t,hq,h⟩
 ·rw [if_neg hv] at h
  have hv0:Ao x.name=false:=by simpa using hv
  have hx:x.vs=Tm.vsL x.args:=by rw [Tm.FY,hv0]; rfl
  rw [Tm.FY] at h
  have h:v∈(bif Ao x.name then [x.name] else Tm.vsL (Tm.apL f x.args)):=h
  rw [hv0,cond_false,Tm.O6,Tm.vsL_mem] at h
  obtain ⟨z,hz,hvz⟩:=h
  obtain ⟨y,hy,rfl⟩:=List.mem_map.1 hz
  rw [hx]
  rcases Tm.QdV y hvz with ⟨h1,h2⟩ | ⟨w,h1,t,h2,h3⟩
  ·exact .inl ⟨Tm.vsL_mem.2 ⟨y,hy,h1⟩,h2⟩
  ·exact .inr ⟨w,Tm.vsL_mem.2 ⟨y,hy,h1⟩,t,h2,h3⟩
termination_by SizeOf.sizeOf x
decreasing_by exact Tm.lt_of_mem hy
theorem Zm {α:Type} {g:α→α}:∀ {xs:List α},(∀ x∈xs,g x=x)→xs.map g=xs
 | [],_=>rfl
 | x :: xs,h=>by rw [zK,h x (by simp),Zm fun y hy=>h y (by simp [hy])]
theorem Tm.QdW (x:Tm):Tm.mk x.name x.args=x:=by obtain ⟨n,a⟩:=x; rfl
theorem Tm.QbA {f:ByteArray→Option Tm} (x:Tm) (hx:x.names=true) (h:∀ v∈x.vs,f v=none):x.ap f=x:=by
 rw [Tm.I1]
 by_cases hv:Ao x.name=true
 ·have hx0:=Tm.EH hx hv
  rw [if_pos hv,h x.name (by rw [Tm.FY,hv]; simp),yA]
  conv=>rhs; rw [←Tm.QdW x,hx0]
 ·have hv0:Ao x.name=false:=by simpa using hv
  rw [if_neg hv,Tm.O6,Zm fun y hy=>Tm.QbA y (Tm.Eg hx hy) fun v hvv=>h v (by
   rw [Tm.FY,hv0,cond_false]
   exact Tm.vsL_mem.2 ⟨y,hy,hvv⟩),Tm.QdW]
termination_by SizeOf.sizeOf x
decreasing_by exact Tm.lt_of_mem hy
def Sb.idem (s:Sb):Prop:=∀ w t,s.look w=some t→∀ v∈t.vs,s.look v=none
theorem Sb.Xp {s:Sb} (hi:s.idem) {x:Tm} {v:ByteArray} (h:v∈(x.ap s.look).vs):s.look v=none:=by
 rcases Tm.QdV x h with ⟨_,h2⟩ | ⟨w,_,t,h2,h3⟩
 ·exact h2
 ·exact hi w t h2 v h3
theorem Tm.Zn {x y:Tm} (hx:x.expr=true) (hy:y∈x.args):y.expr=true:=by
 have h1:=Tm.Tg hx
 have h2:=Tm.J3 hx hy
 unfold Tm.small at h1
 rw [zG,decide_eq_true_eq,decide_eq_true_eq] at h1
 have n1:=Tm.AW hy
 have n2:=Tm.An x
 have d2:=Tm.Mu x
 have d1:y.deep≤Tm.EN x.args:=by
  have key:∀ xs:List Tm,y∈xs→y.deep≤Tm.EN xs:=by
   intro xs
   induction xs with
   | nil=>intro h; cases h
   | cons z zs ih =>
    intro h
    rw [Tm.EN]
    rcases zR.1 h with rfl | h
    ·exact Nat.le_max_left _ _
    ·exact Nat.le_trans (ih h) (Nat.le_max_right _ _)
  exact key _ hy
 unfold Tm.expr Tm.valid Tm.small
 rw [h2,decide_eq_true (by omega),decide_eq_true (by omega)]; rfl
noncomputable def Az (x y:Tm):Bd:=bif Ao x.name&&!(Ao y.name&&strLt x.name y.name) then ⟨x.name,y⟩ else ⟨y.name,x⟩
noncomputable def BV (b:Bd):Bool:=!dec (b.var∈b.term.vs)&&(Sb.mk [b]).ok
noncomputable def BL:Nat→Sb→List (Tm × Tm)→Option (Option Sb)
 | 0,_,_=>none
 | n+1,s,l=>match l with
  | []=>some (some s)
  | p :: l=>bif Cb s p.1&&Cb s p.2 then
    (bif dec (AM s p.1=AM s p.2) then BL n s l
    else bif Ao (AM s p.1).name || Ao (AM s p.2).name then
     (bif BV (Az (AM s p.1) (AM s p.2))&&C6 s ⟨[Az (AM s p.1) (AM s p.2)]⟩ then BL n (Cy s ⟨[Az (AM s p.1) (AM s p.2)]⟩) l else some none)
    else bif dec ((AM s p.1).name=(AM s p.2).name)&&dec ((AM s p.1).args.length=(AM s p.2).args.length) then BL n s ((AM s p.1).args.zip (AM s p.2).args++l)
    else some none)
   else some none
def Im:List (Tm × Tm)→Nat
 | []=>0
 | p :: l=>p.1.nodes+Im l
structure uInv (s:Sb) (l:List (Tm × Tm)):Prop where
 ok:s.ok=true
 idem:s.idem
 ex:∀ p∈l,p.1.expr=true∧p.2.expr=true
 pq:∃ P Q,l=P++Q∧(∀ p∈P,p.1.ap s.look=p.1)∧Im P≤30∧Q.length≤1+30*s.binds.length
theorem TC:∀ P:List (Tm × Tm),P.length≤Im P
 | []=>zP _
 | p :: P=>by
  have h1:=TC P
  have h2:=Tm.Mt p.1
  rw [Im,zE]; omega
theorem uInv.len {s:Sb} {l:List (Tm × Tm)} (h:uInv s l):l.length≤391:=by
 obtain ⟨P,Q,rfl,_,h2,h3⟩:=h.pq
 have h1:=TC P
 have h4:=ok_len h.ok
 rw [zJ]; omega
theorem uInv.pop {s:Sb} {p:Tm × Tm} {l:List (Tm × Tm)} (h:uInv s (p :: l)):uInv s l:=by
 refine ⟨h.ok,h.idem,fun q hq=>h.ex q (by simp [hq]),?_⟩
 obtain ⟨P,Q,e,h1,h2,h3⟩:=h.pq
 cases P with
 | nil =>
  cases Q with
  | nil=>cases e
  | cons q Q =>
   simp only [yB,zX] at e
   exact ⟨[],Q,e.2,fun _ h=>by simp at h,by rw [Im]; omega,by simp only [zE] at h3; omega⟩
 | cons q P =>
  simp only [zU,zX] at e
  rw [Im] at h2
  exact ⟨P,Q,e.2,fun z hz=>h1 z (by simp [hz]),by omega,h3⟩
theorem TD:∀ (xs ys:List Tm),Im (xs.zip ys)≤Tm.Bf xs
 | [],ys=>by simp [Im]
 | x :: xs,[]=>by simp [Im]
 | x :: xs,y :: ys=>by
  have h:=TD xs ys
  rw [List.zip_cons_cons,Im,Tm.Bf]
  show x.nodes+_≤_
  omega
theorem Zo:∀ (a b:List (Tm × Tm)),Im (a++b)=Im a+Im b
 | [],b=>by simp [Im]
 | p :: a,b=>by rw [zU,Im,Im,Zo a b]; omega
theorem CJ {s:Sb} {x:Tm} (h:Cb s x=true):(AM s x).expr=true:=by
 rw [E7 h]
 unfold Cb at h
 rw [zG,zG] at h
 have h2:(x.ap s.look).expr=(x.ap s.look).small:=Tm.Qd6 (Sb.FF h.1) x h.2.1
 rw [h2]; exact h.2.2
theorem RA {α β:Type} {a:α} {b:β}:∀ {xs:List α} {ys:List β},(a,b)∈xs.zip ys→a∈xs∧b∈ys
 | [],ys,h=>by simp at h
 | x :: xs,[],h=>by simp at h
 | x :: xs,y :: ys,h=>by
  rw [List.zip_cons_cons] at h
  rcases zR.1 h with h | h
  ·simp only [Prod.mk.injEq] at h; exact ⟨by rw [h.1]; simp,by rw [h.2]; simp⟩
  ·obtain ⟨h1,h2⟩:=RA h; exact ⟨by simp [h1],by simp [h2]⟩
theorem VJ {s:Sb} (hi:s.idem) {x:Tm} (hx:Cb s x=true) (hv:Ao (AM s x).name=false) {y:Tm} (hy:y∈(AM s x).args):y.ap s.look=y:=by
 have he:=CJ hx
 refine Tm.QbA y (Tm.J3 he hy) fun v hvv=>?_
 have h1:v∈(AM s x).vs:=by
  rw [Tm.FY,hv,cond_false]
  exact Tm.vsL_mem.2 ⟨y,hy,hvv⟩
 rw [E7 hx] at h1
 exact Sb.Xp hi h1
theorem uInv.dec {s:Sb} {p:Tm × Tm} {l:List (Tm × Tm)} (h:uInv s (p :: l)) (h1:Cb s p.1=true) (h2:Cb s p.2=true) (hv:Ao (AM s p.1).name=false):uInv s ((AM s p.1).args.zip (AM s p.2).args++l):=by
 have e1:=CJ h1
 have e2:=CJ h2
 have hn:=Tm.As e1
 have hn2:=Tm.An (AM s p.1)
 have hz:=TD (AM s p.1).args (AM s p.2).args
 refine ⟨h.ok,h.idem,fun q hq=>?_,?_⟩
 ·rcases zW.1 hq with hq | hq
  ·obtain ⟨a,b⟩:=q
   obtain ⟨k1,k2⟩:=RA hq
   exact ⟨Tm.Zn e1 k1,Tm.Zn e2 k2⟩
  ·exact h.ex q (by simp [hq])
 ·obtain ⟨P,Q,e,g1,g2,g3⟩:=h.pq
  have hfix:∀ q∈(AM s p.1).args.zip (AM s p.2).args,q.1.ap s.look=q.1:=fun q hq=>by
   obtain ⟨a,b⟩:=q
   exact VJ h.idem h1 hv (RA hq).1
  cases P with
  | nil =>
   cases Q with
   | nil=>cases e
   | cons q Q =>
    simp only [yB,zX] at e
    rw [←e.2] at g3
    exact ⟨_,l,rfl,hfix,by omega,by simp only [zE,e.2] at g3 ⊢; omega⟩
  | cons q P =>
   simp only [zU,zX] at e
   obtain ⟨rfl,rfl⟩:=e
   rw [Im] at g2
   have hself:AM s p.1=p.1:=by rw [E7 h1]; exact g1 p (by simp)
   refine ⟨(AM s p.1).args.zip (AM s p.2).args++P,Q,by rw [zZ],fun q hq=>?_,?_,g3⟩
   ·rcases zW.1 hq with hq | hq
    ·exact hfix q hq
    ·exact g1 q (by simp [hq])
   ·rw [Zo]
    rw [hself] at hn2 hz ⊢
    omega
theorem GK (x y:Tm) (h:(Ao x.name || Ao y.name)=true):(Az x y=⟨x.name,y⟩∧Ao x.name=true)∨(Az x y=⟨y.name,x⟩∧Ao y.name=true):=by
 unfold Az
 cases h1:Ao x.name with
 | true =>
  cases h2:Ao y.name with
  | true =>
   cases strLt x.name y.name with
   | true=>exact .inr ⟨rfl,rfl⟩
   | false=>exact .inl ⟨rfl,rfl⟩
  | false=>exact .inl ⟨rfl,rfl⟩
 | false =>
  rw [h1,yR] at h
  rw [h]
  exact .inr ⟨rfl,rfl⟩
theorem TE {b:Bd} (hb:(Sb.mk [b]).ok=true) (n:ByteArray):(Sb.mk [b]).look n=if b.var=n then some b.term else none:=by
 have hup:=Sb.K5 hb
 by_cases h:b.var=n
 ·rw [if_pos h,← h]
  exact Sb.LQ hup (by simp)
 ·rw [if_neg h]
  exact (Sb.JI hup).2 fun c hc=>by
   have:c=b:=by simpa using hc
   rw [this]; exact h
theorem Qfe {s:Sb} {b:Bd} (hs:s.ok=true) (hi:s.idem) (hb:(Sb.mk [b]).ok=true) (hv:s.look b.var=none) (ht:∀ v∈b.term.vs,s.look v=none) (ho:b.var ∉ b.term.vs) (hc:C6 s ⟨[b]⟩=true) :
  (Cy s ⟨[b]⟩).binds.length=s.binds.length+1∧(Cy s ⟨[b]⟩).idem:=by
 have hup:=Sb.K5 hs
 have hcok:(Cy s ⟨[b]⟩).ok=true:=hc
 have hcup:=Sb.K5 hcok
 have hbok:Il b=true:=Sb.K6 (x:=⟨[b]⟩) hb (k:=0) (by simp)
 have hone:∀ c∈s.binds,CV ⟨[b]⟩ c=some ⟨c.var,c.term.ap (Sb.mk [b]).look⟩:=fun c hcm=>by
  have hcb:Il c=true:=by
   obtain ⟨k,hk,rfl⟩:=zN hcm
   exact Sb.K6 hs hk
  have hcl:=Sb.LQ hup hcm
  have hcv:=Y8 hcb
  unfold CV
  rw [Ay,cond_false]
  intro e
  have hne:c.term.name≠c.var:=by
   unfold Il at hcb
   rw [zG,zG,yI] at hcb
   exact C7.1 hcb.2.2
  rw [Tm.I1] at e
  by_cases hv':Ao c.term.name=true
  ·rw [if_pos hv',TE hb] at e
   by_cases hbn:b.var=c.term.name
   ·rw [if_pos hbn,yM] at e
    have:c.var∈b.term.vs:=by
     rw [Tm.FY,e,hcv]; simp
    rw [ht _ this] at hcl; cases hcl
   ·rw [if_neg hbn,yA] at e
    exact hne e
  ·rw [if_neg hv'] at e
   exact hne e
 have hl1:Ia s ⟨[b]⟩=s.binds.map fun c=>⟨c.var,c.term.ap (Sb.mk [b]).look⟩:=by
  unfold Ia
  have key:∀ xs:List Bd,(∀ c∈xs,CV ⟨[b]⟩ c=some ⟨c.var,c.term.ap (Sb.mk [b]).look⟩)→xs.filterMap (CV ⟨[b]⟩)=xs.map fun c=>⟨c.var,c.term.ap (Sb.mk [b]).look⟩:=by
   intro xs
   induction xs with
   | nil=>intro _; rfl
   | cons x xs ih=>intro h; rw [yC,h x (by simp),zK,ih fun c hc=>h c (by simp [hc])]
  exact key _ hone
 have hl2:Qb7 s ⟨[b]⟩=[b]:=by
  unfold Qb7
  have hh:El s.binds b.var=false:=by
   cases hh:El s.binds b.var with
   | false=>rfl
   | true=>rw [Sb.L4 hh (Iz hh)] at hv; cases hv
  simp [hh]
 have hmem:∀ c,c∈(Cy s ⟨[b]⟩).binds ↔ (∃ d∈s.binds,c=⟨d.var,d.term.ap (Sb.mk [b]).look⟩)∨c=b:=fun c=>by
  unfold Cy
  show c∈(C5 s ⟨[b]⟩).mergeSort bdLe ↔ _
  rw [(zV _ _).mem_iff]
  unfold C5
  rw [hl1,hl2,zW,List.mem_map]
  simp only [List.mem_singleton]
  constructor
  ·rintro (⟨d,h1,h2⟩ | h)
   ·exact .inl ⟨d,h1,h2.symm⟩
   ·exact .inr h
  ·rintro (⟨d,h1,h2⟩ | h)
   ·exact .inl ⟨d,h1,h2.symm⟩
   ·exact .inr h
 refine ⟨?_,fun w t hw v hvt=>?_⟩
 ·unfold Cy
  show ((C5 s ⟨[b]⟩).mergeSort bdLe).length=_
  rw [(zV _ _).length_eq]
  unfold C5
  rw [hl1,hl2,zJ,zI]; rfl
 ·have key:v≠b.var∧s.look v=none:=by
   have hterm:∀ z∈b.term.vs,z≠b.var∧s.look z=none:=fun z hz=>⟨fun e=>ho (e▸hz),ht z hz⟩
   rcases (hmem _).1 (Sb.Zl hw) with ⟨d,hd,e⟩ | e
   ·simp only [Bd.mk.injEq] at e
    obtain ⟨rfl,rfl⟩:=e
    rcases Tm.QdV d.term hvt with ⟨k1,k2⟩ | ⟨w',k1,t',k2,k3⟩
    ·rw [TE hb] at k2
     have hne:b.var≠v:=fun e=>by rw [if_pos e] at k2; cases k2
     exact ⟨fun e=>hne e.symm,hi _ _ (Sb.LQ hup hd) v k1⟩
    ·rw [TE hb] at k2
     split at k2
     ·obtain rfl:=Option.some.inj k2
      exact hterm v k3
     ·cases k2
   ·have e2:t=b.term:=by rw [←e]
    rw [e2] at hvt
    exact hterm v hvt
  refine (Sb.JI hcup).2 fun c hcm e=>?_
  rcases (hmem c).1 hcm with ⟨d,hd,e2⟩ | e2
  ·have e3:c.var=d.var:=by rw [e2]
   exact (Sb.JI hup).1 key.2 d hd (e3.symm.trans e)
  ·rw [e2] at e
   exact key.1 e.symm
theorem Qc6 {s:Sb} (hi:s.idem) {a c:Tm} (h1:Cb s a=true) (h2:Cb s c=true) (hv:(Ao (AM s a).name || Ao (AM s c).name)=true) :
  s.look (Az (AM s a) (AM s c)).var=none∧∀ v∈(Az (AM s a) (AM s c)).term.vs,s.look v=none:=by
 have ha:∀ v∈(AM s a).vs,s.look v=none:=fun v h=>by rw [E7 h1] at h; exact Sb.Xp hi h
 have hc:∀ v∈(AM s c).vs,s.look v=none:=fun v h=>by rw [E7 h2] at h; exact Sb.Xp hi h
 rcases GK _ _ hv with ⟨e,k⟩ | ⟨e,k⟩
 ·rw [e]
  exact ⟨ha _ (by rw [Tm.FY,k]; simp),hc⟩
 ·rw [e]
  exact ⟨hc _ (by rw [Tm.FY,k]; simp),ha⟩
theorem uInv.bind {s:Sb} {p:Tm × Tm} {l:List (Tm × Tm)} (h:uInv s (p :: l)) (h1:Cb s p.1=true) (h2:Cb s p.2=true) (hv:(Ao (AM s p.1).name || Ao (AM s p.2).name)=true)
  (hb:BV (Az (AM s p.1) (AM s p.2))=true) (hc:C6 s ⟨[Az (AM s p.1) (AM s p.2)]⟩=true):uInv (Cy s ⟨[Az (AM s p.1) (AM s p.2)]⟩) l∧(Cy s ⟨[Az (AM s p.1) (AM s p.2)]⟩).binds.length=s.binds.length+1:=by
 obtain ⟨f1,f2⟩:=Qc6 h.idem h1 h2 hv
 unfold BV at hb
 rw [zG,yI] at hb
 obtain ⟨g1,g2⟩:=Qfe h.ok h.idem hb.2 f1 f2 (C7.1 hb.1) hc
 refine ⟨⟨hc,g2,fun q hq=>h.ex q (by simp [hq]),[],l,rfl,fun q hq=>by simp at hq,by rw [Im]; omega,?_⟩,g1⟩
 obtain ⟨P,Q,e,k1,k2,k3⟩:=h.pq
 have hl:(p :: l).length=P.length+Q.length:=by rw [e,zJ]
 have hP:=TC P
 simp only [zE] at hl
 rw [g1]
 omega
noncomputable def apN (s:Sb):List (Tm × Tm)→Nat
 | []=>0
 | p :: l=>(p.1.ap s.look).nodes+apN s l
theorem QbB (s:Sb):∀ a b:List (Tm × Tm),apN s (a++b)=apN s a+apN s b
 | [],b=>by simp [apN]
 | p :: a,b=>by rw [zU,apN,apN,QbB s a b]; omega
theorem Zp (s:Sb):∀ l:List (Tm × Tm),(∀ p∈l,p.1.ap s.look=p.1)→apN s l=Im l
 | [],_=>by rw [apN,Im]
 | p :: l,h=>by rw [apN,Im,h p (by simp),Zp s l fun q hq=>h q (by simp [hq])]
theorem QdX:∀ (k m:Nat) (s:Sb) (l:List (Tm × Tm)),uInv s l→12≤s.binds.length+k→apN s l≤m→∃ n r,BL n s l=some r:=by
 intro k
 induction k with
 | zero=>exact fun m=>uEnd 0 (fun h=>absurd h (by omega)) m
 | succ k ih=>exact fun m=>uEnd (k+1) (fun _ m s l=>ih m s l) m
where
 uEnd (k:Nat) (ih:0<k→∀ (m:Nat) (s:Sb) (l:List (Tm × Tm)),uInv s l→12≤s.binds.length+(k-1)→apN s l≤m→∃ n r,BL n s l=some r):∀ (m:Nat) (s:Sb) (l:List (Tm × Tm)),uInv s l→12≤s.binds.length+k→apN s l≤m→∃ n r,BL n s l=some r
  | m,s,[],h,hk,hm=>⟨1,some s,by rw [BL]⟩
  | m,s,p :: l,h,hk,hm=>by
   have hp:=Tm.Mt (p.1.ap s.look)
   rw [apN] at hm
   obtain ⟨m,rfl⟩:∃ m',m=m'+1:=⟨m-1,by omega⟩
   cases h1:Cb s p.1 with
   | false=>exact ⟨1,none,by rw [BL]; simp only [h1,z8,cond_false]⟩
   | true =>
    cases h2:Cb s p.2 with
    | false=>exact ⟨1,none,by rw [BL]; simp only [h2,yH,cond_false]⟩
    | true =>
     cases h3:dec (AM s p.1=AM s p.2) with
     | true =>
      obtain ⟨n,r,hr⟩:=uEnd k ih m s l h.pop hk (by omega)
      exact ⟨n+1,r,by rw [BL]; simp only [h1,h2,h3,zM,cond_true]; exact hr⟩
     | false =>
      cases h4:Ao (AM s p.1).name || Ao (AM s p.2).name with
      | true =>
       cases h5:BV (Az (AM s p.1) (AM s p.2))&&C6 s ⟨[Az (AM s p.1) (AM s p.2)]⟩ with
       | false=>exact ⟨1,none,by rw [BL]; simp only [h1,h2,h3,h4,h5,zM,cond_true,cond_false]⟩
       | true =>
        have h5':=h5
        rw [zG] at h5'
        obtain ⟨g1,g2⟩:=h.bind h1 h2 h4 h5'.1 h5'.2
        have g3:=ok_len g1.ok
        obtain ⟨n,r,hr⟩:=ih (by omega) _ _ l g1 (by omega) (zP _)
        exact ⟨n+1,r,by rw [BL]; simp only [h1,h2,h3,h4,h5,zM,cond_true,cond_false]; exact hr⟩
      | false =>
       have h4':=h4
       rw [Bool.or_eq_false_iff] at h4'
       cases h5:dec ((AM s p.1).name=(AM s p.2).name)&&dec ((AM s p.1).args.length=(AM s p.2).args.length) with
       | false=>exact ⟨1,none,by rw [BL]; simp only [h1,h2,h3,h4,h5,zM,cond_true,cond_false]⟩
       | true =>
        have hz:=TD (AM s p.1).args (AM s p.2).args
        have hs:=Zp s ((AM s p.1).args.zip (AM s p.2).args) fun q hq=>by
         obtain ⟨a,b⟩:=q
         exact VJ h.idem h1 h4'.1 (RA hq).1
        have hn:=Tm.An (AM s p.1)
        rw [E7 h1] at hn
        rw [E7 h1] at hs hz
        obtain ⟨n,r,hr⟩:=uEnd k ih m s _ (h.dec h1 h2 h4'.1) hk (by rw [QbB,E7 h1,hs]; omega)
        exact ⟨n+1,r,by rw [BL]; simp only [h1,h2,h3,h4,h5,zM,cond_true,cond_false]; exact hr⟩
theorem uInv.start {a b:Tm} (ha:a.expr=true) (hb:b.expr=true):uInv ⟨[]⟩ [(a,b)]:=by
 have hok:(Sb.mk []).ok=true:=by unfold Sb.ok; simp [J0]
 have hl:∀ n,(Sb.mk []).look n=none:=fun n=>(Sb.JI (Sb.K5 hok)).2 fun c hc=>by simp at hc
 exact ⟨hok,(fun w t h=>by rw [hl] at h; cases h),(fun p hp=>by
  have:p=(a,b):=by simpa using hp
  rw [this]; exact ⟨ha,hb⟩),[],[(a,b)],rfl,fun q hq=>absurd hq (by simp),by rw [Im]; omega,by simp⟩
theorem Qa7 {a b:Tm} (ha:a.expr=true) (hb:b.expr=true):∃ n r,BL n ⟨[]⟩ [(a,b)]=some r:=QdX 12 _ _ _ (uInv.start ha hb) (by omega) (zP _)
def JJ:SC:=(.seq (.reg [⟨some 2,none,.boxv 33 2 (.t 0)⟩,⟨some 4,none,.mv (.c (.int .i64 0))⟩]) (.seq (.reg [⟨some 5,none,.mv (.c (.int .i64 0))⟩]) (.seq (.seq (.reg [⟨some 8,none,.faddr 0 (.t 2)⟩,⟨some 9,none,.load false 1 (.t 8)⟩,⟨some 10,none,.mv (.t 1)⟩,⟨some 11,none,.bin .eql false (.t 9) (.t 10)⟩]) (.cond (.t 11) (.reg [⟨some 5,none,.mv (.c (.int .i64 1))⟩]) .skip)) (.seq (.seq (.reg [⟨some 12,none,.faddr 1 (.t 2)⟩,⟨some 13,none,.load false 1 (.t 12)⟩,⟨some 14,none,.len false (.t 13)⟩,⟨some 15,none,.mv (.c (.int .i64 0))⟩]) (.block 0 (.loop [0,1,0,0,0,1,0,0,0,0,0,0,0,1,1,1,0,0,0,0,0,0,0,0,0,0] (.seq (.reg [⟨some 16,none,.bin .lss false (.t 15) (.t 14)⟩]) (.seq (.cond (.t 16) .skip (.exit 0)) (.seq (.block 1 (.seq (.reg [⟨some 17,none,.iaddr 2 (.t 13) (.t 15)⟩,⟨some 18,none,.load true 2 (.t 17)⟩,⟨(some 7),none,(.alloc 33 [(.str ⟨#[]⟩),.nil])⟩,⟨none,none,(.store 2 (.t 7) (.t 18))⟩]) (.reg [⟨some 19,none,.mv (.t 5)⟩,⟨some 20,none,.load true 2 (.t 7)⟩,⟨some 21,none,.mv (.t 1)⟩,⟨some 22,none,.call 315 [(.t 20),(.t 21)]⟩,⟨some 23,none,.bin .add false (.t 19) (.t 22)⟩,⟨some 5,none,.mv (.t 23)⟩]))) (.reg [⟨some 24,none,.bin .add false (.t 15) (.c (.int .i64 1))⟩,⟨some 15,none,.mv (.t 24)⟩]))))))) (.seq (.reg [⟨some 25,none,.mv (.t 5)⟩,⟨some 4,none,.mv (.t 25)⟩]) .ret)))))
theorem Qc:codeOf Tryz.prog 315=some ⟨26,JJ,[(.tmp 4)]⟩:=by kernel_rfl
theorem Gt:modes 315=⟨[],.asis,none,false⟩:=by unfold modes; rfl
mutual
noncomputable def Tm.cnt (n:ByteArray):Tm→Nat
 | .mk name args=>(bif dec (name=n) then 1 else 0)+Tm.Qd n args
noncomputable def Tm.Qd (n:ByteArray):List Tm→Nat
 | []=>0
 | x :: xs=>Tm.cnt n x+Tm.Qd n xs
end
theorem Tm.Qa8 (n:ByteArray) (x:Tm):x.cnt n=(bif dec (x.name=n) then 1 else 0)+Tm.Qd n x.args:=by
 obtain ⟨a,b⟩:=x
 rw [Tm.cnt]; rfl
theorem Tm.QbC (n:ByteArray):∀ xs:List Tm,(∀ x∈xs,x.cnt n≤x.nodes)→Tm.Qd n xs≤Tm.Bf xs
 | [],_=>by rw [Tm.Qd]; omega
 | x :: xs,h=>by
  have h1:=h x (by simp)
  have h2:=Tm.QbC n xs fun y hy=>h y (by simp [hy])
  rw [Tm.Qd,Tm.Bf]; omega
theorem Tm.QdY (n:ByteArray) (x:Tm):x.cnt n≤x.nodes:=by
 have h:=Tm.QbC n x.args fun y hy=>Tm.QdY n y
 rw [Tm.Qa8,Tm.An]
 cases dec (x.name=n) with
 | true=>simp only [cond_true]; omega
 | false=>simp only [cond_false]; omega
termination_by SizeOf.sizeOf x
decreasing_by exact Tm.lt_of_mem hy
theorem Tm.Zq {n:ByteArray}:∀ {xs:List Tm},0<Tm.Qd n xs ↔ ∃ x∈xs,0<x.cnt n
 | []=>by rw [Tm.Qd]; simp
 | x :: xs=>by
  have h:=Tm.Zq (n:=n) (xs:=xs)
  rw [Tm.Qd]
  constructor
  ·intro hp
   rcases yG (x.cnt n) with h0 | h0
   ·obtain ⟨y,h1,h2⟩:=h.1 (by omega)
    exact ⟨y,by simp [h1],h2⟩
   ·exact ⟨x,by simp,h0⟩
  ·rintro ⟨y,h1,h2⟩
   rcases zR.1 h1 with rfl | h1
   ·omega
   ·have:=h.2 ⟨y,h1,h2⟩; omega
theorem Xq (x:Tm) (n:ByteArray) (hn:x.nodes≤1099511627776) (ih:∀ y∈x.args,E 315 [y.sv,.str n] []=some (.int .i64 (y.cnt n:Nat),[])):E 315 [x.sv,.str n] []=some (.int .i64 (x.cnt n:Nat),[]):=by
 have hx:=Tm.An x
 have hl:=Tm.length_le x.args
 have hle:=Tm.QdY n x
 have hc0:=Tm.Qa8 n x
 have hsv:x.sv=.agg [.str x.name,.arr (x.args.map Tm.d)]:=rfl
 rw [hsv]
 obtain ⟨c0,hc0'⟩:∃ c0:Nat,c0=bif dec (x.name=n) then 1 else 0:=⟨_,rfl⟩
 rw [←hc0'] at hc0
 by_cases he:x.name=n
 all_goals
  have hq:=he
  first
   |rw [At he,cond_true] at hc0'
   |rw [Ay he,cond_false] at hc0'
  first
   |have hq:=eq_true he
   |have hq:=eq_false he
  refine Ad Qc Gt (of_decide_eq_true rfl) ?_
  simp (disch:=omega) only [JJ,go_sem,Aa,hq]
  refine go_loop (α:=Int × (Nat)) (fun a=>⟨slots 26 0 [(1,.str n),(5,.int .i64 (((a.2):Nat):Int)),(13,.arr (x.args.map Tm.d)),(14,.int .i64 x.args.length),(15,.int .i64 (a.1))],[]⟩) (fun a=>∃ k:Nat,a.1=k∧k≤(x.args).length∧(a.2)+Tm.Qd n (x.args.drop k)=x.cnt n) (fun a=>(x.args).length-(a.1).toNat) (0,c0) ⟨0,rfl,zH _,by rw [zD]; exact hc0.symm⟩ (by simp (disch:=omega) only [go_sem,Aa,hc0',Int.natCast_zero,Int.natCast_one]) ?_
  rintro ⟨i,acc⟩ ⟨k,hi,hk,hR⟩
  dsimp only at hi hR
  have hni:i.toNat=k:=by omega
  have hni1:(i+1).toNat=k+1:=by omega
  rcases zC k (x.args).length with hlt | hge
  ·have hg:=get_at Tm.d hlt
   rw [Tm.d_eq] at hg
   have hc:=ih x.args[k] (zF hlt)
   rw [zA hlt,Tm.Qd] at hR
   simp (disch:=omega) only [go_sem,Aa,hni,hg,hc,Gt]
   exact ⟨(i+1,acc+x.args[k].cnt n),⟨k+1,by dsimp only; omega,hlt,by omega⟩,by dsimp only; omega,by simp⟩
  ·rw [zB hge,Tm.Qd] at hR
   simp (disch:=omega) only [go_sem,Aa,hni]
   try omega
theorem QJ (x:Tm) (n:ByteArray) (hn:x.nodes≤1099511627776):E 315 [x.sv,.str n] []=some (.int .i64 (x.cnt n:Nat),[]) :=
 Xq x n hn fun y hy=>QJ y n (by have:=Tm.AW hy; have:=Tm.An x; omega)
termination_by SizeOf.sizeOf x
decreasing_by exact Tm.lt_of_mem hy
def QK:SC:=(.seq (.reg [⟨some 4,none,.mv (.c (.bool false))⟩]) (.seq (.seq (.reg [⟨some 5,none,.mv (.c (.int .i64 0))⟩]) (.block 0 (.loop [1,1,0,0,0,1,0,0,0,0,0,0,0,0,0,0,0,0] (.seq (.seq (.reg [⟨some 6,none,.mv (.t 5)⟩,⟨some 7,none,.mv (.t 0)⟩,⟨some 8,none,.len false (.t 7)⟩,⟨some 9,none,.bin .lss false (.t 6) (.t 8)⟩]) (.cond (.t 9) .skip (.exit 0))) (.seq (.block 1 (.seq (.reg [⟨some 12,none,.mv (.t 0)⟩,⟨some 13,none,.mv (.t 5)⟩,⟨some 14,none,.iaddr 1 (.t 12) (.t 13)⟩,⟨some 15,none,.load false 1 (.t 14)⟩,⟨some 16,none,.mv (.t 1)⟩,⟨some 17,none,.bin .eql false (.t 15) (.t 16)⟩]) (.cond (.t 17) (.seq (.reg [⟨some 4,none,.mv (.c (.bool true))⟩]) .ret) .skip))) (.reg [⟨some 10,none,.mv (.t 5)⟩,⟨some 11,none,.bin .add false (.t 10) (.c (.int .i64 1))⟩,⟨some 5,none,.mv (.t 11)⟩])))))) (.seq (.reg [⟨some 4,none,.mv (.c (.bool false))⟩]) .ret)))
theorem Zr:codeOf Tryz.prog 112=some ⟨18,QK,[(.tmp 4)]⟩:=by kernel_rfl
theorem GM:modes 112=⟨[],.asis,none,false⟩:=by unfold modes; rfl
theorem QdZ (xs:List ByteArray) (n:ByteArray) (hl:xs.length≤1099511627776):E 112 [.arr (xs.map fun s=>[D.str s]),.str n] []=some (.bool (dec (n∈xs)),[]):=by
 refine Ad Zr GM (of_decide_eq_true rfl) ?_
 simp (disch:=omega) only [QK,go_sem,Aa]
 refine go_loop (α:=Int) (fun a=>⟨slots 18 0 [(0,.arr (xs.map fun s=>[D.str s])),(1,.str n),(5,.int .i64 a)],[]⟩) (fun a=>∃ k:Nat,a=k∧k≤(xs).length∧dec (n∈xs.drop k)=dec (n∈xs)) (fun a=>(xs).length-(a).toNat) 0 ⟨0,rfl,zH _,by rw [zD]⟩ (by simp (disch:=omega) only [go_sem,Aa]) ?_
 rintro i ⟨k,hi,hk,hR⟩
 have hni:i.toNat=k:=by omega
 have hni1:(i+1).toNat=k+1:=by omega
 rcases zC k (xs).length with hlt | hge
 ·have hg:=get_at (fun s=>[D.str s]) hlt
  rw [zA hlt] at hR
  by_cases hp:xs[k]=n
  ·have hq:=eq_true hp
   have ht:dec (n∈xs)=true:=At (hp▸zF hlt)
   simp (disch:=omega) only [go_sem,Aa,hni,hg,hq]
   exact ht.symm
  ·have hq:=eq_false hp
   have hR:dec (n∈xs.drop (k+1))=dec (n∈xs):=by
    rw [←hR]
    exact F6 (by simp only [zR]; exact ⟨.inr,fun h=>h.elim (fun e=>absurd e.symm hp) id⟩)
   simp (disch:=omega) only [go_sem,Aa,hni,hg,hq]
   exact ⟨i+1,⟨k+1,by omega,hlt,hR⟩,by omega,by first | trivial | rfl⟩
 ·rw [zB hge,Ay (by simp)] at hR
  simp (disch:=omega) only [go_sem,Aa,hni]
  exact hR
def Ng:SC:=(.seq (.reg [⟨some 3,none,.boxv 33 2 (.t 1)⟩,⟨some 4,none,.mv (.c (.bool false))⟩]) (.seq (.reg [⟨some 5,none,.load true 2 (.t 3)⟩,⟨some 6,none,.mv (.t 0)⟩,⟨some 7,none,.call 315 [(.t 5),(.t 6)]⟩,⟨some 8,none,.bin .gtr false (.t 7) (.c (.int .i64 0))⟩,⟨some 4,none,.mv (.t 8)⟩]) .ret))
theorem Uz:codeOf Tryz.prog 278=some ⟨9,Ng,[(.tmp 4)]⟩:=by kernel_rfl
theorem Cz:modes 278=⟨[],.asis,none,false⟩:=by unfold modes; rfl
theorem Tm.QbD {n:ByteArray} (hn:Ao n=true) (x:Tm) (hx:Ao x.name=true→x.args=[]) (ih:∀ y∈x.args,(0<y.cnt n ↔ n∈y.vs)):0<x.cnt n ↔ n∈x.vs:=by
 rw [Tm.Qa8,Tm.FY]
 cases hv:Ao x.name with
 | true =>
  rw [hx hv,Tm.Qd,cond_true]
  by_cases h:x.name=n
  ·rw [At h,h]; simp
  ·rw [Ay h]
   simp only [cond_false,List.mem_singleton]
   exact ⟨fun k=>absurd k (by omega),fun k=>absurd k.symm h⟩
 | false =>
  have h:¬ x.name=n:=fun e=>by rw [e,hn] at hv; cases hv
  rw [Ay h,cond_false,cond_false,yD,Tm.Zq,Tm.vsL_mem]
  constructor
  ·rintro ⟨y,h1,h2⟩; exact ⟨y,h1,(ih y h1).1 h2⟩
  ·rintro ⟨y,h1,h2⟩; exact ⟨y,h1,(ih y h1).2 h2⟩
theorem Tm.Qea {n:ByteArray} (hn:Ao n=true) (x:Tm) (hx:x.names=true):0<x.cnt n ↔ n∈x.vs :=
 Tm.QbD hn x (Tm.EH hx) fun y hy=>Tm.Qea hn y (Tm.Eg hx hy)
termination_by SizeOf.sizeOf x
decreasing_by exact Tm.lt_of_mem hy
theorem Tm.QfQ {n:ByteArray} (hn:Ao n=true) (x:Tm) (hx:x.expr=true):dec ((0:Int)<(x.cnt n:Nat))=dec (n∈x.vs):=by
 have h:=Tm.QbD hn x (Tm.YA hx) fun y hy=>Tm.Qea hn y (Tm.J3 hx hy)
 refine F6 ?_
 rw [←h]; omega
theorem Tm.Fc {x:Tm} (h:x.expr=true):x.cok=true:=by
 rcases Tm.Kf h with hn | ⟨he,ha⟩
 ·exact Tm.Jx x hn
 ·have hname:x.name=⟨#[61]⟩:=by unfold Tm.eqn at he; exact Ar.1 he
  have hc:Li ⟨#[61]⟩=true:=by kernel_rfl
  rw [Tm.Lj,hname,hc,yK]
  have key:∀ xs:List Tm,(∀ y∈xs,y.names=true)→Tm.Uf xs=true:=by
   intro xs
   induction xs with
   | nil=>intro _; rw [Tm.Uf]
   | cons y ys ih=>intro hh; rw [Tm.Uf,Tm.Jx y (hh y (by simp)),ih fun z hz=>hh z (by simp [hz])]; rfl
  exact key _ fun y hy=>Tm.J3 h hy
theorem Zs (n:ByteArray) (hn:Ao n=true) (x:Tm) (hx:x.expr=true):E 278 [.str n,x.sv] []=some (.bool (dec (n∈x.vs)),[]):=by
 have h:=QJ x n (by have:=Tm.As hx; omega)
 rw [←Tm.QfQ hn x hx]
 refine Ad Uz Cz (of_decide_eq_true rfl) ?_
 simp (disch:=omega) only [Ng,go_sem,Aa,h,Gt]
def B3:SC:=(.seq (.reg [⟨some 1,none,.boxv 198 4 (.t 0)⟩,⟨some 2,none,.alloc 142 [.nil]⟩,⟨some 3,none,.mv (.c (.bool false))⟩]) (.seq (.dreg [[],[0],[],[2],[],[],[4,1,0,5],[5,3,2,6,4,1,0]] [⟨some 7,none,.faddr 0 (.t 1)⟩,⟨some 8,none,.load true 2 (.t 7)⟩,⟨some 9,none,.faddr 2 (.t 1)⟩,⟨some 10,none,.load true 2 (.t 9)⟩,⟨(some 4),none,(.alloc 33 [(.str ⟨#[]⟩),.nil])⟩,⟨(some 5),none,(.alloc 33 [(.str ⟨#[]⟩),.nil])⟩,⟨none,none,(.store 2 (.t 4) (.t 8))⟩,⟨none,none,(.store 2 (.t 5) (.t 10))⟩]) (.seq (.seq (.reg [⟨some 11,none,.load true 2 (.t 4)⟩,⟨some 12,none,.call 209 [(.t 11)]⟩,⟨some 13,none,.un .not (.t 12)⟩,⟨some 14,none,.mv (.t 13)⟩,⟨(some 15),(some (14,false)),(.load true 2 (.t 5))⟩,⟨(some 16),(some (14,false)),(.call 209 [(.t 15)])⟩,⟨(some 17),(some (14,false)),(.mv (.t 16))⟩,⟨(some 18),(some (17,true)),(.faddr 0 (.t 5))⟩,⟨(some 19),(some (17,true)),(.load false 1 (.t 18))⟩,⟨(some 20),(some (17,true)),(.faddr 0 (.t 4))⟩,⟨(some 21),(some (17,true)),(.load false 1 (.t 20))⟩,⟨(some 22),(some (17,true)),(.bin .gtr false (.t 19) (.t 21))⟩,⟨(some 23),(some (14,false)),(.pick (.t 17) (.t 22) (.c (.bool false)))⟩,⟨some 24,none,.pick (.t 14) (.c (.bool true)) (.t 23)⟩]) (.cond (.t 24) (.reg [⟨some 25,none,.load true 2 (.t 5)⟩,⟨some 26,none,.load true 2 (.t 4)⟩,⟨none,none,(.store 2 (.t 4) (.t 25))⟩,⟨none,none,(.store 2 (.t 5) (.t 26))⟩]) .skip)) (.seq (.reg [⟨some 27,none,.faddr 0 (.t 4)⟩,⟨some 28,none,.load false 1 (.t 27)⟩,⟨some 29,none,.load true 2 (.t 5)⟩,⟨(some 30),none,(.build [(.str ⟨#[]⟩),(.str ⟨#[]⟩),.nil] [(0,(1,(.t 28))),(1,(2,(.t 29)))])⟩,⟨(some 31),none,(.mkrow 227 3 [(.str ⟨#[]⟩),(.str ⟨#[]⟩),.nil] 1 [(0,(.t 30))])⟩,⟨some 32,none,.build [.nil] [(0,(1,(.t 31)))]⟩,⟨some 6,none,.alloc 142 [.nil]⟩,⟨none,none,(.store 1 (.t 6) (.t 32))⟩]) (.seq (.dreg [[],[],[1],[],[2,1,3],[4,2,1,3],[5,4,2,1,3],[6,5,4,2,1,3],[7,6,5,4,2,1,3],[6,5,4,2,1,3,8,7],[0,8,7,6,5,4,2,1,3],[9,6,5,4,2,1,3,8,7,10,0]] [⟨some 33,none,.load true 1 (.t 6)⟩,⟨some 34,none,.faddr 0 (.t 4)⟩,⟨some 35,none,.load false 1 (.t 34)⟩,⟨some 36,none,.load true 2 (.t 5)⟩,⟨some 37,none,.call 278 [(.t 35),(.t 36)]⟩,⟨some 38,none,.un .not (.t 37)⟩,⟨some 39,none,.mv (.t 38)⟩,⟨(some 40),(some (39,true)),(.load true 1 (.t 6))⟩,⟨(some 41),(some (39,true)),(.call 279 [(.t 40)])⟩,⟨some 42,none,.pick (.t 39) (.t 41) (.c (.bool false))⟩,⟨none,none,(.store 1 (.t 2) (.t 33))⟩,⟨some 3,none,.mv (.t 42)⟩]) .ret)))))
theorem BM:codeOf Tryz.prog 210=some ⟨43,B3,[(.cell 2 true 1),(.tmp 3)]⟩:=by kernel_rfl
theorem Af:modes 210=⟨[],.frz,none,false⟩:=by unfold modes; rfl
def Jg:SC:=(.seq (.reg [⟨some 3,none,.boxv 142 1 (.t 0)⟩,⟨some 5,none,.boxv 33 2 (.t 2)⟩,⟨some 6,none,.alloc 142 [.nil]⟩,⟨some 7,none,.mv (.c (.bool false))⟩]) (.seq (.seq (.reg [⟨some 8,none,.load true 2 (.t 5)⟩,⟨some 9,none,.call 237 [(.t 8)]⟩,⟨some 10,none,.mv (.t 1)⟩,⟨some 11,none,.call 112 [(.t 9),(.t 10)]⟩]) (.cond (.t 11) (.seq (.reg [⟨some 12,none,.load true 1 (.t 3)⟩,⟨none,none,(.store 1 (.t 6) (.t 12))⟩,⟨some 7,none,.mv (.c (.bool false))⟩]) .ret) .skip)) (.seq (.dreg [[],[],[],[],[1,2,3],[0,4,1,2,3],[5,0,4,1,2,3],[5,0,4,1,2,3],[6,5,0,4,1,2,3,7],[7,5,0,4,1,2,3,8,6]] [⟨some 13,none,.load true 1 (.t 3)⟩,⟨some 14,none,.build [.nil] []⟩,⟨some 15,none,.mv (.t 1)⟩,⟨some 16,none,.load true 2 (.t 5)⟩,⟨some 17,none,.call 174 [(.t 14),(.t 15),(.t 16)]⟩,⟨some 18,none,.call 312 [(.t 13),(.t 17)]⟩,⟨some 19,none,.ext (.t 18) 0⟩,⟨some 20,none,.ext (.t 18) 1⟩,⟨none,none,(.store 1 (.t 6) (.t 19))⟩,⟨some 7,none,.mv (.t 20)⟩]) .ret)))
theorem Nh:codeOf Tryz.prog 270=some ⟨21,Jg,[(.cell 6 true 1),(.tmp 7)]⟩:=by kernel_rfl
theorem Al:modes 270=⟨[],.frz,none,false⟩:=by unfold modes; rfl
theorem Ic {b:Bd} (h:b.term.nodes≤1099511627776):(Sb.mk [b]).tame:=⟨by simp,fun y hy=>by
 have:y=b:=by simpa using hy
 rw [this]; exact h⟩
theorem ID (x y:Tm) (hx:x.expr=true) (hy:y.expr=true) (hv:(Ao x.name || Ao y.name)=true):E 210 [.agg [.str x.name,.arr (x.args.map Tm.d),.str y.name,.arr (y.args.map Tm.d)]] []=some (.tup [(Sb.mk [Az x y]).sv,.bool (BV (Az x y))],[]):=by
 have h1:=D0 x (Tm.Fc hx)
 have h2:=D0 y (Tm.Fc hy)
 have n1:=Tm.As hx
 have n2:=Tm.As hy
 have hor:(Az x y=⟨x.name,y⟩∧Ao x.name=true∧(Ao y.name&&strLt x.name y.name)=false)∨(Az x y=⟨y.name,x⟩∧Ao y.name=true∧(Ao x.name=false∨(Ao y.name&&strLt x.name y.name)=true)):=by
  unfold Az
  cases h1:Ao x.name with
  | true =>
   cases h3:Ao y.name&&strLt x.name y.name with
   | true=>rw [zG] at h3; exact .inr ⟨rfl,h3.1,.inr (by rfl)⟩
   | false=>exact .inl ⟨rfl,rfl,rfl⟩
  | false =>
   rw [h1,yR] at hv
   exact .inr ⟨rfl,hv,.inl (by rfl)⟩
 rcases hor with ⟨e,k1,k2⟩ | ⟨e,k1,k2⟩
 ·rw [e]
  have ho:=Zs x.name k1 y hy
  have hi:=Ek ⟨[⟨x.name,y⟩]⟩ (Ic (by show y.nodes≤_; omega))
  have hsv:(Sb.mk [⟨x.name,y⟩]).sv=.agg [.arr [[.str x.name,.str y.name,.arr (y.args.map Tm.d)]]]:=rfl
  rw [hsv] at hi ⊢
  unfold BV
  rw [k1] at h1
  cases hv2:Ao y.name with
  | false =>
   rw [hv2] at h2
   cases hb:dec (x.name∈y.vs) with
   | true =>
    rw [hb] at ho
    refine Ad BM Af (of_decide_eq_true rfl) ?_
    simp (disch:=omega) only [B3,go_sem,Aa,h1,h2,ho,hi,hb,Ak,Cz,Ax]
   | false =>
    rw [hb] at ho
    refine Ad BM Af (of_decide_eq_true rfl) ?_
    simp (disch:=omega) only [B3,go_sem,Aa,h1,h2,ho,hi,hb,Ak,Cz,Ax]
  | true =>
   rw [hv2] at h2 k2
   rw [yK] at k2
   cases hb:dec (x.name∈y.vs) with
   | true =>
    rw [hb] at ho
    refine Ad BM Af (of_decide_eq_true rfl) ?_
    simp (disch:=omega) only [B3,go_sem,Aa,h1,h2,ho,hi,hb,k2,Jz,yN,Ak,Cz,Ax]
   | false =>
    rw [hb] at ho
    refine Ad BM Af (of_decide_eq_true rfl) ?_
    simp (disch:=omega) only [B3,go_sem,Aa,h1,h2,ho,hi,hb,k2,Jz,yN,Ak,Cz,Ax]
 ·rw [e]
  have ho:=Zs y.name k1 x hx
  have hi:=Ek ⟨[⟨y.name,x⟩]⟩ (Ic (by show x.nodes≤_; omega))
  have hsv:(Sb.mk [⟨y.name,x⟩]).sv=.agg [.arr [[.str y.name,.str x.name,.arr (x.args.map Tm.d)]]]:=rfl
  rw [hsv] at hi ⊢
  unfold BV
  rw [k1] at h2 k2
  rw [yK] at k2
  cases hv1:Ao x.name with
  | false =>
   rw [hv1] at h1
   cases hb:dec (y.name∈x.vs) with
   | true =>
    rw [hb] at ho
    refine Ad BM Af (of_decide_eq_true rfl) ?_
    simp (disch:=omega) only [B3,go_sem,Aa,h1,h2,ho,hi,hb,Ak,Cz,Ax]
   | false =>
    rw [hb] at ho
    refine Ad BM Af (of_decide_eq_true rfl) ?_
    simp (disch:=omega) only [B3,go_sem,Aa,h1,h2,ho,hi,hb,Ak,Cz,Ax]
  | true =>
   rw [hv1] at h1 k2
   have k2:strLt x.name y.name=true:=k2.elim (fun h=>by cases h) id
   cases hb:dec (y.name∈x.vs) with
   | true =>
    rw [hb] at ho
    refine Ad BM Af (of_decide_eq_true rfl) ?_
    simp (disch:=omega) only [B3,go_sem,Aa,h1,h2,ho,hi,hb,k2,Jz,yN,Ak,Cz,Ax]
   | false =>
    rw [hb] at ho
    refine Ad BM Af (of_decide_eq_true rfl) ?_
    simp (disch:=omega) only [B3,go_sem,Aa,h1,h2,ho,hi,hb,k2,Jz,yN,Ak,Cz,Ax]
theorem CF (s:Sb) (hs:s.ok=true) (n:ByteArray) (t:Tm) (ht:t.expr=true) (hne:t.name=n→n∈t.vs):∃ r:Sb,E 270 [s.sv,.str n,t.sv] []=some (.tup [r.sv,.bool (BV ⟨n,t⟩&&C6 s ⟨[⟨n,t⟩]⟩)],[])∧((BV ⟨n,t⟩&&C6 s ⟨[⟨n,t⟩]⟩)=true→r=Cy s ⟨[⟨n,t⟩]⟩):=by
 have n1:=Tm.As ht
 have h1:=QdU t (by omega)
 have hl:=TB t.vs []
 have hvl:=Tm.vs_len t
 have h2:=QdZ (Hr [] t.vs) n (by simp only [zQ] at hl; omega)
 have e1:dec (n∈Hr [] t.vs)=dec (n∈t.vs):=F6 (by rw [Zj]; simp)
 rw [e1] at h2
 have hss:s.sv=.agg [.arr (s.binds.map Bd.d)]:=rfl
 cases hb:dec (n∈t.vs) with
 | true =>
  rw [hb] at h2
  refine ⟨s,?_,fun h=>?_⟩
  ·have e2:BV ⟨n,t⟩=false:=by
    unfold BV
    show (!dec (n∈t.vs)&&_)=false
    rw [hb]; rfl
   rw [e2,z8,hss]
   refine Ad Nh Al (of_decide_eq_true rfl) ?_
   simp (disch:=omega) only [Jg,go_sem,Aa,h1,h2,G4,GM]
  ·unfold BV at h
   have h:((!dec (n∈t.vs)&&_)&&_)=true:=h
   rw [hb] at h; cases h
 | false =>
  rw [hb] at h2
  have hnn:¬ t.name=n:=fun e=>C7.1 hb (hne e)
  have h3:=Xo ⟨[]⟩ n t (by show 0≤_; omega) (by omega)
  have hput:(Sb.mk []).put ⟨n,t⟩=⟨[⟨n,t⟩]⟩:=by
   unfold Sb.put
   rw [Ay hnn]; rfl
  rw [hput] at h3
  have hpsv:(Sb.mk [⟨n,t⟩]).sv=.agg [.arr [[.str n,.str t.name,.arr (t.args.map Tm.d)]]]:=rfl
  have htame:s.tame:=⟨by have:=ok_len hs; omega,fun c hc=>by
   obtain ⟨k,hk,rfl⟩:=zN hc
   have:=E9 (DM (Sb.K6 hs hk)); omega⟩
  have h4:=Uy s ⟨[⟨n,t⟩]⟩ htame (Ic (by show t.nodes≤_; omega))
  have e0:(Sb.mk []).sv=.agg [.arr []]:=rfl
  rw [e0,hpsv] at h3
  rw [hpsv] at h4
  have e2:Ux s ⟨[⟨n,t⟩]⟩=(BV ⟨n,t⟩&&C6 s ⟨[⟨n,t⟩]⟩):=by
   unfold Ux BV
   show _=((!dec (n∈t.vs)&&_)&&_)
   rw [hs,hb]; rfl
  rw [e2] at h4
  refine ⟨Zg s ⟨[⟨n,t⟩]⟩,?_,fun h=>?_⟩
  ·have hrs:(Zg s ⟨[⟨n,t⟩]⟩).sv=.agg [.arr ((Zg s ⟨[⟨n,t⟩]⟩).binds.map Bd.d)]:=rfl
   rw [hss] at h4 ⊢
   rw [hrs] at h4 ⊢
   refine Ad Nh Al (of_decide_eq_true rfl) ?_
   simp (disch:=omega) only [Jg,go_sem,Aa,h1,h2,h3,h4,G4,GM,CI,Bv]
  ·unfold Zg
   rw [e2,h]; rfl
def eqD (p:Tm × Tm):List D:=[.str p.1.name,.arr (p.1.args.map Tm.d),.str p.2.name,.arr (p.2.args.map Tm.d)]
def eqO (p:Tm × Tm):List OT:=[.str p.1.name,.sh (p.1.args.map Tm.d),.str p.2.name,.sh (p.2.args.map Tm.d)]
theorem TF:∀ l:List (Tm × Tm),OT.erss (l.map eqO)=l.map eqD
 | []=>rfl
 | p :: l=>by rw [zK,zK,OT.erss,TF l]; rfl
theorem TG:∀ l:List (Tm × Tm),OT.AA (l.map eqO)=true
 | []=>rfl
 | p :: l=>by rw [zK,OT.AA,TG l]; rfl
theorem LR (l:List (Tm × Tm)):(l.map eqD).map (fun x=>x.map D.ot)=l.map eqO:=by rw [zY]; rfl
theorem IE (l:List (Tm × Tm)):((l.map eqO).all fun x=>x.length == 4)=true:=by
 rw [z7,zT]; intro x _; rfl
theorem RB (l:List (Tm × Tm)):((l.map eqD).all fun x=>x.length == 4)=true:=by
 rw [z7,zT]; intro x _; rfl
noncomputable def uTo (t:Option Sb):Sb:=t.getD ⟨[]⟩
def uOk (t:Option Sb):Bool:=t.isSome
theorem Fl {s:Sb} (hs:s.ok=true):s.tame:=⟨by have:=ok_len hs; omega,fun c hc=>by
 obtain ⟨k,hk,rfl⟩:=zN hc
 have:=E9 (DM (Sb.K6 hs hk)); omega⟩
theorem GN {α β:Type} {xs:List α} {ys:List β} {k:Nat} (h:k<xs.length) (h':k<ys.length):(xs.zip ys).take k++[(xs[k],ys[k])]=(xs.zip ys).take (k+1):=by
 have hz:k<(xs.zip ys).length:=by rw [List.length_zip]; omega
 rw [List.take_succ_eq_append_getElem hz,List.getElem_zip]
theorem RC:∀ (n:Nat) (s:Sb) (l:List (Tm × Tm)) (r:Sb),uInv s l→BL n s l=some (some r)→r.ok=true
 | 0,s,l,r,h,e=>by rw [BL] at e; cases e
 | n+1,s,[],r,h,e=>by
  rw [BL] at e
  simp only [yT] at e
  rw [←e]; exact h.ok
 | n+1,s,p :: l,r,h,e=>by
  rw [BL] at e
  cases h1:Cb s p.1 with
  | false=>simp only [h1,z8,cond_false] at e; cases e
  | true =>
   cases h2:Cb s p.2 with
   | false=>simp only [h2,yH,cond_false] at e; cases e
   | true =>
    cases h3:dec (AM s p.1=AM s p.2) with
    | true =>
     simp only [h1,h2,h3,zM,cond_true] at e
     exact RC n s l r h.pop e
    | false =>
     cases h4:Ao (AM s p.1).name || Ao (AM s p.2).name with
     | true =>
      cases h5:BV (Az (AM s p.1) (AM s p.2))&&C6 s ⟨[Az (AM s p.1) (AM s p.2)]⟩ with
      | false=>simp only [h1,h2,h3,h4,h5,zM,cond_true,cond_false] at e; cases e
      | true =>
       simp only [h1,h2,h3,h4,h5,zM,cond_true,cond_false] at e
       rw [zG] at h5
       exact RC n _ l r (h.bind h1 h2 h4 h5.1 h5.2).1 e
     | false =>
      have h4':=h4
      rw [Bool.or_eq_false_iff] at h4'
      cases h5:dec ((AM s p.1).name=(AM s p.2).name)&&dec ((AM s p.1).args.length=(AM s p.2).args.length) with
      | false=>simp only [h1,h2,h3,h4,h5,zM,cond_true,cond_false] at e; cases e
      | true =>
       simp only [h1,h2,h3,h4,h5,zM,cond_true,cond_false] at e
       exact RC n s _ r (h.dec h1 h2 h4'.1) e
open Classical in
noncomputable def unR (a b:Tm):Option Sb:=if h:∃ r,∃ n,BL n ⟨[]⟩ [(a,b)]=some r then h.choose else none
theorem TH {a b:Tm} (ha:a.expr=true) (hb:b.expr=true):∃ n,BL n ⟨[]⟩ [(a,b)]=some (unR a b):=by
 obtain ⟨n,r,h⟩:=Qa7 ha hb
 have he:∃ r,∃ n,BL n ⟨[]⟩ [(a,b)]=some r:=⟨r,n,h⟩
 unfold unR
 rw [dif_pos he]
 exact he.choose_spec
theorem Qeb {a b:Tm} (ha:a.expr=true) (hb:b.expr=true) {s:Sb} (h:unR a b=some s):s.ok=true:=by
 obtain ⟨n,hn⟩:=TH ha hb
 rw [h] at hn
 exact RC n _ _ s (uInv.start ha hb) hn
noncomputable def FZ (s:Sb) (l:List Lt):Bool:=EO s l&&(nz 10 (apC s l)).norm
noncomputable def U0 (s:Sb) (l:List Lt):Cl:=if FZ s l then nz 10 (apC s l) else ⟨[]⟩
theorem RD {s:Sb} {l:List Lt} (h:FZ s l=false):U0 s l=⟨[]⟩:=by unfold U0; rw [if_neg (by rw [h]; simp)]
theorem TI {s:Sb} {l:List Lt} (h:FZ s l=true):U0 s l=nz 10 (apC s l):=by unfold U0; rw [if_pos h]
theorem Qa9 {s:Sb} {l:List Lt} (h:EO s l=true):(apC s l).ok=true:=by
 rw [Xf h]
 unfold EO at h
 rw [zG] at h
 exact h.2
theorem Qec {c:Cl} (h:c.ok=true):c.tame:=⟨by have:=Cl.ok_len h; omega,fun y hy=>by have:=Tm.Cu (Cl.C3 h y hy); omega⟩
noncomputable def hasB (c:Cl) (i:Int):Bool:=dec (0≤i)&&dec (i≤(c.lits.length:Int)-1)
theorem RE {c:Cl} {i:Int} (h:hasB c i=true):∃ p:Nat,i=p∧p<c.lits.length:=by
 unfold hasB at h
 rw [zG] at h
 have h1:=Ar.1 h.1
 have h2:=Ar.1 h.2
 exact ⟨i.toNat,by omega,by omega⟩
noncomputable def MC (c:Cl) (i:Int):Lt:=(c.lits[i.toNat]?).getD ⟨false,.mk ⟨#[]⟩ []⟩
theorem Ko {c:Cl} {p:Nat} (h:p<c.lits.length):MC c (p:Int)=c.lits[p]:=by
 unfold MC
 rw [Int.toNat_natCast,yL h]; rfl
noncomputable def Qgy (c:Cl) (i k:Int):Bool:=hasB c i&&(hasB c k&&(dec (i<k)&&((MC c i).pos == (MC c k).pos)))
noncomputable def Qgz (c:Cl) (i k:Int):Option Sb:=bif Qgy c i k then unR (MC c i).atom (MC c k).atom else none
noncomputable def Qg2 (c:Cl) (i k:Int):Bool:=match Qgz c i k with
 | none=>false
 | some s=>FZ s (c.lits.eraseIdx k.toNat)
theorem QL {c:Cl} (hc:c.ok=true) (k:Nat):∀ x∈c.lits.eraseIdx k,x.atom.atom=true:=fun x hx=>Cl.C3 hc x (List.mem_of_mem_eraseIdx hx)
theorem VK {c:Cl} (hc:c.ok=true) (k:Nat):(c.lits.eraseIdx k).length≤8:=by
 have h1:=List.length_eraseIdx_le c.lits k
 have h2:=Cl.ok_len hc
 omega
noncomputable def Cl.ap (d:Cl):Cl:=d.rn (D9 GH d.ns)
theorem Cl.QbE {d:Cl} (h:d.ok=true):d.ap.ok=true:=Cl.Qb4 (Cl.yE h) h
theorem Cl.QbF {d:Cl} (h:d.ok=true) (hn:d.norm=true):d.ap.lits=d.lits.map (Lt.rn (D9 GH d.ns)):=Cl.Qa3 h hn
theorem Cl.Xr {d:Cl} (h:d.ok=true) (hn:d.norm=true):d.ap.lits.length=d.lits.length:=by rw [Cl.QbF h hn,zI]
theorem Cl.Qff {d:Cl} (h:d.ok=true) (hn:d.norm=true) (k:Int):hasB d.ap k=hasB d k:=by unfold hasB; rw [Cl.Xr h hn]
theorem Cl.QfR {d:Cl} (h:d.ok=true) (hn:d.norm=true) {q:Nat} (hq:q<d.lits.length):(MC d.ap q).pos=(MC d q).pos:=by
 rw [Ko hq,Ko (by rw [Cl.Xr h hn]; exact hq)]
 simp only [Cl.QbF h hn,List.getElem_map]
 rfl
noncomputable def JK (c:Cl) (i:Int) (d:Cl) (k:Int):Bool:=hasB c i&&(hasB d k&&!((MC c i).pos == (MC d k).pos))
noncomputable def Xs (c:Cl) (i:Int) (d:Cl) (k:Int):Option Sb:=bif JK c i d k then unR (MC c i).atom (MC d.ap k).atom else none
noncomputable def TJ (c:Cl) (i:Int) (d:Cl) (k:Int):List Lt:=c.lits.eraseIdx i.toNat++d.ap.lits.eraseIdx k.toNat
noncomputable def IF (c:Cl) (i:Int) (d:Cl) (k:Int):Bool:=match Xs c i d k with
 | none=>false
 | some s=>FZ s (TJ c i d k)
noncomputable def Kp (c:Cl) (i:Int) (d:Cl) (k:Int):Cl:=match Xs c i d k with
 | none=>⟨[]⟩
 | some s=>U0 s (TJ c i d k)
theorem Kq {c d:Cl} {i k:Int} (h:Xs c i d k=none):IF c i d k=false∧Kp c i d k=⟨[]⟩:=by
 unfold IF Kp
 rw [h]
 exact ⟨rfl,rfl⟩
theorem Zt {c d:Cl} {i k:Int} {s:Sb} (h:Xs c i d k=some s):IF c i d k=FZ s (TJ c i d k)∧Kp c i d k=U0 s (TJ c i d k):=by
 unfold IF Kp
 rw [h]
 exact ⟨rfl,rfl⟩
theorem Kr {c d:Cl} {i k:Int} (h:JK c i d k=false):Xs c i d k=none:=by unfold Xs; rw [h]; rfl
theorem Zu {c d:Cl} {i k:Int} (h:JK c i d k=true):Xs c i d k=unR (MC c i).atom (MC d.ap k).atom:=by unfold Xs; rw [h]; rfl
theorem TK {c d:Cl} (hc:c.ok=true) (hd:d.ok=true) (i k:Int):∀ x∈TJ c i d k,x.atom.atom=true:=fun x hx=>by
 rcases zW.1 hx with h | h
 ·exact QL hc _ x h
 ·exact QL (Cl.QbE hd) _ x h
theorem Zv {c d:Cl} (hc:c.ok=true) (hd:d.ok=true) (i k:Int):(TJ c i d k).length≤16:=by
 have h1:=VK hc i.toNat
 have h2:=VK (Cl.QbE hd) k.toNat
 unfold TJ
 rw [zJ]; omega
abbrev u2b:SC:=(.seq (.seq (.reg [⟨some 22,none,.mv (.t 7)⟩,⟨some 23,none,.len false (.t 22)⟩,⟨some 24,none,.bin .gtr false (.t 23) (.c (.int .i64 0))⟩]) (.cond (.t 24) .skip (.exit 0))) (.block 1 (.seq (.dreg [[],[],[1],[2,1],[3,2,1],[0,4,3,2,1],[5,0,4,3,2,1],[6,5,0,4,3,2,1],[6,5,0,4,3,2,1],[],[9,7,6,5,0,4,3,2,1],[8,6,5,0,4,3,2,1,10,9,7]] [⟨some 26,none,.load true 1 (.t 6)⟩,⟨some 27,none,.mv (.t 7)⟩,⟨some 28,none,.iaddr 4 (.t 27) (.c (.int .i64 0))⟩,⟨some 29,none,.faddr 0 (.t 28)⟩,⟨some 30,none,.load true 2 (.t 29)⟩,⟨some 31,none,.call 207 [(.t 26),(.t 30)]⟩,⟨some 25,none,.mv (.t 31)⟩,⟨some 32,none,.ext (.t 25) 0⟩,⟨some 33,none,.ext (.t 25) 1⟩,⟨(some 8),none,(.alloc 33 [(.str ⟨#[]⟩),.nil])⟩,⟨none,none,(.store 2 (.t 8) (.t 32))⟩,⟨some 9,none,.mv (.t 33)⟩]) (.seq (.dreg [[],[],[1],[2,1],[3,2,1],[0,4,3,2,1],[5,0,4,3,2,1],[6,5,0,4,3,2,1],[6,5,0,4,3,2,1],[],[9,7,6,5,0,4,3,2,1],[8,6,5,0,4,3,2,1,10,9,7]] [⟨some 35,none,.load true 1 (.t 6)⟩,⟨some 36,none,.mv (.t 7)⟩,⟨some 37,none,.iaddr 4 (.t 36) (.c (.int .i64 0))⟩,⟨some 38,none,.faddr 2 (.t 37)⟩,⟨some 39,none,.load true 2 (.t 38)⟩,⟨some 40,none,.call 207 [(.t 35),(.t 39)]⟩,⟨some 34,none,.mv (.t 40)⟩,⟨some 41,none,.ext (.t 34) 0⟩,⟨some 42,none,.ext (.t 34) 1⟩,⟨(some 10),none,(.alloc 33 [(.str ⟨#[]⟩),.nil])⟩,⟨none,none,(.store 2 (.t 10) (.t 41))⟩,⟨some 11,none,.mv (.t 42)⟩]) (.seq (.reg [⟨some 43,none,.mv (.t 7)⟩,⟨some 44,none,.slice false 4 (.t 43) (some (.c (.int .i64 1))) none⟩,⟨some 7,none,.mv (.t 44)⟩]) (.block 2 (.seq (.reg [⟨some 69,none,.mv (.t 9)⟩,⟨some 70,none,.un .not (.t 69)⟩,⟨some 71,none,.mv (.t 70)⟩,⟨(some 72),(some (71,false)),(.mv (.t 11))⟩,⟨(some 73),(some (71,false)),(.un .not (.t 72))⟩,⟨some 74,none,.pick (.t 71) (.c (.bool true)) (.t 73)⟩,⟨some 68,none,.mv (.t 74)⟩]) (.cond (.t 68) (.seq (.reg [⟨some 75,none,.build [.nil] []⟩,⟨none,none,(.store 1 (.t 4) (.t 75))⟩,⟨some 5,none,.mv (.c (.bool false))⟩]) .ret) (.seq (.reg [⟨some 77,none,.load true 2 (.t 8)⟩,⟨some 78,none,.load true 2 (.t 10)⟩,⟨some 79,none,.call 208 [(.t 77),(.t 78)]⟩,⟨some 76,none,.mv (.t 79)⟩]) (.cond (.t 76) .skip (.seq (.reg [⟨some 81,none,.load true 2 (.t 8)⟩,⟨some 82,none,.call 209 [(.t 81)]⟩,⟨some 83,none,.mv (.t 82)⟩,⟨(some 84),(some (83,false)),(.load true 2 (.t 10))⟩,⟨(some 85),(some (83,false)),(.call 209 [(.t 84)])⟩,⟨some 86,none,.pick (.t 83) (.c (.bool true)) (.t 85)⟩,⟨some 80,none,.mv (.t 86)⟩]) (.cond (.t 80) (.seq (.reg [⟨some 88,none,.load true 2 (.t 8)⟩,⟨some 89,none,.load true 2 (.t 10)⟩,⟨(some 90),none,(.build [(.str ⟨#[]⟩),.nil,(.str ⟨#[]⟩),.nil] [(0,(2,(.t 88))),(2,(2,(.t 89)))])⟩,⟨some 91,none,.call 210 [(.t 90)]⟩,⟨some 87,none,.mv (.t 91)⟩,⟨some 92,none,.ext (.t 87) 0⟩,⟨some 93,none,.ext (.t 87) 1⟩,⟨some 12,none,.alloc 142 [.nil]⟩,⟨none,none,(.store 1 (.t 12) (.t 92))⟩,⟨some 13,none,.mv (.t 93)⟩]) (.seq (.seq (.reg [⟨some 94,none,.mv (.t 13)⟩,⟨some 95,none,.un .not (.t 94)⟩]) (.cond (.t 95) (.seq (.reg [⟨some 96,none,.build [.nil] []⟩,⟨none,none,(.store 1 (.t 4) (.t 96))⟩,⟨some 5,none,.mv (.c (.bool false))⟩]) .ret) .skip)) (.seq (.reg [⟨some 98,none,.load true 1 (.t 6)⟩,⟨some 99,none,.load true 1 (.t 12)⟩,⟨some 100,none,.call 211 [(.t 98),(.t 99)]⟩,⟨some 97,none,.mv (.t 100)⟩,⟨some 101,none,.ext (.t 97) 0⟩,⟨some 102,none,.ext (.t 97) 1⟩,⟨none,none,(.store 1 (.t 6) (.t 101))⟩,⟨some 13,none,.mv (.t 102)⟩]) (.seq (.reg [⟨some 103,none,.mv (.t 13)⟩,⟨some 104,none,.un .not (.t 103)⟩]) (.cond (.t 104) (.seq (.reg [⟨some 105,none,.build [.nil] []⟩,⟨none,none,(.store 1 (.t 4) (.t 105))⟩,⟨some 5,none,.mv (.c (.bool false))⟩]) .ret) .skip))))) (.seq (.reg [⟨some 107,none,.faddr 0 (.t 8)⟩,⟨some 108,none,.load false 1 (.t 107)⟩,⟨some 109,none,.faddr 0 (.t 10)⟩,⟨some 110,none,.load false 1 (.t 109)⟩,⟨some 111,none,.bin .neq false (.t 108) (.t 110)⟩,⟨some 112,none,.mv (.t 111)⟩,⟨(some 113),(some (112,false)),(.faddr 1 (.t 8))⟩,⟨(some 114),(some (112,false)),(.load false 1 (.t 113))⟩,⟨(some 115),(some (112,false)),(.len false (.t 114))⟩,⟨(some 116),(some (112,false)),(.faddr 1 (.t 10))⟩,⟨(some 117),(some (112,false)),(.load false 1 (.t 116))⟩,⟨(some 118),(some (112,false)),(.len false (.t 117))⟩,⟨(some 119),(some (112,false)),(.bin .neq false (.t 115) (.t 118))⟩,⟨some 120,none,.pick (.t 112) (.c (.bool true)) (.t 119)⟩,⟨some 106,none,.mv (.t 120)⟩]) (.cond (.t 106) (.seq (.reg [⟨some 121,none,.build [.nil] []⟩,⟨none,none,(.store 1 (.t 4) (.t 121))⟩,⟨some 5,none,.mv (.c (.bool false))⟩]) .ret) (.seq (.reg [⟨(some 45),none,(.mkrow 198 4 [(.str ⟨#[]⟩),.nil,(.str ⟨#[]⟩),.nil] 0 [])⟩,⟨some 14,none,.mv (.t 45)⟩]) (.seq (.seq (.reg [⟨some 46,none,.faddr 1 (.t 8)⟩,⟨some 47,none,.load false 1 (.t 46)⟩,⟨some 48,none,.len false (.t 47)⟩,⟨some 49,none,.mv (.c (.int .i64 0))⟩]) (.block 3 (.loop [0,0,0,0,1,0,1,1,0,0,1,0,0,0,1,0,0,0,0,0,0,0,0,0,0,0,0,0,0,0,0,0,0,0,0,0,0,0,0,0,0,0,0,0,0,0,0,1,1,1,0,0,0,0,0,0,0,0,0,0,0,0,0,0,0,0,0,0,0,0,0,0,0,0,0,0,0,0,0,0,0,0,0,0,0,0,0,0,0,0,0,0,0,0,0,0,0,0,0,0,0,0,0,0,0,0,0,0,0,0,0,0,0,0,0,0,0,0,0,0,0,0,0] (.seq (.reg [⟨some 50,none,.bin .lss false (.t 49) (.t 48)⟩]) (.seq (.cond (.t 50) .skip (.exit 3)) (.seq (.block 4 (.seq (.reg [⟨some 51,none,.mv (.t 49)⟩,⟨some 52,none,.iaddr 2 (.t 47) (.t 49)⟩,⟨some 53,none,.load true 2 (.t 52)⟩,⟨(some 16),none,(.alloc 33 [(.str ⟨#[]⟩),.nil])⟩,⟨some 15,none,.mv (.t 51)⟩,⟨none,none,(.store 2 (.t 16) (.t 53))⟩]) (.dreg [[],[],[],[2],[],[3,2,4],[5,3,2,4],[1,6,5,3,2,4],[7,1,6,5,3,2,4],[0,8,7,1,6,5,3,2,4],[9,0,8,7,1,6,5,3,2,4]] [⟨some 54,none,.mv (.t 14)⟩,⟨some 55,none,.load true 2 (.t 16)⟩,⟨some 56,none,.faddr 1 (.t 10)⟩,⟨some 57,none,.load false 1 (.t 56)⟩,⟨some 58,none,.mv (.t 15)⟩,⟨some 59,none,.iaddr 2 (.t 57) (.t 58)⟩,⟨some 60,none,.load true 2 (.t 59)⟩,⟨(some 61),none,(.build [(.str ⟨#[]⟩),.nil,(.str ⟨#[]⟩),.nil] [(0,(2,(.t 55))),(2,(2,(.t 60)))])⟩,⟨(some 62),none,(.mkrow 198 4 [(.str ⟨#[]⟩),.nil,(.str ⟨#[]⟩),.nil] 1 [(0,(.t 61))])⟩,⟨(some 63),none,(.append 198 4 80 [(.str ⟨#[]⟩),.nil,(.str ⟨#[]⟩),.nil] (.t 54) (.t 62))⟩,⟨some 14,none,.mv (.t 63)⟩]))) (.reg [⟨some 64,none,.bin .add false (.t 49) (.c (.int .i64 1))⟩,⟨some 49,none,.mv (.t 64)⟩]))))))) (.reg [⟨some 65,none,.mv (.t 14)⟩,⟨some 66,none,.mv (.t 7)⟩,⟨(some 67),none,(.append 198 4 80 [(.str ⟨#[]⟩),.nil,(.str ⟨#[]⟩),.nil] (.t 65) (.t 66))⟩,⟨some 7,none,.mv (.t 67)⟩])))))))))))))))))
abbrev u2r:SC:=(.seq (.reg [⟨some 122,none,.load true 1 (.t 6)⟩,⟨none,none,(.store 1 (.t 4) (.t 122))⟩,⟨some 5,none,.mv (.c (.bool true))⟩]) .ret)
def Pa:SC:=(.seq (.reg [⟨some 2,none,.boxv 33 2 (.t 0)⟩,⟨some 3,none,.boxv 33 2 (.t 1)⟩,⟨some 4,none,.alloc 142 [.nil]⟩,⟨some 5,none,.mv (.c (.bool false))⟩]) (.seq (.reg [⟨some 17,none,.build [.nil] []⟩,⟨some 6,none,.alloc 142 [.nil]⟩,⟨none,none,(.store 1 (.t 6) (.t 17))⟩]) (.seq (.reg [⟨some 18,none,.load true 2 (.t 2)⟩,⟨some 19,none,.load true 2 (.t 3)⟩,⟨(some 20),none,(.build [(.str ⟨#[]⟩),.nil,(.str ⟨#[]⟩),.nil] [(0,(2,(.t 18))),(2,(2,(.t 19)))])⟩,⟨(some 21),none,(.mkrow 198 4 [(.str ⟨#[]⟩),.nil,(.str ⟨#[]⟩),.nil] 1 [(0,(.t 20))])⟩,⟨some 7,none,.mv (.t 21)⟩]) (.seq (.block 0 (.loop [0,0,0,0,1,0,1,1,0,0,0,0,0,0,0,0,0,0,0,0,0,0,0,0,0,0,0,0,0,0,0,0,0,0,0,0,0,0,0,0,0,0,0,0,0,0,0,0,0,0,0,0,0,0,0,0,0,0,0,0,0,0,0,0,0,0,0,0,0,0,0,0,0,0,0,0,0,0,0,0,0,0,0,0,0,0,0,0,0,0,0,0,0,0,0,0,0,0,0,0,0,0,0,0,0,0,0,0,0,0,0,0,0,0,0,0,0,0,0,0,0,0,0] u2b)) u2r))))
theorem Xt:codeOf Tryz.prog 151=some ⟨123,Pa,[(.cell 4 true 1),(.tmp 5)]⟩:=by kernel_rfl
theorem Ks:modes 151=⟨[],.own [some (227,3),none],none,false⟩:=by unfold modes; rfl
abbrev u2H:Nat × Bool × Bool × Sb × List (Tm × Tm)→St:=fun a=>⟨slots 123 0 [(4,.ptr 0 0),(6,.ptr 1 0),(7,(bif a.2.2.1 then .ref 2 else .arr (a.2.2.2.2.map eqD)))],([.box 142 [.nil],.box 142 [bif a.2.1 then .nil else .ref (bif a.2.2.1 then 3 else 2)]]++((bif a.2.2.1 then [.row 198 4 (a.2.2.2.2.map eqO)] else [])++(bif a.2.1 then [] else [.row 227 3 (a.2.2.2.1.binds.map Bd.o)])))⟩
abbrev u2R (total:Option Sb):Nat × Bool × Bool × Sb × List (Tm × Tm)→Prop:=fun a=>uInv a.2.2.2.1 a.2.2.2.2∧BL a.1 a.2.2.2.1 a.2.2.2.2=some total∧(a.2.1=true→a.2.2.2.1.binds=[])
abbrev u2K (total:Option Sb):X→St→Prop:=blk 0 (SH 0 u2r (Ug (.own [some (227,3),none]) 0 [(.cell 4 true 1),(.tmp 5)] (.tup [(uTo total).osv,.bool (uOk total)],(uTo total).obs)))
abbrev LS:List Nat:=[0,0,0,0,1,0,1,1,0,0,0,0,0,0,0,0,0,0,0,0,0,0,0,0,0,0,0,0,0,0,0,0,0,0,0,0,0,0,0,0,0,0,0,0,0,0,0,0,0,0,0,0,0,0,0,0,0,0,0,0,0,0,0,0,0,0,0,0,0,0,0,0,0,0,0,0,0,0,0,0,0,0,0,0,0,0,0,0,0,0,0,0,0,0,0,0,0,0,0,0,0,0,0,0,0,0,0,0,0,0,0,0,0,0,0,0,0,0,0,0,0,0,0]
end Go.Proofs.YtepbennkcbmgoaaGreatDoor
