/-
  Texts of this claim, one behind the other, each built on those ahead of it. No condition.
-/
import Derived.Test.YtibdknkacmimgaaGreatDoorK50b
import Derived.Test.YtibdknkacmimgaaGreatDoorK50c
import Derived.Test.YtibdknkacmimgaaGreatDoorK50d
set_option maxHeartbeats 16000000
open Bool renaming and_eq_true → zA, and_self → zM, false_and → yC, not_eq_true' → yD, not_not → yF, and_false → yI, true_and → yJ
open List renaming length_cons → zB, drop_eq_getElem_cons → zC, length_append → zD, drop_eq_nil_of_le → zE, map_cons → zF, getElem_mem → zH, getElem_of_mem → zI, eq_nil_or_concat → zK, map_nil → zL, drop_zero → zN, all_eq_true → zO, mem_cons → zP, cons_append → zR, mergeSort_perm → zS, length_map → zT, length_nil → zU, map_map → zW, append_assoc → zX, all_map → zY, mem_append → zZ, filterMap_cons → z8, mergeSort_nil → yA, map_append → yG, nil_append → yH
open Nat renaming lt_or_ge → zG, zero_le → zJ, le_refl → zV, eq_zero_or_pos → yB
open Int renaming toNat_zero → zQ
open List.cons renaming injEq → z7
open Option renaming getD_none → yE
set_option maxRecDepth 100000
set_option linter.unusedSimpArgs false
set_option linter.unusedVariables false
set_option linter.unusedSectionVars false
namespace Go.Proofs.YtibdknkacmimgaaGreatDoor
open Go.RowKit
def Mm:SC:=(.seq (.reg [⟨some 1,none,.boxv 65 2 (.t 0)⟩,⟨(some 2),none,(.alloc 71 [(.str ⟨#[]⟩),.nil])⟩]) (.seq (.reg [⟨(some 3),none,(.alloc 71 [(.str ⟨#[]⟩),.nil])⟩]) (.seq (.reg [⟨some 4,none,.faddr 0 (.t 1)⟩,⟨some 5,none,.load false 1 (.t 4)⟩,⟨some 6,none,.faddr 0 (.t 3)⟩,⟨none,none,(.store 1 (.t 6) (.t 5))⟩]) (.seq (.reg [⟨some 7,none,.faddr 1 (.t 1)⟩,⟨some 8,none,.load false 1 (.t 7)⟩,⟨some 9,none,.call 118 [(.t 8)]⟩,⟨some 10,none,.faddr 1 (.t 3)⟩,⟨none,none,(.store 1 (.t 10) (.t 9))⟩]) (.seq (.reg [⟨some 11,none,.load true 2 (.t 3)⟩,⟨none,none,(.store 2 (.t 2) (.t 11))⟩]) .ret)))))
theorem Tc:codeOf Tryz.prog 81=some ⟨12,Mm,[(.cell 2 true 2)]⟩:=by kernel_rfl
theorem IB:modes 81=⟨[],.asis,none,false⟩:=by unfold modes; rfl
def Lg:SC:=(.seq (.reg [⟨some 2,none,.mv (.c .nil)⟩]) (.seq (.reg [⟨some 5,none,.mv (.t 0)⟩,⟨some 6,none,.len false (.t 5)⟩,⟨(some 7),none,(.mkslice 71 2 40 [(.str ⟨#[]⟩),.nil] (.t 6))⟩,⟨some 3,none,.mv (.t 7)⟩]) (.seq (.seq (.reg [⟨some 4,none,.mv (.c (.int .i64 0))⟩]) (.block 0 (.loop [1,0,0,1,1,0,0,0,0,0,0,0,0,0,0,0,0,0,0,0,0,0,0] (.seq (.seq (.reg [⟨some 8,none,.mv (.t 4)⟩,⟨some 9,none,.mv (.t 0)⟩,⟨some 10,none,.len false (.t 9)⟩,⟨some 11,none,.bin .lss false (.t 8) (.t 10)⟩]) (.cond (.t 11) .skip (.exit 0))) (.seq (.block 1 (.reg [⟨some 14,none,.mv (.t 3)⟩,⟨some 15,none,.mv (.t 4)⟩,⟨some 16,none,.mv (.t 0)⟩,⟨some 17,none,.mv (.t 4)⟩,⟨some 18,none,.iaddr 2 (.t 16) (.t 17)⟩,⟨some 19,none,.load true 2 (.t 18)⟩,⟨some 20,none,.call 81 [(.t 19)]⟩,⟨some 21,none,.iaddr 2 (.t 14) (.t 15)⟩,⟨none,none,(.store 2 (.t 21) (.t 20))⟩])) (.reg [⟨some 12,none,.mv (.t 4)⟩,⟨some 13,none,.bin .add false (.t 12) (.c (.int .i64 1))⟩,⟨some 4,none,.mv (.t 13)⟩])))))) (.seq (.reg [⟨some 22,none,.mv (.t 3)⟩,⟨some 2,none,.mv (.t 22)⟩]) .ret))))
theorem Sg:codeOf Tryz.prog 118=some ⟨23,Lg,[(.tmp 2)]⟩:=by kernel_rfl
theorem Lh:modes 118=⟨[],.asis,none,false⟩:=by unfold modes; rfl
abbrev NR (x:Tm):Prop:=x.bulk≤1048576→E 81 [x.sv] []=some (x.osv,x.obs)
abbrev Uu (xs:List Tm):Prop:=xs.length+Tm.sumB xs≤1048576→E 118 [.arr (xs.map Tm.d)] []=some (.ref 0,[.row 71 2 (xs.map Tm.o)])
theorem V4 (xs:List Tm) (h:∀ x∈xs,NR x):Uu xs:=by
 intro hb
 refine Af Sg Lh (of_decide_eq_true rfl) ?_
 simp (disch:=omega) only [Lg,go_sem,Aa]
 refine go_loop (α:=Int) (fun i=>⟨slots 23 0 [(0,.arr (xs.map Tm.d)),(3,.ref 0),(4,.int .i64 i)],[.row 71 2 (Ga Tm.o [.str ⟨#[]⟩,.ow []] xs i.toNat)]⟩) (fun i=>∃ k:Nat,i=k∧k≤xs.length) (fun i=>xs.length-i.toNat) 0 ⟨0,rfl,zJ _⟩ (by simp (disch:=omega) only [go_sem,Aa,J9,zQ]) ?_
 ·rintro i ⟨k,rfl,hk⟩
  obtain ⟨i,hi⟩:∃ i:Int,i=(k:Int):=⟨_,rfl⟩
  rw [←hi]
  have hn:i.toNat=k:=by omega
  have hn1:(i+1).toNat=k+1:=by omega
  rcases zG k xs.length with hlt | hge
  ·have hg:=get_at Tm.d hlt
   rw [Tm.d_eq] at hg
   have hz:=LG Tm.o [.str ⟨#[]⟩,.ow []] hlt
   have hle:=Tm.bulk_le xs k hlt
   have hc:=h xs[k] (zH hlt) (by omega)
   have hs:=LH Tm.o [.str ⟨#[]⟩,.ow []] hlt
   rw [Tm.o_eq] at hs
   simp (disch:=omega) only [go_sem,Aa,hn,hg,hc,hz,LE,IB,Tm.osv,Tm.obs]
   refine ⟨i+1,⟨k+1,by omega,hlt⟩,by omega,?_⟩
   simp (disch:=omega) only [go_sem,Aa,hn1,hs]
  ·obtain rfl:k=xs.length:=by omega
   simp (disch:=omega) only [go_sem,Aa,hn,LF]
theorem X1 (x:Tm) (h_args:Uu x.args):NR x:=by
 intro hb
 have qb:=Tm.bulk_eq x
 replace h_args:=h_args (by omega)
 refine Af Tc IB (of_decide_eq_true rfl) ?_
 simp (disch:=omega) only [Mm,go_sem,Aa,h_args,Lh]
theorem X2 (x:Tm):NR x:=X1 x (V4 x.args fun y hy=>X2 y)
termination_by SizeOf.sizeOf x
decreasing_by exact Tm.Aw hy
def Jj:SC:=(.seq (.reg [⟨some 1,none,.boxv 67 3 (.t 0)⟩,⟨(some 2),none,(.alloc 73 [(.bool false),(.str ⟨#[]⟩),.nil])⟩]) (.seq (.reg [⟨(some 3),none,(.alloc 73 [(.bool false),(.str ⟨#[]⟩),.nil])⟩]) (.seq (.reg [⟨some 4,none,.faddr 0 (.t 1)⟩,⟨some 5,none,.load false 1 (.t 4)⟩,⟨some 6,none,.faddr 0 (.t 3)⟩,⟨none,none,(.store 1 (.t 6) (.t 5))⟩]) (.seq (.reg [⟨some 7,none,.faddr 1 (.t 1)⟩,⟨some 8,none,.load true 2 (.t 7)⟩,⟨some 9,none,.call 81 [(.t 8)]⟩,⟨some 10,none,.faddr 1 (.t 3)⟩,⟨none,none,(.store 2 (.t 10) (.t 9))⟩]) (.seq (.reg [⟨some 11,none,.load true 3 (.t 3)⟩,⟨none,none,(.store 3 (.t 2) (.t 11))⟩]) .ret)))))
theorem OY:codeOf Tryz.prog 53=some ⟨12,Jj,[(.cell 2 true 3)]⟩:=by kernel_rfl
theorem Jk:modes 53=⟨[],.asis,none,false⟩:=by unfold modes; rfl
def Ie:SC:=(.seq (.reg [⟨some 2,none,.mv (.c .nil)⟩]) (.seq (.reg [⟨some 5,none,.mv (.t 0)⟩,⟨some 6,none,.len false (.t 5)⟩,⟨(some 7),none,(.mkslice 73 3 48 [(.bool false),(.str ⟨#[]⟩),.nil] (.t 6))⟩,⟨some 3,none,.mv (.t 7)⟩]) (.seq (.seq (.reg [⟨some 4,none,.mv (.c (.int .i64 0))⟩]) (.block 0 (.loop [1,0,0,1,1,0,0,0,0,0,0,0,0,0,0,0,0,0,0,0,0,0,0] (.seq (.seq (.reg [⟨some 8,none,.mv (.t 4)⟩,⟨some 9,none,.mv (.t 0)⟩,⟨some 10,none,.len false (.t 9)⟩,⟨some 11,none,.bin .lss false (.t 8) (.t 10)⟩]) (.cond (.t 11) .skip (.exit 0))) (.seq (.block 1 (.reg [⟨some 14,none,.mv (.t 3)⟩,⟨some 15,none,.mv (.t 4)⟩,⟨some 16,none,.mv (.t 0)⟩,⟨some 17,none,.mv (.t 4)⟩,⟨some 18,none,.iaddr 3 (.t 16) (.t 17)⟩,⟨some 19,none,.load true 3 (.t 18)⟩,⟨some 20,none,.call 53 [(.t 19)]⟩,⟨some 21,none,.iaddr 3 (.t 14) (.t 15)⟩,⟨none,none,(.store 3 (.t 21) (.t 20))⟩])) (.reg [⟨some 12,none,.mv (.t 4)⟩,⟨some 13,none,.bin .add false (.t 12) (.c (.int .i64 1))⟩,⟨some 4,none,.mv (.t 13)⟩])))))) (.seq (.reg [⟨some 22,none,.mv (.t 3)⟩,⟨some 2,none,.mv (.t 22)⟩]) .ret))))
theorem NS:codeOf Tryz.prog 31=some ⟨23,Ie,[(.tmp 2)]⟩:=by kernel_rfl
theorem If:modes 31=⟨[],.asis,none,false⟩:=by unfold modes; rfl
abbrev Li (x:Lt):Prop:=x.bulk≤1048576→E 53 [x.sv] []=some (x.osv,x.obs)
abbrev NT (xs:List Lt):Prop:=xs.length+Lt.sumB xs≤1048576→E 31 [.arr (xs.map Lt.d)] []=some (.ref 0,[.row 73 3 (xs.map Lt.o)])
theorem PT (xs:List Lt) (h:∀ x∈xs,Li x):NT xs:=by
 intro hb
 refine Af NS If (of_decide_eq_true rfl) ?_
 simp (disch:=omega) only [Ie,go_sem,Aa]
 refine go_loop (α:=Int) (fun i=>⟨slots 23 0 [(0,.arr (xs.map Lt.d)),(3,.ref 0),(4,.int .i64 i)],[.row 73 3 (Ga Lt.o [.bool false,.str ⟨#[]⟩,.ow []] xs i.toNat)]⟩) (fun i=>∃ k:Nat,i=k∧k≤xs.length) (fun i=>xs.length-i.toNat) 0 ⟨0,rfl,zJ _⟩ (by simp (disch:=omega) only [go_sem,Aa,J9,zQ]) ?_
 ·rintro i ⟨k,rfl,hk⟩
  obtain ⟨i,hi⟩:∃ i:Int,i=(k:Int):=⟨_,rfl⟩
  rw [←hi]
  have hn:i.toNat=k:=by omega
  have hn1:(i+1).toNat=k+1:=by omega
  rcases zG k xs.length with hlt | hge
  ·have hg:=get_at Lt.d hlt
   rw [Lt.d_eq] at hg
   have hz:=LG Lt.o [.bool false,.str ⟨#[]⟩,.ow []] hlt
   have hle:=Lt.bulk_le xs k hlt
   have hc:=h xs[k] (zH hlt) (by omega)
   have hs:=LH Lt.o [.bool false,.str ⟨#[]⟩,.ow []] hlt
   rw [Lt.o_eq] at hs
   simp (disch:=omega) only [go_sem,Aa,hn,hg,hc,hz,LE,Jk,Lt.osv,Lt.obs]
   refine ⟨i+1,⟨k+1,by omega,hlt⟩,by omega,?_⟩
   simp (disch:=omega) only [go_sem,Aa,hn1,hs]
  ·obtain rfl:k=xs.length:=by omega
   simp (disch:=omega) only [go_sem,Aa,hn,LF]
theorem Sh (x:Lt) (h_atom:NR x.atom):Li x:=by
 intro hb
 have qb:=Lt.bulk_eq x
 replace h_atom:=h_atom (by omega)
 refine Af OY Jk (of_decide_eq_true rfl) ?_
 simp (disch:=omega) only [Jj,go_sem,Aa,h_atom,IB]
theorem X3 (x:Lt):Li x:=Sh x (X2 x.atom)
def Kd:SC:=(.seq (.reg [⟨some 1,none,.boxv 24 1 (.t 0)⟩,⟨some 2,none,.alloc 28 [.nil]⟩]) (.seq (.reg [⟨some 3,none,.alloc 28 [.nil]⟩]) (.seq (.reg [⟨some 4,none,.faddr 0 (.t 1)⟩,⟨some 5,none,.load false 1 (.t 4)⟩,⟨some 6,none,.call 31 [(.t 5)]⟩,⟨some 7,none,.faddr 0 (.t 3)⟩,⟨none,none,(.store 1 (.t 7) (.t 6))⟩]) (.seq (.reg [⟨some 8,none,.load true 1 (.t 3)⟩,⟨none,none,(.store 1 (.t 2) (.t 8))⟩]) .ret))))
theorem PU:codeOf Tryz.prog 10=some ⟨9,Kd,[(.cell 2 true 1)]⟩:=by kernel_rfl
theorem DD:modes 10=⟨[],.asis,none,false⟩:=by unfold modes; rfl
abbrev Si (x:Cl):Prop:=x.bulk≤1048576→E 10 [x.sv] []=some (x.osv,x.obs)
theorem Td (x:Cl) (h_lits:NT x.lits):Si x:=by
 intro hb
 have qb:=Cl.bulk_eq x
 replace h_lits:=h_lits (by omega)
 refine Af PU DD (of_decide_eq_true rfl) ?_
 simp (disch:=omega) only [Kd,go_sem,Aa,h_lits,If]
theorem Z3 (x:Cl):Si x:=Td x (PT x.lits fun y hy=>X3 y)
def Mn:SC:=(.seq (.reg [⟨some 2,none,.boxv 71 2 (.t 0)⟩,⟨some 3,none,.boxv 71 2 (.t 1)⟩,⟨some 4,none,.mv (.c (.bool false))⟩]) (.seq (.seq (.reg [⟨some 5,none,.faddr 0 (.t 2)⟩,⟨some 6,none,.load false 1 (.t 5)⟩,⟨some 7,none,.faddr 0 (.t 3)⟩,⟨some 8,none,.load false 1 (.t 7)⟩,⟨some 9,none,.bin .neq false (.t 6) (.t 8)⟩]) (.cond (.t 9) (.seq (.reg [⟨some 4,none,.mv (.c (.bool false))⟩]) .ret) .skip)) (.seq (.seq (.reg [⟨some 10,none,.faddr 1 (.t 2)⟩,⟨some 11,none,.load false 1 (.t 10)⟩,⟨some 12,none,.faddr 1 (.t 3)⟩,⟨some 13,none,.load false 1 (.t 12)⟩,⟨some 14,none,.call 141 [(.t 11),(.t 13)]⟩,⟨some 15,none,.un .not (.t 14)⟩]) (.cond (.t 15) (.seq (.reg [⟨some 4,none,.mv (.c (.bool false))⟩]) .ret) .skip)) (.seq (.reg [⟨some 4,none,.mv (.c (.bool true))⟩]) .ret))))
theorem Te:codeOf Tryz.prog 96=some ⟨16,Mn,[(.tmp 4)]⟩:=by kernel_rfl
theorem IC:modes 96=⟨[],.asis,none,false⟩:=by unfold modes; rfl
def Lj:SC:=(.seq (.reg [⟨some 4,none,.mv (.c (.bool false))⟩]) (.seq (.seq (.reg [⟨some 6,none,.mv (.t 0)⟩,⟨some 7,none,.len false (.t 6)⟩,⟨some 8,none,.mv (.t 1)⟩,⟨some 9,none,.len false (.t 8)⟩,⟨some 10,none,.bin .neq false (.t 7) (.t 9)⟩]) (.cond (.t 10) (.seq (.reg [⟨some 4,none,.mv (.c (.bool false))⟩]) .ret) .skip)) (.seq (.seq (.reg [⟨some 5,none,.mv (.c (.int .i64 0))⟩]) (.block 0 (.loop [1,1,0,0,0,1,0,0,0,0,0,0,0,0,0,0,0,0,0,0,0,0,0,0,0,0,0] (.seq (.seq (.reg [⟨some 11,none,.mv (.t 5)⟩,⟨some 12,none,.mv (.t 0)⟩,⟨some 13,none,.len false (.t 12)⟩,⟨some 14,none,.bin .lss false (.t 11) (.t 13)⟩]) (.cond (.t 14) .skip (.exit 0))) (.seq (.block 1 (.seq (.dreg [[],[],[0,1],[2,0,1],[],[],[4,5],[6,4,5],[3,2,0,1,7,6,4,5],[8,3,2,0,1,7,6,4,5]] [⟨some 17,none,.mv (.t 0)⟩,⟨some 18,none,.mv (.t 5)⟩,⟨some 19,none,.iaddr 2 (.t 17) (.t 18)⟩,⟨some 20,none,.load true 2 (.t 19)⟩,⟨some 21,none,.mv (.t 1)⟩,⟨some 22,none,.mv (.t 5)⟩,⟨some 23,none,.iaddr 2 (.t 21) (.t 22)⟩,⟨some 24,none,.load true 2 (.t 23)⟩,⟨some 25,none,.call 96 [(.t 20),(.t 24)]⟩,⟨some 26,none,.un .not (.t 25)⟩]) (.cond (.t 26) (.seq (.reg [⟨some 4,none,.mv (.c (.bool false))⟩]) .ret) .skip))) (.reg [⟨some 15,none,.mv (.t 5)⟩,⟨some 16,none,.bin .add false (.t 15) (.c (.int .i64 1))⟩,⟨some 5,none,.mv (.t 16)⟩])))))) (.seq (.reg [⟨some 4,none,.mv (.c (.bool true))⟩]) .ret))))
theorem Sj:codeOf Tryz.prog 141=some ⟨27,Lj,[(.tmp 4)]⟩:=by kernel_rfl
theorem Lk:modes 141=⟨[],.asis,none,false⟩:=by unfold modes; rfl
abbrev NU (x:Tm):Prop:=x.bulk≤1048576→E 96 [x.sv,x.sv] []=some (.bool true,[])
abbrev Uv (xs:List Tm):Prop:=xs.length+Tm.sumB xs≤1048576→E 141 [.arr (xs.map Tm.d),.arr (xs.map Tm.d)] []=some (.bool true,[])
theorem V5 (xs:List Tm) (h:∀ x∈xs,NU x):Uv xs:=by
 intro hb
 refine Af Sj Lk (of_decide_eq_true rfl) ?_
 simp (disch:=omega) only [Lj,go_sem,Aa]
 refine go_loop (α:=Int) (fun i=>⟨slots 27 0 [(0,.arr (xs.map Tm.d)),(1,.arr (xs.map Tm.d)),(5,.int .i64 i)],[]⟩) (fun i=>∃ k:Nat,i=k∧k≤xs.length) (fun i=>xs.length-i.toNat) 0 ⟨0,rfl,zJ _⟩ (by simp (disch:=omega) only [go_sem,Aa]) ?_
 ·rintro i ⟨k,rfl,hk⟩
  obtain ⟨i,hi⟩:∃ i:Int,i=(k:Int):=⟨_,rfl⟩
  rw [←hi]
  have hn:i.toNat=k:=by omega
  rcases zG k xs.length with hlt | hge
  ·have hg:=get_at Tm.d hlt
   rw [Tm.d_eq] at hg
   have hle:=Tm.bulk_le xs k hlt
   have hc:=h xs[k] (zH hlt) (by omega)
   simp (disch:=omega) only [go_sem,Aa,hn,hg,hc,IC]
   refine ⟨i+1,⟨k+1,by omega,hlt⟩,by omega,?_⟩
   trivial
  ·obtain rfl:k=xs.length:=by omega
   simp (disch:=omega) only [go_sem,Aa,hn]
theorem X4 (x:Tm) (h_args:Uv x.args):NU x:=by
 intro hb
 have qb:=Tm.bulk_eq x
 replace h_args:=h_args (by omega)
 refine Af Te IC (of_decide_eq_true rfl) ?_
 simp (disch:=omega) only [Mn,go_sem,Aa,h_args,Lk,Di]
theorem X5 (x:Tm):NU x:=X4 x (V5 x.args fun y hy=>X5 y)
termination_by SizeOf.sizeOf x
decreasing_by exact Tm.Aw hy
def Jl:SC:=(.seq (.reg [⟨some 2,none,.boxv 73 3 (.t 0)⟩,⟨some 3,none,.boxv 73 3 (.t 1)⟩,⟨some 4,none,.mv (.c (.bool false))⟩]) (.seq (.seq (.reg [⟨some 5,none,.faddr 0 (.t 2)⟩,⟨some 6,none,.load false 1 (.t 5)⟩,⟨some 7,none,.faddr 0 (.t 3)⟩,⟨some 8,none,.load false 1 (.t 7)⟩,⟨some 9,none,.bin .neq true (.t 6) (.t 8)⟩]) (.cond (.t 9) (.seq (.reg [⟨some 4,none,.mv (.c (.bool false))⟩]) .ret) .skip)) (.seq (.seq (.reg [⟨some 10,none,.faddr 1 (.t 2)⟩,⟨some 11,none,.load true 2 (.t 10)⟩,⟨some 12,none,.faddr 1 (.t 3)⟩,⟨some 13,none,.load true 2 (.t 12)⟩,⟨some 14,none,.call 96 [(.t 11),(.t 13)]⟩,⟨some 15,none,.un .not (.t 14)⟩]) (.cond (.t 15) (.seq (.reg [⟨some 4,none,.mv (.c (.bool false))⟩]) .ret) .skip)) (.seq (.reg [⟨some 4,none,.mv (.c (.bool true))⟩]) .ret))))
theorem OZ:codeOf Tryz.prog 60=some ⟨16,Jl,[(.tmp 4)]⟩:=by kernel_rfl
theorem Jm:modes 60=⟨[],.asis,none,false⟩:=by unfold modes; rfl
def Ig:SC:=(.seq (.reg [⟨some 4,none,.mv (.c (.bool false))⟩]) (.seq (.seq (.reg [⟨some 6,none,.mv (.t 0)⟩,⟨some 7,none,.len false (.t 6)⟩,⟨some 8,none,.mv (.t 1)⟩,⟨some 9,none,.len false (.t 8)⟩,⟨some 10,none,.bin .neq false (.t 7) (.t 9)⟩]) (.cond (.t 10) (.seq (.reg [⟨some 4,none,.mv (.c (.bool false))⟩]) .ret) .skip)) (.seq (.seq (.reg [⟨some 5,none,.mv (.c (.int .i64 0))⟩]) (.block 0 (.loop [1,1,0,0,0,1,0,0,0,0,0,0,0,0,0,0,0,0,0,0,0,0,0,0,0,0,0] (.seq (.seq (.reg [⟨some 11,none,.mv (.t 5)⟩,⟨some 12,none,.mv (.t 0)⟩,⟨some 13,none,.len false (.t 12)⟩,⟨some 14,none,.bin .lss false (.t 11) (.t 13)⟩]) (.cond (.t 14) .skip (.exit 0))) (.seq (.block 1 (.seq (.dreg [[],[],[0,1],[2,0,1],[],[],[4,5],[6,4,5],[3,2,0,1,7,6,4,5],[8,3,2,0,1,7,6,4,5]] [⟨some 17,none,.mv (.t 0)⟩,⟨some 18,none,.mv (.t 5)⟩,⟨some 19,none,.iaddr 3 (.t 17) (.t 18)⟩,⟨some 20,none,.load true 3 (.t 19)⟩,⟨some 21,none,.mv (.t 1)⟩,⟨some 22,none,.mv (.t 5)⟩,⟨some 23,none,.iaddr 3 (.t 21) (.t 22)⟩,⟨some 24,none,.load true 3 (.t 23)⟩,⟨some 25,none,.call 60 [(.t 20),(.t 24)]⟩,⟨some 26,none,.un .not (.t 25)⟩]) (.cond (.t 26) (.seq (.reg [⟨some 4,none,.mv (.c (.bool false))⟩]) .ret) .skip))) (.reg [⟨some 15,none,.mv (.t 5)⟩,⟨some 16,none,.bin .add false (.t 15) (.c (.int .i64 1))⟩,⟨some 5,none,.mv (.t 16)⟩])))))) (.seq (.reg [⟨some 4,none,.mv (.c (.bool true))⟩]) .ret))))
theorem NV:codeOf Tryz.prog 34=some ⟨27,Ig,[(.tmp 4)]⟩:=by kernel_rfl
theorem Ih:modes 34=⟨[],.asis,none,false⟩:=by unfold modes; rfl
abbrev Ll (x:Lt):Prop:=x.bulk≤1048576→E 60 [x.sv,x.sv] []=some (.bool true,[])
abbrev NW (xs:List Lt):Prop:=xs.length+Lt.sumB xs≤1048576→E 34 [.arr (xs.map Lt.d),.arr (xs.map Lt.d)] []=some (.bool true,[])
theorem PV (xs:List Lt) (h:∀ x∈xs,Ll x):NW xs:=by
 intro hb
 refine Af NV Ih (of_decide_eq_true rfl) ?_
 simp (disch:=omega) only [Ig,go_sem,Aa]
 refine go_loop (α:=Int) (fun i=>⟨slots 27 0 [(0,.arr (xs.map Lt.d)),(1,.arr (xs.map Lt.d)),(5,.int .i64 i)],[]⟩) (fun i=>∃ k:Nat,i=k∧k≤xs.length) (fun i=>xs.length-i.toNat) 0 ⟨0,rfl,zJ _⟩ (by simp (disch:=omega) only [go_sem,Aa]) ?_
 ·rintro i ⟨k,rfl,hk⟩
  obtain ⟨i,hi⟩:∃ i:Int,i=(k:Int):=⟨_,rfl⟩
  rw [←hi]
  have hn:i.toNat=k:=by omega
  rcases zG k xs.length with hlt | hge
  ·have hg:=get_at Lt.d hlt
   rw [Lt.d_eq] at hg
   have hle:=Lt.bulk_le xs k hlt
   have hc:=h xs[k] (zH hlt) (by omega)
   simp (disch:=omega) only [go_sem,Aa,hn,hg,hc,Jm]
   refine ⟨i+1,⟨k+1,by omega,hlt⟩,by omega,?_⟩
   trivial
  ·obtain rfl:k=xs.length:=by omega
   simp (disch:=omega) only [go_sem,Aa,hn]
theorem Sk (x:Lt) (h_atom:NU x.atom):Ll x:=by
 intro hb
 have qb:=Lt.bulk_eq x
 replace h_atom:=h_atom (by omega)
 refine Af OZ Jm (of_decide_eq_true rfl) ?_
 simp (disch:=omega) only [Jl,go_sem,Aa,h_atom,IC,Di]
theorem X6 (x:Lt):Ll x:=Sk x (X5 x.atom)
def Ke:SC:=(.seq (.reg [⟨some 2,none,.boxv 28 1 (.t 0)⟩,⟨some 3,none,.boxv 28 1 (.t 1)⟩,⟨some 4,none,.mv (.c (.bool false))⟩]) (.seq (.seq (.reg [⟨some 5,none,.faddr 0 (.t 2)⟩,⟨some 6,none,.load false 1 (.t 5)⟩,⟨some 7,none,.faddr 0 (.t 3)⟩,⟨some 8,none,.load false 1 (.t 7)⟩,⟨some 9,none,.call 34 [(.t 6),(.t 8)]⟩,⟨some 10,none,.un .not (.t 9)⟩]) (.cond (.t 10) (.seq (.reg [⟨some 4,none,.mv (.c (.bool false))⟩]) .ret) .skip)) (.seq (.reg [⟨some 4,none,.mv (.c (.bool true))⟩]) .ret)))
theorem PW:codeOf Tryz.prog 12=some ⟨11,Ke,[(.tmp 4)]⟩:=by kernel_rfl
theorem CM:modes 12=⟨[],.asis,none,false⟩:=by unfold modes; rfl
def Jn:SC:=(.seq (.reg [⟨some 4,none,.mv (.c (.bool false))⟩]) (.seq (.seq (.reg [⟨some 6,none,.mv (.t 0)⟩,⟨some 7,none,.len false (.t 6)⟩,⟨some 8,none,.mv (.t 1)⟩,⟨some 9,none,.len false (.t 8)⟩,⟨some 10,none,.bin .neq false (.t 7) (.t 9)⟩]) (.cond (.t 10) (.seq (.reg [⟨some 4,none,.mv (.c (.bool false))⟩]) .ret) .skip)) (.seq (.seq (.reg [⟨some 5,none,.mv (.c (.int .i64 0))⟩]) (.block 0 (.loop [1,1,0,0,0,1,0,0,0,0,0,0,0,0,0,0,0,0,0,0,0,0,0,0,0,0,0] (.seq (.seq (.reg [⟨some 11,none,.mv (.t 5)⟩,⟨some 12,none,.mv (.t 0)⟩,⟨some 13,none,.len false (.t 12)⟩,⟨some 14,none,.bin .lss false (.t 11) (.t 13)⟩]) (.cond (.t 14) .skip (.exit 0))) (.seq (.block 1 (.seq (.dreg [[],[],[0,1],[2,0,1],[],[],[4,5],[6,4,5],[3,2,0,1,7,6,4,5],[8,3,2,0,1,7,6,4,5]] [⟨some 17,none,.mv (.t 0)⟩,⟨some 18,none,.mv (.t 5)⟩,⟨some 19,none,.iaddr 1 (.t 17) (.t 18)⟩,⟨some 20,none,.load true 1 (.t 19)⟩,⟨some 21,none,.mv (.t 1)⟩,⟨some 22,none,.mv (.t 5)⟩,⟨some 23,none,.iaddr 1 (.t 21) (.t 22)⟩,⟨some 24,none,.load true 1 (.t 23)⟩,⟨some 25,none,.call 12 [(.t 20),(.t 24)]⟩,⟨some 26,none,.un .not (.t 25)⟩]) (.cond (.t 26) (.seq (.reg [⟨some 4,none,.mv (.c (.bool false))⟩]) .ret) .skip))) (.reg [⟨some 15,none,.mv (.t 5)⟩,⟨some 16,none,.bin .add false (.t 15) (.c (.int .i64 1))⟩,⟨some 5,none,.mv (.t 16)⟩])))))) (.seq (.reg [⟨some 4,none,.mv (.c (.bool true))⟩]) .ret))))
theorem Pa:codeOf Tryz.prog 19=some ⟨27,Jn,[(.tmp 4)]⟩:=by kernel_rfl
theorem Dm:modes 19=⟨[],.asis,none,false⟩:=by unfold modes; rfl
abbrev MO (x:Cl):Prop:=x.bulk≤1048576→E 12 [x.sv,x.sv] []=some (.bool true,[])
abbrev PB (xs:List Cl):Prop:=xs.length+Cl.sumB xs≤1048576→E 19 [.arr (xs.map Cl.d),.arr (xs.map Cl.d)] []=some (.bool true,[])
theorem Sl (xs:List Cl) (h:∀ x∈xs,MO x):PB xs:=by
 intro hb
 refine Af Pa Dm (of_decide_eq_true rfl) ?_
 simp (disch:=omega) only [Jn,go_sem,Aa]
 refine go_loop (α:=Int) (fun i=>⟨slots 27 0 [(0,.arr (xs.map Cl.d)),(1,.arr (xs.map Cl.d)),(5,.int .i64 i)],[]⟩) (fun i=>∃ k:Nat,i=k∧k≤xs.length) (fun i=>xs.length-i.toNat) 0 ⟨0,rfl,zJ _⟩ (by simp (disch:=omega) only [go_sem,Aa]) ?_
 ·rintro i ⟨k,rfl,hk⟩
  obtain ⟨i,hi⟩:∃ i:Int,i=(k:Int):=⟨_,rfl⟩
  rw [←hi]
  have hn:i.toNat=k:=by omega
  rcases zG k xs.length with hlt | hge
  ·have hg:=get_at Cl.d hlt
   rw [Cl.d_eq] at hg
   have hle:=Cl.bulk_le xs k hlt
   have hc:=h xs[k] (zH hlt) (by omega)
   simp (disch:=omega) only [go_sem,Aa,hn,hg,hc,CM]
   refine ⟨i+1,⟨k+1,by omega,hlt⟩,by omega,?_⟩
   trivial
  ·obtain rfl:k=xs.length:=by omega
   simp (disch:=omega) only [go_sem,Aa,hn]
theorem Tf (x:Cl) (h_lits:NW x.lits):MO x:=by
 intro hb
 have qb:=Cl.bulk_eq x
 replace h_lits:=h_lits (by omega)
 refine Af PW CM (of_decide_eq_true rfl) ?_
 simp (disch:=omega) only [Ke,go_sem,Aa,h_lits,Ih,Di]
theorem Sm (x:Cl):MO x:=Tf x (PV x.lits fun y hy=>X6 y)
theorem X7 (xs:List Cl):PB xs:=Sl xs fun x _=>Sm x
theorem A4:modes 134=⟨[true],.asis,some Dv,false⟩:=by unfold modes; rfl
theorem Qex (l:List Bd) (hl:l.length≤1099511627776) (hn:(l.map Bd.var).Nodup):E 134 [.ref 0,.fn 135 []] [.row 139 3 (l.map Bd.o)]=some (.tup [],[.row 139 3 ((l.mergeSort bdLe).map Bd.o)]):=by
 rw [J7 (g:=Dv) (congrArg FM.ext A4)]
 unfold Dv
 simp only
 have e1:(l.map Bd.o).map WF=l.map Bd.var:=by rw [zW]; rfl
 rw [As ⟨by first | trivial | rfl,by first | trivial | rfl,fun e he=>by obtain ⟨b,_,rfl⟩:=List.mem_map.1 he; exact ⟨_,_,_,rfl⟩,by rw [e1]; exact hn,by simpa using hl⟩,cond_true]
 have e2:(l.mergeSort bdLe).map Bd.o=(l.map Bd.o).mergeSort rowLe:=List.map_mergeSort fun a _ b _=>rfl
 rw [e2]
theorem Qb9:E 134 [.nil,.fn 135 []] []=some (.tup [],[]):=by
 rw [J7 (g:=Dv) (congrArg FM.ext A4)]
 unfold Dv
 simp only
 rw [As (by first | trivial | rfl),cond_true]
def Kf:SC:=(.seq (.reg [⟨some 2,none,.boxv 76 1 (.t 0)⟩,⟨some 3,none,.boxv 76 1 (.t 1)⟩,⟨some 4,none,.alloc 76 [.nil]⟩,⟨some 5,none,.mv (.c (.bool false))⟩]) (.seq (.reg [⟨some 14,none,.build [.nil] []⟩,⟨some 6,none,.alloc 76 [.nil]⟩,⟨none,none,(.store 1 (.t 6) (.t 14))⟩]) (.seq (.seq (.reg [⟨some 15,none,.faddr 0 (.t 2)⟩,⟨some 16,none,.load false 1 (.t 15)⟩,⟨some 17,none,.len false (.t 16)⟩,⟨some 18,none,.mv (.c (.int .i64 0))⟩]) (.block 0 (.loop [0,0,1,1,1,0,1,0,0,0,0,0,0,0,0,0,1,1,1,0,0,0,0,0,0,0,0,0,0,0,0,0,0,0,0,0,0,0,0,0,0,0,0,0,0,0,0,0,0,0,0,0,0,0,0,0,0,0,0,0,0,0,0,0,0,0,0,0,0,0,0,0,0,0,0,0,0] (.seq (.reg [⟨some 19,none,.bin .lss false (.t 18) (.t 17)⟩]) (.seq (.cond (.t 19) .skip (.exit 0)) (.seq (.block 1 (.seq (.reg [⟨some 20,none,.iaddr 3 (.t 16) (.t 18)⟩,⟨some 21,none,.load true 3 (.t 20)⟩,⟨(some 8),none,(.alloc 139 [(.str ⟨#[]⟩),(.str ⟨#[]⟩),.nil])⟩,⟨none,none,(.store 3 (.t 8) (.t 21))⟩]) (.seq (.reg [⟨some 22,none,.load true 1 (.t 3)⟩,⟨some 23,none,.faddr 1 (.t 8)⟩,⟨some 24,none,.load true 2 (.t 23)⟩,⟨some 25,none,.call 126 [(.t 22),(.t 24)]⟩,⟨(some 9),none,(.alloc 71 [(.str ⟨#[]⟩),.nil])⟩,⟨none,none,(.store 2 (.t 9) (.t 25))⟩]) (.seq (.reg [⟨some 26,none,.faddr 0 (.t 9)⟩,⟨some 27,none,.load false 1 (.t 26)⟩,⟨some 28,none,.faddr 0 (.t 8)⟩,⟨some 29,none,.load false 1 (.t 28)⟩,⟨some 30,none,.bin .neq false (.t 27) (.t 29)⟩]) (.cond (.t 30) (.reg [⟨some 31,none,.faddr 0 (.t 6)⟩,⟨some 32,none,.load false 1 (.t 31)⟩,⟨some 33,none,.faddr 0 (.t 8)⟩,⟨some 34,none,.load false 1 (.t 33)⟩,⟨some 35,none,.load true 2 (.t 9)⟩,⟨(some 36),none,(.build [(.str ⟨#[]⟩),(.str ⟨#[]⟩),.nil] [(0,(1,(.t 34))),(1,(2,(.t 35)))])⟩,⟨(some 37),none,(.mkrow 139 3 [(.str ⟨#[]⟩),(.str ⟨#[]⟩),.nil] 1 [(0,(.t 36))])⟩,⟨(some 38),none,(.append 139 3 56 [(.str ⟨#[]⟩),(.str ⟨#[]⟩),.nil] (.t 32) (.t 37))⟩,⟨some 39,none,.faddr 0 (.t 6)⟩,⟨none,none,(.store 1 (.t 39) (.t 38))⟩]) .skip))))) (.reg [⟨some 40,none,.bin .add false (.t 18) (.c (.int .i64 1))⟩,⟨some 18,none,.mv (.t 40)⟩]))))))) (.seq (.seq (.reg [⟨some 41,none,.faddr 0 (.t 3)⟩,⟨some 42,none,.load false 1 (.t 41)⟩,⟨some 43,none,.len false (.t 42)⟩,⟨some 44,none,.mv (.c (.int .i64 0))⟩]) (.block 2 (.loop [0,0,1,0,1,0,1,0,0,0,0,0,0,0,0,0,0,0,0,0,0,0,0,0,0,0,0,0,0,0,0,0,0,0,0,0,0,0,0,0,0,0,1,1,1,0,0,0,0,0,0,0,0,0,0,0,0,0,0,0,0,0,0,0,0,0,0,0,0,0,0,0,0,0,0,0,0] (.seq (.reg [⟨some 45,none,.bin .lss false (.t 44) (.t 43)⟩]) (.seq (.cond (.t 45) .skip (.exit 2)) (.seq (.block 3 (.seq (.reg [⟨some 46,none,.iaddr 3 (.t 42) (.t 44)⟩,⟨some 47,none,.load true 3 (.t 46)⟩,⟨(some 11),none,(.alloc 139 [(.str ⟨#[]⟩),(.str ⟨#[]⟩),.nil])⟩,⟨none,none,(.store 3 (.t 11) (.t 47))⟩]) (.seq (.reg [⟨some 49,none,.load true 1 (.t 2)⟩,⟨some 50,none,.faddr 0 (.t 11)⟩,⟨some 51,none,.load false 1 (.t 50)⟩,⟨some 52,none,.call 132 [(.t 49),(.t 51)]⟩,⟨some 48,none,.mv (.t 52)⟩,⟨some 53,none,.ext (.t 48) 0⟩,⟨some 54,none,.ext (.t 48) 1⟩,⟨(some 12),none,(.alloc 71 [(.str ⟨#[]⟩),.nil])⟩,⟨none,none,(.store 2 (.t 12) (.t 53))⟩,⟨some 13,none,.mv (.t 54)⟩]) (.seq (.reg [⟨some 55,none,.mv (.t 13)⟩,⟨some 56,none,.un .not (.t 55)⟩]) (.cond (.t 56) (.dreg [[],[0],[],[2],[],[4],[5,4],[3,2,6,5,4],[7,3,2,6,5,4],[1,0,8,7,3,2,6,5,4],[0,1,2,3,4,5,6,7,8,9],[10,0,1,2,3,4,5,6,7,8,9]] [⟨some 57,none,.faddr 0 (.t 6)⟩,⟨some 58,none,.load false 1 (.t 57)⟩,⟨some 59,none,.faddr 0 (.t 11)⟩,⟨some 60,none,.load false 1 (.t 59)⟩,⟨some 61,none,.faddr 1 (.t 11)⟩,⟨some 62,none,.load true 2 (.t 61)⟩,⟨some 63,none,.call 133 [(.t 62)]⟩,⟨(some 64),none,(.build [(.str ⟨#[]⟩),(.str ⟨#[]⟩),.nil] [(0,(1,(.t 60))),(1,(2,(.t 63)))])⟩,⟨(some 65),none,(.mkrow 139 3 [(.str ⟨#[]⟩),(.str ⟨#[]⟩),.nil] 1 [(0,(.t 64))])⟩,⟨(some 66),none,(.append 139 3 56 [(.str ⟨#[]⟩),(.str ⟨#[]⟩),.nil] (.t 58) (.t 65))⟩,⟨some 67,none,.faddr 0 (.t 6)⟩,⟨none,none,(.store 1 (.t 67) (.t 66))⟩]) .skip))))) (.reg [⟨some 68,none,.bin .add false (.t 44) (.c (.int .i64 1))⟩,⟨some 44,none,.mv (.t 68)⟩]))))))) (.seq (.reg [⟨some 69,none,.faddr 0 (.t 6)⟩,⟨some 70,none,.load false 1 (.t 69)⟩,⟨some 71,none,.call 134 [(.t 70),(.c (.fn 135 []))]⟩]) (.seq (.seq (.reg [⟨some 72,none,.load true 1 (.t 6)⟩,⟨some 73,none,.call 131 [(.t 72)]⟩,⟨some 74,none,.un .not (.t 73)⟩]) (.cond (.t 74) (.seq (.reg [⟨some 75,none,.build [.nil] []⟩,⟨none,none,(.store 1 (.t 4) (.t 75))⟩,⟨some 5,none,.mv (.c (.bool false))⟩]) .ret) .skip)) (.seq (.reg [⟨some 76,none,.load true 1 (.t 6)⟩,⟨none,none,(.store 1 (.t 4) (.t 76))⟩,⟨some 5,none,.mv (.c (.bool true))⟩]) .ret)))))))
theorem PX:codeOf Tryz.prog 91=some ⟨77,Kf,[(.cell 4 true 1),(.tmp 5)]⟩:=by kernel_rfl
theorem Aj:modes 91=⟨[],.own [some (139,3),none],none,false⟩:=by unfold modes; rfl
theorem Sb.Sn {u:Sb} (hu:u.ok=true) {t:Tm} (ht:t.valid=true):(t.ap u.look).nodes≤900:=by
 have h:=Tm.Jb (Sb.Fg hu) t
 have h2:t.nodes≤30:=Tm.Ar (by unfold Tm.expr; rw [ht]; rfl)
 omega
theorem X8 {t:Tm} (h:t.valid=true):t.names=true:=by
 unfold Tm.valid at h; rw [zA] at h; exact h.2
theorem Eh {t:Tm} (h:t.valid=true):t.nodes≤30:=Tm.Ar (by unfold Tm.expr; rw [h]; rfl)
theorem ok_len {s:Sb} (h:s.ok=true):s.binds.length≤12:=by
 unfold Sb.ok at h; rw [zA,decide_eq_true_eq] at h; exact h.1
theorem Qdd (s u:Sb):(Ck s u).binds.length≤s.binds.length+u.binds.length:=by
 unfold Ck
 show ((Cr s u).mergeSort bdLe).length≤_
 rw [(zS _ _).length_eq]
 exact Sa s u
theorem Z4 {s u:Sb} (hs:s.ok=true) (hu:u.ok=true) {b:Bd} (h:b∈Cr s u):b.term.nodes≤900:=by
 unfold Cr at h
 rcases zZ.1 h with h | h
 ·obtain ⟨c,hc,_,e⟩:=Us h
  obtain ⟨k,hk,rfl⟩:=zI hc
  rw [e]
  exact Sb.Sn hu (D0 (Sb.JW hs hk))
 ·have hc:=(List.mem_filter.1 h).1
  obtain ⟨k,hk,rfl⟩:=zI hc
  have:=Eh (D0 (Sb.JW hu hk))
  omega
theorem Uw {s u:Sb} (hs:s.ok=true) (hu:u.ok=true):(Ck s u).tame:=by
 have h1:=Qdd s u
 have h2:=ok_len hs
 have h3:=ok_len hu
 refine ⟨by omega,fun y hy=>?_⟩
 have:=Z4 hs hu ((zS (Cr s u) bdLe).mem_iff.1 hy)
 omega
noncomputable def Cs (s u:Sb):Bool:=(Ck s u).ok
noncomputable def Fq (s u:Sb):Sb:=bif Cs s u then Ck s u else ⟨[]⟩
theorem JK (s u:Sb) (hs:s.ok=true) (hu:u.ok=true) (hts:s.tame) (htu:u.tame):E 91 [s.sv,u.sv] []=some (.tup [(Fq s u).osv,.bool (Cs s u)],(Fq s u).obs):=by
 have hsl:=ok_len hs
 have hul:=ok_len hu
 have hnil:(([]:List Bd)=[])=True:=eq_self _
 refine Af PX Aj (of_decide_eq_true rfl) ?_
 simp (disch:=omega) only [Kf,go_sem,Aa]
 refine go_loop (α:=Int × List Bd) (fun a=>⟨slots 77 0 [(2,.ptr 0 0),(3,.ptr 1 0),(4,.ptr 2 0),(6,.ptr 3 0),(16,.arr (s.binds.map Bd.d)),(17,.int .i64 s.binds.length),(18,.int .i64 a.1)],(if a.2=[] then [.box 76 [.arr (s.binds.map Bd.d)],.box 76 [.arr (u.binds.map Bd.d)],.box 76 [.nil],.box 76 [.nil]] else [.box 76 [.arr (s.binds.map Bd.d)],.box 76 [.arr (u.binds.map Bd.d)],.box 76 [.nil],.box 76 [.ref 4],.row 139 3 (a.2.map Bd.o)])⟩) (fun a=>∃ k:Nat,a.1=k∧k≤s.binds.length∧a.2++(s.binds.drop k).filterMap (CC u)=Hx s u∧a.2.length≤k) (fun a=>s.binds.length-a.1.toNat) (0,[]) ⟨0,rfl,zJ _,by rw [zN]; rfl,zV _⟩ (by simp (disch:=omega) only [go_sem,Aa,hnil,if_true]) ?_
 rintro ⟨i,acc⟩ ⟨k,hi,hk,hR,hal⟩
 dsimp only at hi hR hal
 have hni:i.toNat=k:=by omega
 have hni1:(i+1).toNat=k+1:=by omega
 rcases zG k s.binds.length with hlt | hge
 ·have hg:=get_at Bd.d hlt
  rw [Bd.d_eq] at hg
  have hval:=D0 (Sb.JW hs hlt)
  have hc:=Qaz u hu htu s.binds[k].term (X8 hval) (by have:=Eh hval; omega)
  rw [zC hlt,z8] at hR
  cases hq:dec ((s.binds[k].term.ap u.look).name=s.binds[k].var) with
  | true =>
   have ho:CC u s.binds[k]=none:=by unfold CC; rw [hq]; rfl
   rw [ho] at hR
   rcases zK acc with ha | ⟨ys,y,ha⟩
   ·subst ha
    simp (disch:=omega) only [go_sem,Aa,hni,hg,hc,hq,hnil,if_true,Tm.osv,Tm.obs,Av,A5,AX]
    exact ⟨(i+1,[]),⟨k+1,by dsimp only; omega,hlt,hR,by dsimp only; omega⟩,by dsimp only; omega,by first | trivial | rfl | simp only [hnil,if_true,and_self]⟩
   ·have hne:(acc=[])=False:=eq_false (by rw [ha]; simp)
    simp (disch:=omega) only [go_sem,Aa,hni,hg,hc,hq,hne,if_false,Tm.osv,Tm.obs,zT,Av,A5,AX]
    exact ⟨(i+1,acc),⟨k+1,by dsimp only; omega,hlt,hR,by dsimp only; omega⟩,by dsimp only; omega,by first | trivial | rfl | simp only [hne,if_false,and_self]⟩
  | false =>
   have ho:CC u s.binds[k]=some ⟨s.binds[k].var,s.binds[k].term.ap u.look⟩:=by unfold CC; rw [hq]; rfl
   rw [ho] at hR
   obtain ⟨b,hb⟩:∃ b:Bd,b=⟨s.binds[k].var,s.binds[k].term.ap u.look⟩:=⟨_,rfl⟩
   have hbo:[OT.str s.binds[k].var,.str (s.binds[k].term.ap u.look).name,.ow ((s.binds[k].term.ap u.look).args.map Tm.o)]=b.o:=by rw [hb]; rfl
   have hR':(acc++[b])++(s.binds.drop (k+1)).filterMap (CC u)=Hx s u:=by rw [hb,zX]; exact hR
   have hnea:(acc++[b]=[])=False:=eq_false (by simp)
   have hlen:(acc++[b]).length≤k+1:=by rw [zD]; simp only [zB,zU]; omega
   rcases zK acc with ha | ⟨ys,y,ha⟩
   ·subst ha
    have hneb:([b]=[])=False:=eq_false (by simp)
    simp (disch:=omega) only [go_sem,Aa,hni,hg,hc,hq,hnil,if_true,Tm.osv,Tm.obs,Av,A5,AX]
    exact ⟨(i+1,[b]),⟨k+1,by dsimp only; omega,hlt,hR',by simp⟩,by dsimp only; omega,by simp only [hneb,if_false,← hbo,zF,zL,and_self]⟩
   ·have hne:(acc=[])=False:=eq_false (by rw [ha]; simp)
    simp (disch:=omega) only [go_sem,Aa,hni,hg,hc,hq,hne,if_false,Tm.osv,Tm.obs,zT,Av,A5,AX]
    exact ⟨(i+1,acc++[b]),⟨k+1,by dsimp only; omega,hlt,hR',by dsimp only; omega⟩,by dsimp only; omega,by simp only [hnea,if_false,← hbo,yG,zF,zL,and_self]⟩
 rw [zE hge,List.filterMap_nil,List.append_nil] at hR
 subst hR
 have hl1:(Hx s u).length≤12:=by omega
 have htame:=Uw hs hu
 have hvalid:=DI (Ck s u) htame
 have hnd:=NI (Sb.JV hs) (Sb.JV hu)
 have hcl:=Sa s u
 have hsort:=Qex (Cr s u) (by omega) hnd
 have hsn:=Qb9
 have hosv:(Ck s u).sv=.agg [.arr (((Cr s u).mergeSort bdLe).map Bd.d)]:=rfl
 rw [hosv] at hvalid
 have hor:((Hx s u=[])=True)∨((Hx s u=[])=False):=by
  by_cases h:Hx s u=[]
  ·exact .inl (eq_true h)
  ·exact .inr (eq_false h)
 rcases hor with hE | hE
 all_goals
  simp (disch:=omega) only [go_sem,Aa,hni,hE,if_true,if_false]
  refine go_loop (α:=Int × List Bd) (fun a=>⟨slots 77 0 [(2,.ptr 0 0),(4,.ptr 1 0),(6,.ptr 2 0),(42,.arr (u.binds.map Bd.d)),(43,.int .i64 u.binds.length),(44,.int .i64 a.1)],(if a.2=[] then [.box 76 [.arr (s.binds.map Bd.d)],.box 76 [.nil],.box 76 [.nil]] else [.box 76 [.arr (s.binds.map Bd.d)],.box 76 [.nil],.box 76 [.ref 3],.row 139 3 (a.2.map Bd.o)])⟩) (fun a=>∃ k:Nat,a.1=k∧k≤u.binds.length∧a.2++(u.binds.drop k).filter (fun b=>!DJ s.binds b.var)=Cr s u∧a.2.length≤12+k) (fun a=>u.binds.length-a.1.toNat) (0,Hx s u) ⟨0,rfl,zJ _,by rw [zN]; rfl,by dsimp only; omega⟩ (by simp (disch:=omega) only [go_sem,Aa,hE,if_true,if_false]) ?_
  rintro ⟨i,acc⟩ ⟨k,hi,hk,hR,hal⟩
  dsimp only at hi hR hal
  have hni:i.toNat=k:=by omega
  have hni1:(i+1).toNat=k+1:=by omega
  rcases zG k u.binds.length with hlt | hge
  ·have hg:=get_at Bd.d hlt
   rw [Bd.d_eq] at hg
   have hval:=D0 (Sb.JW hu hlt)
   have hc:=JF u.binds[k].term (by have:=Eh hval; omega)
   rw [zC hlt,List.filter_cons] at hR
   cases hh:DJ s.binds u.binds[k].var with
   | true =>
    have hq:=Zp s hs u.binds[k].var (by omega) hh (HX hh)
    rw [hh,if_neg (by simp)] at hR
    rcases zK acc with ha | ⟨ys,y,ha⟩
    ·subst ha
     simp (disch:=omega) only [go_sem,Aa,hni,hg,hc,hq,hnil,if_true,Tm.osv,Tm.obs,Av,A5,AX]
     exact ⟨(i+1,[]),⟨k+1,by dsimp only; omega,hlt,hR,by simp⟩,by dsimp only; omega,by first | trivial | rfl | simp only [hnil,if_true,and_self]⟩
    ·have hne:(acc=[])=False:=eq_false (by rw [ha]; simp)
     simp (disch:=omega) only [go_sem,Aa,hni,hg,hc,hq,hne,if_false,Tm.osv,Tm.obs,zT,Av,A5,AX]
     exact ⟨(i+1,acc),⟨k+1,by dsimp only; omega,hlt,hR,by dsimp only; omega⟩,by dsimp only; omega,by first | trivial | rfl | simp only [hne,if_false,and_self]⟩
   | false =>
    have hq:=Qb2 s hs u.binds[k].var (by omega) hh
    rw [hh,if_pos (by simp)] at hR
    have hbo:[OT.str u.binds[k].var,.str u.binds[k].term.name,.ow (u.binds[k].term.args.map Tm.o)]=u.binds[k].o:=rfl
    have hR':(acc++[u.binds[k]])++(u.binds.drop (k+1)).filter (fun b=>!DJ s.binds b.var)=Cr s u:=by rw [zX]; exact hR
    have hnea:(acc++[u.binds[k]]=[])=False:=eq_false (by simp)
    have hlen:(acc++[u.binds[k]]).length≤12+(k+1):=by rw [zD]; simp only [zB,zU]; omega
    rcases zK acc with ha | ⟨ys,y,ha⟩
    ·subst ha
     have hneb:([u.binds[k]]=[])=False:=eq_false (by simp)
     simp (disch:=omega) only [go_sem,Aa,hni,hg,hc,hq,hnil,if_true,Tm.osv,Tm.obs,Av,A5,AX]
     exact ⟨(i+1,[u.binds[k]]),⟨k+1,by dsimp only; omega,hlt,hR',by simp; omega⟩,by dsimp only; omega,by simp only [hneb,if_false,← hbo,zF,zL,and_self]⟩
    ·have hne:(acc=[])=False:=eq_false (by rw [ha]; simp)
     simp (disch:=omega) only [go_sem,Aa,hni,hg,hc,hq,hne,if_false,Tm.osv,Tm.obs,zT,Av,A5,AX]
     exact ⟨(i+1,acc++[u.binds[k]]),⟨k+1,by dsimp only; omega,hlt,hR',by dsimp only; omega⟩,by dsimp only; omega,by simp only [hnea,if_false,← hbo,yG,zF,zL,and_self]⟩
  ·rw [zE hge,List.filter_nil,List.append_nil] at hR
   subst hR
   unfold Fq
   cases hok:Cs s u with
   | false =>
    have hok':(Ck s u).ok=false:=hok
    rw [hok'] at hvalid
    simp only [cond_false]
    rcases zK (Cr s u) with ha | ⟨ys,y,ha⟩
    ·have hz:(Cr s u=[])=True:=eq_true ha
     rw [ha,yA,zL] at hvalid
     simp (disch:=omega) only [go_sem,Aa,hni,hz,if_true,hsn,hvalid,Ay,A4]
     try rfl
    ·have hz:(Cr s u=[])=False:=eq_false (by rw [ha]; simp)
     simp (disch:=omega) only [go_sem,Aa,hni,hz,if_false,hsort,hvalid,Bd.erss,Bd.fus,Ay,A4]
     try rfl
   | true =>
    have hok':(Ck s u).ok=true:=hok
    rw [hok'] at hvalid
    simp only [cond_true]
    rcases zK (Cr s u) with ha | ⟨ys,y,ha⟩
    ·have hz:(Cr s u=[])=True:=eq_true ha
     have hcs:Ck s u=⟨[]⟩:=by unfold Ck; rw [ha,yA]
     rw [hcs]
     rw [ha,yA,zL] at hvalid
     simp (disch:=omega) only [go_sem,Aa,hni,hz,if_true,hsn,hvalid,Ay,A4]
     try rfl
    ·have hz:(Cr s u=[])=False:=eq_false (by rw [ha]; simp)
     simp (disch:=omega) only [go_sem,Aa,hni,hz,if_false,hsort,hvalid,Bd.erss,Bd.fus,Ay,A4]
     try rfl
def JL:SC:=(.seq (.reg [⟨some 3,none,.boxv 76 1 (.t 0)⟩,⟨some 5,none,.boxv 71 2 (.t 2)⟩,⟨some 6,none,.alloc 76 [.nil]⟩]) (.seq (.seq (.reg [⟨some 9,none,.faddr 0 (.t 5)⟩,⟨some 10,none,.load false 1 (.t 9)⟩,⟨some 11,none,.mv (.t 1)⟩,⟨some 12,none,.bin .eql false (.t 10) (.t 11)⟩]) (.cond (.t 12) (.seq (.reg [⟨some 13,none,.load true 1 (.t 3)⟩,⟨none,none,(.store 1 (.t 6) (.t 13))⟩]) .ret) .skip)) (.seq (.reg [⟨some 7,none,.mv (.c (.int .i64 0))⟩]) (.seq (.block 0 (.loop [0,1,0,1,0,1,1,1,0,0,0,0,0,0,0,0,0,0,0,0,0,0,0,0,0,0,0,0,0,0,0,0,0,0,0,0,0,0,0,0,0,0,0,0,0,0,0,0,0,0,0] (.seq (.seq (.reg [⟨some 14,none,.mv (.t 7)⟩,⟨some 15,none,.faddr 0 (.t 3)⟩,⟨some 16,none,.load false 1 (.t 15)⟩,⟨some 17,none,.len false (.t 16)⟩,⟨some 18,none,.bin .lss false (.t 14) (.t 17)⟩,⟨some 19,none,.mv (.t 18)⟩,⟨(some 20),(some (19,true)),(.faddr 0 (.t 3))⟩,⟨(some 21),(some (19,true)),(.load false 1 (.t 20))⟩,⟨(some 22),(some (19,true)),(.mv (.t 7))⟩,⟨(some 23),(some (19,true)),(.iaddr 3 (.t 21) (.t 22))⟩,⟨(some 24),(some (19,true)),(.faddr 0 (.t 23))⟩,⟨(some 25),(some (19,true)),(.load false 1 (.t 24))⟩,⟨(some 26),(some (19,true)),(.mv (.t 1))⟩,⟨(some 27),(some (19,true)),(.bin .lss false (.t 25) (.t 26))⟩,⟨some 28,none,.pick (.t 19) (.t 27) (.c (.bool false))⟩]) (.cond (.t 28) .skip (.exit 0))) (.block 1 (.reg [⟨some 29,none,.mv (.t 7)⟩,⟨some 30,none,.bin .add false (.t 29) (.c (.int .i64 1))⟩,⟨some 7,none,.mv (.t 30)⟩]))))) (.seq (.reg [⟨(some 31),none,(.mkrow 139 3 [(.str ⟨#[]⟩),(.str ⟨#[]⟩),.nil] 0 [])⟩,⟨some 32,none,.faddr 0 (.t 3)⟩,⟨some 33,none,.load false 1 (.t 32)⟩,⟨some 34,none,.mv (.t 7)⟩,⟨some 35,none,.slice false 3 (.t 33) none (some (.t 34))⟩,⟨(some 36),none,(.append 139 3 56 [(.str ⟨#[]⟩),(.str ⟨#[]⟩),.nil] (.t 31) (.t 35))⟩,⟨some 8,none,.mv (.t 36)⟩]) (.seq (.reg [⟨some 37,none,.mv (.t 8)⟩,⟨some 38,none,.mv (.t 1)⟩,⟨some 39,none,.load true 2 (.t 5)⟩,⟨some 40,none,.call 148 [(.t 39)]⟩,⟨(some 41),none,(.build [(.str ⟨#[]⟩),(.str ⟨#[]⟩),.nil] [(0,(1,(.t 38))),(1,(2,(.t 40)))])⟩,⟨(some 42),none,(.mkrow 139 3 [(.str ⟨#[]⟩),(.str ⟨#[]⟩),.nil] 1 [(0,(.t 41))])⟩,⟨(some 43),none,(.append 139 3 56 [(.str ⟨#[]⟩),(.str ⟨#[]⟩),.nil] (.t 37) (.t 42))⟩,⟨some 8,none,.mv (.t 43)⟩]) (.seq (.reg [⟨some 44,none,.mv (.t 8)⟩,⟨some 45,none,.faddr 0 (.t 3)⟩,⟨some 46,none,.load false 1 (.t 45)⟩,⟨some 47,none,.mv (.t 7)⟩,⟨some 48,none,.slice false 3 (.t 46) (some (.t 47)) none⟩,⟨(some 49),none,(.append 139 3 56 [(.str ⟨#[]⟩),(.str ⟨#[]⟩),.nil] (.t 44) (.t 48))⟩,⟨some 50,none,.build [.nil] [(0,(1,(.t 49)))]⟩,⟨none,none,(.store 1 (.t 6) (.t 50))⟩]) .ret)))))))
theorem NX:codeOf Tryz.prog 116=some ⟨51,JL,[(.cell 6 true 1)]⟩:=by kernel_rfl
theorem C1:modes 116=⟨[],.frz,none,false⟩:=by unfold modes; rfl
def Jo:SC:=(.seq (.reg [⟨some 2,none,.boxv 76 1 (.t 0)⟩,⟨some 3,none,.boxv 76 1 (.t 1)⟩,⟨some 4,none,.alloc 76 [.nil]⟩]) (.seq (.reg [⟨some 8,none,.build [.nil] []⟩,⟨some 5,none,.alloc 76 [.nil]⟩,⟨none,none,(.store 1 (.t 5) (.t 8))⟩]) (.seq (.seq (.reg [⟨some 6,none,.mv (.c (.int .i64 0))⟩]) (.block 0 (.loop [0,0,1,1,1,1,1,0,0,0,0,0,0,0,0,0,0,0,0,0,0,0,0,0,0,0,0,0,0,0,0,0,0,0,0,0,0,0,0,0,0,0,0,0,0,0,0,0,0,0,0,0,0,0,0,0,0,0,0,0,0,0,0] (.seq (.seq (.reg [⟨some 9,none,.mv (.t 6)⟩,⟨some 10,none,.faddr 0 (.t 2)⟩,⟨some 11,none,.load false 1 (.t 10)⟩,⟨some 12,none,.len false (.t 11)⟩,⟨some 13,none,.bin .lss false (.t 9) (.t 12)⟩]) (.cond (.t 13) .skip (.exit 0))) (.seq (.block 1 (.dreg [[],[],[1],[],[2,1,3],[4,2,1,3],[5,4,2,1,3],[],[],[8],[],[9,8,10],[11,9,8,10],[12,11,9,8,10],[7,13,12,11,9,8,10],[0,6,5,4,2,1,3,14,7,13,12,11,9,8,10],[15,0,6,5,4,2,1,3,14,7,13,12,11,9,8,10]] [⟨some 16,none,.load true 1 (.t 5)⟩,⟨some 17,none,.faddr 0 (.t 2)⟩,⟨some 18,none,.load false 1 (.t 17)⟩,⟨some 19,none,.mv (.t 6)⟩,⟨some 20,none,.iaddr 3 (.t 18) (.t 19)⟩,⟨some 21,none,.faddr 0 (.t 20)⟩,⟨some 22,none,.load false 1 (.t 21)⟩,⟨some 23,none,.load true 1 (.t 3)⟩,⟨some 24,none,.faddr 0 (.t 2)⟩,⟨some 25,none,.load false 1 (.t 24)⟩,⟨some 26,none,.mv (.t 6)⟩,⟨some 27,none,.iaddr 3 (.t 25) (.t 26)⟩,⟨some 28,none,.faddr 1 (.t 27)⟩,⟨some 29,none,.load true 2 (.t 28)⟩,⟨some 30,none,.call 111 [(.t 23),(.t 29)]⟩,⟨some 31,none,.call 116 [(.t 16),(.t 22),(.t 30)]⟩,⟨none,none,(.store 1 (.t 5) (.t 31))⟩])) (.reg [⟨some 14,none,.mv (.t 6)⟩,⟨some 15,none,.bin .add false (.t 14) (.c (.int .i64 1))⟩,⟨some 6,none,.mv (.t 15)⟩])))))) (.seq (.seq (.reg [⟨some 7,none,.mv (.c (.int .i64 0))⟩]) (.block 2 (.loop [0,0,1,1,1,1,0,1,0,0,0,0,0,0,0,0,0,0,0,0,0,0,0,0,0,0,0,0,0,0,0,0,0,0,0,0,0,0,0,0,0,0,0,0,0,0,0,0,0,0,0,0,0,0,0,0,0,0,0,0,0,0,0] (.seq (.seq (.reg [⟨some 32,none,.mv (.t 7)⟩,⟨some 33,none,.faddr 0 (.t 3)⟩,⟨some 34,none,.load false 1 (.t 33)⟩,⟨some 35,none,.len false (.t 34)⟩,⟨some 36,none,.bin .lss false (.t 32) (.t 35)⟩]) (.cond (.t 36) .skip (.exit 2))) (.seq (.block 3 (.seq (.dreg [[],[],[1],[],[2,1,3],[4,2,1,3],[5,4,2,1,3],[0,6,5,4,2,1,3],[7,0,6,5,4,2,1,3]] [⟨some 39,none,.load true 1 (.t 2)⟩,⟨some 40,none,.faddr 0 (.t 3)⟩,⟨some 41,none,.load false 1 (.t 40)⟩,⟨some 42,none,.mv (.t 7)⟩,⟨some 43,none,.iaddr 3 (.t 41) (.t 42)⟩,⟨some 44,none,.faddr 0 (.t 43)⟩,⟨some 45,none,.load false 1 (.t 44)⟩,⟨some 46,none,.call 147 [(.t 39),(.t 45)]⟩,⟨some 47,none,.bin .lss false (.t 46) (.c (.int .i64 0))⟩]) (.cond (.t 47) (.dreg [[],[],[1],[],[2,1,3],[4,2,1,3],[5,4,2,1,3],[],[7],[],[8,7,9],[10,8,7,9],[11,10,8,7,9],[0,6,5,4,2,1,3,12,11,10,8,7,9],[13,0,6,5,4,2,1,3,12,11,10,8,7,9]] [⟨some 48,none,.load true 1 (.t 5)⟩,⟨some 49,none,.faddr 0 (.t 3)⟩,⟨some 50,none,.load false 1 (.t 49)⟩,⟨some 51,none,.mv (.t 7)⟩,⟨some 52,none,.iaddr 3 (.t 50) (.t 51)⟩,⟨some 53,none,.faddr 0 (.t 52)⟩,⟨some 54,none,.load false 1 (.t 53)⟩,⟨some 55,none,.faddr 0 (.t 3)⟩,⟨some 56,none,.load false 1 (.t 55)⟩,⟨some 57,none,.mv (.t 7)⟩,⟨some 58,none,.iaddr 3 (.t 56) (.t 57)⟩,⟨some 59,none,.faddr 1 (.t 58)⟩,⟨some 60,none,.load true 2 (.t 59)⟩,⟨some 61,none,.call 116 [(.t 48),(.t 54),(.t 60)]⟩,⟨none,none,(.store 1 (.t 5) (.t 61))⟩]) .skip))) (.reg [⟨some 37,none,.mv (.t 7)⟩,⟨some 38,none,.bin .add false (.t 37) (.c (.int .i64 1))⟩,⟨some 7,none,.mv (.t 38)⟩])))))) (.seq (.reg [⟨some 62,none,.load true 1 (.t 5)⟩,⟨none,none,(.store 1 (.t 4) (.t 62))⟩]) .ret)))))
theorem Pb:codeOf Tryz.prog 150=some ⟨63,Jo,[(.cell 4 true 1)]⟩:=by kernel_rfl
theorem FE:modes 150=⟨[],.frz,none,false⟩:=by unfold modes; rfl
def Br:SC:=(.seq (.reg [⟨some 2,none,.boxv 76 1 (.t 0)⟩,⟨some 3,none,.boxv 76 1 (.t 1)⟩,⟨some 4,none,.alloc 76 [.nil]⟩,⟨some 5,none,.mv (.c (.bool false))⟩]) (.seq (.seq (.reg [⟨some 7,none,.load true 1 (.t 2)⟩,⟨some 8,none,.call 109 [(.t 7)]⟩,⟨some 9,none,.un .not (.t 8)⟩,⟨some 10,none,.mv (.t 9)⟩,⟨(some 11),(some (10,false)),(.load true 1 (.t 3))⟩,⟨(some 12),(some (10,false)),(.call 109 [(.t 11)])⟩,⟨(some 13),(some (10,false)),(.un .not (.t 12))⟩,⟨some 14,none,.pick (.t 10) (.c (.bool true)) (.t 13)⟩]) (.cond (.t 14) (.seq (.reg [⟨some 15,none,.build [.nil] []⟩,⟨none,none,(.store 1 (.t 4) (.t 15))⟩,⟨some 5,none,.mv (.c (.bool false))⟩]) .ret) .skip)) (.seq (.reg [⟨some 16,none,.load true 1 (.t 2)⟩,⟨some 17,none,.load true 1 (.t 3)⟩,⟨some 18,none,.call 150 [(.t 16),(.t 17)]⟩,⟨some 6,none,.alloc 76 [.nil]⟩,⟨none,none,(.store 1 (.t 6) (.t 18))⟩]) (.seq (.seq (.reg [⟨some 19,none,.load true 1 (.t 6)⟩,⟨some 20,none,.call 109 [(.t 19)]⟩,⟨some 21,none,.un .not (.t 20)⟩]) (.cond (.t 21) (.seq (.reg [⟨some 22,none,.build [.nil] []⟩,⟨none,none,(.store 1 (.t 4) (.t 22))⟩,⟨some 5,none,.mv (.c (.bool false))⟩]) .ret) .skip)) (.seq (.reg [⟨some 23,none,.load true 1 (.t 6)⟩,⟨none,none,(.store 1 (.t 4) (.t 23))⟩,⟨some 5,none,.mv (.c (.bool true))⟩]) .ret)))))
theorem BG:codeOf Tryz.prog 115=some ⟨24,Br,[(.cell 4 true 1),(.tmp 5)]⟩:=by kernel_rfl
theorem Bs:modes 115=⟨[],.frz,none,false⟩:=by unfold modes; rfl
noncomputable def Sb.put (x:Sb) (b:Bd):Sb:=bif dec (b.term.name=b.var) then x else ⟨Gh x.binds b⟩
theorem Bd.ot_take (xs:List Bd) (k:Nat):((xs.map Bd.d).take k).map (fun x=>x.map D.ot)=(xs.take k).map fun b=>b.d.map D.ot:=by
 rw [←List.map_take,zW]; rfl
theorem Bd.ot_drop (xs:List Bd) (k:Nat):((xs.map Bd.d).drop k).map (fun x=>x.map D.ot)=(xs.drop k).map fun b=>b.d.map D.ot:=by
 rw [←List.map_drop,zW]; rfl
theorem Bd.al3 (xs:List Bd):((xs.map fun b=>b.d.map D.ot).all fun l=>l.length == 3)=true:=by
 rw [zY,zO]
 intro x _
 show ((x.d.map D.ot).length == 3)=true
 rw [Bd.d_eq]; rfl
theorem Bd.ald3 (xs:List Bd):((xs.map Bd.d).all fun l=>l.length == 3)=true:=by
 rw [zY,zO]
 intro x _
 show (x.d.length == 3)=true
 rw [Bd.d_eq]; rfl
theorem Bd.dfu:∀ xs:List Bd,OT.AM (xs.map fun b=>b.d.map D.ot)=true
 | []=>rfl
 | x :: xs=>by rw [zF,Bd.d_eq]; simp [OT.AM,OT.Dr,OT.full,D.ot,Bd.dfu xs]
theorem Bd.der:∀ xs:List Bd,OT.erss (xs.map fun b=>b.d.map D.ot)=xs.map Bd.d
 | []=>rfl
 | x :: xs=>by rw [zF,zF,Bd.d_eq]; simp [OT.erss,OT.ers,OT.er,D.ot,Bd.der xs]
theorem QbA {xs:List Bd} {n:ByteArray} {k:Nat} (h:k+Bm (xs.drop k) n=Bm xs n) (hk:k<xs.length):(strLt xs[k].var n=true∧k+1+Bm (xs.drop (k+1)) n=Bm xs n)∨(strLt xs[k].var n=false∧k=Bm xs n):=by
 rw [zC hk,Bm] at h
 cases hq:strLt xs[k].var n with
 | true=>rw [hq] at h; simp only [cond_true,if_true] at h; exact .inl ⟨rfl,by omega⟩
 | false=>rw [hq] at h; simp only [cond_false,Bool.false_eq_true,if_false] at h; exact .inr ⟨rfl,by omega⟩
theorem V6 (x:Sb) (n:ByteArray) (t:Tm) (hl:x.binds.length≤1048576) (ht:t.nodes≤1099511627776):E 116 [x.sv,.str n,t.sv] []=some ((x.put ⟨n,t⟩).sv,[]):=by
 have ho:=Qj t ht
 have e1:=Bd.ot_take x.binds (Bm x.binds n)
 have e2:=Bd.ot_drop x.binds (Bm x.binds n)
 have e3:=Bd.al3 (x.binds.take (Bm x.binds n))
 have e4:=Bd.al3 (x.binds.drop (Bm x.binds n))
 have e5:=Bd.ald3 x.binds
 have l1:=Vo n x.binds
 have e6:(x.binds.map Bd.d).take x.binds.length=x.binds.map Bd.d:=List.take_of_length_le (by simp)
 have e7:(x.binds.take (Bm x.binds n)).length=Bm x.binds n:=by rw [List.length_take]; omega
 have e8:(x.binds.drop (Bm x.binds n)).length=x.binds.length-Bm x.binds n:=List.length_drop
 have hin:=Xt ⟨n,t⟩ x.binds
 have hx2:(x.binds.take (Bm x.binds n)).map (fun b=>b.d.map D.ot)++[[OT.str n,.str t.name,.sh (t.args.map Tm.d)]]++(x.binds.drop (Bm x.binds n)).map (fun b=>b.d.map D.ot)=(Gh x.binds ⟨n,t⟩).map fun b=>b.d.map D.ot:=by
  rw [hin]
  simp only [yG,zF,zX,zR,yH]
  rw [Bd.d_eq]; rfl
 have hfu:=Bd.dfu (Gh x.binds ⟨n,t⟩)
 have her:=Bd.der (Gh x.binds ⟨n,t⟩)
 have hsv:(Sb.mk (Gh x.binds ⟨n,t⟩)).sv=.agg [.arr ((Gh x.binds ⟨n,t⟩).map Bd.d)]:=rfl
 unfold Sb.put
 cases hq:dec (t.name=n) with
 | true =>
  simp only [hq,cond_true]
  refine Af NX C1 (of_decide_eq_true rfl) ?_
  simp (disch:=omega) only [JL,go_sem,Aa,hq]
  try rfl
 | false =>
  simp only [hq,cond_false]
  rw [hsv]
  refine Af NX C1 (of_decide_eq_true rfl) ?_
  simp (disch:=omega) only [JL,go_sem,Aa,hq]
  refine go_loop (α:=Int) (fun a=>⟨slots 51 0 [(1,.str n),(3,.ptr 0 0),(5,.ptr 1 0),(6,.ptr 2 0),(7,.int .i64 a)],[.box 76 [.arr (x.binds.map Bd.d)],.box 71 [.str t.name,.arr (t.args.map Tm.d)],.box 76 [.nil]]⟩) (fun a=>∃ k:Nat,a=k∧k≤(x.binds).length∧k+Bm (x.binds.drop k) n=Bm x.binds n) (fun a=>(x.binds).length-(a).toNat) 0 ⟨0,rfl,zJ _,by rw [zN,Nat.zero_add]⟩ (by simp (disch:=omega) only [go_sem,Aa]) ?_
  rintro i ⟨k,hi,hk,hR⟩
  have hni:i.toNat=k:=by omega
  have hni1:(i+1).toNat=k+1:=by omega
  rcases zG k (x.binds).length with hlt | hge
  ·have hg:=get_at Bd.d hlt
   rw [Bd.d_eq] at hg
   rcases QbA hR hlt with ⟨q,hR'⟩ | ⟨q,hk'⟩
   ·simp (disch:=omega) only [go_sem,Aa,hni,hg,q]
    exact ⟨i+1,⟨k+1,by omega,hlt,hR'⟩,by omega,by first | trivial | rfl⟩
   ·subst hk'
    simp (disch:=omega) only [go_sem,Aa,hni,hg,q,ho,e1,e2,e3,e4,e5,e6,e7,e8,hx2,hfu,her,zD,zQ,CP]
  ·obtain rfl:k=x.binds.length:=by omega
   have hk':x.binds.length=Bm x.binds n:=by rw [←hR,zE (zV _)]; simp [Bm]
   rw [hk'] at hni
   simp (disch:=omega) only [go_sem,Aa,hni,ho,e1,e2,e3,e4,e5,e6,e7,e8,hx2,hfu,her,zD,zQ,CP]
theorem Qde (b:Bd) (xs:List Bd):(Gh xs b).length=xs.length+1:=by rw [(LO b xs).length_eq]; rfl
theorem Qey (u:Sb) (acc:List Bd) (b:Bd):(Sb.mk acc).put ⟨b.var,b.term.ap u.look⟩=⟨IA acc (match CC u b with | some c=>[c] | none=>[])⟩:=by
 unfold Sb.put CC
 cases dec ((b.term.ap u.look).name=b.var) with
 | true=>rfl
 | false=>rfl
theorem Qez {acc:List Bd} {b:Bd} (h:HH b=true):(Sb.mk acc).put b=⟨Gh acc b⟩:=by
 unfold HH at h
 rw [zA,zA,yD] at h
 unfold Sb.put
 rw [h.2.2]; rfl
theorem X9 (s u:Sb) (hs:s.ok=true) (hu:u.ok=true) (hts:s.tame) (htu:u.tame):E 150 [s.sv,u.sv] []=some ((Ck s u).sv,[]):=by
 have hsl:=ok_len hs
 have hul:=ok_len hu
 have hend:IA [] (Cr s u)=(Ck s u).binds:=Qb8 (NI (Sb.JV hs) (Sb.JV hu))
 have h00:((0:Int)=0)=True:=eq_self _
 have hsv:(Ck s u).sv=.agg [.arr ((Ck s u).binds.map Bd.d)]:=rfl
 rw [hsv]
 refine Af Pb FE (of_decide_eq_true rfl) ?_
 simp (disch:=omega) only [Jo,go_sem,Aa]
 refine go_loop (α:=Int × List Bd) (fun a=>⟨slots 63 0 [(2,.ptr 0 0),(3,.ptr 1 0),(4,.ptr 2 0),(5,.ptr 3 0),(6,.int .i64 a.1)],[.box 76 [.arr (s.binds.map Bd.d)],.box 76 [.arr (u.binds.map Bd.d)],.box 76 [.nil],.box 76 [if a.1=0 then .nil else .arr (a.2.map Bd.d)]]⟩) (fun a=>∃ k:Nat,a.1=k∧k≤s.binds.length∧IA a.2 ((s.binds.drop k).filterMap (CC u))=IA [] (Hx s u)∧a.2.length≤k∧(k=0→a.2=[])) (fun a=>s.binds.length-a.1.toNat) (0,[]) ⟨0,rfl,zJ _,by rw [zN]; rfl,zV _,fun _=>rfl⟩ (by simp (disch:=omega) only [go_sem,Aa,h00,if_true]) ?_
 rintro ⟨i,acc⟩ ⟨k,hi,hk,hR,hal,hz⟩
 dsimp only at hi hR hal hz
 have hni:i.toNat=k:=by omega
 have hni1:(i+1).toNat=k+1:=by omega
 have hi1:(i+1=0)=False:=eq_false (by omega)
 rcases zG k s.binds.length with hlt | hge
 ·have hg:=get_at Bd.d hlt
  rw [Bd.d_eq] at hg
  have hval:=D0 (Sb.JW hs hlt)
  have hc:=OM u hu htu s.binds[k].term (by have:=Eh hval; omega)
  have hn9:=Sb.Sn hu hval
  have hp:=V6 ⟨acc⟩ s.binds[k].var (s.binds[k].term.ap u.look) (by show acc.length≤_; omega) (by omega)
  rw [Qey] at hp
  obtain ⟨acc2,ha2⟩:∃ acc2,acc2=IA acc (match CC u s.binds[k] with | some c=>[c] | none=>[]):=⟨_,rfl⟩
  rw [←ha2] at hp
  have hp:E 116 [.agg [.arr (acc.map Bd.d)],.str s.binds[k].var,(s.binds[k].term.ap u.look).sv] []=some (.agg [.arr (acc2.map Bd.d)],[]):=hp
  have hl2:acc2.length≤k+1:=by
   rw [ha2,(OU _ acc).length_eq,zD]
   cases CC u s.binds[k] with
   | none=>simp only [zU]; omega
   | some c=>simp only [zB,zU]; omega
  have hR2:IA acc2 ((s.binds.drop (k+1)).filterMap (CC u))=IA [] (Hx s u):=by
   rw [←hR,zC hlt,z8,ha2]
   cases CC u s.binds[k] with
   | none=>rfl
   | some c=>rfl
  rcases yB k with h0 | h0
  ·have hi0:(i=0)=True:=eq_true (by omega)
   obtain rfl:=hz h0
   rw [zL] at hp
   simp (disch:=omega) only [go_sem,Aa,hni,hg,hc,hp,hi0,if_true,AG,C1,BI]
   exact ⟨(i+1,acc2),⟨k+1,by dsimp only; omega,hlt,hR2,by dsimp only; omega,by intro h; omega⟩,by dsimp only; omega,by simp only [hi1,if_false,and_self]⟩
  ·have hi0:(i=0)=False:=eq_false (by omega)
   simp (disch:=omega) only [go_sem,Aa,hni,hg,hc,hp,hi0,if_false,AG,C1,BI]
   exact ⟨(i+1,acc2),⟨k+1,by dsimp only; omega,hlt,hR2,by dsimp only; omega,by intro h; omega⟩,by dsimp only; omega,by simp only [hi1,if_false,and_self]⟩
 rw [zE hge,List.filterMap_nil] at hR
 have hR:acc=IA [] (Hx s u):=hR
 have hor:∃ fl:Bool,(if i=0 then SV.nil else SV.arr (acc.map Bd.d))=(bif fl then SV.arr (acc.map Bd.d) else SV.nil)∧(fl=false→acc=[]):=by
  rcases yB k with h0 | h0
  ·exact ⟨false,by rw [if_pos (by omega)]; rfl,fun _=>hz h0⟩
  ·exact ⟨true,by rw [if_neg (by omega)]; rfl,fun h=>by cases h⟩
 obtain ⟨fl,hfl,hfz⟩:=hor
 rw [hfl]
 simp (disch:=omega) only [go_sem,Aa,hni]
 refine go_loop (α:=Int × Bool × List Bd) (fun a=>⟨slots 63 0 [(2,.ptr 0 0),(3,.ptr 1 0),(4,.ptr 2 0),(5,.ptr 3 0),(7,.int .i64 a.1)],[.box 76 [.arr (s.binds.map Bd.d)],.box 76 [.arr (u.binds.map Bd.d)],.box 76 [.nil],.box 76 [bif a.2.1 then .arr (a.2.2.map Bd.d) else .nil]]⟩) (fun a=>∃ k:Nat,a.1=k∧k≤u.binds.length∧IA a.2.2 ((u.binds.drop k).filter (fun b=>!DJ s.binds b.var))=IA [] (Cr s u)∧a.2.2.length≤12+k∧(a.2.1=false→a.2.2=[])) (fun a=>u.binds.length-a.1.toNat) (0,fl,acc) ⟨0,rfl,zJ _,by rw [zN,hR,← Qdc]; rfl,by dsimp only; omega,hfz⟩ (by cases fl <;> (simp (disch:=omega) only [go_sem,Aa])) ?_
 clear hR hfl hfz hal hz
 rintro ⟨i,fl,acc⟩ ⟨k,hi,hk,hR,hal,hfz⟩
 dsimp only at hi hR hal hfz
 have hni:i.toNat=k:=by omega
 have hni1:(i+1).toNat=k+1:=by omega
 rcases zG k u.binds.length with hlt | hge
 ·have hg:=get_at Bd.d hlt
  rw [Bd.d_eq] at hg
  have hbok:=Sb.JW hu hlt
  have hval:=D0 hbok
  have hf:=Xa s u.binds[k].var (by omega)
  rw [RF (Sb.JV hs)] at hf
  rw [zC hlt,List.filter_cons] at hR
  cases hh:DJ s.binds u.binds[k].var with
  | true =>
   rw [hh,if_pos rfl] at hf
   rw [hh,if_neg (by simp)] at hR
   cases fl with
   | false =>
    simp (disch:=omega) only [go_sem,Aa,hni,hg,hf,AG,C1,BI]
    exact ⟨(i+1,false,acc),⟨k+1,by dsimp only; omega,hlt,hR,by dsimp only; omega,hfz⟩,by dsimp only; omega,by first | trivial | rfl⟩
   | true =>
    simp (disch:=omega) only [go_sem,Aa,hni,hg,hf,AG,C1,BI]
    exact ⟨(i+1,true,acc),⟨k+1,by dsimp only; omega,hlt,hR,by dsimp only; omega,hfz⟩,by dsimp only; omega,by first | trivial | rfl⟩
  | false =>
   rw [hh,if_neg (by simp)] at hf
   rw [hh,if_pos (by simp)] at hR
   have hp:=V6 ⟨acc⟩ u.binds[k].var u.binds[k].term (by show acc.length≤_; omega) (by have:=Eh hval; omega)
   have hpt:(Sb.mk acc).put ⟨u.binds[k].var,u.binds[k].term⟩=⟨Gh acc u.binds[k]⟩:=Qez hbok
   rw [hpt] at hp
   have hp:E 116 [.agg [.arr (acc.map Bd.d)],.str u.binds[k].var,u.binds[k].term.sv] []=some (.agg [.arr ((Gh acc u.binds[k]).map Bd.d)],[]):=hp
   have hl2:(Gh acc u.binds[k]).length≤12+(k+1):=by rw [Qde]; omega
   cases fl with
   | false =>
    obtain rfl:=hfz rfl
    rw [zL] at hp
    simp (disch:=omega) only [go_sem,Aa,hni,hg,hf,hp,AG,C1,BI]
    exact ⟨(i+1,true,Gh [] u.binds[k]),⟨k+1,by dsimp only; omega,hlt,hR,hl2,by intro h; cases h⟩,by dsimp only; omega,by first | trivial | rfl⟩
   | true =>
    simp (disch:=omega) only [go_sem,Aa,hni,hg,hf,hp,AG,C1,BI]
    exact ⟨(i+1,true,Gh acc u.binds[k]),⟨k+1,by dsimp only; omega,hlt,hR,hl2,by intro h; cases h⟩,by dsimp only; omega,by first | trivial | rfl⟩
 ·rw [zE hge,List.filter_nil] at hR
  have hR:acc=IA [] (Cr s u):=hR
  rw [←hend,← hR]
  cases fl with
  | false =>
   obtain rfl:=hfz rfl
   simp (disch:=omega) only [go_sem,Aa,hni,zL]
  | true =>
   simp (disch:=omega) only [go_sem,Aa,hni,zL]
noncomputable def Tg (s u:Sb):Bool:=s.ok&&(u.ok&&Cs s u)
noncomputable def XA (s u:Sb):Sb:=bif Tg s u then Ck s u else ⟨[]⟩
theorem Th (s u:Sb) (hts:s.tame) (htu:u.tame):E 115 [s.sv,u.sv] []=some (.tup [(XA s u).sv,.bool (Tg s u)],[]):=by
 have h1:=NB s hts
 have h2:=NB u htu
 have z1:(Sb.mk []).osv=.agg [.ref 0]:=rfl
 have z2:(Sb.mk []).obs=[.row 139 3 []]:=rfl
 have z3:(Sb.mk []).sv=.agg [.arr []]:=rfl
 cases hs:s.ok with
 | false =>
  have e:Tg s u=false:=by unfold Tg; rw [hs]; rfl
  rw [hs] at h1
  unfold XA
  rw [e]
  simp only [cond_false,z1,z2,z3]
  refine Af BG Bs (of_decide_eq_true rfl) ?_
  simp (disch:=omega) only [Br,go_sem,Aa,h1,h2,Ci]
 | true =>
  rw [hs] at h1
  cases hu:u.ok with
  | false =>
   have e:Tg s u=false:=by unfold Tg; rw [hu,yC,yI]
   rw [hu] at h2
   unfold XA
   rw [e]
   simp only [cond_false,z1,z2,z3]
   refine Af BG Bs (of_decide_eq_true rfl) ?_
   simp (disch:=omega) only [Br,go_sem,Aa,h1,h2,Ci]
  | true =>
   rw [hu] at h2
   have e:Tg s u=Cs s u:=by unfold Tg; rw [hs,hu]; rfl
   have h3:=X9 s u hs hu hts htu
   unfold XA
   rw [e]
   have h4:=NB (Ck s u) (Uw hs hu)
   have z6:(Ck s u).sv=.agg [.arr ((Ck s u).binds.map Bd.d)]:=rfl
   have e2:Cs s u=(Ck s u).ok:=rfl
   rw [←e2] at h4
   rw [z6] at h3 h4
   cases hq:Cs s u with
   | false =>
    rw [hq] at h4
    simp only [cond_false,z3]
    refine Af BG Bs (of_decide_eq_true rfl) ?_
    simp (disch:=omega) only [Br,go_sem,Aa,h1,h2,h3,h4,Ci,FE]
   | true =>
    rw [hq] at h4
    simp only [cond_true,z6]
    refine Af BG Bs (of_decide_eq_true rfl) ?_
    simp (disch:=omega) only [Br,go_sem,Aa,h1,h2,h3,h4,Ci,FE]
noncomputable def HJ:List ByteArray→ByteArray→List ByteArray
 | [],n=>[n]
 | x :: xs,n=>bif strLt x n then x :: HJ xs n else bif dec (x=n) then x :: xs else n :: x :: xs
noncomputable def Dq:List ByteArray→ByteArray→Nat
 | [],_=>0
 | x :: xs,n=>bif strLt x n then Dq xs n+1 else 0
theorem XB:∀ {xs:List ByteArray} {n m:ByteArray},m∈HJ xs n ↔ m∈xs∨m=n
 | [],n,m=>by simp [HJ]
 | x :: xs,n,m=>by
  rw [HJ]
  cases strLt x n with
  | true=>rw [cond_true,zP,XB,zP,or_assoc]
  | false =>
   rw [cond_false]
   by_cases h:x=n
   ·rw [As h,cond_true]
    exact ⟨.inl,fun h'=>h'.elim id fun e=>by subst e; subst h; simp⟩
   ·rw [Az h,cond_false,zP]
    exact or_comm
theorem XC:∀ (xs:List ByteArray) (n:ByteArray),(HJ xs n).length≤xs.length+1
 | [],n=>by simp [HJ]
 | x :: xs,n=>by
  have h:=XC xs n
  rw [HJ]
  cases strLt x n with
  | true=>simp only [cond_true,zB]; omega
  | false =>
   rw [cond_false]
   cases dec (x=n) with
   | true=>simp only [cond_true,zB]; omega
   | false=>simp only [cond_false,zB]; omega
theorem QaB:∀ (xs:List ByteArray) (n:ByteArray),Dq xs n≤xs.length
 | [],n=>by simp [Dq]
 | x :: xs,n=>by
  have h:=QaB xs n
  rw [Dq]
  cases strLt x n with
  | true=>simp only [cond_true,zB]; omega
  | false=>simp only [cond_false,zB]; omega
theorem So:∀ {xs:List ByteArray} {n:ByteArray} (h:Dq xs n<xs.length),xs[Dq xs n]=n→HJ xs n=xs
 | [],n,h,_=>by simp at h
 | x :: xs,n,h,e=>by
  rw [HJ]
  cases hq:strLt x n with
  | true =>
   simp only [Dq,hq,cond_true,zB,List.getElem_cons_succ] at h e
   rw [cond_true,So (by omega) e]
  | false =>
   simp only [Dq,hq,cond_false,List.getElem_cons_zero] at e
   rw [cond_false,As e]; rfl
theorem Sp:∀ {xs:List ByteArray} {n:ByteArray},(∀ h:Dq xs n<xs.length,¬ xs[Dq xs n]=n)→HJ xs n=xs.take (Dq xs n)++n :: xs.drop (Dq xs n)
 | [],n,_=>by simp [HJ,Dq]
 | x :: xs,n,h=>by
  rw [HJ]
  cases hq:strLt x n with
  | true =>
   simp only [Dq,hq,cond_true,zB,List.getElem_cons_succ] at h ⊢
   rw [Sp fun h'=>h (by omega)]
   simp
  | false =>
   simp only [Dq,hq,cond_false,List.getElem_cons_zero] at h ⊢
   rw [Az (h (by simp))]
   simp
theorem QbB {xs:List ByteArray} {n:ByteArray} {k:Nat} (h:k+Dq (xs.drop k) n=Dq xs n) (hk:k<xs.length):(strLt xs[k] n=true∧k+1+Dq (xs.drop (k+1)) n=Dq xs n)∨(strLt xs[k] n=false∧k=Dq xs n):=by
 rw [zC hk,Dq] at h
 cases hq:strLt xs[k] n with
 | true=>rw [hq,cond_true] at h; exact .inl ⟨rfl,by omega⟩
 | false=>rw [hq,cond_false] at h; exact .inr ⟨rfl,by omega⟩
theorem ot_take (xs:List ByteArray) (k:Nat):((xs.map fun s=>[D.str s]).take k).map (fun x=>x.map D.ot)=(xs.take k).map fun s=>[OT.str s]:=by
 rw [←List.map_take,zW]; rfl
theorem ot_drop (xs:List ByteArray) (k:Nat):((xs.map fun s=>[D.str s]).drop k).map (fun x=>x.map D.ot)=(xs.drop k).map fun s=>[OT.str s]:=by
 rw [←List.map_drop,zW]; rfl
theorem QaC (xs:List ByteArray):((xs.map fun s=>[OT.str s]).all fun l=>l.length == 1)=true:=by
 rw [zY,zO]
 intro x _; rfl
theorem Qdf (xs:List ByteArray):((xs.map fun s=>[D.str s]).all fun l=>l.length == 1)=true:=by
 rw [zY,zO]
 intro x _; rfl
def NY:SC:=(.seq (.reg [⟨some 4,none,.mv (.c .nil)⟩]) (.seq (.reg [⟨some 5,none,.mv (.c (.int .i64 0))⟩]) (.seq (.block 0 (.loop [1,1,0,0,0,1,0,0,0,0,0,0,0,0,0,0,0,0,0,0,0,0,0,0,0,0,0,0,0,0,0,0,0,0,0,0,0,0,0,0,0,0,0,0,0] (.seq (.seq (.reg [⟨some 6,none,.mv (.t 5)⟩,⟨some 7,none,.mv (.t 0)⟩,⟨some 8,none,.len false (.t 7)⟩,⟨some 9,none,.bin .lss false (.t 6) (.t 8)⟩,⟨some 10,none,.mv (.t 9)⟩,⟨(some 11),(some (10,true)),(.mv (.t 0))⟩,⟨(some 12),(some (10,true)),(.mv (.t 5))⟩,⟨(some 13),(some (10,true)),(.iaddr 1 (.t 11) (.t 12))⟩,⟨(some 14),(some (10,true)),(.load false 1 (.t 13))⟩,⟨(some 15),(some (10,true)),(.mv (.t 1))⟩,⟨(some 16),(some (10,true)),(.bin .lss false (.t 14) (.t 15))⟩,⟨some 17,none,.pick (.t 10) (.t 16) (.c (.bool false))⟩]) (.cond (.t 17) .skip (.exit 0))) (.block 1 (.reg [⟨some 18,none,.mv (.t 5)⟩,⟨some 19,none,.bin .add false (.t 18) (.c (.int .i64 1))⟩,⟨some 5,none,.mv (.t 19)⟩]))))) (.seq (.seq (.reg [⟨some 20,none,.mv (.t 5)⟩,⟨some 21,none,.mv (.t 0)⟩,⟨some 22,none,.len false (.t 21)⟩,⟨some 23,none,.bin .lss false (.t 20) (.t 22)⟩,⟨some 24,none,.mv (.t 23)⟩,⟨(some 25),(some (24,true)),(.mv (.t 0))⟩,⟨(some 26),(some (24,true)),(.mv (.t 5))⟩,⟨(some 27),(some (24,true)),(.iaddr 1 (.t 25) (.t 26))⟩,⟨(some 28),(some (24,true)),(.load false 1 (.t 27))⟩,⟨(some 29),(some (24,true)),(.mv (.t 1))⟩,⟨(some 30),(some (24,true)),(.bin .eql false (.t 28) (.t 29))⟩,⟨some 31,none,.pick (.t 24) (.t 30) (.c (.bool false))⟩]) (.cond (.t 31) (.seq (.reg [⟨some 32,none,.mv (.t 0)⟩,⟨some 4,none,.mv (.t 32)⟩]) .ret) .skip)) (.seq (.dreg [[],[],[],[1,2],[0,3,1,2],[],[5],[4,0,3,1,2,6,5],[],[],[8,9],[7,4,0,3,1,2,6,5,10,8,9],[11,7,4,0,3,1,2,6,5,10,8,9]] [⟨(some 33),none,(.mkrow 9 1 [(.str ⟨#[]⟩)] 0 [])⟩,⟨some 34,none,.mv (.t 0)⟩,⟨some 35,none,.mv (.t 5)⟩,⟨some 36,none,.slice false 1 (.t 34) none (some (.t 35))⟩,⟨(some 37),none,(.append 9 1 16 [(.str ⟨#[]⟩)] (.t 33) (.t 36))⟩,⟨some 38,none,.mv (.t 1)⟩,⟨(some 39),none,(.mkrow 9 1 [(.str ⟨#[]⟩)] 1 [(0,(.t 38))])⟩,⟨(some 40),none,(.append 9 1 16 [(.str ⟨#[]⟩)] (.t 37) (.t 39))⟩,⟨some 41,none,.mv (.t 0)⟩,⟨some 42,none,.mv (.t 5)⟩,⟨some 43,none,.slice false 1 (.t 41) (some (.t 42)) none⟩,⟨(some 44),none,(.append 9 1 16 [(.str ⟨#[]⟩)] (.t 40) (.t 43))⟩,⟨some 4,none,.mv (.t 44)⟩]) .ret)))))
theorem V7:codeOf Tryz.prog 173=some ⟨45,NY,[(.tmp 4)]⟩:=by kernel_rfl
theorem NZ:modes 173=⟨[],.frz,none,false⟩:=by unfold modes; rfl
theorem Qe0 (xs:List ByteArray) (n:ByteArray) (hl:xs.length≤1048576):E 173 [.arr (xs.map fun s=>[D.str s]),.str n] []=some (.arr ((HJ xs n).map fun s=>[D.str s]),[]):=by
 have e1:=ot_take xs (Dq xs n)
 have e2:=ot_drop xs (Dq xs n)
 have e3:=QaC (xs.take (Dq xs n))
 have e4:=QaC (xs.drop (Dq xs n))
 have e5:=Qdf xs
 have l1:=QaB xs n
 have e6:(xs.map fun s=>[D.str s]).take xs.length=xs.map fun s=>[D.str s]:=List.take_of_length_le (by simp)
 have e7:(xs.take (Dq xs n)).length=Dq xs n:=by rw [List.length_take]; omega
 have e8:(xs.drop (Dq xs n)).length=xs.length-Dq xs n:=List.length_drop
 have hf:∀ ys:List ByteArray,ys=HJ xs n→(ys.map fun s=>[OT.str s])=(HJ xs n).map fun s=>[OT.str s]:=fun ys h=>by rw [h]
 refine Af V7 NZ (of_decide_eq_true rfl) ?_
 simp (disch:=omega) only [NY,go_sem,Aa]
 refine go_loop (α:=Int) (fun a=>⟨slots 45 0 [(0,.arr (xs.map fun s=>[D.str s])),(1,.str n),(5,.int .i64 a)],[]⟩) (fun a=>∃ k:Nat,a=k∧k≤(xs).length∧k+Dq (xs.drop k) n=Dq xs n) (fun a=>(xs).length-(a).toNat) 0 ⟨0,rfl,zJ _,by rw [zN,Nat.zero_add]⟩ (by simp (disch:=omega) only [go_sem,Aa]) ?_
 rintro i ⟨k,hi,hk,hR⟩
 have hni:i.toNat=k:=by omega
 have hni1:(i+1).toNat=k+1:=by omega
 rcases zG k (xs).length with hlt | hge
 ·have hg:=get_at (fun s=>[D.str s]) hlt
  rcases QbB hR hlt with ⟨q,hR'⟩ | ⟨q,hk'⟩
  ·simp (disch:=omega) only [go_sem,Aa,hni,hg,q]
   exact ⟨i+1,⟨k+1,by omega,hlt,hR'⟩,by omega,by first | trivial | rfl⟩
  ·subst hk'
   by_cases h0:xs[Dq xs n]=n
   ·have hi0:=So hlt h0
    rw [hi0]
    simp (disch:=omega) only [go_sem,Aa,hni,hg,q,h0,e6,Hn,Di]
   ·have hi0:=Sp (fun _=>h0)
    have hx:(xs.take (Dq xs n)).map (fun s=>[OT.str s])++([[OT.str n]]++(xs.drop (Dq xs n)).map (fun s=>[OT.str s]))=(HJ xs n).map fun s=>[OT.str s]:=by rw [hi0]; simp
    have hx2:(xs.take (Dq xs n)).map (fun s=>[OT.str s])++[[OT.str n]]++(xs.drop (Dq xs n)).map (fun s=>[OT.str s])=(HJ xs n).map fun s=>[OT.str s]:=by rw [hi0]; simp
    simp (disch:=omega) only [go_sem,Aa,hni,hg,q,h0,e1,e2,e3,e4,e5,e6,e7,e8,hx2,zD,zQ]
 ·obtain rfl:k=xs.length:=by omega
  have hk':xs.length=Dq xs n:=by rw [←hR,zE (zV _)]; simp [Dq]
  have hi0:=Sp (xs:=xs) (n:=n) (fun h=>by omega)
  have hx2:(xs.take (Dq xs n)).map (fun s=>[OT.str s])++[[OT.str n]]++(xs.drop (Dq xs n)).map (fun s=>[OT.str s])=(HJ xs n).map fun s=>[OT.str s]:=by rw [hi0]; simp
  rw [hk'] at hni
  simp (disch:=omega) only [go_sem,Aa,hni,e1,e2,e3,e4,e5,e6,e7,e8,hx2,zD,zQ]
noncomputable def Km (l ns:List ByteArray):List ByteArray:=ns.foldl HJ l
theorem Sq:∀ (ns l:List ByteArray),(Km l ns).length≤l.length+ns.length
 | [],l=>by simp [Km]
 | n :: ns,l=>by
  have h:=Sq ns (HJ l n)
  have h2:=XC l n
  simp only [Km,List.foldl_cons,zB] at h ⊢
  omega
theorem XD:∀ {ns l:List ByteArray} {m:ByteArray},m∈Km l ns ↔ m∈l∨m∈ns
 | [],l,m=>by simp [Km]
 | n :: ns,l,m=>by
  have h:=XD (ns:=ns) (l:=HJ l n) (m:=m)
  simp only [Km,List.foldl_cons] at h ⊢
  rw [h,XB]
  simp only [zP]
  exact or_assoc
theorem Qdg (l a b:List ByteArray):Km l (a++b)=Km (Km l a) b:=List.foldl_append
def ID:SC:=(.seq (.reg [⟨some 3,none,.boxv 71 2 (.t 1)⟩,⟨some 4,none,.mv (.c .nil)⟩]) (.seq (.seq (.reg [⟨some 6,none,.faddr 0 (.t 3)⟩,⟨some 7,none,.load false 1 (.t 6)⟩,⟨some 8,none,.call 77 [(.t 7)]⟩]) (.cond (.t 8) (.seq (.reg [⟨some 9,none,.mv (.t 0)⟩,⟨some 10,none,.faddr 0 (.t 3)⟩,⟨some 11,none,.load false 1 (.t 10)⟩,⟨some 12,none,.call 173 [(.t 9),(.t 11)]⟩,⟨some 4,none,.mv (.t 12)⟩]) .ret) .skip)) (.seq (.seq (.reg [⟨some 5,none,.mv (.c (.int .i64 0))⟩]) (.block 0 (.loop [1,0,0,1,0,1,0,0,0,0,0,0,0,0,0,0,0,0,0,0,0,0,0,0,0,0,0,0] (.seq (.seq (.reg [⟨some 13,none,.mv (.t 5)⟩,⟨some 14,none,.faddr 1 (.t 3)⟩,⟨some 15,none,.load false 1 (.t 14)⟩,⟨some 16,none,.len false (.t 15)⟩,⟨some 17,none,.bin .lss false (.t 13) (.t 16)⟩]) (.cond (.t 17) .skip (.exit 0))) (.seq (.block 1 (.reg [⟨some 20,none,.mv (.t 0)⟩,⟨some 21,none,.faddr 1 (.t 3)⟩,⟨some 22,none,.load false 1 (.t 21)⟩,⟨some 23,none,.mv (.t 5)⟩,⟨some 24,none,.iaddr 2 (.t 22) (.t 23)⟩,⟨some 25,none,.load true 2 (.t 24)⟩,⟨some 26,none,.call 149 [(.t 20),(.t 25)]⟩,⟨some 0,none,.mv (.t 26)⟩])) (.reg [⟨some 18,none,.mv (.t 5)⟩,⟨some 19,none,.bin .add false (.t 18) (.c (.int .i64 1))⟩,⟨some 5,none,.mv (.t 19)⟩])))))) (.seq (.reg [⟨some 27,none,.mv (.t 0)⟩,⟨some 4,none,.mv (.t 27)⟩]) .ret))))
theorem Mo:codeOf Tryz.prog 149=some ⟨28,ID,[(.tmp 4)]⟩:=by kernel_rfl
theorem FQ:modes 149=⟨[],.asis,none,false⟩:=by unfold modes; rfl
def Mp:SC:=(.seq (.reg [⟨some 1,none,.boxv 71 2 (.t 0)⟩,⟨some 2,none,.mv (.c .nil)⟩]) (.seq (.reg [⟨(some 3),none,(.mkrow 9 1 [(.str ⟨#[]⟩)] 0 [])⟩,⟨some 4,none,.load true 2 (.t 1)⟩,⟨some 5,none,.call 149 [(.t 3),(.t 4)]⟩,⟨some 2,none,.mv (.t 5)⟩]) .ret))
theorem Ti:codeOf Tryz.prog 114=some ⟨6,Mp,[(.tmp 2)]⟩:=by kernel_rfl
theorem IE:modes 114=⟨[],.frz,none,false⟩:=by unfold modes; rfl
abbrev Qdh (x:Tm):Prop:=∀ l:List ByteArray,l.length+x.nodes≤1048576→E 149 [.arr (l.map fun s=>[D.str s]),x.sv] []=some (.arr ((Km l x.vs).map fun s=>[D.str s]),[])
theorem QbC (x:Tm) (ih:∀ y∈x.args,Qdh y):Qdh x:=by
 intro l hn
 have hl:=Tm.length_le x.args
 have hne:=Tm.An x
 have hvs:=Tm.G5 x
 have hp:=Qe0 l x.name (by omega)
 cases hvv:Aq x.name with
 | true =>
  rw [hvv] at hvs
  have e:Km l x.vs=HJ l x.name:=by rw [hvs]; rfl
  rw [e]
  refine Af Mo FQ (of_decide_eq_true rfl) ?_
  simp (disch:=omega) only [ID,go_sem,Aa,hvv,hp,Ah,Am,NZ]
 | false =>
  rw [hvv] at hvs
  simp only [cond_false] at hvs
  rw [hvs]
  refine Af Mo FQ (of_decide_eq_true rfl) ?_
  simp (disch:=omega) only [ID,go_sem,Aa,hvv,Ah,Am]
  refine go_loop (α:=Int × (List ByteArray)) (fun a=>⟨slots 28 0 [(0,.arr ((a.2).map fun s=>[D.str s])),(3,.ptr 0 0),(5,.int .i64 (a.1))],[.box 71 [.str x.name,.arr (x.args.map Tm.d)]]⟩) (fun a=>∃ k:Nat,a.1=k∧k≤(x.args).length∧Km (a.2) (Tm.vsL (x.args.drop k))=Km l (Tm.vsL x.args)∧(a.2).length+Tm.Bb (x.args.drop k)≤1048576) (fun a=>(x.args).length-(a.1).toNat) (0,l) ⟨0,rfl,zJ _,by rw [zN],by rw [zN]; dsimp only; omega⟩ (by simp (disch:=omega) only [go_sem,Aa]) ?_
  rintro ⟨i,acc⟩ ⟨k,hi,hk,hR⟩
  dsimp only at hi hR
  have hni:i.toNat=k:=by omega
  have hni1:(i+1).toNat=k+1:=by omega
  rcases zG k (x.args).length with hlt | hge
  ·have hg:=get_at Tm.d hlt
   rw [Tm.d_eq] at hg
   obtain ⟨hR1,hR2⟩:=hR
   rw [zC hlt,Tm.vsL,Qdg] at hR1
   rw [zC hlt,Tm.Bb] at hR2
   have hc:=ih x.args[k] (zH hlt) acc (by omega)
   have hlen:=Sq x.args[k].vs acc
   have hvl:=Tm.vs_len x.args[k]
   simp (disch:=omega) only [go_sem,Aa,hni,hg,hc,FQ]
   exact ⟨(i+1,Km acc x.args[k].vs),⟨k+1,by dsimp only; omega,hlt,hR1,by dsimp only; omega⟩,by dsimp only; omega,by first | trivial | rfl⟩
  ·rw [zE hge,Tm.vsL] at hR
   obtain ⟨hR1,hR2⟩:=hR
   have hR1:acc=Km l (Tm.vsL x.args):=hR1
   rw [←hR1]
   simp (disch:=omega) only [go_sem,Aa,hni]
theorem XE (x:Tm):Qdh x:=QbC x fun y hy=>XE y
termination_by SizeOf.sizeOf x
decreasing_by exact Tm.Aw hy
theorem Qdi (x:Tm) (hn:x.nodes≤1048576):E 114 [x.sv] []=some (.arr ((Km [] x.vs).map fun s=>[D.str s]),[]):=by
 have h:=XE x [] (by simpa using hn)
 rw [zL] at h
 refine Af Ti IE (of_decide_eq_true rfl) ?_
 simp (disch:=omega) only [Mp,go_sem,Aa,h,FQ]
theorem Sb.XF {s:Sb} {n:ByteArray} {t:Tm} (h:s.look n=some t):(⟨n,t⟩:Bd)∈s.binds:=by
 cases hh:DJ s.binds n with
 | false=>rw [Sb.Qm hh] at h; cases h
 | true =>
  have hlt:=HX hh
  rw [Sb.KT hh hlt] at h
  obtain rfl:=Option.some.inj h
  have e:=Vr hh hlt
  have h1:=zH hlt
  have h2:∀ c:Bd,c.var=n→(⟨n,c.term⟩:Bd)=c:=fun c e=>by rw [←e]
  rw [h2 _ e]; exact h1
theorem Sb.Jp {s:Sb} (hs:NC s.binds) {n:ByteArray}:s.look n=none ↔ ∀ b∈s.binds,b.var≠n:=by
 cases hh:DJ s.binds n with
 | false =>
  rw [Sb.Qm hh]
  refine ⟨fun _ b hb e=>?_,fun _=>rfl⟩
  rw [Xu hs] at hh
  exact List.any_eq_false.1 hh b hb (As e)
 | true =>
  have hlt:=HX hh
  rw [Sb.KT hh hlt]
  exact ⟨fun h=>(by cases h),fun h=>absurd (Vr hh hlt) (h _ (zH hlt))⟩
theorem Sb.Lm {s:Sb} (hs:NC s.binds) {b:Bd} (h:b∈s.binds):s.look b.var=some b.term:=by
 cases hq:s.look b.var with
 | none=>exact absurd rfl ((Sb.Jp hs).1 hq b h)
 | some t =>
  have h2:=Sb.XF hq
  obtain ⟨i,hi,e1⟩:=zI h
  obtain ⟨j,hj,e2⟩:=zI h2
  have hij:i=j:=(List.getElem_inj (h₀:=by simpa using hi) (h₁:=by simpa using hj) (MM hs)).1 (by simp only [List.getElem_map,e1,e2])
  subst hij
  rw [e1] at e2
  rw [e2]
theorem Tm.Qdj {f:ByteArray→Option Tm} (x:Tm) {v:ByteArray} (h:v∈(x.ap f).vs):(v∈x.vs∧f v=none)∨∃ w∈x.vs,∃ t,f w=some t∧v∈t.vs:=by
 rw [Tm.HY] at h
 by_cases hv:Aq x.name=true
 ·rw [if_pos hv] at h
  have hx:x.vs=[x.name]:=by rw [Tm.G5,hv]; rfl
  cases hq:f x.name with
  | none =>
   rw [hq,yE,Tm.G5] at h
   have h:v∈(bif Aq x.name then [x.name] else _):=h
   rw [hv,cond_true] at h
   have e:v=x.name:=by simpa using h
   subst e
   exact .inl ⟨by rw [hx]; simp,hq⟩
  | some t =>
   rw [hq,Option.getD_some] at h
   exact .inr ⟨x.name,by rw [hx]; simp,t,hq,h⟩
 ·rw [if_neg hv] at h
  have hv0:Aq x.name=false:=by simpa using hv
  have hx:x.vs=Tm.vsL x.args:=by rw [Tm.G5,hv0]; rfl
  rw [Tm.G5] at h
  have h:v∈(bif Aq x.name then [x.name] else Tm.vsL (Tm.apL f x.args)):=h
  rw [hv0,cond_false,Tm.ND,Tm.vsL_mem] at h
  obtain ⟨z,hz,hvz⟩:=h
  obtain ⟨y,hy,rfl⟩:=List.mem_map.1 hz
  rw [hx]
  rcases Tm.Qdj y hvz with ⟨h1,h2⟩ | ⟨w,h1,t,h2,h3⟩
  ·exact .inl ⟨Tm.vsL_mem.2 ⟨y,hy,h1⟩,h2⟩
  ·exact .inr ⟨w,Tm.vsL_mem.2 ⟨y,hy,h1⟩,t,h2,h3⟩
termination_by SizeOf.sizeOf x
decreasing_by exact Tm.Aw hy
theorem XG {α:Type} {g:α→α}:∀ {xs:List α},(∀ x∈xs,g x=x)→xs.map g=xs
 | [],_=>rfl
 | x :: xs,h=>by rw [zF,h x (by simp),XG fun y hy=>h y (by simp [hy])]
theorem Tm.Qdk (x:Tm):Tm.mk x.name x.args=x:=by obtain ⟨n,a⟩:=x; rfl
theorem Tm.QaD {f:ByteArray→Option Tm} (x:Tm) (hx:x.names=true) (h:∀ v∈x.vs,f v=none):x.ap f=x:=by
 rw [Tm.HY]
 by_cases hv:Aq x.name=true
 ·have hx0:=Tm.FA hx hv
  rw [if_pos hv,h x.name (by rw [Tm.G5,hv]; simp),yE]
  conv=>rhs; rw [←Tm.Qdk x,hx0]
 ·have hv0:Aq x.name=false:=by simpa using hv
  rw [if_neg hv,Tm.ND,XG fun y hy=>Tm.QaD y (Tm.ES hx hy) fun v hvv=>h v (by
   rw [Tm.G5,hv0,cond_false]
   exact Tm.vsL_mem.2 ⟨y,hy,hvv⟩),Tm.Qdk]
termination_by SizeOf.sizeOf x
decreasing_by exact Tm.Aw hy
def Sb.idem (s:Sb):Prop:=∀ w t,s.look w=some t→∀ v∈t.vs,s.look v=none
theorem Sb.V8 {s:Sb} (hi:s.idem) {x:Tm} {v:ByteArray} (h:v∈(x.ap s.look).vs):s.look v=none:=by
 rcases Tm.Qdj x h with ⟨_,h2⟩ | ⟨w,_,t,h2,h3⟩
 ·exact h2
 ·exact hi w t h2 v h3
theorem Tm.XH {x y:Tm} (hx:x.expr=true) (hy:y∈x.args):y.expr=true:=by
 have h1:=Tm.RH hx
 have h2:=Tm.Jc hx hy
 unfold Tm.small at h1
 rw [zA,decide_eq_true_eq,decide_eq_true_eq] at h1
 have n1:=Tm.AU hy
 have n2:=Tm.An x
 have d2:=Tm.LJ x
 have d1:y.deep≤Tm.Es x.args:=by
  have key:∀ xs:List Tm,y∈xs→y.deep≤Tm.Es xs:=by
   intro xs
   induction xs with
   | nil=>intro h; cases h
   | cons z zs ih =>
    intro h
    rw [Tm.Es]
    rcases zP.1 h with rfl | h
    ·exact Nat.le_max_left _ _
    ·exact Nat.le_trans (ih h) (Nat.le_max_right _ _)
  exact key _ hy
 unfold Tm.expr Tm.valid Tm.small
 rw [h2,decide_eq_true (by omega),decide_eq_true (by omega)]; rfl
noncomputable def A1 (x y:Tm):Bd:=bif Aq x.name&&!(Aq y.name&&strLt x.name y.name) then ⟨x.name,y⟩ else ⟨y.name,x⟩
noncomputable def BP (b:Bd):Bool:=!dec (b.var∈b.term.vs)&&(Sb.mk [b]).ok
noncomputable def BE:Nat→Sb→List (Tm × Tm)→Option (Option Sb)
 | 0,_,_=>none
 | n+1,s,l=>match l with
  | []=>some (some s)
  | p :: l=>bif BT s p.1&&BT s p.2 then
    (bif dec (AK s p.1=AK s p.2) then BE n s l
    else bif Aq (AK s p.1).name || Aq (AK s p.2).name then
     (bif BP (A1 (AK s p.1) (AK s p.2))&&Cs s ⟨[A1 (AK s p.1) (AK s p.2)]⟩ then BE n (Ck s ⟨[A1 (AK s p.1) (AK s p.2)]⟩) l else some none)
    else bif dec ((AK s p.1).name=(AK s p.2).name)&&dec ((AK s p.1).args.length=(AK s p.2).args.length) then BE n s ((AK s p.1).args.zip (AK s p.2).args++l)
    else some none)
   else some none
def HK:List (Tm × Tm)→Nat
 | []=>0
 | p :: l=>p.1.nodes+HK l
structure uInv (s:Sb) (l:List (Tm × Tm)):Prop where
 ok:s.ok=true
 idem:s.idem
 ex:∀ p∈l,p.1.expr=true∧p.2.expr=true
 pq:∃ P Q,l=P++Q∧(∀ p∈P,p.1.ap s.look=p.1)∧HK P≤30∧Q.length≤1+30*s.binds.length
theorem Sr:∀ P:List (Tm × Tm),P.length≤HK P
 | []=>zV _
 | p :: P=>by
  have h1:=Sr P
  have h2:=Tm.LI p.1
  rw [HK,zB]; omega
theorem uInv.len {s:Sb} {l:List (Tm × Tm)} (h:uInv s l):l.length≤391:=by
 obtain ⟨P,Q,rfl,_,h2,h3⟩:=h.pq
 have h1:=Sr P
 have h4:=ok_len h.ok
 rw [zD]; omega
theorem uInv.pop {s:Sb} {p:Tm × Tm} {l:List (Tm × Tm)} (h:uInv s (p :: l)):uInv s l:=by
 refine ⟨h.ok,h.idem,fun q hq=>h.ex q (by simp [hq]),?_⟩
 obtain ⟨P,Q,e,h1,h2,h3⟩:=h.pq
 cases P with
 | nil =>
  cases Q with
  | nil=>cases e
  | cons q Q =>
   simp only [yH,z7] at e
   exact ⟨[],Q,e.2,fun _ h=>by simp at h,by rw [HK]; omega,by simp only [zB] at h3; omega⟩
 | cons q P =>
  simp only [zR,z7] at e
  rw [HK] at h2
  exact ⟨P,Q,e.2,fun z hz=>h1 z (by simp [hz]),by omega,h3⟩
theorem Ss:∀ (xs ys:List Tm),HK (xs.zip ys)≤Tm.Bb xs
 | [],ys=>by simp [HK]
 | x :: xs,[]=>by simp [HK]
 | x :: xs,y :: ys=>by
  have h:=Ss xs ys
  rw [List.zip_cons_cons,HK,Tm.Bb]
  show x.nodes+_≤_
  omega
theorem XI:∀ (a b:List (Tm × Tm)),HK (a++b)=HK a+HK b
 | [],b=>by simp [HK]
 | p :: a,b=>by rw [zR,HK,HK,XI a b]; omega
theorem C2 {s:Sb} {x:Tm} (h:BT s x=true):(AK s x).expr=true:=by
 rw [Ec h]
 unfold BT at h
 rw [zA,zA] at h
 have h2:(x.ap s.look).expr=(x.ap s.look).small:=Tm.QcO (Sb.Fg h.1) x h.2.1
 rw [h2]; exact h.2.2
theorem Qn {α β:Type} {a:α} {b:β}:∀ {xs:List α} {ys:List β},(a,b)∈xs.zip ys→a∈xs∧b∈ys
 | [],ys,h=>by simp at h
 | x :: xs,[],h=>by simp at h
 | x :: xs,y :: ys,h=>by
  rw [List.zip_cons_cons] at h
  rcases zP.1 h with h | h
  ·simp only [Prod.mk.injEq] at h; exact ⟨by rw [h.1]; simp,by rw [h.2]; simp⟩
  ·obtain ⟨h1,h2⟩:=Qn h; exact ⟨by simp [h1],by simp [h2]⟩
theorem Ux {s:Sb} (hi:s.idem) {x:Tm} (hx:BT s x=true) (hv:Aq (AK s x).name=false) {y:Tm} (hy:y∈(AK s x).args):y.ap s.look=y:=by
 have he:=C2 hx
 refine Tm.QaD y (Tm.Jc he hy) fun v hvv=>?_
 have h1:v∈(AK s x).vs:=by
  rw [Tm.G5,hv,cond_false]
  exact Tm.vsL_mem.2 ⟨y,hy,hvv⟩
 rw [Ec hx] at h1
 exact Sb.V8 hi h1
theorem uInv.dec {s:Sb} {p:Tm × Tm} {l:List (Tm × Tm)} (h:uInv s (p :: l)) (h1:BT s p.1=true) (h2:BT s p.2=true) (hv:Aq (AK s p.1).name=false):uInv s ((AK s p.1).args.zip (AK s p.2).args++l):=by
 have e1:=C2 h1
 have e2:=C2 h2
 have hn:=Tm.Ar e1
 have hn2:=Tm.An (AK s p.1)
 have hz:=Ss (AK s p.1).args (AK s p.2).args
 refine ⟨h.ok,h.idem,fun q hq=>?_,?_⟩
 ·rcases zZ.1 hq with hq | hq
  ·obtain ⟨a,b⟩:=q
   obtain ⟨k1,k2⟩:=Qn hq
   exact ⟨Tm.XH e1 k1,Tm.XH e2 k2⟩
  ·exact h.ex q (by simp [hq])
 ·obtain ⟨P,Q,e,g1,g2,g3⟩:=h.pq
  have hfix:∀ q∈(AK s p.1).args.zip (AK s p.2).args,q.1.ap s.look=q.1:=fun q hq=>by
   obtain ⟨a,b⟩:=q
   exact Ux h.idem h1 hv (Qn hq).1
  cases P with
  | nil =>
   cases Q with
   | nil=>cases e
   | cons q Q =>
    simp only [yH,z7] at e
    rw [←e.2] at g3
    exact ⟨_,l,rfl,hfix,by omega,by simp only [zB,e.2] at g3 ⊢; omega⟩
  | cons q P =>
   simp only [zR,z7] at e
   obtain ⟨rfl,rfl⟩:=e
   rw [HK] at g2
   have hself:AK s p.1=p.1:=by rw [Ec h1]; exact g1 p (by simp)
   refine ⟨(AK s p.1).args.zip (AK s p.2).args++P,Q,by rw [zX],fun q hq=>?_,?_,g3⟩
   ·rcases zZ.1 hq with hq | hq
    ·exact hfix q hq
    ·exact g1 q (by simp [hq])
   ·rw [XI]
    rw [hself] at hn2 hz ⊢
    omega
theorem Gi (x y:Tm) (h:(Aq x.name || Aq y.name)=true):(A1 x y=⟨x.name,y⟩∧Aq x.name=true)∨(A1 x y=⟨y.name,x⟩∧Aq y.name=true):=by
 unfold A1
 cases h1:Aq x.name with
 | true =>
  cases h2:Aq y.name with
  | true =>
   cases strLt x.name y.name with
   | true=>exact .inr ⟨rfl,rfl⟩
   | false=>exact .inl ⟨rfl,rfl⟩
  | false=>exact .inl ⟨rfl,rfl⟩
 | false =>
  rw [h1,Bool.false_or] at h
  rw [h]
  exact .inr ⟨rfl,rfl⟩
theorem Su {b:Bd} (hb:(Sb.mk [b]).ok=true) (n:ByteArray):(Sb.mk [b]).look n=if b.var=n then some b.term else none:=by
 have hup:=Sb.JV hb
 by_cases h:b.var=n
 ·rw [if_pos h,← h]
  exact Sb.Lm hup (by simp)
 ·rw [if_neg h]
  exact (Sb.Jp hup).2 fun c hc=>by
   have:c=b:=by simpa using hc
   rw [this]; exact h
theorem Qe1 {s:Sb} {b:Bd} (hs:s.ok=true) (hi:s.idem) (hb:(Sb.mk [b]).ok=true) (hv:s.look b.var=none) (ht:∀ v∈b.term.vs,s.look v=none) (ho:b.var ∉ b.term.vs) (hc:Cs s ⟨[b]⟩=true) :
  (Ck s ⟨[b]⟩).binds.length=s.binds.length+1∧(Ck s ⟨[b]⟩).idem:=by
 have hup:=Sb.JV hs
 have hcok:(Ck s ⟨[b]⟩).ok=true:=hc
 have hcup:=Sb.JV hcok
 have hbok:HH b=true:=Sb.JW (x:=⟨[b]⟩) hb (k:=0) (by simp)
 have hone:∀ c∈s.binds,CC ⟨[b]⟩ c=some ⟨c.var,c.term.ap (Sb.mk [b]).look⟩:=fun c hcm=>by
  have hcb:HH c=true:=by
   obtain ⟨k,hk,rfl⟩:=zI hcm
   exact Sb.JW hs hk
  have hcl:=Sb.Lm hup hcm
  have hcv:=Xd hcb
  unfold CC
  rw [Az,cond_false]
  intro e
  have hne:c.term.name≠c.var:=by
   unfold HH at hcb
   rw [zA,zA,yD] at hcb
   exact CF.1 hcb.2.2
  rw [Tm.HY] at e
  by_cases hv':Aq c.term.name=true
  ·rw [if_pos hv',Su hb] at e
   by_cases hbn:b.var=c.term.name
   ·rw [if_pos hbn,Option.getD_some] at e
    have:c.var∈b.term.vs:=by
     rw [Tm.G5,e,hcv]; simp
    rw [ht _ this] at hcl; cases hcl
   ·rw [if_neg hbn,yE] at e
    exact hne e
  ·rw [if_neg hv'] at e
   exact hne e
 have hl1:Hx s ⟨[b]⟩=s.binds.map fun c=>⟨c.var,c.term.ap (Sb.mk [b]).look⟩:=by
  unfold Hx
  have key:∀ xs:List Bd,(∀ c∈xs,CC ⟨[b]⟩ c=some ⟨c.var,c.term.ap (Sb.mk [b]).look⟩)→xs.filterMap (CC ⟨[b]⟩)=xs.map fun c=>⟨c.var,c.term.ap (Sb.mk [b]).look⟩:=by
   intro xs
   induction xs with
   | nil=>intro _; rfl
   | cons x xs ih=>intro h; rw [z8,h x (by simp),zF,ih fun c hc=>h c (by simp [hc])]
  exact key _ hone
 have hl2:QaA s ⟨[b]⟩=[b]:=by
  unfold QaA
  have hh:DJ s.binds b.var=false:=by
   cases hh:DJ s.binds b.var with
   | false=>rfl
   | true=>rw [Sb.KT hh (HX hh)] at hv; cases hv
  simp [hh]
 have hmem:∀ c,c∈(Ck s ⟨[b]⟩).binds ↔ (∃ d∈s.binds,c=⟨d.var,d.term.ap (Sb.mk [b]).look⟩)∨c=b:=fun c=>by
  unfold Ck
  show c∈(Cr s ⟨[b]⟩).mergeSort bdLe ↔ _
  rw [(zS _ _).mem_iff]
  unfold Cr
  rw [hl1,hl2,zZ,List.mem_map]
  simp only [List.mem_singleton]
  constructor
  ·rintro (⟨d,h1,h2⟩ | h)
   ·exact .inl ⟨d,h1,h2.symm⟩
   ·exact .inr h
  ·rintro (⟨d,h1,h2⟩ | h)
   ·exact .inl ⟨d,h1,h2.symm⟩
   ·exact .inr h
 refine ⟨?_,fun w t hw v hvt=>?_⟩
 ·unfold Ck
  show ((Cr s ⟨[b]⟩).mergeSort bdLe).length=_
  rw [(zS _ _).length_eq]
  unfold Cr
  rw [hl1,hl2,zD,zT]; rfl
 ·have key:v≠b.var∧s.look v=none:=by
   have hterm:∀ z∈b.term.vs,z≠b.var∧s.look z=none:=fun z hz=>⟨fun e=>ho (e▸hz),ht z hz⟩
   rcases (hmem _).1 (Sb.XF hw) with ⟨d,hd,e⟩ | e
   ·simp only [Bd.mk.injEq] at e
    obtain ⟨rfl,rfl⟩:=e
    rcases Tm.Qdj d.term hvt with ⟨k1,k2⟩ | ⟨w',k1,t',k2,k3⟩
    ·rw [Su hb] at k2
     have hne:b.var≠v:=fun e=>by rw [if_pos e] at k2; cases k2
     exact ⟨fun e=>hne e.symm,hi _ _ (Sb.Lm hup hd) v k1⟩
    ·rw [Su hb] at k2
     split at k2
     ·obtain rfl:=Option.some.inj k2
      exact hterm v k3
     ·cases k2
   ·have e2:t=b.term:=by rw [←e]
    rw [e2] at hvt
    exact hterm v hvt
  refine (Sb.Jp hcup).2 fun c hcm e=>?_
  rcases (hmem c).1 hcm with ⟨d,hd,e2⟩ | e2
  ·have e3:c.var=d.var:=by rw [e2]
   exact (Sb.Jp hup).1 key.2 d hd (e3.symm.trans e)
  ·rw [e2] at e
   exact key.1 e.symm
theorem QbD {s:Sb} (hi:s.idem) {a c:Tm} (h1:BT s a=true) (h2:BT s c=true) (hv:(Aq (AK s a).name || Aq (AK s c).name)=true) :
  s.look (A1 (AK s a) (AK s c)).var=none∧∀ v∈(A1 (AK s a) (AK s c)).term.vs,s.look v=none:=by
 have ha:∀ v∈(AK s a).vs,s.look v=none:=fun v h=>by rw [Ec h1] at h; exact Sb.V8 hi h
 have hc:∀ v∈(AK s c).vs,s.look v=none:=fun v h=>by rw [Ec h2] at h; exact Sb.V8 hi h
 rcases Gi _ _ hv with ⟨e,k⟩ | ⟨e,k⟩
 ·rw [e]
  exact ⟨ha _ (by rw [Tm.G5,k]; simp),hc⟩
 ·rw [e]
  exact ⟨hc _ (by rw [Tm.G5,k]; simp),ha⟩
theorem uInv.bind {s:Sb} {p:Tm × Tm} {l:List (Tm × Tm)} (h:uInv s (p :: l)) (h1:BT s p.1=true) (h2:BT s p.2=true) (hv:(Aq (AK s p.1).name || Aq (AK s p.2).name)=true)
  (hb:BP (A1 (AK s p.1) (AK s p.2))=true) (hc:Cs s ⟨[A1 (AK s p.1) (AK s p.2)]⟩=true):uInv (Ck s ⟨[A1 (AK s p.1) (AK s p.2)]⟩) l∧(Ck s ⟨[A1 (AK s p.1) (AK s p.2)]⟩).binds.length=s.binds.length+1:=by
 obtain ⟨f1,f2⟩:=QbD h.idem h1 h2 hv
 unfold BP at hb
 rw [zA,yD] at hb
 obtain ⟨g1,g2⟩:=Qe1 h.ok h.idem hb.2 f1 f2 (CF.1 hb.1) hc
 refine ⟨⟨hc,g2,fun q hq=>h.ex q (by simp [hq]),[],l,rfl,fun q hq=>by simp at hq,by rw [HK]; omega,?_⟩,g1⟩
 obtain ⟨P,Q,e,k1,k2,k3⟩:=h.pq
 have hl:(p :: l).length=P.length+Q.length:=by rw [e,zD]
 have hP:=Sr P
 simp only [zB] at hl
 rw [g1]
 omega
noncomputable def apN (s:Sb):List (Tm × Tm)→Nat
 | []=>0
 | p :: l=>(p.1.ap s.look).nodes+apN s l
theorem QaE (s:Sb):∀ a b:List (Tm × Tm),apN s (a++b)=apN s a+apN s b
 | [],b=>by simp [apN]
 | p :: a,b=>by rw [zR,apN,apN,QaE s a b]; omega
theorem XJ (s:Sb):∀ l:List (Tm × Tm),(∀ p∈l,p.1.ap s.look=p.1)→apN s l=HK l
 | [],_=>by rw [apN,HK]
 | p :: l,h=>by rw [apN,HK,h p (by simp),XJ s l fun q hq=>h q (by simp [hq])]
theorem Qdl:∀ (k m:Nat) (s:Sb) (l:List (Tm × Tm)),uInv s l→12≤s.binds.length+k→apN s l≤m→∃ n r,BE n s l=some r:=by
 intro k
 induction k with
 | zero=>exact fun m=>uEnd 0 (fun h=>absurd h (by omega)) m
 | succ k ih=>exact fun m=>uEnd (k+1) (fun _ m s l=>ih m s l) m
where
 uEnd (k:Nat) (ih:0<k→∀ (m:Nat) (s:Sb) (l:List (Tm × Tm)),uInv s l→12≤s.binds.length+(k-1)→apN s l≤m→∃ n r,BE n s l=some r):∀ (m:Nat) (s:Sb) (l:List (Tm × Tm)),uInv s l→12≤s.binds.length+k→apN s l≤m→∃ n r,BE n s l=some r
  | m,s,[],h,hk,hm=>⟨1,some s,by rw [BE]⟩
  | m,s,p :: l,h,hk,hm=>by
   have hp:=Tm.LI (p.1.ap s.look)
   rw [apN] at hm
   obtain ⟨m,rfl⟩:∃ m',m=m'+1:=⟨m-1,by omega⟩
   cases h1:BT s p.1 with
   | false=>exact ⟨1,none,by rw [BE]; simp only [h1,yC,cond_false]⟩
   | true =>
    cases h2:BT s p.2 with
    | false=>exact ⟨1,none,by rw [BE]; simp only [h2,yI,cond_false]⟩
    | true =>
     cases h3:dec (AK s p.1=AK s p.2) with
     | true =>
      obtain ⟨n,r,hr⟩:=uEnd k ih m s l h.pop hk (by omega)
      exact ⟨n+1,r,by rw [BE]; simp only [h1,h2,h3,zM,cond_true]; exact hr⟩
     | false =>
      cases h4:Aq (AK s p.1).name || Aq (AK s p.2).name with
      | true =>
       cases h5:BP (A1 (AK s p.1) (AK s p.2))&&Cs s ⟨[A1 (AK s p.1) (AK s p.2)]⟩ with
       | false=>exact ⟨1,none,by rw [BE]; simp only [h1,h2,h3,h4,h5,zM,cond_true,cond_false]⟩
       | true =>
        have h5':=h5
        rw [zA] at h5'
        obtain ⟨g1,g2⟩:=h.bind h1 h2 h4 h5'.1 h5'.2
        have g3:=ok_len g1.ok
        obtain ⟨n,r,hr⟩:=ih (by omega) _ _ l g1 (by omega) (zV _)
        exact ⟨n+1,r,by rw [BE]; simp only [h1,h2,h3,h4,h5,zM,cond_true,cond_false]; exact hr⟩
      | false =>
       have h4':=h4
       rw [Bool.or_eq_false_iff] at h4'
       cases h5:dec ((AK s p.1).name=(AK s p.2).name)&&dec ((AK s p.1).args.length=(AK s p.2).args.length) with
       | false=>exact ⟨1,none,by rw [BE]; simp only [h1,h2,h3,h4,h5,zM,cond_true,cond_false]⟩
       | true =>
        have hz:=Ss (AK s p.1).args (AK s p.2).args
        have hs:=XJ s ((AK s p.1).args.zip (AK s p.2).args) fun q hq=>by
         obtain ⟨a,b⟩:=q
         exact Ux h.idem h1 h4'.1 (Qn hq).1
        have hn:=Tm.An (AK s p.1)
        rw [Ec h1] at hn
        rw [Ec h1] at hs hz
        obtain ⟨n,r,hr⟩:=uEnd k ih m s _ (h.dec h1 h2 h4'.1) hk (by rw [QaE,Ec h1,hs]; omega)
        exact ⟨n+1,r,by rw [BE]; simp only [h1,h2,h3,h4,h5,zM,cond_true,cond_false]; exact hr⟩
theorem uInv.start {a b:Tm} (ha:a.expr=true) (hb:b.expr=true):uInv ⟨[]⟩ [(a,b)]:=by
 have hok:(Sb.mk []).ok=true:=by unfold Sb.ok; simp [IZ]
 have hl:∀ n,(Sb.mk []).look n=none:=fun n=>(Sb.Jp (Sb.JV hok)).2 fun c hc=>by simp at hc
 exact ⟨hok,(fun w t h=>by rw [hl] at h; cases h),(fun p hp=>by
  have:p=(a,b):=by simpa using hp
  rw [this]; exact ⟨ha,hb⟩),[],[(a,b)],rfl,fun q hq=>absurd hq (by simp),by rw [HK]; omega,by simp⟩
theorem Z5 {a b:Tm} (ha:a.expr=true) (hb:b.expr=true):∃ n r,BE n ⟨[]⟩ [(a,b)]=some r:=Qdl 12 _ _ _ (uInv.start ha hb) (by omega) (zV _)
def Jq:SC:=(.seq (.reg [⟨some 2,none,.boxv 71 2 (.t 0)⟩,⟨some 4,none,.mv (.c (.int .i64 0))⟩]) (.seq (.reg [⟨some 5,none,.mv (.c (.int .i64 0))⟩]) (.seq (.seq (.reg [⟨some 8,none,.faddr 0 (.t 2)⟩,⟨some 9,none,.load false 1 (.t 8)⟩,⟨some 10,none,.mv (.t 1)⟩,⟨some 11,none,.bin .eql false (.t 9) (.t 10)⟩]) (.cond (.t 11) (.reg [⟨some 5,none,.mv (.c (.int .i64 1))⟩]) .skip)) (.seq (.seq (.reg [⟨some 12,none,.faddr 1 (.t 2)⟩,⟨some 13,none,.load false 1 (.t 12)⟩,⟨some 14,none,.len false (.t 13)⟩,⟨some 15,none,.mv (.c (.int .i64 0))⟩]) (.block 0 (.loop [0,1,0,0,0,1,0,0,0,0,0,0,0,1,1,1,0,0,0,0,0,0,0,0,0,0] (.seq (.reg [⟨some 16,none,.bin .lss false (.t 15) (.t 14)⟩]) (.seq (.cond (.t 16) .skip (.exit 0)) (.seq (.block 1 (.seq (.reg [⟨some 17,none,.iaddr 2 (.t 13) (.t 15)⟩,⟨some 18,none,.load true 2 (.t 17)⟩,⟨(some 7),none,(.alloc 71 [(.str ⟨#[]⟩),.nil])⟩,⟨none,none,(.store 2 (.t 7) (.t 18))⟩]) (.reg [⟨some 19,none,.mv (.t 5)⟩,⟨some 20,none,.load true 2 (.t 7)⟩,⟨some 21,none,.mv (.t 1)⟩,⟨some 22,none,.call 161 [(.t 20),(.t 21)]⟩,⟨some 23,none,.bin .add false (.t 19) (.t 22)⟩,⟨some 5,none,.mv (.t 23)⟩]))) (.reg [⟨some 24,none,.bin .add false (.t 15) (.c (.int .i64 1))⟩,⟨some 15,none,.mv (.t 24)⟩]))))))) (.seq (.reg [⟨some 25,none,.mv (.t 5)⟩,⟨some 4,none,.mv (.t 25)⟩]) .ret)))))
theorem Pc:codeOf Tryz.prog 161=some ⟨26,Jq,[(.tmp 4)]⟩:=by kernel_rfl
theorem FF:modes 161=⟨[],.asis,none,false⟩:=by unfold modes; rfl
mutual
noncomputable def Tm.cnt (n:ByteArray):Tm→Nat
 | .mk name args=>(bif dec (name=n) then 1 else 0)+Tm.Pd n args
noncomputable def Tm.Pd (n:ByteArray):List Tm→Nat
 | []=>0
 | x :: xs=>Tm.cnt n x+Tm.Pd n xs
end
theorem Tm.Z6 (n:ByteArray) (x:Tm):x.cnt n=(bif dec (x.name=n) then 1 else 0)+Tm.Pd n x.args:=by
 obtain ⟨a,b⟩:=x
 rw [Tm.cnt]; rfl
theorem Tm.QaF (n:ByteArray):∀ xs:List Tm,(∀ x∈xs,x.cnt n≤x.nodes)→Tm.Pd n xs≤Tm.Bb xs
 | [],_=>by rw [Tm.Pd]; omega
 | x :: xs,h=>by
  have h1:=h x (by simp)
  have h2:=Tm.QaF n xs fun y hy=>h y (by simp [hy])
  rw [Tm.Pd,Tm.Bb]; omega
theorem Tm.Qdm (n:ByteArray) (x:Tm):x.cnt n≤x.nodes:=by
 have h:=Tm.QaF n x.args fun y hy=>Tm.Qdm n y
 rw [Tm.Z6,Tm.An]
 cases dec (x.name=n) with
 | true=>simp only [cond_true]; omega
 | false=>simp only [cond_false]; omega
termination_by SizeOf.sizeOf x
decreasing_by exact Tm.Aw hy
theorem Tm.XK {n:ByteArray}:∀ {xs:List Tm},0<Tm.Pd n xs ↔ ∃ x∈xs,0<x.cnt n
 | []=>by rw [Tm.Pd]; simp
 | x :: xs=>by
  have h:=Tm.XK (n:=n) (xs:=xs)
  rw [Tm.Pd]
  constructor
  ·intro hp
   rcases yB (x.cnt n) with h0 | h0
   ·obtain ⟨y,h1,h2⟩:=h.1 (by omega)
    exact ⟨y,by simp [h1],h2⟩
   ·exact ⟨x,by simp,h0⟩
  ·rintro ⟨y,h1,h2⟩
   rcases zP.1 h1 with rfl | h1
   ·omega
   ·have:=h.2 ⟨y,h1,h2⟩; omega
theorem V9 (x:Tm) (n:ByteArray) (hn:x.nodes≤1099511627776) (ih:∀ y∈x.args,E 161 [y.sv,.str n] []=some (.int .i64 (y.cnt n:Nat),[])):E 161 [x.sv,.str n] []=some (.int .i64 (x.cnt n:Nat),[]):=by
 have hx:=Tm.An x
 have hl:=Tm.length_le x.args
 have hle:=Tm.Qdm n x
 have hc0:=Tm.Z6 n x
 have hsv:x.sv=.agg [.str x.name,.arr (x.args.map Tm.d)]:=rfl
 rw [hsv]
 obtain ⟨c0,hc0'⟩:∃ c0:Nat,c0=bif dec (x.name=n) then 1 else 0:=⟨_,rfl⟩
 rw [←hc0'] at hc0
 by_cases he:x.name=n
 all_goals
  have hq:=he
  first
   |rw [As he,cond_true] at hc0'
   |rw [Az he,cond_false] at hc0'
  first
   |have hq:=eq_true he
   |have hq:=eq_false he
  refine Af Pc FF (of_decide_eq_true rfl) ?_
  simp (disch:=omega) only [Jq,go_sem,Aa,hq]
  refine go_loop (α:=Int × (Nat)) (fun a=>⟨slots 26 0 [(1,.str n),(5,.int .i64 (((a.2):Nat):Int)),(13,.arr (x.args.map Tm.d)),(14,.int .i64 x.args.length),(15,.int .i64 (a.1))],[]⟩) (fun a=>∃ k:Nat,a.1=k∧k≤(x.args).length∧(a.2)+Tm.Pd n (x.args.drop k)=x.cnt n) (fun a=>(x.args).length-(a.1).toNat) (0,c0) ⟨0,rfl,zJ _,by rw [zN]; exact hc0.symm⟩ (by simp (disch:=omega) only [go_sem,Aa,hc0',Int.natCast_zero,Int.natCast_one]) ?_
  rintro ⟨i,acc⟩ ⟨k,hi,hk,hR⟩
  dsimp only at hi hR
  have hni:i.toNat=k:=by omega
  have hni1:(i+1).toNat=k+1:=by omega
  rcases zG k (x.args).length with hlt | hge
  ·have hg:=get_at Tm.d hlt
   rw [Tm.d_eq] at hg
   have hc:=ih x.args[k] (zH hlt)
   rw [zC hlt,Tm.Pd] at hR
   simp (disch:=omega) only [go_sem,Aa,hni,hg,hc,FF]
   exact ⟨(i+1,acc+x.args[k].cnt n),⟨k+1,by dsimp only; omega,hlt,by omega⟩,by dsimp only; omega,by simp⟩
  ·rw [zE hge,Tm.Pd] at hR
   simp (disch:=omega) only [go_sem,Aa,hni]
   try omega
theorem PC (x:Tm) (n:ByteArray) (hn:x.nodes≤1099511627776):E 161 [x.sv,.str n] []=some (.int .i64 (x.cnt n:Nat),[]) :=
 V9 x n hn fun y hy=>PC y n (by have:=Tm.AU hy; have:=Tm.An x; omega)
termination_by SizeOf.sizeOf x
decreasing_by exact Tm.Aw hy
def Mq:SC:=(.seq (.reg [⟨some 3,none,.boxv 71 2 (.t 1)⟩,⟨some 4,none,.mv (.c (.bool false))⟩]) (.seq (.reg [⟨some 5,none,.load true 2 (.t 3)⟩,⟨some 6,none,.mv (.t 0)⟩,⟨some 7,none,.call 161 [(.t 5),(.t 6)]⟩,⟨some 8,none,.bin .gtr false (.t 7) (.c (.int .i64 0))⟩,⟨some 4,none,.mv (.t 8)⟩]) .ret))
theorem Tj:codeOf Tryz.prog 130=some ⟨9,Mq,[(.tmp 4)]⟩:=by kernel_rfl
theorem Cm:modes 130=⟨[],.asis,none,false⟩:=by unfold modes; rfl
theorem Tm.QaG {n:ByteArray} (hn:Aq n=true) (x:Tm) (hx:Aq x.name=true→x.args=[]) (ih:∀ y∈x.args,(0<y.cnt n ↔ n∈y.vs)):0<x.cnt n ↔ n∈x.vs:=by
 rw [Tm.Z6,Tm.G5]
 cases hv:Aq x.name with
 | true =>
  rw [hx hv,Tm.Pd,cond_true]
  by_cases h:x.name=n
  ·rw [As h,h]; simp
  ·rw [Az h]
   simp only [cond_false,List.mem_singleton]
   exact ⟨fun k=>absurd k (by omega),fun k=>absurd k.symm h⟩
 | false =>
  have h:¬ x.name=n:=fun e=>by rw [e,hn] at hv; cases hv
  rw [Az h,cond_false,cond_false,Nat.zero_add,Tm.XK,Tm.vsL_mem]
  constructor
  ·rintro ⟨y,h1,h2⟩; exact ⟨y,h1,(ih y h1).1 h2⟩
  ·rintro ⟨y,h1,h2⟩; exact ⟨y,h1,(ih y h1).2 h2⟩
theorem Tm.Qdn {n:ByteArray} (hn:Aq n=true) (x:Tm) (hx:x.names=true):0<x.cnt n ↔ n∈x.vs :=
 Tm.QaG hn x (Tm.FA hx) fun y hy=>Tm.Qdn hn y (Tm.ES hx hy)
termination_by SizeOf.sizeOf x
decreasing_by exact Tm.Aw hy
theorem Tm.Qff {n:ByteArray} (hn:Aq n=true) (x:Tm) (hx:x.expr=true):dec ((0:Int)<(x.cnt n:Nat))=dec (n∈x.vs):=by
 have h:=Tm.QaG hn x (Tm.Xf hx) fun y hy=>Tm.Qdn hn y (Tm.Jc hx hy)
 refine EY ?_
 rw [←h]; omega
theorem Tm.E3 {x:Tm} (h:x.expr=true):x.cok=true:=by
 rcases Tm.JG h with hn | ⟨he,ha⟩
 ·exact Tm.IV x hn
 ·have hname:x.name=⟨#[61]⟩:=by unfold Tm.eqn at he; exact Ax.1 he
  have hc:KA ⟨#[61]⟩=true:=by kernel_rfl
  rw [Tm.KB,hname,hc,yJ]
  have key:∀ xs:List Tm,(∀ y∈xs,y.names=true)→Tm.SL xs=true:=by
   intro xs
   induction xs with
   | nil=>intro _; rw [Tm.SL]
   | cons y ys ih=>intro hh; rw [Tm.SL,Tm.IV y (hh y (by simp)),ih fun z hz=>hh z (by simp [hz])]; rfl
  exact key _ fun y hy=>Tm.Jc h hy
theorem XL (n:ByteArray) (hn:Aq n=true) (x:Tm) (hx:x.expr=true):E 130 [.str n,x.sv] []=some (.bool (dec (n∈x.vs)),[]):=by
 have h:=PC x n (by have:=Tm.Ar hx; omega)
 rw [←Tm.Qff hn x hx]
 refine Af Tj Cm (of_decide_eq_true rfl) ?_
 simp (disch:=omega) only [Mq,go_sem,Aa,h,FF]
def By:SC:=(.seq (.reg [⟨some 1,none,.boxv 107 4 (.t 0)⟩,⟨some 2,none,.alloc 76 [.nil]⟩,⟨some 3,none,.mv (.c (.bool false))⟩]) (.seq (.dreg [[],[0],[],[2],[],[],[4,1,0,5],[5,3,2,6,4,1,0]] [⟨some 7,none,.faddr 0 (.t 1)⟩,⟨some 8,none,.load true 2 (.t 7)⟩,⟨some 9,none,.faddr 2 (.t 1)⟩,⟨some 10,none,.load true 2 (.t 9)⟩,⟨(some 4),none,(.alloc 71 [(.str ⟨#[]⟩),.nil])⟩,⟨(some 5),none,(.alloc 71 [(.str ⟨#[]⟩),.nil])⟩,⟨none,none,(.store 2 (.t 4) (.t 8))⟩,⟨none,none,(.store 2 (.t 5) (.t 10))⟩]) (.seq (.seq (.reg [⟨some 11,none,.load true 2 (.t 4)⟩,⟨some 12,none,.call 89 [(.t 11)]⟩,⟨some 13,none,.un .not (.t 12)⟩,⟨some 14,none,.mv (.t 13)⟩,⟨(some 15),(some (14,false)),(.load true 2 (.t 5))⟩,⟨(some 16),(some (14,false)),(.call 89 [(.t 15)])⟩,⟨(some 17),(some (14,false)),(.mv (.t 16))⟩,⟨(some 18),(some (17,true)),(.faddr 0 (.t 5))⟩,⟨(some 19),(some (17,true)),(.load false 1 (.t 18))⟩,⟨(some 20),(some (17,true)),(.faddr 0 (.t 4))⟩,⟨(some 21),(some (17,true)),(.load false 1 (.t 20))⟩,⟨(some 22),(some (17,true)),(.bin .gtr false (.t 19) (.t 21))⟩,⟨(some 23),(some (14,false)),(.pick (.t 17) (.t 22) (.c (.bool false)))⟩,⟨some 24,none,.pick (.t 14) (.c (.bool true)) (.t 23)⟩]) (.cond (.t 24) (.reg [⟨some 25,none,.load true 2 (.t 5)⟩,⟨some 26,none,.load true 2 (.t 4)⟩,⟨none,none,(.store 2 (.t 4) (.t 25))⟩,⟨none,none,(.store 2 (.t 5) (.t 26))⟩]) .skip)) (.seq (.reg [⟨some 27,none,.faddr 0 (.t 4)⟩,⟨some 28,none,.load false 1 (.t 27)⟩,⟨some 29,none,.load true 2 (.t 5)⟩,⟨(some 30),none,(.build [(.str ⟨#[]⟩),(.str ⟨#[]⟩),.nil] [(0,(1,(.t 28))),(1,(2,(.t 29)))])⟩,⟨(some 31),none,(.mkrow 139 3 [(.str ⟨#[]⟩),(.str ⟨#[]⟩),.nil] 1 [(0,(.t 30))])⟩,⟨some 32,none,.build [.nil] [(0,(1,(.t 31)))]⟩,⟨some 6,none,.alloc 76 [.nil]⟩,⟨none,none,(.store 1 (.t 6) (.t 32))⟩]) (.seq (.dreg [[],[],[1],[],[2,1,3],[4,2,1,3],[5,4,2,1,3],[6,5,4,2,1,3],[7,6,5,4,2,1,3],[6,5,4,2,1,3,8,7],[0,8,7,6,5,4,2,1,3],[9,6,5,4,2,1,3,8,7,10,0]] [⟨some 33,none,.load true 1 (.t 6)⟩,⟨some 34,none,.faddr 0 (.t 4)⟩,⟨some 35,none,.load false 1 (.t 34)⟩,⟨some 36,none,.load true 2 (.t 5)⟩,⟨some 37,none,.call 130 [(.t 35),(.t 36)]⟩,⟨some 38,none,.un .not (.t 37)⟩,⟨some 39,none,.mv (.t 38)⟩,⟨(some 40),(some (39,true)),(.load true 1 (.t 6))⟩,⟨(some 41),(some (39,true)),(.call 131 [(.t 40)])⟩,⟨some 42,none,.pick (.t 39) (.t 41) (.c (.bool false))⟩,⟨none,none,(.store 1 (.t 2) (.t 33))⟩,⟨some 3,none,.mv (.t 42)⟩]) .ret)))))
theorem BF:codeOf Tryz.prog 90=some ⟨43,By,[(.cell 2 true 1),(.tmp 3)]⟩:=by kernel_rfl
theorem Ae:modes 90=⟨[],.frz,none,false⟩:=by unfold modes; rfl
def IF:SC:=(.seq (.reg [⟨some 3,none,.boxv 76 1 (.t 0)⟩,⟨some 5,none,.boxv 71 2 (.t 2)⟩,⟨some 6,none,.alloc 76 [.nil]⟩,⟨some 7,none,.mv (.c (.bool false))⟩]) (.seq (.seq (.reg [⟨some 8,none,.load true 2 (.t 5)⟩,⟨some 9,none,.call 114 [(.t 8)]⟩,⟨some 10,none,.mv (.t 1)⟩,⟨some 11,none,.call 113 [(.t 9),(.t 10)]⟩]) (.cond (.t 11) (.seq (.reg [⟨some 12,none,.load true 1 (.t 3)⟩,⟨none,none,(.store 1 (.t 6) (.t 12))⟩,⟨some 7,none,.mv (.c (.bool false))⟩]) .ret) .skip)) (.seq (.dreg [[],[],[],[],[1,2,3],[0,4,1,2,3],[5,0,4,1,2,3],[5,0,4,1,2,3],[6,5,0,4,1,2,3,7],[7,5,0,4,1,2,3,8,6]] [⟨some 13,none,.load true 1 (.t 3)⟩,⟨some 14,none,.build [.nil] []⟩,⟨some 15,none,.mv (.t 1)⟩,⟨some 16,none,.load true 2 (.t 5)⟩,⟨some 17,none,.call 116 [(.t 14),(.t 15),(.t 16)]⟩,⟨some 18,none,.call 115 [(.t 13),(.t 17)]⟩,⟨some 19,none,.ext (.t 18) 0⟩,⟨some 20,none,.ext (.t 18) 1⟩,⟨none,none,(.store 1 (.t 6) (.t 19))⟩,⟨some 7,none,.mv (.t 20)⟩]) .ret)))
theorem Mr:codeOf Tryz.prog 78=some ⟨21,IF,[(.cell 6 true 1),(.tmp 7)]⟩:=by kernel_rfl
theorem Al:modes 78=⟨[],.frz,none,false⟩:=by unfold modes; rfl
theorem Hz {b:Bd} (h:b.term.nodes≤1099511627776):(Sb.mk [b]).tame:=⟨by simp,fun y hy=>by
 have:y=b:=by simpa using hy
 rw [this]; exact h⟩
theorem Ii (x y:Tm) (hx:x.expr=true) (hy:y.expr=true) (hv:(Aq x.name || Aq y.name)=true):E 90 [.agg [.str x.name,.arr (x.args.map Tm.d),.str y.name,.arr (y.args.map Tm.d)]] []=some (.tup [(Sb.mk [A1 x y]).sv,.bool (BP (A1 x y))],[]):=by
 have h1:=De x (Tm.E3 hx)
 have h2:=De y (Tm.E3 hy)
 have n1:=Tm.Ar hx
 have n2:=Tm.Ar hy
 have hor:(A1 x y=⟨x.name,y⟩∧Aq x.name=true∧(Aq y.name&&strLt x.name y.name)=false)∨(A1 x y=⟨y.name,x⟩∧Aq y.name=true∧(Aq x.name=false∨(Aq y.name&&strLt x.name y.name)=true)):=by
  unfold A1
  cases h1:Aq x.name with
  | true =>
   cases h3:Aq y.name&&strLt x.name y.name with
   | true=>rw [zA] at h3; exact .inr ⟨rfl,h3.1,.inr (by rfl)⟩
   | false=>exact .inl ⟨rfl,rfl,rfl⟩
  | false =>
   rw [h1,Bool.false_or] at hv
   exact .inr ⟨rfl,hv,.inl (by rfl)⟩
 rcases hor with ⟨e,k1,k2⟩ | ⟨e,k1,k2⟩
 ·rw [e]
  have ho:=XL x.name k1 y hy
  have hi:=DI ⟨[⟨x.name,y⟩]⟩ (Hz (by show y.nodes≤_; omega))
  have hsv:(Sb.mk [⟨x.name,y⟩]).sv=.agg [.arr [[.str x.name,.str y.name,.arr (y.args.map Tm.d)]]]:=rfl
  rw [hsv] at hi ⊢
  unfold BP
  rw [k1] at h1
  cases hv2:Aq y.name with
  | false =>
   rw [hv2] at h2
   cases hb:dec (x.name∈y.vs) with
   | true =>
    rw [hb] at ho
    refine Af BF Ae (of_decide_eq_true rfl) ?_
    simp (disch:=omega) only [By,go_sem,Aa,h1,h2,ho,hi,hb,Ak,Cm,Ay]
   | false =>
    rw [hb] at ho
    refine Af BF Ae (of_decide_eq_true rfl) ?_
    simp (disch:=omega) only [By,go_sem,Aa,h1,h2,ho,hi,hb,Ak,Cm,Ay]
  | true =>
   rw [hv2] at h2 k2
   rw [yJ] at k2
   cases hb:dec (x.name∈y.vs) with
   | true =>
    rw [hb] at ho
    refine Af BF Ae (of_decide_eq_true rfl) ?_
    simp (disch:=omega) only [By,go_sem,Aa,h1,h2,ho,hi,hb,k2,IY,yF,Ak,Cm,Ay]
   | false =>
    rw [hb] at ho
    refine Af BF Ae (of_decide_eq_true rfl) ?_
    simp (disch:=omega) only [By,go_sem,Aa,h1,h2,ho,hi,hb,k2,IY,yF,Ak,Cm,Ay]
 ·rw [e]
  have ho:=XL y.name k1 x hx
  have hi:=DI ⟨[⟨y.name,x⟩]⟩ (Hz (by show x.nodes≤_; omega))
  have hsv:(Sb.mk [⟨y.name,x⟩]).sv=.agg [.arr [[.str y.name,.str x.name,.arr (x.args.map Tm.d)]]]:=rfl
  rw [hsv] at hi ⊢
  unfold BP
  rw [k1] at h2 k2
  rw [yJ] at k2
  cases hv1:Aq x.name with
  | false =>
   rw [hv1] at h1
   cases hb:dec (y.name∈x.vs) with
   | true =>
    rw [hb] at ho
    refine Af BF Ae (of_decide_eq_true rfl) ?_
    simp (disch:=omega) only [By,go_sem,Aa,h1,h2,ho,hi,hb,Ak,Cm,Ay]
   | false =>
    rw [hb] at ho
    refine Af BF Ae (of_decide_eq_true rfl) ?_
    simp (disch:=omega) only [By,go_sem,Aa,h1,h2,ho,hi,hb,Ak,Cm,Ay]
  | true =>
   rw [hv1] at h1 k2
   have k2:strLt x.name y.name=true:=k2.elim (fun h=>by cases h) id
   cases hb:dec (y.name∈x.vs) with
   | true =>
    rw [hb] at ho
    refine Af BF Ae (of_decide_eq_true rfl) ?_
    simp (disch:=omega) only [By,go_sem,Aa,h1,h2,ho,hi,hb,k2,IY,yF,Ak,Cm,Ay]
   | false =>
    rw [hb] at ho
    refine Af BF Ae (of_decide_eq_true rfl) ?_
    simp (disch:=omega) only [By,go_sem,Aa,h1,h2,ho,hi,hb,k2,IY,yF,Ak,Cm,Ay]
theorem Cv (s:Sb) (hs:s.ok=true) (n:ByteArray) (t:Tm) (ht:t.expr=true) (hne:t.name=n→n∈t.vs):∃ r:Sb,E 78 [s.sv,.str n,t.sv] []=some (.tup [r.sv,.bool (BP ⟨n,t⟩&&Cs s ⟨[⟨n,t⟩]⟩)],[])∧((BP ⟨n,t⟩&&Cs s ⟨[⟨n,t⟩]⟩)=true→r=Ck s ⟨[⟨n,t⟩]⟩):=by
 have n1:=Tm.Ar ht
 have h1:=Qdi t (by omega)
 have hl:=Sq t.vs []
 have hvl:=Tm.vs_len t
 have h2:=Qdb (Km [] t.vs) n (by simp only [zU] at hl; omega)
 have e1:dec (n∈Km [] t.vs)=dec (n∈t.vs):=EY (by rw [XD]; simp)
 rw [e1] at h2
 have hss:s.sv=.agg [.arr (s.binds.map Bd.d)]:=rfl
 cases hb:dec (n∈t.vs) with
 | true =>
  rw [hb] at h2
  refine ⟨s,?_,fun h=>?_⟩
  ·have e2:BP ⟨n,t⟩=false:=by
    unfold BP
    show (!dec (n∈t.vs)&&_)=false
    rw [hb]; rfl
   rw [e2,yC,hss]
   refine Af Mr Al (of_decide_eq_true rfl) ?_
   simp (disch:=omega) only [IF,go_sem,Aa,h1,h2,IE,Gg]
  ·unfold BP at h
   have h:((!dec (n∈t.vs)&&_)&&_)=true:=h
   rw [hb] at h; cases h
 | false =>
  rw [hb] at h2
  have hnn:¬ t.name=n:=fun e=>CF.1 hb (hne e)
  have h3:=V6 ⟨[]⟩ n t (by show 0≤_; omega) (by omega)
  have hput:(Sb.mk []).put ⟨n,t⟩=⟨[⟨n,t⟩]⟩:=by
   unfold Sb.put
   rw [Az hnn]; rfl
  rw [hput] at h3
  have hpsv:(Sb.mk [⟨n,t⟩]).sv=.agg [.arr [[.str n,.str t.name,.arr (t.args.map Tm.d)]]]:=rfl
  have htame:s.tame:=⟨by have:=ok_len hs; omega,fun c hc=>by
   obtain ⟨k,hk,rfl⟩:=zI hc
   have:=Eh (D0 (Sb.JW hs hk)); omega⟩
  have h4:=Th s ⟨[⟨n,t⟩]⟩ htame (Hz (by show t.nodes≤_; omega))
  have e0:(Sb.mk []).sv=.agg [.arr []]:=rfl
  rw [e0,hpsv] at h3
  rw [hpsv] at h4
  have e2:Tg s ⟨[⟨n,t⟩]⟩=(BP ⟨n,t⟩&&Cs s ⟨[⟨n,t⟩]⟩):=by
   unfold Tg BP
   show _=((!dec (n∈t.vs)&&_)&&_)
   rw [hs,hb]; rfl
  rw [e2] at h4
  refine ⟨XA s ⟨[⟨n,t⟩]⟩,?_,fun h=>?_⟩
  ·have hrs:(XA s ⟨[⟨n,t⟩]⟩).sv=.agg [.arr ((XA s ⟨[⟨n,t⟩]⟩).binds.map Bd.d)]:=rfl
   rw [hss] at h4 ⊢
   rw [hrs] at h4 ⊢
   refine Af Mr Al (of_decide_eq_true rfl) ?_
   simp (disch:=omega) only [IF,go_sem,Aa,h1,h2,h3,h4,IE,Gg,C1,Bs]
  ·unfold XA
   rw [e2,h]; rfl
def eqD (p:Tm × Tm):List D:=[.str p.1.name,.arr (p.1.args.map Tm.d),.str p.2.name,.arr (p.2.args.map Tm.d)]
def eqO (p:Tm × Tm):List OT:=[.str p.1.name,.sh (p.1.args.map Tm.d),.str p.2.name,.sh (p.2.args.map Tm.d)]
theorem Sv:∀ l:List (Tm × Tm),OT.erss (l.map eqO)=l.map eqD
 | []=>rfl
 | p :: l=>by rw [zF,zF,OT.erss,Sv l]; rfl
theorem Sw:∀ l:List (Tm × Tm),OT.AM (l.map eqO)=true
 | []=>rfl
 | p :: l=>by rw [zF,OT.AM,Sw l]; rfl
theorem Ln (l:List (Tm × Tm)):(l.map eqD).map (fun x=>x.map D.ot)=l.map eqO:=by rw [zW]; rfl
theorem Ij (l:List (Tm × Tm)):((l.map eqO).all fun x=>x.length == 4)=true:=by
 rw [zY,zO]; intro x _; rfl
theorem Qo (l:List (Tm × Tm)):((l.map eqD).all fun x=>x.length == 4)=true:=by
 rw [zY,zO]; intro x _; rfl
noncomputable def uTo (t:Option Sb):Sb:=t.getD ⟨[]⟩
def uOk (t:Option Sb):Bool:=t.isSome
theorem ED {s:Sb} (hs:s.ok=true):s.tame:=⟨by have:=ok_len hs; omega,fun c hc=>by
 obtain ⟨k,hk,rfl⟩:=zI hc
 have:=Eh (D0 (Sb.JW hs hk)); omega⟩
theorem Gj {α β:Type} {xs:List α} {ys:List β} {k:Nat} (h:k<xs.length) (h':k<ys.length):(xs.zip ys).take k++[(xs[k],ys[k])]=(xs.zip ys).take (k+1):=by
 have hz:k<(xs.zip ys).length:=by rw [List.length_zip]; omega
 rw [List.take_succ_eq_append_getElem hz,List.getElem_zip]
theorem Qp:∀ (n:Nat) (s:Sb) (l:List (Tm × Tm)) (r:Sb),uInv s l→BE n s l=some (some r)→r.ok=true
 | 0,s,l,r,h,e=>by rw [BE] at e; cases e
 | n+1,s,[],r,h,e=>by
  rw [BE] at e
  simp only [Option.some.injEq] at e
  rw [←e]; exact h.ok
 | n+1,s,p :: l,r,h,e=>by
  rw [BE] at e
  cases h1:BT s p.1 with
  | false=>simp only [h1,yC,cond_false] at e; cases e
  | true =>
   cases h2:BT s p.2 with
   | false=>simp only [h2,yI,cond_false] at e; cases e
   | true =>
    cases h3:dec (AK s p.1=AK s p.2) with
    | true =>
     simp only [h1,h2,h3,zM,cond_true] at e
     exact Qp n s l r h.pop e
    | false =>
     cases h4:Aq (AK s p.1).name || Aq (AK s p.2).name with
     | true =>
      cases h5:BP (A1 (AK s p.1) (AK s p.2))&&Cs s ⟨[A1 (AK s p.1) (AK s p.2)]⟩ with
      | false=>simp only [h1,h2,h3,h4,h5,zM,cond_true,cond_false] at e; cases e
      | true =>
       simp only [h1,h2,h3,h4,h5,zM,cond_true,cond_false] at e
       rw [zA] at h5
       exact Qp n _ l r (h.bind h1 h2 h4 h5.1 h5.2).1 e
     | false =>
      have h4':=h4
      rw [Bool.or_eq_false_iff] at h4'
      cases h5:dec ((AK s p.1).name=(AK s p.2).name)&&dec ((AK s p.1).args.length=(AK s p.2).args.length) with
      | false=>simp only [h1,h2,h3,h4,h5,zM,cond_true,cond_false] at e; cases e
      | true =>
       simp only [h1,h2,h3,h4,h5,zM,cond_true,cond_false] at e
       exact Qp n s _ r (h.dec h1 h2 h4'.1) e
open Classical in
noncomputable def unR (a b:Tm):Option Sb:=if h:∃ r,∃ n,BE n ⟨[]⟩ [(a,b)]=some r then h.choose else none
theorem Sx {a b:Tm} (ha:a.expr=true) (hb:b.expr=true):∃ n,BE n ⟨[]⟩ [(a,b)]=some (unR a b):=by
 obtain ⟨n,r,h⟩:=Z5 ha hb
 have he:∃ r,∃ n,BE n ⟨[]⟩ [(a,b)]=some r:=⟨r,n,h⟩
 unfold unR
 rw [dif_pos he]
 exact he.choose_spec
theorem Qdo {a b:Tm} (ha:a.expr=true) (hb:b.expr=true) {s:Sb} (h:unR a b=some s):s.ok=true:=by
 obtain ⟨n,hn⟩:=Sx ha hb
 rw [h] at hn
 exact Qp n _ _ s (uInv.start ha hb) hn
theorem Qf4 {p:Prop} (h:dec p=false):¬ p:=fun hp=>by rw [As hp] at h; cases h
noncomputable def Gk (s:Sb) (l:List Lt):Bool:=Et s l&&(nz 10 (apC s l)).norm
noncomputable def Tk (s:Sb) (l:List Lt):Cl:=if Gk s l then nz 10 (apC s l) else ⟨[]⟩
theorem Qq {s:Sb} {l:List Lt} (h:Gk s l=false):Tk s l=⟨[]⟩:=by unfold Tk; rw [if_neg (by rw [h]; simp)]
theorem Sy {s:Sb} {l:List Lt} (h:Gk s l=true):Tk s l=nz 10 (apC s l):=by unfold Tk; rw [if_pos h]
theorem Z7 {s:Sb} {l:List Lt} (h:Et s l=true):(apC s l).ok=true:=by
 rw [Vw h]
 unfold Et at h
 rw [zA] at h
 exact h.2
theorem XM {c:Cl} (h:c.ok=true):c.tame:=⟨by have:=Cl.ok_len h; omega,fun y hy=>by have:=Tm.CB (Cl.Dl h y hy); omega⟩
noncomputable def hasB (c:Cl) (i:Int):Bool:=dec (0≤i)&&dec (i≤(c.lits.length:Int)-1)
theorem Oa {c:Cl} {i:Int} (h:hasB c i=true):∃ p:Nat,i=p∧p<c.lits.length:=by
 unfold hasB at h
 rw [zA] at h
 have h1:=Ax.1 h.1
 have h2:=Ax.1 h.2
 exact ⟨i.toNat,by omega,by omega⟩
noncomputable def Tl (c:Cl) (i:Int):Lt:=(c.lits[i.toNat]?).getD ⟨false,.mk ⟨#[]⟩ []⟩
theorem Qr {c:Cl} {p:Nat} (h:p<c.lits.length):Tl c (p:Int)=c.lits[p]:=by
 unfold Tl
 rw [Int.toNat_natCast,List.getElem?_eq_getElem h]; rfl
noncomputable def IG (c:Cl) (i k:Int):Bool:=hasB c i&&(hasB c k&&(dec (i<k)&&((Tl c i).pos == (Tl c k).pos)))
noncomputable def VA (c:Cl) (i k:Int):Option Sb:=bif IG c i k then unR (Tl c i).atom (Tl c k).atom else none
noncomputable def Ik (c:Cl) (i k:Int):Bool:=match VA c i k with
 | none=>false
 | some s=>Gk s (c.lits.eraseIdx k.toNat)
noncomputable def MP (c:Cl) (i k:Int):Cl:=match VA c i k with
 | none=>⟨[]⟩
 | some s=>Tk s (c.lits.eraseIdx k.toNat)
theorem IH {c:Cl} {i k:Int} (h:VA c i k=none):Ik c i k=false∧MP c i k=⟨[]⟩:=by
 unfold Ik MP
 rw [h]
 exact ⟨rfl,rfl⟩
theorem XN {c:Cl} {i k:Int} {s:Sb} (h:VA c i k=some s):Ik c i k=Gk s (c.lits.eraseIdx k.toNat)∧MP c i k=Tk s (c.lits.eraseIdx k.toNat):=by
 unfold Ik MP
 rw [h]
 exact ⟨rfl,rfl⟩
theorem Il {c:Cl} {i k:Int} (h:IG c i k=false):VA c i k=none:=by unfold VA; rw [h]; rfl
theorem XO {c:Cl} {i k:Int} (h:IG c i k=true):VA c i k=unR (Tl c i).atom (Tl c k).atom:=by unfold VA; rw [h]; rfl
theorem PD {c:Cl} (hc:c.ok=true) (k:Nat):∀ x∈c.lits.eraseIdx k,x.atom.atom=true:=fun x hx=>Cl.Dl hc x (List.mem_of_mem_eraseIdx hx)
theorem Uy {c:Cl} (hc:c.ok=true) (k:Nat):(c.lits.eraseIdx k).length≤8:=by
 have h1:=List.length_eraseIdx_le c.lits k
 have h2:=Cl.ok_len hc
 omega
theorem Ew {n:ByteArray} {t:Tm} (hv:Aq n=true):t.name=n→n∈t.vs:=fun e=>by rw [Tm.G5,e,hv]; simp
abbrev u5b:SC:=(.seq (.seq (.reg [⟨some 22,none,.mv (.t 8)⟩,⟨some 23,none,.len false (.t 22)⟩,⟨some 24,none,.bin .gtr false (.t 23) (.c (.int .i64 0))⟩]) (.cond (.t 24) .skip (.exit 0))) (.block 1 (.seq (.dreg [[],[],[1],[2,1],[3,2,1],[0,4,3,2,1],[5,0,4,3,2,1],[6,5,0,4,3,2,1],[6,5,0,4,3,2,1],[],[9,7,6,5,0,4,3,2,1],[8,6,5,0,4,3,2,1,10,9,7]] [⟨some 26,none,.load true 1 (.t 7)⟩,⟨some 27,none,.mv (.t 8)⟩,⟨some 28,none,.iaddr 4 (.t 27) (.c (.int .i64 0))⟩,⟨some 29,none,.faddr 0 (.t 28)⟩,⟨some 30,none,.load true 2 (.t 29)⟩,⟨some 31,none,.call 76 [(.t 26),(.t 30)]⟩,⟨some 25,none,.mv (.t 31)⟩,⟨some 32,none,.ext (.t 25) 0⟩,⟨some 33,none,.ext (.t 25) 1⟩,⟨(some 9),none,(.alloc 71 [(.str ⟨#[]⟩),.nil])⟩,⟨none,none,(.store 2 (.t 9) (.t 32))⟩,⟨some 10,none,.mv (.t 33)⟩]) (.seq (.dreg [[],[],[1],[2,1],[3,2,1],[0,4,3,2,1],[5,0,4,3,2,1],[6,5,0,4,3,2,1],[6,5,0,4,3,2,1],[],[9,7,6,5,0,4,3,2,1],[8,6,5,0,4,3,2,1,10,9,7]] [⟨some 35,none,.load true 1 (.t 7)⟩,⟨some 36,none,.mv (.t 8)⟩,⟨some 37,none,.iaddr 4 (.t 36) (.c (.int .i64 0))⟩,⟨some 38,none,.faddr 2 (.t 37)⟩,⟨some 39,none,.load true 2 (.t 38)⟩,⟨some 40,none,.call 76 [(.t 35),(.t 39)]⟩,⟨some 34,none,.mv (.t 40)⟩,⟨some 41,none,.ext (.t 34) 0⟩,⟨some 42,none,.ext (.t 34) 1⟩,⟨(some 11),none,(.alloc 71 [(.str ⟨#[]⟩),.nil])⟩,⟨none,none,(.store 2 (.t 11) (.t 41))⟩,⟨some 12,none,.mv (.t 42)⟩]) (.seq (.seq (.reg [⟨some 43,none,.mv (.t 10)⟩,⟨some 44,none,.un .not (.t 43)⟩,⟨some 45,none,.mv (.t 44)⟩,⟨(some 46),(some (45,false)),(.mv (.t 12))⟩,⟨(some 47),(some (45,false)),(.un .not (.t 46))⟩,⟨some 48,none,.pick (.t 45) (.c (.bool true)) (.t 47)⟩]) (.cond (.t 48) (.seq (.reg [⟨some 49,none,.load true 1 (.t 6)⟩,⟨none,none,(.store 1 (.t 4) (.t 49))⟩,⟨some 5,none,.mv (.c (.bool false))⟩]) .ret) .skip)) (.seq (.reg [⟨some 50,none,.mv (.t 8)⟩,⟨some 51,none,.slice false 4 (.t 50) (some (.c (.int .i64 1))) none⟩,⟨some 8,none,.mv (.t 51)⟩]) (.seq (.reg [⟨some 13,none,.mv (.c (.bool true))⟩]) (.seq (.block 2 (.seq (.reg [⟨some 78,none,.load true 2 (.t 9)⟩,⟨some 79,none,.load true 2 (.t 11)⟩,⟨some 80,none,.call 68 [(.t 78),(.t 79)]⟩,⟨some 77,none,.mv (.t 80)⟩]) (.cond (.t 77) .skip (.seq (.reg [⟨some 82,none,.faddr 0 (.t 9)⟩,⟨some 83,none,.load false 1 (.t 82)⟩,⟨some 84,none,.call 77 [(.t 83)]⟩,⟨some 85,none,.mv (.t 84)⟩,⟨(some 86),(some (85,true)),(.faddr 0 (.t 11))⟩,⟨(some 87),(some (85,true)),(.load false 1 (.t 86))⟩,⟨(some 88),(some (85,true)),(.call 77 [(.t 87)])⟩,⟨some 89,none,.pick (.t 85) (.t 88) (.c (.bool false))⟩,⟨some 90,none,.mv (.t 89)⟩,⟨(some 91),(some (90,true)),(.faddr 0 (.t 9))⟩,⟨(some 92),(some (90,true)),(.load false 1 (.t 91))⟩,⟨(some 93),(some (90,true)),(.faddr 0 (.t 11))⟩,⟨(some 94),(some (90,true)),(.load false 1 (.t 93))⟩,⟨(some 95),(some (90,true)),(.bin .lss false (.t 92) (.t 94))⟩,⟨some 96,none,.pick (.t 90) (.t 95) (.c (.bool false))⟩,⟨some 81,none,.mv (.t 96)⟩]) (.cond (.t 81) (.reg [⟨some 98,none,.load true 1 (.t 7)⟩,⟨some 99,none,.faddr 0 (.t 11)⟩,⟨some 100,none,.load false 1 (.t 99)⟩,⟨some 101,none,.load true 2 (.t 9)⟩,⟨some 102,none,.call 78 [(.t 98),(.t 100),(.t 101)]⟩,⟨some 97,none,.mv (.t 102)⟩,⟨some 103,none,.ext (.t 97) 0⟩,⟨some 104,none,.ext (.t 97) 1⟩,⟨none,none,(.store 1 (.t 7) (.t 103))⟩,⟨some 13,none,.mv (.t 104)⟩]) (.seq (.reg [⟨some 106,none,.faddr 0 (.t 9)⟩,⟨some 107,none,.load false 1 (.t 106)⟩,⟨some 108,none,.call 77 [(.t 107)]⟩,⟨some 105,none,.mv (.t 108)⟩]) (.cond (.t 105) (.reg [⟨some 110,none,.load true 1 (.t 7)⟩,⟨some 111,none,.faddr 0 (.t 9)⟩,⟨some 112,none,.load false 1 (.t 111)⟩,⟨some 113,none,.load true 2 (.t 11)⟩,⟨some 114,none,.call 78 [(.t 110),(.t 112),(.t 113)]⟩,⟨some 109,none,.mv (.t 114)⟩,⟨some 115,none,.ext (.t 109) 0⟩,⟨some 116,none,.ext (.t 109) 1⟩,⟨none,none,(.store 1 (.t 7) (.t 115))⟩,⟨some 13,none,.mv (.t 116)⟩]) (.seq (.reg [⟨some 118,none,.faddr 0 (.t 11)⟩,⟨some 119,none,.load false 1 (.t 118)⟩,⟨some 120,none,.call 77 [(.t 119)]⟩,⟨some 117,none,.mv (.t 120)⟩]) (.cond (.t 117) (.reg [⟨some 122,none,.load true 1 (.t 7)⟩,⟨some 123,none,.faddr 0 (.t 11)⟩,⟨some 124,none,.load false 1 (.t 123)⟩,⟨some 125,none,.load true 2 (.t 9)⟩,⟨some 126,none,.call 78 [(.t 122),(.t 124),(.t 125)]⟩,⟨some 121,none,.mv (.t 126)⟩,⟨some 127,none,.ext (.t 121) 0⟩,⟨some 128,none,.ext (.t 121) 1⟩,⟨none,none,(.store 1 (.t 7) (.t 127))⟩,⟨some 13,none,.mv (.t 128)⟩]) (.seq (.reg [⟨some 130,none,.faddr 0 (.t 9)⟩,⟨some 131,none,.load false 1 (.t 130)⟩,⟨some 132,none,.faddr 0 (.t 11)⟩,⟨some 133,none,.load false 1 (.t 132)⟩,⟨some 134,none,.bin .neq false (.t 131) (.t 133)⟩,⟨some 135,none,.mv (.t 134)⟩,⟨(some 136),(some (135,false)),(.faddr 1 (.t 9))⟩,⟨(some 137),(some (135,false)),(.load false 1 (.t 136))⟩,⟨(some 138),(some (135,false)),(.len false (.t 137))⟩,⟨(some 139),(some (135,false)),(.faddr 1 (.t 11))⟩,⟨(some 140),(some (135,false)),(.load false 1 (.t 139))⟩,⟨(some 141),(some (135,false)),(.len false (.t 140))⟩,⟨(some 142),(some (135,false)),(.bin .neq false (.t 138) (.t 141))⟩,⟨some 143,none,.pick (.t 135) (.c (.bool true)) (.t 142)⟩,⟨some 129,none,.mv (.t 143)⟩]) (.cond (.t 129) (.seq (.reg [⟨some 144,none,.load true 1 (.t 6)⟩,⟨none,none,(.store 1 (.t 4) (.t 144))⟩,⟨some 5,none,.mv (.c (.bool false))⟩]) .ret) (.seq (.reg [⟨(some 52),none,(.mkrow 97 4 [(.str ⟨#[]⟩),.nil,(.str ⟨#[]⟩),.nil] 0 [])⟩,⟨some 14,none,.mv (.t 52)⟩]) (.seq (.seq (.reg [⟨some 15,none,.mv (.c (.int .i64 0))⟩]) (.block 3 (.loop [0,0,0,0,1,0,1,1,1,1,0,1,0,1,1,1,0,0,0,0,0,0,0,0,0,0,0,0,0,0,0,0,0,0,0,0,0,0,0,0,0,0,0,0,0,0,0,0,0,0,0,0,0,0,0,0,0,0,0,0,0,0,0,0,0,0,0,0,0,0,0,0,0,0,0,0,0,0,0,0,0,0,0,0,0,0,0,0,0,0,0,0,0,0,0,0,0,0,0,0,0,0,0,0,0,0,0,0,0,0,0,0,0,0,0,0,0,0,0,0,0,0,0,0,0,0,0,0,0,0,0,0,0,0,0,0,0,0,0,0,0,0,0,0,0,0,0,0,0] (.seq (.seq (.reg [⟨some 53,none,.mv (.t 15)⟩,⟨some 54,none,.faddr 1 (.t 9)⟩,⟨some 55,none,.load false 1 (.t 54)⟩,⟨some 56,none,.len false (.t 55)⟩,⟨some 57,none,.bin .lss false (.t 53) (.t 56)⟩]) (.cond (.t 57) .skip (.exit 3))) (.seq (.block 4 (.dreg [[],[],[1],[],[2,1,3],[4,2,1,3],[],[6],[],[7,6,8],[9,7,6,8],[5,4,2,1,3,10,9,7,6,8],[11,5,4,2,1,3,10,9,7,6,8],[0,12,11,5,4,2,1,3,10,9,7,6,8],[13,0,12,11,5,4,2,1,3,10,9,7,6,8]] [⟨some 60,none,.mv (.t 14)⟩,⟨some 61,none,.faddr 1 (.t 9)⟩,⟨some 62,none,.load false 1 (.t 61)⟩,⟨some 63,none,.mv (.t 15)⟩,⟨some 64,none,.iaddr 2 (.t 62) (.t 63)⟩,⟨some 65,none,.load true 2 (.t 64)⟩,⟨some 66,none,.faddr 1 (.t 11)⟩,⟨some 67,none,.load false 1 (.t 66)⟩,⟨some 68,none,.mv (.t 15)⟩,⟨some 69,none,.iaddr 2 (.t 67) (.t 68)⟩,⟨some 70,none,.load true 2 (.t 69)⟩,⟨(some 71),none,(.build [(.str ⟨#[]⟩),.nil,(.str ⟨#[]⟩),.nil] [(0,(2,(.t 65))),(2,(2,(.t 70)))])⟩,⟨(some 72),none,(.mkrow 97 4 [(.str ⟨#[]⟩),.nil,(.str ⟨#[]⟩),.nil] 1 [(0,(.t 71))])⟩,⟨(some 73),none,(.append 97 4 80 [(.str ⟨#[]⟩),.nil,(.str ⟨#[]⟩),.nil] (.t 60) (.t 72))⟩,⟨some 14,none,.mv (.t 73)⟩])) (.reg [⟨some 58,none,.mv (.t 15)⟩,⟨some 59,none,.bin .add false (.t 58) (.c (.int .i64 1))⟩,⟨some 15,none,.mv (.t 59)⟩])))))) (.reg [⟨some 74,none,.mv (.t 14)⟩,⟨some 75,none,.mv (.t 8)⟩,⟨(some 76),none,(.append 97 4 80 [(.str ⟨#[]⟩),.nil,(.str ⟨#[]⟩),.nil] (.t 74) (.t 75))⟩,⟨some 8,none,.mv (.t 76)⟩])))))))))))))) (.seq (.reg [⟨some 145,none,.mv (.t 13)⟩,⟨some 146,none,.un .not (.t 145)⟩]) (.cond (.t 146) (.seq (.reg [⟨some 147,none,.load true 1 (.t 6)⟩,⟨none,none,(.store 1 (.t 4) (.t 147))⟩,⟨some 5,none,.mv (.c (.bool false))⟩]) .ret) .skip))))))))))
abbrev u5r:SC:=(.seq (.reg [⟨some 148,none,.load true 1 (.t 7)⟩,⟨none,none,(.store 1 (.t 4) (.t 148))⟩,⟨some 5,none,.mv (.c (.bool true))⟩]) .ret)
def Lo:SC:=(.seq (.reg [⟨some 2,none,.boxv 71 2 (.t 0)⟩,⟨some 3,none,.boxv 71 2 (.t 1)⟩,⟨some 4,none,.alloc 76 [.nil]⟩,⟨some 5,none,.mv (.c (.bool false))⟩]) (.seq (.reg [⟨some 16,none,.build [.nil] []⟩,⟨some 6,none,.alloc 76 [.nil]⟩,⟨none,none,(.store 1 (.t 6) (.t 16))⟩]) (.seq (.reg [⟨some 17,none,.build [.nil] []⟩,⟨some 7,none,.alloc 76 [.nil]⟩,⟨none,none,(.store 1 (.t 7) (.t 17))⟩]) (.seq (.reg [⟨some 18,none,.load true 2 (.t 2)⟩,⟨some 19,none,.load true 2 (.t 3)⟩,⟨(some 20),none,(.build [(.str ⟨#[]⟩),.nil,(.str ⟨#[]⟩),.nil] [(0,(2,(.t 18))),(2,(2,(.t 19)))])⟩,⟨(some 21),none,(.mkrow 97 4 [(.str ⟨#[]⟩),.nil,(.str ⟨#[]⟩),.nil] 1 [(0,(.t 20))])⟩,⟨some 8,none,.mv (.t 21)⟩]) (.seq (.block 0 (.loop [0,0,0,0,1,0,1,1,1,0,0,0,0,0,0,0,0,0,0,0,0,0,0,0,0,0,0,0,0,0,0,0,0,0,0,0,0,0,0,0,0,0,0,0,0,0,0,0,0,0,0,0,0,0,0,0,0,0,0,0,0,0,0,0,0,0,0,0,0,0,0,0,0,0,0,0,0,0,0,0,0,0,0,0,0,0,0,0,0,0,0,0,0,0,0,0,0,0,0,0,0,0,0,0,0,0,0,0,0,0,0,0,0,0,0,0,0,0,0,0,0,0,0,0,0,0,0,0,0,0,0,0,0,0,0,0,0,0,0,0,0,0,0,0,0,0,0,0,0] u5b)) u5r)))))
theorem Sz:codeOf Tryz.prog 50=some ⟨149,Lo,[(.cell 4 true 1),(.tmp 5)]⟩:=by kernel_rfl
theorem H0:modes 50=⟨[],.frz,none,false⟩:=by unfold modes; rfl
abbrev u5H:Nat × Bool × Bool × Sb × List (Tm × Tm)→St:=fun a=>⟨slots 149 0 [(4,.ptr 0 0),(6,.ptr 1 0),(7,.ptr 2 0),(8,(bif a.2.2.1 then .ref 3 else .arr (a.2.2.2.2.map eqD)))],([.box 76 [.nil],.box 76 [.nil],.box 76 [bif a.2.1 then .nil else .arr (a.2.2.2.1.binds.map Bd.d)]]++(bif a.2.2.1 then [.row 97 4 (a.2.2.2.2.map eqO)] else []))⟩
abbrev u5R (total:Option Sb):Nat × Bool × Bool × Sb × List (Tm × Tm)→Prop:=fun a=>uInv a.2.2.2.1 a.2.2.2.2∧BE a.1 a.2.2.2.1 a.2.2.2.2=some total∧(a.2.1=true→a.2.2.2.1.binds=[])
abbrev u5K (total:Option Sb):X→St→Prop:=blk 0 (Rm 0 u5r (SM .frz 0 [(.cell 4 true 1),(.tmp 5)] (.tup [.agg [.arr ((uTo total).binds.map Bd.d)],.bool (uOk total)],[])))
abbrev Lp:List Nat:=[0,0,0,0,1,0,1,1,1,0,0,0,0,0,0,0,0,0,0,0,0,0,0,0,0,0,0,0,0,0,0,0,0,0,0,0,0,0,0,0,0,0,0,0,0,0,0,0,0,0,0,0,0,0,0,0,0,0,0,0,0,0,0,0,0,0,0,0,0,0,0,0,0,0,0,0,0,0,0,0,0,0,0,0,0,0,0,0,0,0,0,0,0,0,0,0,0,0,0,0,0,0,0,0,0,0,0,0,0,0,0,0,0,0,0,0,0,0,0,0,0,0,0,0,0,0,0,0,0,0,0,0,0,0,0,0,0,0,0,0,0,0,0,0,0,0,0,0,0]
end Go.Proofs.YtibdknkacmimgaaGreatDoor
