/-
  Texts of this claim, one behind the other, each built on those ahead of it. No condition.
-/
import Derived.Test.YtoglfpfdhojaaaaGreatDoorK22b
import Derived.Test.YtoglfpfdhojaaaaGreatDoorK22c
import Derived.Lib.SplitLaws
import Derived.Lib.CutLaws
import Derived.ProofKit
import Derived.Deep.Slices
import Derived.Deep.Fields
import Derived.ChangeSame
import Derived.OpenShut
import Derived.ShutString
import Derived.ChangeOld
set_option maxHeartbeats 16000000
open List renaming length_cons → zA, eq_nil_of_length_eq_zero → zB, drop_eq_getElem_cons → zC, drop_zero → zD, length_nil → zF, all_cons → zH, map_cons → zI, map_nil → zJ, drop_eq_nil_of_le → zK, length_map → zM, nil_append → zN, getElem_mem → zP, length_append → zQ, all_append → zS, getElem?_append_right → zU, getElem?_map → zV, all_eq_true → zY, map_append → zZ
open Nat renaming eq_zero_or_pos → zE, zero_le → zG, lt_or_ge → zR, le_refl → zT
open Int renaming toNat_zero → zL, toNat_one → zW
open Bool renaming and_eq_true → zO, true_and → z6
open List.cons renaming inj → zX
set_option maxRecDepth 100000
set_option linter.unusedSimpArgs false
set_option linter.unusedVariables false
set_option linter.unusedSectionVars false
namespace Go.Proofs.YtoglfpfdhojaaaaGreatDoor
open Go.RowKit
def barB:ByteArray:=⟨#[32,124,32]⟩
noncomputable def pcs (s:ByteArray):List ByteArray:=Lib.splitB barB 0 (Lib.countB s barB) s
theorem SL {s:ByteArray} (h:Lib.indexB s barB=-1):pcs s=[s]:=by
 unfold pcs
 rw [Lib.countB_miss s barB h,Lib.splitB_zero]
theorem Uj {s:ByteArray} {i:Nat} (h:Lib.indexB s barB=i):pcs s=s.extract 0 i :: pcs (s.extract (i+3) s.size):=by
 unfold pcs
 rw [Lib.countB_hit s barB i (by decide) h,Nat.add_comm 1,Lib.splitB_hit barB 0 _ s i h]
 rfl
theorem FF (s:ByteArray):(Lib.indexB s barB=-1∧pcs s=[s])∨∃ i:Nat,Lib.indexB s barB=i∧pcs s=s.extract 0 i :: pcs (s.extract (i+3) s.size):=by
 rcases Int.lt_or_le (Lib.indexB s barB) 0 with h | h
 ·have h1:-1≤Lib.indexB s barB:=Lib.index_ge _ _
  have h2:Lib.indexB s barB=-1:=by omega
  exact .inl ⟨h2,SL h2⟩
 ·obtain ⟨i,hi⟩:∃ i:Nat,Lib.indexB s barB=i:=⟨(Lib.indexB s barB).toNat,by omega⟩
  exact .inr ⟨i,hi,Uj hi⟩
theorem Nx {s g:ByteArray} {j:Nat} (hg:1≤g.size):Lib.occAt s.data.toList g.data.toList j=true ↔ j+g.size≤s.size∧s.extract j (j+g.size)=g:=by
 have es:s.data.toList.length=s.size:=rfl
 have eg:g.data.toList.length=g.size:=rfl
 have key:j+g.size≤s.size→(Lib.occAt s.data.toList g.data.toList j=true ↔ s.extract j (j+g.size)=g):=fun h=>by
  rw [Lib.occAt_iff_take _ _ _ (by rw [es,eg]; exact h),beq_iff_eq]
  constructor
  ·intro h2
   refine AL ?_
   rw [toList_extract]
   unfold seg
   rw [show j+g.size-j=g.size by omega,ByteArray.toList_eq,ByteArray.toList_eq]
   exact h2
  ·intro h2
   have h3:(s.extract j (j+g.size)).toList=g.toList:=by rw [h2]
   rw [toList_extract] at h3
   unfold seg at h3
   rw [show j+g.size-j=g.size by omega,ByteArray.toList_eq,ByteArray.toList_eq] at h3
   exact h3
 constructor
 ·intro h
  rcases Lib.occAt_room h with h1 | h1
  ·rw [es,eg] at h1
   exact ⟨h1,(key h1).1 h⟩
  ·rw [h1] at eg
   simp at eg
   omega
 ·rintro ⟨h1,h2⟩
  exact (key h1).2 h2
theorem P1 {s g:ByteArray} {k:Int} (hg:1≤g.size) (h:SE s g k):Lib.indexB s g=k:=by
 rcases h with ⟨rfl,h⟩ | ⟨i,rfl,h1,h2,h3⟩
 ·refine Lib.index_none fun j _=>?_
  cases ho:Lib.occAt s.data.toList g.data.toList j with
  | false=>rfl
  | true=>obtain ⟨k1,k2⟩:=(Nx hg).1 ho; exact absurd k2 (h j k1)
 ·refine Lib.index_first ?_ ((Nx hg).2 ⟨h1,h2⟩) fun j hj=>?_
  ·show i≤s.size; omega
  ·cases ho:Lib.occAt s.data.toList g.data.toList j with
   | false=>rfl
   | true=>obtain ⟨k1,k2⟩:=(Nx hg).1 ho; exact absurd k2 (h3 j hj)
theorem IK {s:ByteArray} {i:Nat} (h:Lib.indexB s barB=i):i+3≤s.size:=by
 rcases Lib.indexB_cases s barB with h1 | ⟨j,h1,h2⟩
 ·omega
 ·have:j=i:=by omega
  subst this
  exact h2
def szP:List ByteArray→Nat
 | []=>0
 | x :: r=>x.size+3+szP r
theorem IL (s:ByteArray):szP (pcs s)=s.size+3:=by
 rcases FF s with ⟨_,h⟩ | ⟨i,hi,h⟩
 ·rw [h]; rfl
 ·have hr:=IK hi
  have e1:(s.extract (i+3) s.size).size=s.size-(i+3):=BD hr (zT _)
  have e2:(s.extract 0 i).size=i:=by rw [BD (zG _) (by omega)]; omega
  have ih:=IL (s.extract (i+3) s.size)
  rw [h,szP,ih,e1,e2]; omega
termination_by s.size
decreasing_by rw [e1]; omega
theorem Qg {x:ByteArray}:∀ {l:List ByteArray},x∈l→x.size+3≤szP l
 | y :: r,h=>by
  rw [szP]
  rcases List.mem_cons.1 h with rfl | h
  ·omega
  ·have:=Qg h; omega
theorem Qh:∀ l:List ByteArray,3*l.length≤szP l
 | []=>by simp
 | x :: r=>by have:=Qh r; rw [szP,zA]; omega
theorem Uk {s x:ByteArray} (h:x∈pcs s):x.size≤s.size:=by
 have h1:=Qg h
 have h2:=IL s
 omega
theorem Qi (s:ByteArray):(pcs s).length≤s.size+1:=by
 have h1:=Qh (pcs s)
 have h2:=IL s
 omega
theorem Qj (s:ByteArray):0<(pcs s).length:=by
 rcases FF s with ⟨_,h⟩ | ⟨i,_,h⟩ <;> rw [h] <;> simp
theorem Rg {l:Lt} (h:l.atom.atom=true):l.txt.size≤400:=by
 have hn:l.atom.nodes≤30:=Tm.FY (by unfold Tm.expr; rw [h,Bool.or_true])
 rcases DW.1 (show JS l.txt l from ⟨h,rfl⟩) with ⟨_,h1⟩ | ⟨_,a,b,ht,h1,h2,h3,h4⟩ | ⟨_,_,_,h1,h2⟩
 ·rcases CW.1 h1 with ⟨a,b,ht,h1,h2,h3,h4⟩ | ⟨_,_,h1,h2⟩
  ·have l1:=Tm.Eo a (Ak h1)
   have l2:=Tm.Eo b (Ak h2)
   rw [ht,Tm.At] at hn
   have hn:1+Tm.A3 [a,b]≤30:=hn
   rw [Tm.A3,Tm.A3,Tm.A3] at hn
   rw [←An,h4]
   simp only [zQ,eqSign,zA,zF]
   omega
  ·have l1:=Tm.Eo _ (Ak h1)
   rw [←An,h2]; omega
 ·have l1:=Tm.Eo a (Ak h1)
  have l2:=Tm.Eo b (Ak h2)
  rw [ht,Tm.At] at hn
  have hn:1+Tm.A3 [a,b]≤30:=hn
  rw [Tm.A3,Tm.A3,Tm.A3] at hn
  rw [←An,h4]
  simp only [zQ,neSign,zA,zF]
  omega
 ·have l1:=Tm.Eo _ (Ak h1)
  rw [←An,h2,zA]; omega
theorem Vv {s:ByteArray} {l:Lt} (h:JS s l):0<s.size:=by
 have hf:∀ x:Tm,x.valid=true→0<x.fmt.length:=fun x hx=>by
  obtain ⟨c,r,e,_⟩:=ID (Ak hx)
  rw [e]; simp
 rcases DW.1 h with ⟨_,h1⟩ | ⟨_,a,b,ht,h1,h2,h3,h4⟩ | ⟨_,_,_,h1,h2⟩
 ·rcases CW.1 h1 with ⟨a,b,ht,h1,h2,h3,h4⟩ | ⟨_,_,h1,h2⟩
  ·have:=hf a h1
   rw [←An,h4]
   simp only [zQ]
   omega
  ·have:=hf _ h1
   rw [←An,h2]; omega
 ·have:=hf a h1
  rw [←An,h4]
  simp only [zQ]
  omega
 ·rw [←An,h2,zA]; omega
theorem P2 {s:ByteArray} (h:EM s=true):s.size≤400:=by
 obtain ⟨l,hl⟩:=Aj.1 h
 have:=Rg hl.1
 rwa [hl.2] at this
theorem Ln {s:ByteArray} (h:s.size=0):EM s=false:=by
 cases hk:EM s with
 | false=>rfl
 | true =>
  obtain ⟨l,hl⟩:=Aj.1 hk
  have:=Vv hl
  omega
def falseB:ByteArray:=⟨#[36,102,97,108,115,101]⟩
noncomputable def pcB (s:ByteArray):Bool:=(pcs s).all EM&&Cl.ok ⟨(pcs s).map liTo⟩
noncomputable def JW (s:ByteArray):Bool:=dec (s=falseB) || pcB s
noncomputable def Hv (s:ByteArray):Cl:=bif dec (s=falseB) then ⟨[]⟩ else bif pcB s then ⟨(pcs s).map liTo⟩ else ⟨[]⟩
theorem GP {s:ByteArray} (h:s=falseB):JW s=true∧Hv s=⟨[]⟩:=by
 unfold JW Hv
 rw [AJ h]; exact ⟨rfl,rfl⟩
theorem Qk {s:ByteArray} (h:¬ s=falseB) (k:pcB s=false):JW s=false∧Hv s=⟨[]⟩:=by
 unfold JW Hv
 rw [AN h,k]; exact ⟨rfl,rfl⟩
theorem P3 {s:ByteArray} (h:¬ s=falseB) (k:pcB s=true):JW s=true∧Hv s=⟨(pcs s).map liTo⟩:=by
 unfold JW Hv
 rw [AN h,k]; exact ⟨rfl,rfl⟩
theorem SM:∀ l:List ByteArray,(∀ x∈l,x.size≤400)→szP l≤403*l.length
 | [],_=>by simp [szP]
 | x :: r,h=>by
  have h1:=h x (by simp)
  have h2:=SM r fun y hy=>h y (by simp [hy])
  rw [szP,zA]; omega
theorem SN {s:ByteArray} (h:pcB s=true):s.size≤4000:=by
 unfold pcB at h
 rw [zO,zY] at h
 obtain ⟨h1,h2⟩:=h
 unfold Cl.ok at h2
 rw [zO,decide_eq_true_eq] at h2
 have h3:((pcs s).map liTo).length≤8:=h2.1
 rw [zM] at h3
 have h4:=SM (pcs s) fun x hx=>P2 (h1 x hx)
 have h5:=IL s
 omega
theorem Ql {ss:List ByteArray} (h:ss.all EM=true) (hl:ss.length≤1099511627776):Cl.tame ⟨ss.map liTo⟩:=by
 refine ⟨by show (ss.map liTo).length≤_; rw [zM]; exact hl,fun l hm=>?_⟩
 obtain ⟨x,hx,rfl⟩:=List.mem_map.1 hm
 have:=Qe (zY.1 h x hx)
 have hn:(liTo x).atom.nodes≤30:=Tm.FY (by unfold Tm.expr; rw [this,Bool.or_true])
 omega
def BQ:SC:=(.seq (.reg [⟨some 1,none,.boxv 36 3 (.t 0)⟩,⟨(some 2),none,(.mv (.c (.str ⟨#[]⟩)))⟩]) (.seq (.block 0 (.seq (.reg [⟨some 4,none,.faddr 0 (.t 1)⟩,⟨some 5,none,.load false 1 (.t 4)⟩,⟨some 3,none,.mv (.t 5)⟩]) (.cond (.t 3) (.seq (.reg [⟨some 6,none,.faddr 1 (.t 1)⟩,⟨some 7,none,.load true 2 (.t 6)⟩,⟨some 8,none,.call 41 [(.t 7)]⟩,⟨some 2,none,.mv (.t 8)⟩]) .ret) (.seq (.reg [⟨some 10,none,.faddr 1 (.t 1)⟩,⟨some 11,none,.load true 2 (.t 10)⟩,⟨some 12,none,.call 42 [(.t 11)]⟩,⟨some 9,none,.mv (.t 12)⟩]) (.cond (.t 9) (.seq (.dreg [[],[0],[1,0],[2,1,0],[3,2,1,0],[4,3,2,1,0],[5,4,3,2,1,0],[],[7],[8,7],[9,8,7],[10,9,8,7],[11,10,9,8,7,5,4,3,2,1,0],[6,5,4,3,2,1,0,12,11,10,9,8,7],[13,6,5,4,3,2,1,0,12,11,10,9,8,7]] [⟨some 13,none,.faddr 1 (.t 1)⟩,⟨some 14,none,.faddr 1 (.t 13)⟩,⟨some 15,none,.load false 1 (.t 14)⟩,⟨some 16,none,.iaddr 2 (.t 15) (.c (.int .i64 0))⟩,⟨some 17,none,.load true 2 (.t 16)⟩,⟨some 18,none,.call 41 [(.t 17)]⟩,⟨(some 19),none,(.bin .add false (.t 18) (.c (.str ⟨#[32,33,61,32]⟩)))⟩,⟨some 20,none,.faddr 1 (.t 1)⟩,⟨some 21,none,.faddr 1 (.t 20)⟩,⟨some 22,none,.load false 1 (.t 21)⟩,⟨some 23,none,.iaddr 2 (.t 22) (.c (.int .i64 1))⟩,⟨some 24,none,.load true 2 (.t 23)⟩,⟨some 25,none,.call 41 [(.t 24)]⟩,⟨some 26,none,.bin .add false (.t 19) (.t 25)⟩,⟨some 2,none,.mv (.t 26)⟩]) .ret) .skip))))) (.seq (.reg [⟨some 27,none,.faddr 1 (.t 1)⟩,⟨some 28,none,.load true 2 (.t 27)⟩,⟨some 29,none,.call 41 [(.t 28)]⟩,⟨(some 30),none,(.bin .add false (.c (.str ⟨#[126]⟩)) (.t 29))⟩,⟨some 2,none,.mv (.t 30)⟩]) .ret)))
theorem CB:Ai Tryz.prog 23=some ⟨31,BQ,[(.tmp 2)]⟩:=by kernel_rfl
theorem AH:modes 23=⟨[],.asis,none,false⟩:=by unfold modes; rfl
def AW:SC:=(.seq (.reg [⟨(some 2),none,(.alloc 36 [(.bool false),(.str ⟨#[]⟩),.nil])⟩]) (.seq (.seq (.reg [⟨some 4,none,.mv (.t 0)⟩,⟨(some 5),none,(.call 37 [(.t 4),(.c (.str ⟨#[126]⟩))])⟩]) (.cond (.t 5) (.seq (.reg [⟨some 6,none,.mv (.t 0)⟩,⟨some 7,none,.call 38 [(.t 6)]⟩,⟨(some 8),none,(.build [(.bool false),(.str ⟨#[]⟩),.nil] [(1,(2,(.t 7)))])⟩,⟨none,none,(.store 3 (.t 2) (.t 8))⟩]) .ret) .skip)) (.seq (.reg [⟨some 9,none,.mv (.t 0)⟩,⟨some 10,none,.call 39 [(.t 9)]⟩,⟨(some 3),none,(.alloc 34 [(.str ⟨#[]⟩),.nil])⟩,⟨none,none,(.store 2 (.t 3) (.t 10))⟩]) (.seq (.block 0 (.seq (.reg [⟨some 12,none,.mv (.t 0)⟩,⟨(some 13),none,(.call 37 [(.t 12),(.c (.str ⟨#[32,33,61,32]⟩))])⟩,⟨some 11,none,.mv (.t 13)⟩]) (.cond (.t 11) (.seq (.dreg [[],[],[1],[0,2,1],[3,0,2,1],[4,3,0,2,1],[5,4,3,0,2,1]] [⟨some 14,none,.load true 2 (.t 3)⟩,⟨some 15,none,.mv (.t 0)⟩,⟨some 16,none,.call 39 [(.t 15)]⟩,⟨(some 17),none,(.mkrow 34 2 [(.str ⟨#[]⟩),.nil] 2 [(0,(.t 14)),(1,(.t 16))])⟩,⟨(some 18),none,(.build [(.str ⟨#[]⟩),.nil] [(0,(1,(.c (.str ⟨#[61]⟩)))),(1,(1,(.t 17)))])⟩,⟨(some 19),none,(.build [(.bool false),(.str ⟨#[]⟩),.nil] [(1,(2,(.t 18)))])⟩,⟨none,none,(.store 3 (.t 2) (.t 19))⟩]) .ret) (.seq (.reg [⟨some 21,none,.mv (.t 0)⟩,⟨(some 22),none,(.call 37 [(.t 21),(.c (.str ⟨#[32,61,32]⟩))])⟩,⟨some 20,none,.mv (.t 22)⟩]) (.cond (.t 20) (.dreg [[],[],[1],[0,2,1],[3,0,2,1],[4,3,0,2,1]] [⟨some 23,none,.load true 2 (.t 3)⟩,⟨some 24,none,.mv (.t 0)⟩,⟨some 25,none,.call 39 [(.t 24)]⟩,⟨(some 26),none,(.mkrow 34 2 [(.str ⟨#[]⟩),.nil] 2 [(0,(.t 23)),(1,(.t 25))])⟩,⟨(some 27),none,(.build [(.str ⟨#[]⟩),.nil] [(0,(1,(.c (.str ⟨#[61]⟩)))),(1,(1,(.t 26)))])⟩,⟨none,none,(.store 2 (.t 3) (.t 27))⟩]) .skip))))) (.seq (.reg [⟨some 28,none,.load true 2 (.t 3)⟩,⟨(some 29),none,(.build [(.bool false),(.str ⟨#[]⟩),.nil] [(0,(1,(.c (.bool true)))),(1,(2,(.t 28)))])⟩,⟨none,none,(.store 3 (.t 2) (.t 29))⟩]) .ret)))))
theorem Gs:Ai Tryz.prog 20=some ⟨30,AW,[(.cell 2 true 3)]⟩:=by kernel_rfl
theorem AX:modes 20=⟨[],.own [none,none,some (34,2)],none,false⟩:=by unfold modes; rfl
def Bp:SC:=(.seq (.reg [⟨(some 2),none,(.alloc 36 [(.bool false),(.str ⟨#[]⟩),.nil])⟩,⟨some 3,none,.mv (.c (.bool false))⟩]) (.seq (.reg [⟨some 6,none,.mv (.t 0)⟩,⟨(some 7),none,(.build [(.str ⟨#[]⟩),(.int .i64 0),(.bool false)] [(0,(1,(.t 6)))])⟩,⟨some 8,none,.boxv 46 3 (.t 7)⟩,⟨some 4,none,.mv (.t 8)⟩]) (.seq (.reg [⟨some 9,none,.mv (.t 4)⟩,⟨some 10,none,.call 20 [(.t 9)]⟩,⟨(some 5),none,(.alloc 36 [(.bool false),(.str ⟨#[]⟩),.nil])⟩,⟨none,none,(.store 3 (.t 5) (.t 10))⟩]) (.seq (.seq (.reg [⟨some 11,none,.mv (.t 4)⟩,⟨some 12,none,.call 21 [(.t 11)]⟩,⟨some 13,none,.un .not (.t 12)⟩,⟨some 14,none,.mv (.t 13)⟩,⟨(some 15),(some (14,false)),(.load true 3 (.t 5))⟩,⟨(some 16),(some (14,false)),(.call 22 [(.t 15)])⟩,⟨(some 17),(some (14,false)),(.un .not (.t 16))⟩,⟨some 18,none,.pick (.t 14) (.c (.bool true)) (.t 17)⟩,⟨some 19,none,.mv (.t 18)⟩,⟨(some 20),(some (19,false)),(.load true 3 (.t 5))⟩,⟨(some 21),(some (19,false)),(.call 23 [(.t 20)])⟩,⟨(some 22),(some (19,false)),(.mv (.t 0))⟩,⟨(some 23),(some (19,false)),(.bin .neq false (.t 21) (.t 22))⟩,⟨some 24,none,.pick (.t 19) (.c (.bool true)) (.t 23)⟩]) (.cond (.t 24) (.seq (.reg [⟨(some 25),none,(.build [(.bool false),(.str ⟨#[]⟩),.nil] [])⟩,⟨none,none,(.store 3 (.t 2) (.t 25))⟩,⟨some 3,none,.mv (.c (.bool false))⟩]) .ret) .skip)) (.seq (.reg [⟨some 26,none,.load true 3 (.t 5)⟩,⟨none,none,(.store 3 (.t 2) (.t 26))⟩,⟨some 3,none,.mv (.c (.bool true))⟩]) .ret)))))
theorem BC:Ai Tryz.prog 11=some ⟨27,Bp,[(.cell 2 true 3),(.tmp 3)]⟩:=by kernel_rfl
theorem As:modes 11=⟨[],.own [none,none,some (34,2),none],none,false⟩:=by unfold modes; rfl
def A8:SC:=(.seq (.reg [⟨(some 2),none,(.alloc 36 [(.bool false),(.str ⟨#[]⟩),.nil])⟩,⟨some 3,none,.mv (.c (.bool false))⟩]) (.seq (.seq (.reg [⟨some 11,none,.mv (.t 0)⟩,⟨(some 12),none,(.call 29 [(.t 11),(.c (.str ⟨#[32,33,61,32]⟩))])⟩,⟨some 10,none,.mv (.t 12)⟩,⟨some 13,none,.ext (.t 10) 0⟩,⟨some 14,none,.ext (.t 10) 1⟩,⟨(some 4),none,(.alloc 34 [(.str ⟨#[]⟩),.nil])⟩,⟨none,none,(.store 2 (.t 4) (.t 13))⟩,⟨some 5,none,.mv (.t 14)⟩]) (.seq (.reg [⟨some 15,none,.mv (.t 5)⟩]) (.cond (.t 15) (.seq (.reg [⟨some 16,none,.load true 2 (.t 4)⟩,⟨(some 17),none,(.build [(.bool false),(.str ⟨#[]⟩),.nil] [(1,(2,(.t 16)))])⟩,⟨none,none,(.store 3 (.t 2) (.t 17))⟩,⟨some 3,none,.mv (.c (.bool true))⟩]) .ret) .skip))) (.seq (.seq (.reg [⟨some 18,none,.mv (.t 0)⟩,⟨(some 19),none,(.bin .neq false (.t 18) (.c (.str ⟨#[]⟩)))⟩,⟨some 20,none,.mv (.t 19)⟩,⟨(some 21),(some (20,true)),(.mv (.t 0))⟩,⟨(some 22),(some (20,true)),(.idx (.t 21) (.c (.int .i64 0)))⟩,⟨(some 23),(some (20,true)),(.bin .eql false (.t 22) (.c (.int .u8 126)))⟩,⟨some 24,none,.pick (.t 20) (.t 23) (.c (.bool false))⟩]) (.cond (.t 24) (.seq (.reg [⟨some 26,none,.mv (.t 0)⟩,⟨some 27,none,.slice true 0 (.t 26) (some (.c (.int .i64 1))) none⟩,⟨some 28,none,.call 30 [(.t 27)]⟩,⟨some 25,none,.mv (.t 28)⟩,⟨some 29,none,.ext (.t 25) 0⟩,⟨some 30,none,.ext (.t 25) 1⟩,⟨(some 6),none,(.alloc 34 [(.str ⟨#[]⟩),.nil])⟩,⟨none,none,(.store 2 (.t 6) (.t 29))⟩,⟨some 7,none,.mv (.t 30)⟩]) (.seq (.seq (.reg [⟨some 31,none,.mv (.t 7)⟩,⟨some 32,none,.un .not (.t 31)⟩,⟨some 33,none,.mv (.t 32)⟩,⟨(some 34),(some (33,false)),(.load true 2 (.t 6))⟩,⟨(some 35),(some (33,false)),(.call 31 [(.t 34)])⟩,⟨(some 36),(some (33,false)),(.un .not (.t 35))⟩,⟨some 37,none,.pick (.t 33) (.c (.bool true)) (.t 36)⟩]) (.cond (.t 37) (.seq (.reg [⟨(some 38),none,(.build [(.bool false),(.str ⟨#[]⟩),.nil] [])⟩,⟨none,none,(.store 3 (.t 2) (.t 38))⟩,⟨some 3,none,.mv (.c (.bool false))⟩]) .ret) .skip)) (.seq (.reg [⟨some 39,none,.load true 2 (.t 6)⟩,⟨(some 40),none,(.build [(.bool false),(.str ⟨#[]⟩),.nil] [(1,(2,(.t 39)))])⟩,⟨none,none,(.store 3 (.t 2) (.t 40))⟩,⟨some 3,none,.mv (.c (.bool true))⟩]) .ret))) .skip)) (.seq (.reg [⟨some 42,none,.mv (.t 0)⟩,⟨some 43,none,.call 32 [(.t 42)]⟩,⟨some 41,none,.mv (.t 43)⟩,⟨some 44,none,.ext (.t 41) 0⟩,⟨some 45,none,.ext (.t 41) 1⟩,⟨(some 8),none,(.alloc 34 [(.str ⟨#[]⟩),.nil])⟩,⟨none,none,(.store 2 (.t 8) (.t 44))⟩,⟨some 9,none,.mv (.t 45)⟩]) (.seq (.seq (.reg [⟨some 46,none,.mv (.t 9)⟩,⟨some 47,none,.un .not (.t 46)⟩]) (.cond (.t 47) (.seq (.reg [⟨(some 48),none,(.build [(.bool false),(.str ⟨#[]⟩),.nil] [])⟩,⟨none,none,(.store 3 (.t 2) (.t 48))⟩,⟨some 3,none,.mv (.c (.bool false))⟩]) .ret) .skip)) (.seq (.reg [⟨some 49,none,.load true 2 (.t 8)⟩,⟨(some 50),none,(.build [(.bool false),(.str ⟨#[]⟩),.nil] [(0,(1,(.c (.bool true)))),(1,(2,(.t 49)))])⟩,⟨none,none,(.store 3 (.t 2) (.t 50))⟩,⟨some 3,none,.mv (.c (.bool true))⟩]) .ret))))))
theorem AI:Ai Tryz.prog 17=some ⟨51,A8,[(.cell 2 true 3),(.tmp 3)]⟩:=by kernel_rfl
theorem Ac:modes 17=⟨[],.frz,none,false⟩:=by unfold modes; rfl
theorem Lo:(⟨#[32,33,61,32]⟩:ByteArray).toList=neSign:=Bv [32,33,61,32]
theorem JX (x:Lt) (hx:x.atom.atom=true):E 23 [x.sv] []=some (.str x.txt,[]):=by
 obtain ⟨p,t⟩:=x
 have hx:t.atom=true:=hx
 cases p with
 | true =>
  have h:=QU t hx
  have e:(⟨true,t⟩:Lt).txt=t.txtA:=rfl
  rw [e]
  refine Ab CB AH (of_decide_eq_true rfl) ?_
  simp (disch:=omega) only [BQ,go_sem,Aa,h,AV]
 | false =>
  have he:=Dt t
  rcases Tm.FZ (x:=t) hx with ⟨h1,h2⟩ | ⟨a,b,rfl,h1,h2,h3,h4⟩
  ·rw [h1] at he
   have f1:=Cn t (Ak h2) (by have:=BN h2; omega)
   have z1:=DV h2
   have z3:((1:Int)+(t.txt.size:Int)≤9223372036854775807)=True:=eq_true (by omega)
   have z2:(⟨#[126]⟩:ByteArray).size=1:=rfl
   have e:(⟨#[126]⟩:ByteArray)++t.txt=(⟨false,t⟩:Lt).txt:=AL (by
    have e1:(⟨#[126]⟩:ByteArray).toList=[126]:=Bv [126]
    rw [C5,e1,Tm.txt_toList,Lt.txt_toList]
    unfold Lt.fmt
    simp only [h1,cond_false]; rfl)
   refine Ab CB AH (of_decide_eq_true rfl) ?_
   simp (disch:=omega) only [BQ,go_sem,Aa,he,f1,z2,e,Az,AV]
  ·rw [h1] at he
   obtain ⟨s1,s2⟩:=Ga h4
   have va:a.valid=true:=by unfold Tm.valid; rw [s1,h2]; rfl
   have vb:b.valid=true:=by unfold Tm.valid; rw [s2,h3]; rfl
   have f1:=Cn a h2 (by have:=BN va; omega)
   have f2:=Cn b h3 (by have:=BN vb; omega)
   have z1:=DV va
   have z2:=DV vb
   have hs1:(a.txt++(⟨#[32,33,61,32]⟩:ByteArray)).size=a.txt.size+4:=by rw [ByteArray.size_append]; rfl
   have hs2:(⟨#[32,33,61,32]⟩:ByteArray).size=4:=rfl
   have ht:a.txt++⟨#[32,33,61,32]⟩++b.txt=(⟨false,.mk ⟨#[61]⟩ [a,b]⟩:Lt).txt:=by
    refine AL ?_
    rw [C5,C5,Tm.txt_toList,Tm.txt_toList,Lt.txt_toList,Lo]
    unfold Lt.fmt
    simp only [h1,cond_false,cond_true]; rfl
   have g0:([a,b].map Tm.d)[(0:Nat)]?=some [D.str a.name,D.arr (a.args.map Tm.d)]:=by rw [zI,Tm.d_eq]; rfl
   have g1:([a,b].map Tm.d)[(1:Nat)]?=some [D.str b.name,D.arr (b.args.map Tm.d)]:=by rw [zI,zI,Tm.d_eq b]; rfl
   have hsv:(Tm.mk ⟨#[61]⟩ [a,b]).sv=.agg [.str ⟨#[61]⟩,.arr ([a,b].map Tm.d)]:=rfl
   have hlv:(⟨false,.mk ⟨#[61]⟩ [a,b]⟩:Lt).sv=.agg [.bool false,.str ⟨#[61]⟩,.arr ([a,b].map Tm.d)]:=rfl
   rw [hsv] at he
   rw [hlv]
   obtain ⟨ds,hds⟩:∃ ds,ds=[a,b].map Tm.d:=⟨_,rfl⟩
   rw [←hds] at he g0 g1 ⊢
   refine Ab CB AH (of_decide_eq_true rfl) ?_
   simp (disch:=omega) only [BQ,go_sem,Aa,he,g0,g1,f1,f2,hs1,hs2,ht,zL,zW,Az,AV]
theorem Ny:(⟨false,.mk ⟨#[]⟩ []⟩:Lt).sv=.agg [.bool false,.str ⟨#[]⟩,.arr []]:=rfl
theorem Ki:(⟨false,.mk ⟨#[]⟩ []⟩:Lt).osv=.agg [.bool false,.str ⟨#[]⟩,.ref 0]:=rfl
theorem Kj:(⟨false,.mk ⟨#[]⟩ []⟩:Lt).obs=[.row 34 2 []]:=rfl
theorem Gk (s:ByteArray) (hs:s.size≤1048576):E 17 [.str s] []=some (.tup [(liTo s).sv,.bool (EM s)],[]):=by
 obtain ⟨t,b,h1,h2⟩:=IE s ⟨#[32,33,61,32]⟩ [33,61,32] hs (Bv _) (by show 4≤1000; omega)
 rcases h2 with ⟨rfl,h2⟩ | ⟨rfl,rfl,h2⟩
 ·obtain ⟨o1,o2⟩:=Lk (s:=s) (l:=⟨false,t⟩) (DW.2 (.inr (.inl ⟨rfl,h2⟩)))
  rw [o1,o2]
  have hsv:(⟨false,t⟩:Lt).sv=.agg [.bool false,.str t.name,.arr (t.args.map Tm.d)]:=rfl
  rw [hsv]
  refine Ab AI Ac (of_decide_eq_true rfl) ?_
  simp (disch:=omega) only [A8,go_sem,Aa,h1,Ao]
 ·have ha:=SF s hs
  have plain:hasB s 0 ⟨#[126]⟩=false→(Pu s=true→EM s=true∧liTo s=⟨true,JR s⟩)∧(Pu s=false→EM s=false∧liTo s=⟨false,.mk ⟨#[]⟩ []⟩):=fun hh=>by
   constructor
   ·intro ho
    obtain ⟨t,ht⟩:=Aj.1 ho
    rw [(No ht).2]
    exact Lk (DW.2 (.inl ⟨rfl,ht⟩))
   ·intro ho
    refine Qd fun l hl=>?_
    rcases DW.1 hl with ⟨_,ht⟩ | ⟨_,ht⟩ | ⟨_,_,_,_,ht⟩
    ·rw [(No ht).1] at ho; cases ho
    ·exact h2 _ ht
    ·rw [Ev ht,AJ rfl] at hh; cases hh
  cases hsl:s.toList with
  | nil =>
   have hz:s=⟨#[]⟩:=AL (by rw [hsl]; exact (Bv []).symm)
   have hh:hasB s 0 ⟨#[126]⟩=false:=by
    cases hh:hasB s 0 ⟨#[126]⟩ with
    | false=>rfl
    | true =>
     have:=((Cc (zG _)).1 hh).1
     have hl:s.size=0:=by rw [←An,hsl]; rfl
     have e:(⟨#[126]⟩:ByteArray).size=1:=rfl
     omega
   obtain ⟨p1,p2⟩:=plain hh
   have q1:(s=⟨#[]⟩)=True:=eq_true hz
   cases ho:Pu s with
   | true =>
    obtain ⟨o1,o2⟩:=p1 ho
    rw [o1,o2]
    rw [ho] at ha
    have hsv:(⟨true,JR s⟩:Lt).sv=.agg [.bool true,.str (JR s).name,.arr ((JR s).args.map Tm.d)]:=rfl
    rw [hsv]
    refine Ab AI Ac (of_decide_eq_true rfl) ?_
    simp (disch:=omega) only [A8,go_sem,Aa,h1,ha,q1,Ao,BE]
   | false =>
    obtain ⟨o1,o2⟩:=p2 ho
    rw [o1,o2,Ny]
    rw [ho] at ha
    refine Ab AI Ac (of_decide_eq_true rfl) ?_
    simp (disch:=omega) only [A8,go_sem,Aa,h1,ha,q1,Ao,BE]
  | cons c r =>
   have hsz:s.size=r.length+1:=by rw [←An,hsl]; rfl
   have hne:(s=⟨#[]⟩)=False:=eq_false fun e=>by
    rw [e] at hsz
    have:(⟨#[]⟩:ByteArray).size=0:=rfl
    omega
   have hb:A1 s 0=(c.toNat:Int):=by
    rw [CT (by omega)]
    simp only [hsl,List.getElem_cons_zero]
   have hh:=Ev hsl
   by_cases hc:c=126
   ·have q2:(A1 s 0=126)=True:=eq_true (by rw [hb,hc]; rfl)
    have ht1:(s.extract 1 s.size).toList=r:=by
     rw [toList_extract]
     unfold seg
     rw [hsl,List.drop_succ_cons,zD,hsz]
     exact List.take_of_length_le (by omega)
    have hw:=Hq (s.extract 1 s.size) (by rw [BD (by omega) (zT _)]; omega)
    have n1:=Gb (s.extract 1 s.size)
    have h3:=I7 (Co (s.extract 1 s.size)) (by omega)
    have no:¬ (Gn (s.extract 1 s.size)=true∧(Co (s.extract 1 s.size)).atom=true)→EM s=false∧liTo s=⟨false,.mk ⟨#[]⟩ []⟩:=fun hno=>Qd fun l hl=>by
     rcases DW.1 hl with ⟨_,ht⟩ | ⟨_,ht⟩ | ⟨_,_,hat,hv,ht⟩
     ·rw [Qc ht,AJ hc] at hh; cases hh
     ·exact h2 _ ht
     ·rw [hsl] at ht
      simp only [List.cons.injEq] at ht
      have:=IC (s:=s.extract 1 s.size) hv (by rw [ht1,ht.2])
      exact hno ⟨this.1,by rw [this.2]; exact hat⟩
    have q3:((1:Int)≤(s.size:Int))=True:=eq_true (by omega)
    cases o1:Gn (s.extract 1 s.size) with
    | false =>
     obtain ⟨p1,p2⟩:=no fun h=>by rw [o1] at h; cases h.1
     rw [p1,p2,Ny]
     rw [o1] at hw
     refine Ab AI Ac (of_decide_eq_true rfl) ?_
     simp (disch:=omega) only [A8,go_sem,Aa,h1,hw,hne,q2,q3,zL,zW,Ao,A6]
    | true =>
     rw [o1] at hw
     cases o2:(Co (s.extract 1 s.size)).atom with
     | false =>
      obtain ⟨p1,p2⟩:=no fun h=>by rw [o2] at h; cases h.2
      rw [p1,p2,Ny]
      rw [o2] at h3
      refine Ab AI Ac (of_decide_eq_true rfl) ?_
      simp (disch:=omega) only [A8,go_sem,Aa,h1,hw,h3,hne,q2,q3,zL,zW,Ao,A6,Av]
     | true =>
      obtain ⟨v1,x1⟩:=Le o1
      have hn:=Ak v1
      obtain ⟨p1,p2⟩:=Lk (s:=s) (l:=⟨false,Co (s.extract 1 s.size)⟩) (DW.2 (.inr (.inr ⟨rfl,Tm.Js hn,o2,v1,by rw [hsl,hc,← ht1,← x1,Tm.txt_toList,x1]⟩)))
      rw [p1,p2]
      rw [o2] at h3
      have hsv:(⟨false,Co (s.extract 1 s.size)⟩:Lt).sv=.agg [.bool false,.str (Co (s.extract 1 s.size)).name,.arr ((Co (s.extract 1 s.size)).args.map Tm.d)]:=rfl
      rw [hsv]
      refine Ab AI Ac (of_decide_eq_true rfl) ?_
      simp (disch:=omega) only [A8,go_sem,Aa,h1,hw,h3,hne,q2,q3,zL,zW,Ao,A6,Av]
   ·have q2:(A1 s 0=126)=False:=eq_false fun e=>hc (by
     rw [hb] at e
     exact UInt8.toNat_inj.1 (by rw [show (126:UInt8).toNat=126 from rfl]; omega))
    rw [AN hc] at hh
    obtain ⟨p1,p2⟩:=plain hh
    cases ho:Pu s with
    | true =>
     obtain ⟨o1,o2⟩:=p1 ho
     rw [o1,o2]
     rw [ho] at ha
     have hsv:(⟨true,JR s⟩:Lt).sv=.agg [.bool true,.str (JR s).name,.arr ((JR s).args.map Tm.d)]:=rfl
     rw [hsv]
     refine Ab AI Ac (of_decide_eq_true rfl) ?_
     simp (disch:=omega) only [A8,go_sem,Aa,h1,ha,hne,q2,zL,Ao,BE]
    | false =>
     obtain ⟨o1,o2⟩:=p2 ho
     rw [o1,o2,Ny]
     rw [ho] at ha
     refine Ab AI Ac (of_decide_eq_true rfl) ?_
     simp (disch:=omega) only [A8,go_sem,Aa,h1,ha,hne,q2,zL,Ao,BE]
def VJ (s:ByteArray) (r:Option (Lt × Nat)) (out:SV × List Ob):Prop :=
 ∃ (l:Lt) (j:Nat) (f:Bool),out=(.agg [.bool l.pos,.str l.atom.name,.ref 1],[psr s j f,.row 34 2 (l.atom.args.map Tm.o)])∧j≤s.size∧(match r with
  | some (l0,e)=>l=l0∧j=e∧f=false
  | none=>f=true)
theorem Rh (s:ByteArray) (hs:s.size≤1048576):∃ out,E 20 [.ptr 0 0] [psr s 0 false]=some out∧VJ s (Nq s (s.size+1)) out:=by
 refine Iz Gs AX (of_decide_eq_true rfl) ?_
 unfold Nq
 cases h0:hasB s 0 ⟨#[126]⟩ with
 | true =>
  have ht:E 37 [.ptr 0 0,.str ⟨#[126]⟩] [psr s 0 false]=some (.bool true,[psr s 1 false]):=FB s 0 ⟨#[126]⟩ (by show 0+1≤_; omega) (zG _) h0
  have h1s:0+1≤s.size:=((Cc (zG _)).1 h0).1
  obtain ⟨out1,h1,t,j,f,rfl,g1,g2,g3⟩:=Ug s hs 1 (by omega)
  rw [cond_true]
  simp (disch:=omega) only [AW,go_sem,Aa,h1,ht,A2,Af,Bw]
  cases hr:JK ⟨#[32,61,32]⟩ s (s.size+1) 1 with
  | none =>
   rw [hr] at g3
   exact ⟨_,rfl,⟨false,t⟩,j,f,rfl,g2,g3⟩
  | some p =>
   obtain ⟨a,e⟩:=p
   rw [hr] at g3
   obtain ⟨rfl,rfl,rfl⟩:=g3
   exact ⟨_,rfl,⟨false,t⟩,j,false,rfl,g2,rfl,rfl,rfl⟩
 | false =>
  have ht0:=Ho s 0 ⟨#[126]⟩ (zG _) h0
  rw [cond_false]
  obtain ⟨out1,h1,t,j,f,rfl,g1,g2,g3⟩:=Hp s hs (s.size+1) 0 (zG _) (by omega)
  have ho:∀ u,(Tm.mk ⟨#[61]⟩ [t,u]).args.map Tm.o=[[OT.str t.name,.ow (t.args.map Tm.o)],[OT.str u.name,.ow (u.args.map Tm.o)]]:=fun u=>by
   show [t,u].map Tm.o=_
   rw [zI,zI,zJ,Tm.o_eq,Tm.o_eq]
  cases hr:rd s (s.size+1) 0 with
  | none =>
   rw [hr] at g3
   have g3:f=true:=g3
   subst g3
   have ht1:=Jt s j ⟨#[32,33,61,32]⟩
   have ht2:=Jt s j ⟨#[32,61,32]⟩
   simp (disch:=omega) only [AW,go_sem,Aa,h1,ht0,ht1,ht2,A2,Af,Bw]
   exact ⟨_,rfl,⟨true,t⟩,j,true,rfl,g2,rfl⟩
  | some p =>
   obtain ⟨a,e⟩:=p
   rw [hr] at g3
   obtain ⟨rfl,rfl,rfl⟩:=g3
   cases hn:hasB s j ⟨#[32,33,61,32]⟩ with
   | true =>
    have ht1:E 37 [.ptr 0 0,.str ⟨#[32,33,61,32]⟩] [psr s j false]=some (.bool true,[psr s (j+4) false]):=FB s j ⟨#[32,33,61,32]⟩ (by show j+4≤_; omega) g2 hn
    have hj4:j+4≤s.size:=((Cc g2).1 hn).1
    obtain ⟨out2,h2,t2,j2,f2,rfl,k1,k2,k3⟩:=Hp s hs (s.size+1) (j+4) hj4 (by omega)
    simp only [hn,cond_true]
    simp (disch:=omega) only [AW,go_sem,Aa,h1,h2,ht0,ht1,A2,Af,Bw]
    cases hr2:rd s (s.size+1) (j+4) with
    | none =>
     rw [hr2] at k3
     have k3:f2=true:=k3
     subst k3
     exact ⟨_,rfl,⟨false,.mk ⟨#[61]⟩ [t,t2]⟩,j2,true,by rw [ho]; rfl,k2,rfl⟩
    | some p =>
     obtain ⟨b,e⟩:=p
     rw [hr2] at k3
     obtain ⟨rfl,rfl,rfl⟩:=k3
     exact ⟨_,rfl,⟨false,.mk ⟨#[61]⟩ [t,t2]⟩,j2,false,by rw [ho]; rfl,k2,rfl,rfl,rfl⟩
   | false =>
    have ht1:=Ho s j ⟨#[32,33,61,32]⟩ g2 hn
    simp only [hn,cond_false]
    cases hh:hasB s j ⟨#[32,61,32]⟩ with
    | false =>
     have ht2:=Ho s j ⟨#[32,61,32]⟩ g2 hh
     simp only [hh,cond_false]
     simp (disch:=omega) only [AW,go_sem,Aa,h1,ht0,ht1,ht2,A2,Af,Bw]
     exact ⟨_,rfl,⟨true,t⟩,j,false,rfl,g2,rfl,rfl,rfl⟩
    | true =>
     have ht2:E 37 [.ptr 0 0,.str ⟨#[32,61,32]⟩] [psr s j false]=some (.bool true,[psr s (j+3) false]):=FB s j ⟨#[32,61,32]⟩ (by show j+3≤_; omega) g2 hh
     have hj3:j+3≤s.size:=((Cc g2).1 hh).1
     obtain ⟨out2,h2,t2,j2,f2,rfl,k1,k2,k3⟩:=Hp s hs (s.size+1) (j+3) hj3 (by omega)
     simp only [hh,cond_true]
     simp (disch:=omega) only [AW,go_sem,Aa,h1,h2,ht0,ht1,ht2,A2,Af,Bw]
     cases hr2:rd s (s.size+1) (j+3) with
     | none =>
      rw [hr2] at k3
      have k3:f2=true:=k3
      subst k3
      exact ⟨_,rfl,⟨true,.mk ⟨#[61]⟩ [t,t2]⟩,j2,true,by rw [ho]; rfl,k2,rfl⟩
     | some p =>
      obtain ⟨b,e⟩:=p
      rw [hr2] at k3
      obtain ⟨rfl,rfl,rfl⟩:=k3
      exact ⟨_,rfl,⟨true,.mk ⟨#[61]⟩ [t,t2]⟩,j2,false,by rw [ho]; rfl,k2,rfl,rfl,rfl⟩
theorem Ie (s:ByteArray) (hs:s.size≤1048576):E 11 [.str s] []=some (.tup [(liTo s).osv,.bool (EM s)],(liTo s).obs):=by
 obtain ⟨out,h1,t,j,f,rfl,h3,h4⟩:=Rh s hs
 have h1:E 20 [.ptr 0 0] [.box 46 [.str s,.int .i64 0,.bool false]]=some (.agg [.bool t.pos,.str t.atom.name,.ref 1],[psr s j f,.row 34 2 (t.atom.args.map Tm.o)]):=h1
 cases hr:Nq s (s.size+1) with
 | none =>
  rw [hr] at h4
  have h4:f=true:=h4
  subst h4
  have he:=Ud s j
  obtain ⟨q1,q2⟩:=Qd (s:=s) fun u hu=>by rw [Kh hu] at hr; cases hr
  rw [q1,q2]
  simp only [Ki,Kj]
  refine Ab BC As (of_decide_eq_true rfl) ?_
  simp (disch:=omega) only [Bp,go_sem,Aa,h1,he,Aw,AH,AX,AU]
 | some p =>
  obtain ⟨t0,e⟩:=p
  rw [hr] at h4
  obtain ⟨rfl,rfl,rfl⟩:=h4
  have hn:=Pw hr
  have he:=Ue s j
  have hv1:=FE t (by omega)
  have no:¬ (j=s.size∧t.atom.atom=true∧t.txt=s)→EM s=false∧liTo s=⟨false,.mk ⟨#[]⟩ []⟩:=fun h=>Qd fun u hu=>by
   have:=Kh hu
   rw [hr] at this
   simp only [Option.some.injEq,Prod.mk.injEq] at this
   obtain ⟨rfl,rfl⟩:=this
   exact h ⟨rfl,hu.1,hu.2⟩
  by_cases h0:j=s.size
  ·rw [AJ h0] at he
   cases hv:t.atom.atom with
   | true =>
    rw [hv] at hv1
    have hf:=JX t hv
    by_cases hx:t.txt=s
    ·obtain ⟨q1,q2⟩:=Lk (s:=s) (l:=t) ⟨hv,hx⟩
     rw [q1,q2]
     have hx':(t.txt=s)=True:=eq_true hx
     refine Ab BC As (of_decide_eq_true rfl) ?_
     simp (disch:=omega) only [Bp,go_sem,Aa,h1,he,hv1,hf,hx',Lt.osv,Lt.obs,Tm.erss,Tm.fus,Aw,AH,AX,AU]
    ·obtain ⟨q1,q2⟩:=no fun h=>hx h.2.2
     rw [q1,q2]
     have hx':(t.txt=s)=False:=eq_false hx
     simp only [Ki,Kj]
     refine Ab BC As (of_decide_eq_true rfl) ?_
     simp (disch:=omega) only [Bp,go_sem,Aa,h1,he,hv1,hf,hx',Tm.erss,Tm.fus,Aw,AH,AX,AU]
   | false =>
    rw [hv] at hv1
    obtain ⟨q1,q2⟩:=no fun h=>by rw [hv] at h; cases h.2.1
    rw [q1,q2]
    simp only [Ki,Kj]
    refine Ab BC As (of_decide_eq_true rfl) ?_
    simp (disch:=omega) only [Bp,go_sem,Aa,h1,he,hv1,Tm.erss,Tm.fus,Aw,AH,AX,AU]
  ·rw [AN h0] at he
   obtain ⟨q1,q2⟩:=no fun h=>h0 h.1
   rw [q1,q2]
   simp only [Ki,Kj]
   refine Ab BC As (of_decide_eq_true rfl) ?_
   simp (disch:=omega) only [Bp,go_sem,Aa,h1,he,Aw,AH,AX,AU]
def Lt.hs (l:Lt):List OT:=[.bool l.pos,.str l.atom.name,.sh (l.atom.args.map Tm.d)]
theorem Lt.Uz:∀ xs:List Lt,OT.erss (xs.map Lt.hs)=xs.map Lt.d
 | []=>rfl
 | x :: xs=>by simp only [zI,OT.erss,Lt.hs,OT.ers,OT.er,Lt.Uz xs,Lt.d_eq]
theorem Lt.U0:∀ xs:List Lt,OT.AK (xs.map Lt.hs)=true
 | []=>rfl
 | x :: xs=>by simp only [zI,OT.AK,Lt.hs,OT.DN,OT.full,Lt.U0 xs,Bool.and_self]
theorem Qm (acc:List Lt) (l:Lt):acc.map Lt.hs++[[OT.bool l.pos,.str l.atom.name,.sh (l.atom.args.map Tm.d)]]=(acc++[l]).map Lt.hs:=by rw [zZ]; rfl
theorem Bb:modes 10=⟨[],.asis,some (Gm Jn),false⟩:=by unfold modes; rfl
theorem Ul (s:ByteArray) (hs:s.size≤1048576):E 10 [.str s,.str barB] []=some (.arr ((pcs s).map fun x=>[D.str x]),[]):=by
 refine KV (g:=Jn) (congrArg FM.ext Bb) ?_
 unfold Jn
 simp only
 rw [AJ ⟨hs,by decide⟩,cond_true]
 rfl
theorem SO {α:Type} {p:α→Bool} {xs:List α} {k:Nat} (h:(xs.drop k).all p=xs.all p) (hk:k<xs.length) (hp:p xs[k]=true):(xs.drop (k+1)).all p=xs.all p:=by
 rw [←h,zC hk,zH,hp,z6]
theorem Vw {α:Type} {p:α→Bool} {xs:List α} {k:Nat} (hk:k<xs.length) (hp:p xs[k]=false):xs.all p=false:=by
 cases h:xs.all p with
 | false=>rfl
 | true=>rw [zY.1 h _ (zP hk)] at hp; cases hp
theorem Lp {s:ByteArray} (h:(pcs s).all EM=false):pcB s=false:=by unfold pcB; rw [h]; rfl
def Dj:SC:=(.seq (.reg [⟨some 2,none,.alloc 24 [.nil]⟩,⟨some 3,none,.mv (.c (.bool false))⟩]) (.seq (.seq (.reg [⟨some 9,none,.mv (.t 0)⟩,⟨(some 10),none,(.bin .eql false (.t 9) (.c (.str ⟨#[36,102,97,108,115,101]⟩)))⟩]) (.cond (.t 10) (.seq (.reg [⟨some 11,none,.build [.nil] []⟩,⟨none,none,(.store 1 (.t 2) (.t 11))⟩,⟨some 3,none,.mv (.c (.bool true))⟩]) .ret) .skip)) (.seq (.reg [⟨some 12,none,.build [.nil] []⟩,⟨some 4,none,.alloc 24 [.nil]⟩,⟨none,none,(.store 1 (.t 4) (.t 12))⟩]) (.seq (.seq (.reg [⟨some 13,none,.mv (.t 0)⟩,⟨(some 14),none,(.call 10 [(.t 13),(.c (.str ⟨#[32,124,32]⟩))])⟩,⟨some 15,none,.len false (.t 14)⟩,⟨some 16,none,.mv (.c (.int .i64 0))⟩]) (.block 0 (.loop [0,0,1,0,1,0,0,0,0,0,0,0,0,0,1,1,1,0,0,0,0,0,0,0,0,0,0,0,0,0,0,0,0,0,0,0,0,0,0,0] (.seq (.reg [⟨some 17,none,.bin .lss false (.t 16) (.t 15)⟩]) (.seq (.cond (.t 17) .skip (.exit 0)) (.seq (.block 1 (.seq (.reg [⟨some 18,none,.iaddr 1 (.t 14) (.t 16)⟩,⟨some 19,none,.load false 1 (.t 18)⟩,⟨some 6,none,.mv (.t 19)⟩]) (.seq (.reg [⟨some 21,none,.mv (.t 6)⟩,⟨some 22,none,.call 11 [(.t 21)]⟩,⟨some 20,none,.mv (.t 22)⟩,⟨some 23,none,.ext (.t 20) 0⟩,⟨some 24,none,.ext (.t 20) 1⟩,⟨(some 7),none,(.alloc 36 [(.bool false),(.str ⟨#[]⟩),.nil])⟩,⟨none,none,(.store 3 (.t 7) (.t 23))⟩,⟨some 8,none,.mv (.t 24)⟩]) (.seq (.seq (.reg [⟨some 25,none,.mv (.t 8)⟩,⟨some 26,none,.un .not (.t 25)⟩]) (.cond (.t 26) (.seq (.reg [⟨some 27,none,.build [.nil] []⟩,⟨none,none,(.store 1 (.t 2) (.t 27))⟩,⟨some 3,none,.mv (.c (.bool false))⟩]) .ret) .skip)) (.reg [⟨some 28,none,.faddr 0 (.t 4)⟩,⟨some 29,none,.load false 1 (.t 28)⟩,⟨some 30,none,.load true 3 (.t 7)⟩,⟨(some 31),none,(.mkrow 36 3 [(.bool false),(.str ⟨#[]⟩),.nil] 1 [(0,(.t 30))])⟩,⟨(some 32),none,(.append 36 3 48 [(.bool false),(.str ⟨#[]⟩),.nil] (.t 29) (.t 31))⟩,⟨some 33,none,.faddr 0 (.t 4)⟩,⟨none,none,(.store 1 (.t 33) (.t 32))⟩]))))) (.reg [⟨some 34,none,.bin .add false (.t 16) (.c (.int .i64 1))⟩,⟨some 16,none,.mv (.t 34)⟩]))))))) (.seq (.seq (.reg [⟨some 35,none,.load true 1 (.t 4)⟩,⟨some 36,none,.call 12 [(.t 35)]⟩,⟨some 37,none,.un .not (.t 36)⟩]) (.cond (.t 37) (.seq (.reg [⟨some 38,none,.build [.nil] []⟩,⟨none,none,(.store 1 (.t 2) (.t 38))⟩,⟨some 3,none,.mv (.c (.bool false))⟩]) .ret) .skip)) (.seq (.reg [⟨some 39,none,.load true 1 (.t 4)⟩,⟨none,none,(.store 1 (.t 2) (.t 39))⟩,⟨some 3,none,.mv (.c (.bool true))⟩]) .ret))))))
theorem EJ:Ai Tryz.prog 5=some ⟨40,Dj,[(.cell 2 true 1),(.tmp 3)]⟩:=by kernel_rfl
theorem By:modes 5=⟨[],.own [some (36,3),none],none,false⟩:=by unfold modes; rfl
theorem IM (s:ByteArray) (hs:s.size≤1048576):E 5 [.str s] []=some (.tup [(Hv s).osv,.bool (JW s)],(Hv s).obs):=by
 have hz1:(⟨[]⟩:Cl).osv=.agg [.ref 0]:=rfl
 have hz2:(⟨[]⟩:Cl).obs=[.row 36 3 []]:=rfl
 have hsp:=Ul s hs
 have hb0:barB=⟨#[32,124,32]⟩:=rfl
 rw [hb0] at hsp
 by_cases hf:s=falseB
 ·have q:(s=(⟨#[36,102,97,108,115,101]⟩:ByteArray))=True:=eq_true hf
  rw [(GP hf).1,(GP hf).2,hz1,hz2]
  refine Ab EJ By (of_decide_eq_true rfl) ?_
  simp (disch:=omega) only [Dj,go_sem,Aa,q,hsp,Bb,As,A7]
 ·have q:(s=(⟨#[36,102,97,108,115,101]⟩:ByteArray))=False:=eq_false hf
  have hno:pcB s=false→(JW s=false∧Hv s=⟨[]⟩):=Qk hf
  have hln:=Qi s
  have hps:=Qj s
  obtain ⟨L,hL⟩:∃ L,L=(pcs s).map liTo:=⟨_,rfl⟩
  have hLl:L.length=(pcs s).length:=by rw [hL,zM]
  have h10:((1:Int)=0)=False:=by simp
  refine Ab EJ By (of_decide_eq_true rfl) ?_
  simp (disch:=omega) only [Dj,go_sem,Aa,q,hsp,Bb,As,A7]
  refine go_loop (α:=Int) (fun a=>⟨slots 40 0 [(2,.ptr 0 0),(4,.ptr 1 0),(14,.arr ((pcs s).map fun x=>[D.str x])),(15,.int .i64 (pcs s).length),(16,.int .i64 a)],(if a=0 then [.box 24 [.nil],.box 24 [.nil]] else [.box 24 [.nil],.box 24 [.ref 2],.row 36 3 ((L.take a.toNat).map Lt.o)])⟩) (fun a=>∃ k:Nat,a=k∧k≤((pcs s)).length∧((pcs s).drop k).all EM=(pcs s).all EM) (fun a=>((pcs s)).length-(a).toNat) 0 ⟨0,rfl,zG _,by rw [zD]⟩ (by simp (disch:=omega) only [go_sem,Aa,eq_self,if_true]) ?_
  rintro i ⟨k,hi,hk,hR⟩
  have hni:i.toNat=k:=by omega
  have hni1:(i+1).toNat=k+1:=by omega
  rcases zR k ((pcs s)).length with hlt | hge
  ·have hg:((pcs s).map fun x=>[D.str x])[k]?=some [D.str (pcs s)[k]]:=by rw [zV,List.getElem?_eq_getElem hlt]; rfl
   have hli:=Ie (pcs s)[k] (by have:=Uk (zP hlt); omega)
   have hltL:k<L.length:=by omega
   have hLk:L[k]=liTo (pcs s)[k]:=by simp only [hL,List.getElem_map]
   rw [←hLk] at hli
   have hsn:=Sp Lt.o hltL
   rw [Lt.o_eq] at hsn
   cases hok:EM (pcs s)[k] with
   | false =>
    obtain ⟨n1,n2⟩:=hno (Lp (Vw hlt hok))
    rw [hok] at hli
    rw [n1,n2,hz1,hz2]
    rcases zE k with h0 | h0
    ·subst h0
     obtain rfl:i=0:=hi
     simp (disch:=omega) only [go_sem,Aa,hni,hg,hli,eq_self,if_true,Lt.osv,Lt.obs,Bb,As,A7]
    ·have hi0:(i=0)=False:=by simp; omega
     simp (disch:=omega) only [go_sem,Aa,hni,hg,hli,hi0,if_false,Lt.osv,Lt.obs,Bb,As,A7]
   | true =>
    rw [hok] at hli
    have hR2:=SO hR hlt hok
    rcases zE k with h0 | h0
    ·subst h0
     obtain rfl:i=0:=hi
     rw [List.take_zero,zJ,zN] at hsn
     simp (disch:=omega) only [go_sem,Aa,hni,hg,hli,eq_self,if_true,Lt.osv,Lt.obs,Bb,As,A7]
     refine ⟨1,⟨1,rfl,hlt,hR2⟩,by omega,?_⟩
     simp (disch:=omega) only [go_sem,Aa,h10,if_false,hsn]
    ·have hi0:(i=0)=False:=by simp; omega
     have hi1:(i+1=0)=False:=by simp; omega
     have htl:(L.take k).length=k:=by rw [List.length_take]; omega
     simp (disch:=omega) only [go_sem,Aa,hni,hg,hli,hi0,if_false,htl,Lt.osv,Lt.obs,Bb,As,A7]
     refine ⟨i+1,⟨k+1,by omega,hlt,hR2⟩,by omega,?_⟩
     simp (disch:=omega) only [go_sem,Aa,hni1,hi1,if_false,hsn]
  ·obtain rfl:k=(pcs s).length:=by omega
   rw [zK hge,List.all_nil] at hR
   have hi0:(i=0)=False:=by simp; omega
   have ht2:L.take (pcs s).length=L:=List.take_of_length_le (by omega)
   have hv:=JV ⟨L⟩ (by rw [hL]; exact Ql hR.symm (by omega))
   have hLs:(⟨L⟩:Cl).sv=.agg [.arr (L.map Lt.d)]:=rfl
   rw [hLs] at hv
   have hpb:pcB s=(⟨L⟩:Cl).ok:=by unfold pcB; rw [←hR,z6,hL]
   cases hc:(⟨L⟩:Cl).ok with
   | false =>
    rw [hc] at hv hpb
    obtain ⟨n1,n2⟩:=hno hpb
    rw [n1,n2,hz1,hz2]
    simp (disch:=omega) only [go_sem,Aa,hni,hi0,if_false,ht2,hv,Cl.osv,Cl.obs,Lt.erss,Lt.noss,Bb,As,A7]
   | true =>
    rw [hc] at hv hpb
    obtain ⟨n1,n2⟩:=P3 hf hpb
    rw [n1,n2,← hL]
    simp (disch:=omega) only [go_sem,Aa,hni,hi0,if_false,ht2,hv,Cl.osv,Cl.obs,Lt.erss,Lt.noss,Bb,As,A7]
def CO:SC:=(.seq (.reg [⟨some 2,none,.alloc 24 [.nil]⟩,⟨some 3,none,.mv (.c (.bool false))⟩]) (.seq (.reg [⟨some 9,none,.build [.nil] []⟩,⟨some 4,none,.alloc 24 [.nil]⟩,⟨none,none,(.store 1 (.t 4) (.t 9))⟩]) (.seq (.seq (.reg [⟨some 10,none,.mv (.t 0)⟩,⟨(some 11),none,(.bin .eql false (.t 10) (.c (.str ⟨#[36,102,97,108,115,101]⟩)))⟩]) (.cond (.t 11) (.seq (.reg [⟨some 12,none,.load true 1 (.t 4)⟩,⟨none,none,(.store 1 (.t 2) (.t 12))⟩,⟨some 3,none,.mv (.c (.bool true))⟩]) .ret) .skip)) (.seq (.block 0 (.loop [1,0,1,0,1,0,0,0,0,0,0,0,0,0,0,0,0,0,0,0,0,0,0,0,0,0,0,0,0,0,0,0,0,0,0,0,0,0,0,0,0,0,0,0,0,0,0,0,0,0,0,0,0,0,0] (.seq (.seq (.reg [⟨some 13,none,.mv (.t 0)⟩,⟨(some 14),none,(.bin .neq false (.t 13) (.c (.str ⟨#[]⟩)))⟩]) (.cond (.t 14) .skip (.exit 0))) (.block 1 (.seq (.reg [⟨some 15,none,.mv (.t 0)⟩,⟨some 5,none,.mv (.t 15)⟩]) (.seq (.reg [⟨some 16,none,.mv (.t 0)⟩,⟨(some 17),none,(.call 16 [(.t 16),(.c (.str ⟨#[32,124,32]⟩))])⟩,⟨some 6,none,.mv (.t 17)⟩]) (.seq (.reg [⟨(some 0),none,(.mv (.c (.str ⟨#[]⟩)))⟩]) (.seq (.seq (.reg [⟨some 18,none,.mv (.t 6)⟩,⟨some 19,none,.bin .geq false (.t 18) (.c (.int .i64 0))⟩]) (.cond (.t 19) (.seq (.reg [⟨some 20,none,.mv (.t 5)⟩,⟨some 21,none,.mv (.t 6)⟩,⟨some 22,none,.bin .add false (.t 21) (.c (.int .i64 3))⟩,⟨some 23,none,.slice true 0 (.t 20) (some (.t 22)) none⟩,⟨some 0,none,.mv (.t 23)⟩]) (.seq (.reg [⟨some 24,none,.mv (.t 5)⟩,⟨some 25,none,.mv (.t 6)⟩,⟨some 26,none,.slice true 0 (.t 24) none (some (.t 25))⟩,⟨some 5,none,.mv (.t 26)⟩]) (.seq (.reg [⟨some 27,none,.mv (.t 0)⟩,⟨(some 28),none,(.bin .eql false (.t 27) (.c (.str ⟨#[]⟩)))⟩]) (.cond (.t 28) (.seq (.reg [⟨some 29,none,.build [.nil] []⟩,⟨none,none,(.store 1 (.t 2) (.t 29))⟩,⟨some 3,none,.mv (.c (.bool false))⟩]) .ret) .skip)))) .skip)) (.seq (.reg [⟨some 31,none,.mv (.t 5)⟩,⟨some 32,none,.call 17 [(.t 31)]⟩,⟨some 30,none,.mv (.t 32)⟩,⟨some 33,none,.ext (.t 30) 0⟩,⟨some 34,none,.ext (.t 30) 1⟩,⟨(some 7),none,(.alloc 36 [(.bool false),(.str ⟨#[]⟩),.nil])⟩,⟨none,none,(.store 3 (.t 7) (.t 33))⟩,⟨some 8,none,.mv (.t 34)⟩]) (.seq (.seq (.reg [⟨some 35,none,.mv (.t 8)⟩,⟨some 36,none,.un .not (.t 35)⟩]) (.cond (.t 36) (.seq (.reg [⟨some 37,none,.build [.nil] []⟩,⟨none,none,(.store 1 (.t 2) (.t 37))⟩,⟨some 3,none,.mv (.c (.bool false))⟩]) .ret) .skip)) (.reg [⟨some 38,none,.faddr 0 (.t 4)⟩,⟨some 39,none,.load false 1 (.t 38)⟩,⟨some 40,none,.load true 3 (.t 7)⟩,⟨(some 41),none,(.mkrow 36 3 [(.bool false),(.str ⟨#[]⟩),.nil] 1 [(0,(.t 40))])⟩,⟨(some 42),none,(.append 36 3 48 [(.bool false),(.str ⟨#[]⟩),.nil] (.t 39) (.t 41))⟩,⟨some 43,none,.faddr 0 (.t 4)⟩,⟨none,none,(.store 1 (.t 43) (.t 42))⟩]))))))))))) (.seq (.seq (.reg [⟨some 44,none,.faddr 0 (.t 4)⟩,⟨some 45,none,.load false 1 (.t 44)⟩,⟨some 46,none,.len false (.t 45)⟩,⟨some 47,none,.bin .eql false (.t 46) (.c (.int .i64 0))⟩,⟨some 48,none,.mv (.t 47)⟩,⟨(some 49),(some (48,false)),(.load true 1 (.t 4))⟩,⟨(some 50),(some (48,false)),(.call 18 [(.t 49)])⟩,⟨(some 51),(some (48,false)),(.un .not (.t 50))⟩,⟨some 52,none,.pick (.t 48) (.c (.bool true)) (.t 51)⟩]) (.cond (.t 52) (.seq (.reg [⟨some 53,none,.build [.nil] []⟩,⟨none,none,(.store 1 (.t 2) (.t 53))⟩,⟨some 3,none,.mv (.c (.bool false))⟩]) .ret) .skip)) (.seq (.reg [⟨some 54,none,.load true 1 (.t 4)⟩,⟨none,none,(.store 1 (.t 2) (.t 54))⟩,⟨some 3,none,.mv (.c (.bool true))⟩]) .ret))))))
theorem Eg:Ai Tryz.prog 9=some ⟨55,CO,[(.cell 2 true 1),(.tmp 3)]⟩:=by kernel_rfl
theorem CP:modes 9=⟨[],.frz,none,false⟩:=by unfold modes; rfl
theorem Lq (s:ByteArray) (hs:s.size≤1048576):E 9 [.str s] []=some (.tup [(Hv s).sv,.bool (JW s)],[]):=by
 have hz:(⟨[]⟩:Cl).sv=.agg [.arr []]:=rfl
 have h01:(0+1=0)=False:=by simp
 by_cases hf:s=falseB
 ·have q:(s=(⟨#[36,102,97,108,115,101]⟩:ByteArray))=True:=eq_true hf
  rw [(GP hf).1,(GP hf).2,hz]
  refine Ab Eg CP (of_decide_eq_true rfl) ?_
  simp (disch:=omega) only [CO,go_sem,Aa,q,Ar,Ac,Ay]
 ·have q:(s=(⟨#[36,102,97,108,115,101]⟩:ByteArray))=False:=eq_false hf
  have hno:pcB s=false→(JW s=false∧Hv s=⟨[]⟩):=Qk hf
  have hln:=Qi s
  have hps:=Qj s
  have emp:∀ x:ByteArray,x.size=0→x=⟨#[]⟩:=fun x hx=>AL (by
   have h1:x.toList.length=0:=by rw [An]; exact hx
   rw [zB h1,Bv])
  have e0:(⟨#[]⟩:ByteArray).size=0:=rfl
  refine Ab Eg CP (of_decide_eq_true rfl) ?_
  simp (disch:=omega) only [CO,go_sem,Aa,q,Ar,Ac,Ay]
  refine go_loop (α:=ByteArray × List ByteArray) (fun a=>⟨slots 55 0 [(0,.str a.1),(2,.ptr 0 0),(4,.ptr 1 0)],(if a.2.length=0 then [.box 24 [.nil],.box 24 [.nil]] else [.box 24 [.nil],.box 24 [.ref 2],.row 36 3 ((a.2.map liTo).map Lt.hs)])⟩) (fun a=>a.1.size≤s.size∧a.2.all EM=true∧((0<a.1.size∧pcs s=a.2++pcs a.1)∨(a.1=⟨#[]⟩∧(pcs s=a.2∨(s.size=0∧a.2=[]))))) (fun a=>a.1.size) (s,[]) ⟨zT _,rfl,by
   rcases zE s.size with h0 | h0
   ·exact .inr ⟨emp s h0,.inr ⟨h0,rfl⟩⟩
   ·exact .inl ⟨h0,rfl⟩⟩ (by simp (disch:=omega) only [go_sem,Aa,zF,eq_self,if_true]) ?_
  rintro ⟨rest,done⟩ ⟨hrs,hall,hR⟩
  dsimp only at hrs hall hR
  by_cases hre:rest=⟨#[]⟩
  ·have q1:(rest=(⟨#[]⟩:ByteArray))=True:=eq_true hre
   rcases hR with ⟨h0,_⟩ | ⟨_,hR⟩
   ·rw [hre] at h0; exact absurd h0 (by decide)
   ·rcases hR with hR | ⟨hs0,hd⟩
    ·have hd0:(done.length=0)=False:=eq_false (by rw [hR] at hps; omega)
     have hd1:((done.length:Int)=0)=False:=eq_false (by rw [hR] at hps; omega)
     obtain ⟨L,hL⟩:∃ L,L=done.map liTo:=⟨_,rfl⟩
     have hv:=SK ⟨L⟩ (by rw [hL]; exact Ql hall (by rw [←hR]; omega))
     have hLs:(⟨L⟩:Cl).sv=.agg [.arr (L.map Lt.d)]:=rfl
     rw [hLs] at hv
     have hLl:L.length=done.length:=by rw [hL,zM]
     have hpb:pcB s=(⟨L⟩:Cl).ok:=by unfold pcB; rw [hR,hall,z6,hL]
     have hl2:=Lt.Uz L
     have hl3:=Lt.U0 L
     rw [←hL]
     cases hc:(⟨L⟩:Cl).ok with
     | false =>
      rw [hc] at hv hpb
      obtain ⟨n1,n2⟩:=hno hpb
      rw [n1,n2,hz]
      simp (disch:=omega) only [go_sem,Aa,q1,hd0,hd1,hLl,if_false,hv,hl2,hl3,Ar,Ac,Ay]
     | true =>
      rw [hc] at hv hpb
      obtain ⟨n1,n2⟩:=P3 hf hpb
      rw [n1,n2,hR,← hL,hLs]
      simp (disch:=omega) only [go_sem,Aa,q1,hd0,hd1,hLl,if_false,hv,hl2,hl3,Ar,Ac,Ay]
    ·have hpb:pcB s=false:=Lp (by
      rcases FF s with ⟨_,h⟩ | ⟨i,hi,_⟩
      ·rw [h,zH,Ln hs0]; rfl
      ·have:=IK hi; omega)
     obtain ⟨n1,n2⟩:=hno hpb
     rw [n1,n2,hz]
     subst hd
     simp (disch:=omega) only [go_sem,Aa,q1,zF,eq_self,if_true,zJ,Ar,Ac,Ay]
  ·have q1:(rest=(⟨#[]⟩:ByteArray))=False:=eq_false hre
   rcases hR with ⟨h0,hpc⟩ | ⟨h1,_⟩
   rotate_left
   ·exact absurd h1 hre
   ·have hdl:done.length≤1048577:=by
     have h9:=congrArg List.length hpc
     rw [zQ] at h9
     omega
    obtain ⟨kk,hk,hkq⟩:=O4 rest barB (by omega) (by decide) (by decide)
    have hix:=P1 (by decide) hkq
    have hb0:barB=⟨#[32,124,32]⟩:=rfl
    rw [hb0] at hk
    rcases FF rest with ⟨hm,hp⟩ | ⟨i,hm,hp⟩
    ·obtain rfl:kk=-1:=by omega
     have q2:((0:Int)≤-1)=False:=eq_false (by omega)
     have hli:=Gk rest (by omega)
     have hls:(liTo rest).sv=.agg [.bool (liTo rest).pos,.str (liTo rest).atom.name,.arr ((liTo rest).atom.args.map Tm.d)]:=rfl
     rw [hls] at hli
     cases hok:EM rest with
     | false =>
      rw [hok] at hli
      have hpb:pcB s=false:=Lp (by rw [hpc,hp,zS,zH,hok]; simp)
      obtain ⟨n1,n2⟩:=hno hpb
      rw [n1,n2,hz]
      rcases zE done.length with h0 | h0
      ·have hd0:done=[]:=zB h0
       subst hd0
       simp (disch:=omega) only [go_sem,Aa,q1,hk,q2,hli,zF,eq_self,if_true,zJ,Ar,Ac,Ay]
      ·have hd0:(done.length=0)=False:=eq_false (by omega)
       simp (disch:=omega) only [go_sem,Aa,q1,hk,q2,hli,hd0,if_false,Ar,Ac,Ay]
     | true =>
      rw [hok] at hli
      have hsn:(done.map liTo).map Lt.hs++[[OT.bool (liTo rest).pos,.str (liTo rest).atom.name,.sh ((liTo rest).atom.args.map Tm.d)]]=((done++[rest]).map liTo).map Lt.hs:=by rw [Qm,show (done++[rest]).map liTo=done.map liTo++[liTo rest] from by rw [zZ]; rfl]
      rcases zE done.length with h0 | h0
      ·have hd0:done=[]:=zB h0
       subst hd0
       simp (disch:=omega) only [go_sem,Aa,q1,hk,q2,hli,eq_self,if_true,zF,zJ,zN,Ar,Ac,Ay]
       refine ⟨(⟨#[]⟩,[]++[rest]),⟨by dsimp only; omega,by rw [zN,zH,hok]; rfl,.inr ⟨rfl,.inl (by rw [hpc,hp])⟩⟩,by show (0:Nat)<rest.size; omega,?_⟩
       simp (disch:=omega) only [go_sem,Aa,zA,zF,h01,if_false,zN,zI,zJ,Lt.hs]
      ·have hd0:(done.length=0)=False:=eq_false (by omega)
       have hd1:((done++[rest]).length=0)=False:=by simp
       simp (disch:=omega) only [go_sem,Aa,q1,hk,q2,hli,hd0,if_false,Ar,Ac,Ay]
       refine ⟨(⟨#[]⟩,done++[rest]),⟨by dsimp only; omega,by rw [zS,hall,zH,hok]; rfl,.inr ⟨rfl,.inl (by rw [hpc,hp])⟩⟩,by show (0:Nat)<rest.size; omega,?_⟩
       simp (disch:=omega) only [go_sem,Aa,hd1,if_false,hsn]
    ·obtain rfl:kk=i:=by omega
     have hroom:=IK hm
     have q2:((0:Int)≤(i:Int))=True:=eq_true (by omega)
     have hni:((i:Nat):Int).toNat=i:=Int.toNat_natCast i
     have hni3:((i:Int)+3).toNat=i+3:=by omega
     obtain ⟨part,hpart⟩:∃ x,x=rest.extract 0 i:=⟨_,rfl⟩
     obtain ⟨r2,hr2⟩:∃ x,x=rest.extract (i+3) rest.size:=⟨_,rfl⟩
     have z1:part.size=i:=by rw [hpart,BD (zG _) (by omega)]; omega
     have z2:r2.size=rest.size-(i+3):=by rw [hr2,BD hroom (zT _)]
     rw [←hpart,← hr2] at hp
     have hr3:rest.extract 0 i=part:=hpart.symm
     have hr4:rest.extract (i+3) rest.size=r2:=hr2.symm
     have hli:=Gk part (by omega)
     have hls:(liTo part).sv=.agg [.bool (liTo part).pos,.str (liTo part).atom.name,.arr ((liTo part).atom.args.map Tm.d)]:=rfl
     rw [hls] at hli
     by_cases hr5:r2=⟨#[]⟩
     ·have q4:(r2=(⟨#[]⟩:ByteArray))=True:=eq_true hr5
      have hpb:pcB s=false:=Lp (by
       have hp2:pcs r2=[r2]:=by
        rcases FF r2 with ⟨_,h⟩ | ⟨j,hj,_⟩
        ·exact h
        ·have:=IK hj; rw [hr5] at this; have h9:(⟨#[]⟩:ByteArray).size=0:=rfl; omega
       rw [hpc,hp,hp2,zS,zH,zH,Ln (s:=r2) (by rw [hr5]; rfl)]; simp)
      obtain ⟨n1,n2⟩:=hno hpb
      rw [n1,n2,hz]
      rcases zE done.length with h0 | h0
      ·have hd0:done=[]:=zB h0
       subst hd0
       simp (disch:=omega) only [go_sem,Aa,q1,hk,q2,hni,hni3,hr3,hr4,q4,zF,eq_self,if_true,zJ,Ar,Ac,Ay]
      ·have hd0:(done.length=0)=False:=eq_false (by omega)
       simp (disch:=omega) only [go_sem,Aa,q1,hk,q2,hni,hni3,hr3,hr4,q4,hd0,if_false,Ar,Ac,Ay]
     ·have q4:(r2=(⟨#[]⟩:ByteArray))=False:=eq_false hr5
      have hr6:0<r2.size:=by
       rcases zE r2.size with h | h
       ·exact absurd (emp r2 h) hr5
       ·exact h
      cases hok:EM part with
      | false =>
       rw [hok] at hli
       have hpb:pcB s=false:=Lp (by rw [hpc,hp,zS,zH,hok]; simp)
       obtain ⟨n1,n2⟩:=hno hpb
       rw [n1,n2,hz]
       rcases zE done.length with h0 | h0
       ·have hd0:done=[]:=zB h0
        subst hd0
        simp (disch:=omega) only [go_sem,Aa,q1,hk,q2,hni,hni3,hr3,hr4,q4,hli,zF,eq_self,if_true,zJ,Ar,Ac,Ay]
       ·have hd0:(done.length=0)=False:=eq_false (by omega)
        simp (disch:=omega) only [go_sem,Aa,q1,hk,q2,hni,hni3,hr3,hr4,q4,hli,hd0,if_false,Ar,Ac,Ay]
      | true =>
       rw [hok] at hli
       have hsn:(done.map liTo).map Lt.hs++[[OT.bool (liTo part).pos,.str (liTo part).atom.name,.sh ((liTo part).atom.args.map Tm.d)]]=((done++[part]).map liTo).map Lt.hs:=by rw [Qm,show (done++[part]).map liTo=done.map liTo++[liTo part] from by rw [zZ]; rfl]
       rcases zE done.length with h0 | h0
       ·have hd0:done=[]:=zB h0
        subst hd0
        simp (disch:=omega) only [go_sem,Aa,q1,hk,q2,hni,hni3,hr3,hr4,q4,hli,eq_self,if_true,zF,zJ,zN,Ar,Ac,Ay]
        refine ⟨(r2,[]++[part]),⟨by dsimp only; omega,by rw [zN,zH,hok]; rfl,.inl ⟨by omega,by rw [hpc,hp,List.append_assoc]; rfl⟩⟩,by dsimp only; omega,?_⟩
        simp (disch:=omega) only [go_sem,Aa,zA,zF,h01,if_false,zN,zI,zJ,Lt.hs]
       ·have hd0:(done.length=0)=False:=eq_false (by omega)
        have hd1:((done++[part]).length=0)=False:=by simp
        simp (disch:=omega) only [go_sem,Aa,q1,hk,q2,hni,hni3,hr3,hr4,q4,hli,hd0,if_false,Ar,Ac,Ay]
        refine ⟨(r2,done++[part]),⟨by dsimp only; omega,by rw [zS,hall,zH,hok]; rfl,.inl ⟨by omega,by rw [hpc,hp,List.append_assoc]; rfl⟩⟩,by dsimp only; omega,?_⟩
        simp (disch:=omega) only [go_sem,Aa,hd1,if_false,hsn]
def Dk:SC:=(.seq (.reg [⟨some 2,none,.alloc 24 [.nil]⟩,⟨some 3,none,.mv (.c (.bool false))⟩]) (.seq (.seq (.reg [⟨some 4,none,.mv (.t 0)⟩,⟨some 5,none,.len true (.t 4)⟩,⟨some 6,none,.bin .gtr false (.t 5) (.c (.int .i64 4000))⟩]) (.cond (.t 6) (.seq (.reg [⟨some 7,none,.build [.nil] []⟩,⟨none,none,(.store 1 (.t 2) (.t 7))⟩,⟨some 3,none,.mv (.c (.bool false))⟩]) .ret) .skip)) (.seq (.reg [⟨some 8,none,.mv (.t 0)⟩,⟨some 9,none,.call 9 [(.t 8)]⟩,⟨some 10,none,.ext (.t 9) 0⟩,⟨some 11,none,.ext (.t 9) 1⟩,⟨none,none,(.store 1 (.t 2) (.t 10))⟩,⟨some 3,none,.mv (.t 11)⟩]) .ret)))
theorem EK:Ai Tryz.prog 4=some ⟨12,Dk,[(.cell 2 true 1),(.tmp 3)]⟩:=by kernel_rfl
theorem Bz:modes 4=⟨[],.frz,none,false⟩:=by unfold modes; rfl
theorem IN (s:ByteArray) (hs:s.size≤1048576):E 4 [.str s] []=some (.tup [(Hv s).sv,.bool (JW s)],[]):=by
 have h:=Lq s hs
 have hls:(Hv s).sv=.agg [.arr ((Hv s).lits.map Lt.d)]:=rfl
 rw [hls] at h ⊢
 by_cases h4:s.size≤4000
 ·have hq:((4000:Int)<(s.size:Int))=False:=eq_false (by omega)
  refine Ab EK Bz (of_decide_eq_true rfl) ?_
  simp (disch:=omega) only [Dk,go_sem,Aa,h,hq,CP]
 ·have hq:((4000:Int)<(s.size:Int))=True:=eq_true (by omega)
  have hf:¬ s=falseB:=fun e=>by rw [e] at h4; exact h4 (by decide)
  have hpb:pcB s=false:=by
   cases k:pcB s with
   | false=>rfl
   | true=>exact absurd (SN k) h4
  obtain ⟨n1,n2⟩:=Qk hf hpb
  rw [n1,n2,zJ]
  refine Ab EK Bz (of_decide_eq_true rfl) ?_
  simp (disch:=omega) only [Dk,go_sem,Aa,hq]
mutual
def Tm.wt:Tm→Nat
 | .mk name args=>1+Tm.wtS args
def Tm.wtS:List Tm→Nat
 | []=>0
 | x :: xs=>Tm.wt x+Tm.wtS xs
end
theorem Tm.wt_eq (x:Tm):x.wt=1+Tm.wtS x.args:=by
 obtain ⟨name,args⟩:=x
 rw [Tm.wt]; rfl
mutual
noncomputable def Tm.mk1:Tm→Int→Tm × Int
 | .mk name args,k=>((Tm.mk (ET k) ((Tm.mkS args (k+1)).1)),(Tm.mkS args (k+1)).2)
noncomputable def Tm.mkS:List Tm→Int→List Tm × Int
 | [],k=>([],k)
 | x :: xs,k=>((Tm.mk1 x k).1 :: (Tm.mkS xs (Tm.mk1 x k).2).1,(Tm.mkS xs (Tm.mk1 x k).2).2)
end
theorem Tm.mk1_eq (x:Tm) (k:Int):x.mk1 k=((Tm.mk (ET k) ((Tm.mkS x.args (k+1)).1)),(Tm.mkS x.args (k+1)).2):=by
 obtain ⟨name,args⟩:=x
 rw [Tm.mk1]; rfl
theorem Tm.mk1_d (x:Tm) (k:Int):Tm.d (x.mk1 k).1=[.str (ET k),.arr ((Tm.mkS x.args (k+1)).1.map Tm.d)]:=by
 rw [Tm.mk1_eq,Tm.d_eq]
 try rfl
theorem Tm.mk1_o (x:Tm) (k:Int):Tm.o (x.mk1 k).1=[.str (ET k),.ow ((Tm.mkS x.args (k+1)).1.map Tm.o)]:=by
 rw [Tm.mk1_eq,Tm.o_eq]
 try rfl
theorem Tm.If:∀ (xs:List Tm) (k:Int),(∀ x∈xs,∀ k,(x.mk1 k).2=k+x.wt)→(Tm.mkS xs k).2=k+Tm.wtS xs
 | [],k,_=>by simp [Tm.mkS,Tm.wtS]
 | x :: xs,k,h=>by
  rw [Tm.mkS,Tm.wtS]
  have h1:=h x (by simp) k
  have h2:=Tm.If xs (x.mk1 k).2 fun y hy=>h y (by simp [hy])
  dsimp only
  omega
theorem Tm.mk1_end (x:Tm) (k:Int):(x.mk1 k).2=k+x.wt:=by
 rw [Tm.mk1_eq,Tm.wt_eq]
 have h:=fun k=>Tm.If x.args k fun y hy k=>Tm.mk1_end y k
 simp only [h]
 omega
termination_by SizeOf.sizeOf x
decreasing_by exact Tm.AC hy
theorem Tm.mkS_end (xs:List Tm) (k:Int):(Tm.mkS xs k).2=k+Tm.wtS xs:=Tm.If xs k fun x _ k=>Tm.mk1_end x k
theorem Tm.P4:∀ xs:List Tm,(∀ x∈xs,x.wt≤5*(1+x.bulk))→Tm.wtS xs≤5*(xs.length+Tm.sumB xs)
 | [],_=>by simp [Tm.wtS]
 | x :: xs,h=>by
  have h1:=h x (by simp)
  have h2:=Tm.P4 xs fun y hy=>h y (by simp [hy])
  rw [Tm.wtS,Tm.sumB]; simp only [zA]; omega
theorem Tm.wt_bulk (x:Tm):x.wt≤5*(1+x.bulk):=by
 rw [Tm.wt_eq,Tm.bulk_eq]
 have h:=Tm.P4 x.args fun y hy=>Tm.wt_bulk y
 omega
termination_by SizeOf.sizeOf x
decreasing_by exact Tm.AC hy
theorem Tm.wtS_bulk (xs:List Tm):Tm.wtS xs≤5*(xs.length+Tm.sumB xs):=Tm.P4 xs fun x _=>Tm.wt_bulk x
theorem Tm.length_wt:∀ xs:List Tm,xs.length≤Tm.wtS xs
 | []=>zT _
 | x :: xs=>by
  have:=Tm.length_wt xs
  have:=Tm.wt_eq x
  rw [Tm.wtS]; simp only [zA]; omega
def FG:SC:=(.seq (.reg [⟨some 4,none,.mv (.c (.int .i64 0))⟩]) (.seq (.seq (.reg [⟨some 5,none,.mv (.c (.int .i64 0))⟩]) (.block 0 (.loop [1,1,0,0,0,1,0,0,0,0,0,0,0,0,0,0,0,0,0,0,0,0,0,0,0,0,0,0] (.seq (.seq (.reg [⟨some 6,none,.mv (.t 5)⟩,⟨some 7,none,.mv (.t 0)⟩,⟨some 8,none,.len false (.t 7)⟩,⟨some 9,none,.bin .lss false (.t 6) (.t 8)⟩]) (.cond (.t 9) .skip (.exit 0))) (.seq (.block 1 (.seq (.reg [⟨some 12,none,.mv (.t 0)⟩,⟨some 13,none,.mv (.t 5)⟩,⟨some 14,none,.mv (.t 1)⟩,⟨some 15,none,.call 26 [(.t 14)]⟩,⟨some 16,none,.iaddr 2 (.t 12) (.t 13)⟩,⟨some 17,none,.faddr 0 (.t 16)⟩,⟨none,none,(.store 1 (.t 17) (.t 15))⟩]) (.seq (.reg [⟨some 18,none,.mv (.t 1)⟩,⟨some 19,none,.bin .add false (.t 18) (.c (.int .i64 1))⟩,⟨some 1,none,.mv (.t 19)⟩]) (.reg [⟨some 20,none,.mv (.t 0)⟩,⟨some 21,none,.mv (.t 5)⟩,⟨some 22,none,.iaddr 2 (.t 20) (.t 21)⟩,⟨some 23,none,.faddr 1 (.t 22)⟩,⟨some 24,none,.load false 1 (.t 23)⟩,⟨some 25,none,.mv (.t 1)⟩,⟨some 26,none,.call 27 [(.t 24),(.t 25)]⟩,⟨some 1,none,.mv (.t 26)⟩])))) (.reg [⟨some 10,none,.mv (.t 5)⟩,⟨some 11,none,.bin .add false (.t 10) (.c (.int .i64 1))⟩,⟨some 5,none,.mv (.t 11)⟩])))))) (.seq (.reg [⟨some 27,none,.mv (.t 1)⟩,⟨some 4,none,.mv (.t 27)⟩]) .ret)))
theorem Ju:Ai Tryz.prog 27=some ⟨28,FG,[(.tmp 4)]⟩:=by kernel_rfl
theorem DE:modes 27=⟨[true],.asis,none,true⟩:=by unfold modes; rfl
abbrev Fb (xs:List Tm):Prop:=∀ (k:Int) (ob:List Ob),1≤k→k+Tm.wtS xs≤1099511627776→toTree ob=[.tree (xs.map Tm.o) []]→E 27 [.ref 0,.int .i64 k] ob=some (.int .i64 (Tm.mkS xs k).2,[.tree ((Tm.mkS xs k).1.map Tm.o) []])
theorem GQ (xs:List Tm) (ih:∀ x∈xs,Fb x.args):Fb xs:=by
 intro k0 ob h1 h2 hob
 have hlen:ob.length=1:=by rw [←FO,hob]; rfl
 have hL:=Tm.length_wt xs
 refine Ab Ju DE (of_decide_eq_true rfl) ?_
 simp (disch:=omega) only [FG,go_sem,Aa,hob,hlen]
 refine go_loop (α:=Int × (Int) × (List Tm)) (fun a=>⟨slots 28 0 [(0,.ref 0),(1,.int .i64 (a.2.1)),(5,.int .i64 (a.1))],[.tree (((a.2.2)++xs.drop (a.1).toNat).map Tm.o) []]⟩) (fun a=>∃ k:Nat,a.1=k∧k≤(xs).length∧(a.2.2).length=k∧1≤(a.2.1)∧(a.2.1)+Tm.wtS (xs.drop k)=k0+Tm.wtS xs∧Tm.mkS xs k0=((a.2.2)++(Tm.mkS (xs.drop k) (a.2.1)).1,(Tm.mkS (xs.drop k) (a.2.1)).2)) (fun a=>(xs).length-(a.1).toNat) (0,k0,[]) ⟨0,rfl,zG _,rfl,h1,by rw [zD],by simp⟩ (by simp (disch:=omega) only [go_sem,Aa,zL]) ?_
 rintro ⟨i,kk,dn⟩ ⟨k,hi,hk,hR⟩
 dsimp only at hi hR
 have hni:i.toNat=k:=by omega
 have hni1:(i+1).toNat=k+1:=by omega
 rcases zR k (xs).length with hlt | hge
 ·obtain ⟨hd,hk1,hkn,hm⟩:=hR
  have hdr:xs.drop k=xs[k] :: xs.drop (k+1):=zC hlt
  have hel:(dn++xs.drop k).length=xs.length:=by simp; omega
  have hg:(List.map Tm.o (dn++xs.drop k))[k]?=some [.str xs[k].name,.ow (xs[k].args.map Tm.o)]:=by
   rw [←Tm.o_eq,hdr,zV,zU (by omega),hd,Nat.sub_self]; rfl
  rw [hdr,Tm.wtS] at hkn
  rw [hdr,Tm.mkS] at hm
  have hn1:=Tm.wt_eq xs[k]
  have e1:=Tm.mkS_end xs[k].args ((kk+1))
  have t0:=FW (k:=kk) (by omega) (by omega)
  have c58:=ih xs[k] (zP hlt) ((kk+1)) [.tree (xs[k].args.map Tm.o) []] (by omega) (by omega) rfl
  have hs:=JI Tm.o dn (xs.drop (k+1)) xs[k] (xs[k].mk1 kk).1 hd
  rw [Tm.mk1_o,← hdr] at hs
  have hgs:∀ a,((List.map Tm.o (dn++xs.drop k)).set k a)[k]?=some a:=fun a=>List.getElem?_set_self (by rw [zM,hel]; exact hlt)
  have he:=Tm.mk1_end xs[k] kk
  have three:∀ z:Int,dec ((3:Int)=0)=false:=fun _=>AN (by omega)
  simp (disch:=omega) only [go_sem,Aa,hni,hel,hg,t0,c58,DE,Da,hgs,List.length_set,List.set_set,hs,three 0]
  refine ⟨(i+1,(xs[k].mk1 kk).2,dn++[(xs[k].mk1 kk).1]),⟨k+1,by dsimp only; omega,hlt,by dsimp only; simp [hd],by dsimp only; omega,by dsimp only; omega,by rw [hm]; simp⟩,by dsimp only; omega,?_⟩
  dsimp only
  rw [hni1,Tm.mk1_eq]
  refine ⟨⟨?_,rfl⟩,rfl⟩
  first | rfl | omega
 ·obtain ⟨hd,hk1,hkn,hm⟩:=hR
  have hdr:xs.drop k=[]:=zK hge
  rw [hdr,Tm.mkS] at hm
  rw [hm]
  simp (disch:=omega) only [go_sem,Aa,hni,hdr,List.append_nil]
theorem IO (x:Tm):Fb x.args:=GQ x.args fun y hy=>IO y
termination_by SizeOf.sizeOf x
decreasing_by exact Tm.AC hy
theorem O8 (xs:List Tm):Fb xs:=GQ xs fun y _=>IO y
def Lt.wt (x:Lt):Nat:=2+Tm.wtS x.atom.args
theorem Lt.wt_eq (x:Lt):x.wt=2+Tm.wtS x.atom.args:=rfl
noncomputable def Lt.mk1 (x:Lt) (k:Int):Lt × Int:=((Lt.mk (dec (k.tmod 3=0)) (Tm.mk (ET (k+1)) ((Tm.mkS x.atom.args (k+1+1)).1))),(Tm.mkS x.atom.args (k+1+1)).2)
theorem Lt.mk1_eq (x:Lt) (k:Int):x.mk1 k=((Lt.mk (dec (k.tmod 3=0)) (Tm.mk (ET (k+1)) ((Tm.mkS x.atom.args (k+1+1)).1))),(Tm.mkS x.atom.args (k+1+1)).2):=rfl
def Lt.wtS:List Lt→Nat
 | []=>0
 | x :: xs=>Lt.wt x+Lt.wtS xs
noncomputable def Lt.mkS:List Lt→Int→List Lt × Int
 | [],k=>([],k)
 | x :: xs,k=>((Lt.mk1 x k).1 :: (Lt.mkS xs (Lt.mk1 x k).2).1,(Lt.mkS xs (Lt.mk1 x k).2).2)
theorem Lt.mk1_d (x:Lt) (k:Int):Lt.d (x.mk1 k).1=[.bool (dec (k.tmod 3=0)),.str (ET (k+1)),.arr ((Tm.mkS x.atom.args (k+1+1)).1.map Tm.d)]:=by
 rw [Lt.mk1_eq,Lt.d_eq]
 try rfl
theorem Lt.mk1_o (x:Lt) (k:Int):Lt.o (x.mk1 k).1=[.bool (dec (k.tmod 3=0)),.str (ET (k+1)),.ow ((Tm.mkS x.atom.args (k+1+1)).1.map Tm.o)]:=by
 rw [Lt.mk1_eq,Lt.o_eq]
 try rfl
theorem Lt.mk1_end (x:Lt) (k:Int):(x.mk1 k).2=k+x.wt:=by
 rw [Lt.mk1_eq,Lt.wt_eq]
 first
  |omega
  |(simp only [Tm.mkS_end]; done)
  |(simp only [Tm.mkS_end]; omega)
  |simp
theorem Lt.mkS_end:∀ (xs:List Lt) (k:Int),(Lt.mkS xs k).2=k+Lt.wtS xs
 | [],k=>by simp [Lt.mkS,Lt.wtS]
 | x :: xs,k=>by
  rw [Lt.mkS,Lt.wtS]
  have h1:=Lt.mk1_end x k
  have h2:=Lt.mkS_end xs (x.mk1 k).2
  dsimp only
  omega
theorem Lt.wt_bulk (x:Lt):x.wt≤5*(1+x.bulk):=by
 rw [Lt.wt_eq,Lt.bulk_eq]
 have h0:=Tm.wtS_bulk x.atom.args
 have q1:=Tm.bulk_eq x.atom
 omega
theorem Lt.wtS_bulk:∀ xs:List Lt,Lt.wtS xs≤5*(xs.length+Lt.sumB xs)
 | []=>by simp [Lt.wtS]
 | x :: xs=>by
  have h1:=Lt.wt_bulk x
  have h2:=Lt.wtS_bulk xs
  rw [Lt.wtS,Lt.sumB]; simp only [zA]; omega
theorem Lt.length_wt:∀ xs:List Lt,xs.length≤Lt.wtS xs
 | []=>zT _
 | x :: xs=>by
  have:=Lt.length_wt xs
  have:=Lt.wt_eq x
  rw [Lt.wtS]; simp only [zA]; omega
def Eh:SC:=(.seq (.reg [⟨some 4,none,.mv (.c (.int .i64 0))⟩]) (.seq (.seq (.reg [⟨some 5,none,.mv (.c (.int .i64 0))⟩]) (.block 0 (.loop [1,1,0,0,0,1,0,0,0,0,0,0,0,0,0,0,0,0,0,0,0,0,0,0,0,0,0,0,0,0,0,0,0,0,0,0,0,0,0] (.seq (.seq (.reg [⟨some 6,none,.mv (.t 5)⟩,⟨some 7,none,.mv (.t 0)⟩,⟨some 8,none,.len false (.t 7)⟩,⟨some 9,none,.bin .lss false (.t 6) (.t 8)⟩]) (.cond (.t 9) .skip (.exit 0))) (.seq (.block 1 (.seq (.reg [⟨some 12,none,.mv (.t 0)⟩,⟨some 13,none,.mv (.t 5)⟩,⟨some 14,none,.mv (.t 1)⟩,⟨some 15,none,.bin .rem false (.t 14) (.c (.int .i64 3))⟩,⟨some 16,none,.bin .eql false (.t 15) (.c (.int .i64 0))⟩,⟨some 17,none,.iaddr 3 (.t 12) (.t 13)⟩,⟨some 18,none,.faddr 0 (.t 17)⟩,⟨none,none,(.store 1 (.t 18) (.t 16))⟩]) (.seq (.reg [⟨some 19,none,.mv (.t 1)⟩,⟨some 20,none,.bin .add false (.t 19) (.c (.int .i64 1))⟩,⟨some 1,none,.mv (.t 20)⟩]) (.seq (.reg [⟨some 21,none,.mv (.t 0)⟩,⟨some 22,none,.mv (.t 5)⟩,⟨some 23,none,.mv (.t 1)⟩,⟨some 24,none,.call 26 [(.t 23)]⟩,⟨some 25,none,.iaddr 3 (.t 21) (.t 22)⟩,⟨some 26,none,.faddr 1 (.t 25)⟩,⟨some 27,none,.faddr 0 (.t 26)⟩,⟨none,none,(.store 1 (.t 27) (.t 24))⟩]) (.seq (.reg [⟨some 28,none,.mv (.t 1)⟩,⟨some 29,none,.bin .add false (.t 28) (.c (.int .i64 1))⟩,⟨some 1,none,.mv (.t 29)⟩]) (.reg [⟨some 30,none,.mv (.t 0)⟩,⟨some 31,none,.mv (.t 5)⟩,⟨some 32,none,.iaddr 3 (.t 30) (.t 31)⟩,⟨some 33,none,.faddr 1 (.t 32)⟩,⟨some 34,none,.faddr 1 (.t 33)⟩,⟨some 35,none,.load false 1 (.t 34)⟩,⟨some 36,none,.mv (.t 1)⟩,⟨some 37,none,.call 27 [(.t 35),(.t 36)]⟩,⟨some 1,none,.mv (.t 37)⟩])))))) (.reg [⟨some 10,none,.mv (.t 5)⟩,⟨some 11,none,.bin .add false (.t 10) (.c (.int .i64 1))⟩,⟨some 5,none,.mv (.t 11)⟩])))))) (.seq (.reg [⟨some 38,none,.mv (.t 1)⟩,⟨some 4,none,.mv (.t 38)⟩]) .ret)))
theorem Hw:Ai Tryz.prog 14=some ⟨39,Eh,[(.tmp 4)]⟩:=by kernel_rfl
theorem Ei:modes 14=⟨[true],.asis,none,true⟩:=by unfold modes; rfl
abbrev GR (xs:List Lt):Prop:=∀ (k:Int) (ob:List Ob),1≤k→k+Lt.wtS xs≤1099511627776→toTree ob=[.tree (xs.map Lt.o) []]→E 14 [.ref 0,.int .i64 k] ob=some (.int .i64 (Lt.mkS xs k).2,[.tree ((Lt.mkS xs k).1.map Lt.o) []])
theorem IP (xs:List Lt):GR xs:=by
 intro k0 ob h1 h2 hob
 have hlen:ob.length=1:=by rw [←FO,hob]; rfl
 have hL:=Lt.length_wt xs
 refine Ab Hw Ei (of_decide_eq_true rfl) ?_
 simp (disch:=omega) only [Eh,go_sem,Aa,hob,hlen]
 refine go_loop (α:=Int × (Int) × (List Lt)) (fun a=>⟨slots 39 0 [(0,.ref 0),(1,.int .i64 (a.2.1)),(5,.int .i64 (a.1))],[.tree (((a.2.2)++xs.drop (a.1).toNat).map Lt.o) []]⟩) (fun a=>∃ k:Nat,a.1=k∧k≤(xs).length∧(a.2.2).length=k∧1≤(a.2.1)∧(a.2.1)+Lt.wtS (xs.drop k)=k0+Lt.wtS xs∧Lt.mkS xs k0=((a.2.2)++(Lt.mkS (xs.drop k) (a.2.1)).1,(Lt.mkS (xs.drop k) (a.2.1)).2)) (fun a=>(xs).length-(a.1).toNat) (0,k0,[]) ⟨0,rfl,zG _,rfl,h1,by rw [zD],by simp⟩ (by simp (disch:=omega) only [go_sem,Aa,zL]) ?_
 rintro ⟨i,kk,dn⟩ ⟨k,hi,hk,hR⟩
 dsimp only at hi hR
 have hni:i.toNat=k:=by omega
 have hni1:(i+1).toNat=k+1:=by omega
 rcases zR k (xs).length with hlt | hge
 ·obtain ⟨hd,hk1,hkn,hm⟩:=hR
  have hdr:xs.drop k=xs[k] :: xs.drop (k+1):=zC hlt
  have hel:(dn++xs.drop k).length=xs.length:=by simp; omega
  have hg:(List.map Lt.o (dn++xs.drop k))[k]?=some [.bool xs[k].pos,.str xs[k].atom.name,.ow (xs[k].atom.args.map Tm.o)]:=by
   rw [←Lt.o_eq,hdr,zV,zU (by omega),hd,Nat.sub_self]; rfl
  rw [hdr,Lt.wtS] at hkn
  rw [hdr,Lt.mkS] at hm
  have hn1:=Lt.wt_eq xs[k]
  have e2:=Tm.mkS_end xs[k].atom.args ((kk+1+1))
  have t0:=FW (k:=(kk+1)) (by omega) (by omega)
  have c64:=O8 xs[k].atom.args ((kk+1+1)) [.tree (xs[k].atom.args.map Tm.o) []] (by omega) (by omega) rfl
  have hs:=JI Lt.o dn (xs.drop (k+1)) xs[k] (xs[k].mk1 kk).1 hd
  rw [Lt.mk1_o,← hdr] at hs
  have hgs:∀ a,((List.map Lt.o (dn++xs.drop k)).set k a)[k]?=some a:=fun a=>List.getElem?_set_self (by rw [zM,hel]; exact hlt)
  have he:=Lt.mk1_end xs[k] kk
  have three:∀ z:Int,dec ((3:Int)=0)=false:=fun _=>AN (by omega)
  simp (disch:=omega) only [go_sem,Aa,hni,hel,hg,t0,c64,DE,Da,hgs,List.length_set,List.set_set,hs,three 0]
  refine ⟨(i+1,(xs[k].mk1 kk).2,dn++[(xs[k].mk1 kk).1]),⟨k+1,by dsimp only; omega,hlt,by dsimp only; simp [hd],by dsimp only; omega,by dsimp only; omega,by rw [hm]; simp⟩,by dsimp only; omega,?_⟩
  dsimp only
  rw [hni1,Lt.mk1_eq]
  refine ⟨⟨?_,rfl⟩,rfl⟩
  first | rfl | omega
 ·obtain ⟨hd,hk1,hkn,hm⟩:=hR
  have hdr:xs.drop k=[]:=zK hge
  rw [hdr,Lt.mkS] at hm
  rw [hm]
  simp (disch:=omega) only [go_sem,Aa,hni,hdr,List.append_nil]
theorem Lr (xs:List Lt):GR xs:=IP xs
def FH:SC:=(.seq (.reg [⟨some 4,none,.mv (.c (.int .i64 0))⟩]) (.seq (.seq (.reg [⟨some 5,none,.mv (.c (.int .i64 0))⟩]) (.block 0 (.loop [1,1,0,0,0,1,0,0,0,0,0,0,0,0,0,0,0,0,0,0,0,0,0,0,0,0,0,0,0,0,0,0] (.seq (.seq (.reg [⟨some 6,none,.mv (.t 5)⟩,⟨some 7,none,.mv (.t 0)⟩,⟨some 8,none,.len false (.t 7)⟩,⟨some 9,none,.bin .lss false (.t 6) (.t 8)⟩]) (.cond (.t 9) .skip (.exit 0))) (.seq (.block 1 (.seq (.seq (.dreg [[],[],[0,1],[2,0,1],[3,2,0,1],[],[5],[4,3,2,0,1,6,5]] [⟨some 12,none,.mv (.t 0)⟩,⟨some 13,none,.mv (.t 5)⟩,⟨some 14,none,.iaddr 2 (.t 12) (.t 13)⟩,⟨some 15,none,.faddr 0 (.t 14)⟩,⟨some 16,none,.load false 1 (.t 15)⟩,⟨some 17,none,.mv (.t 1)⟩,⟨some 18,none,.call 26 [(.t 17)]⟩,⟨some 19,none,.bin .neq false (.t 16) (.t 18)⟩]) (.cond (.t 19) (.seq (.reg [⟨some 4,none,.mv (.c (.int .i64 (-(0+1))))⟩]) .ret) .skip)) (.seq (.reg [⟨some 20,none,.mv (.t 1)⟩,⟨some 21,none,.bin .add false (.t 20) (.c (.int .i64 1))⟩,⟨some 1,none,.mv (.t 21)⟩]) (.seq (.reg [⟨some 22,none,.mv (.t 0)⟩,⟨some 23,none,.mv (.t 5)⟩,⟨some 24,none,.iaddr 2 (.t 22) (.t 23)⟩,⟨some 25,none,.faddr 1 (.t 24)⟩,⟨some 26,none,.load false 1 (.t 25)⟩,⟨some 27,none,.mv (.t 1)⟩,⟨some 28,none,.call 28 [(.t 26),(.t 27)]⟩,⟨some 1,none,.mv (.t 28)⟩]) (.seq (.reg [⟨some 29,none,.mv (.t 1)⟩,⟨some 30,none,.bin .lss false (.t 29) (.c (.int .i64 0))⟩]) (.cond (.t 30) (.seq (.reg [⟨some 4,none,.mv (.c (.int .i64 (-(0+1))))⟩]) .ret) .skip)))))) (.reg [⟨some 10,none,.mv (.t 5)⟩,⟨some 11,none,.bin .add false (.t 10) (.c (.int .i64 1))⟩,⟨some 5,none,.mv (.t 11)⟩])))))) (.seq (.reg [⟨some 31,none,.mv (.t 1)⟩,⟨some 4,none,.mv (.t 31)⟩]) .ret)))
theorem Jv:Ai Tryz.prog 28=some ⟨32,FH,[(.tmp 4)]⟩:=by kernel_rfl
theorem DF:modes 28=⟨[],.asis,none,false⟩:=by unfold modes; rfl
theorem Tm.mkS_len:∀ (xs:List Tm) (k:Int),(Tm.mkS xs k).1.length=xs.length
 | [],k=>by rw [Tm.mkS]
 | x :: xs,k=>by rw [Tm.mkS]; simp only [zA]; rw [Tm.mkS_len xs]
abbrev Fc (xs:List Tm):Prop:=∀ k:Int,1≤k→k+Tm.wtS xs≤1099511627776→E 28 [.arr ((Tm.mkS xs k).1.map Tm.d),.int .i64 k] []=some (.int .i64 (Tm.mkS xs k).2,[])
theorem GS (xs:List Tm) (ih:∀ x∈xs,Fc x.args):Fc xs:=by
 intro k0 h1 h2
 obtain ⟨ys,hys⟩:∃ ys,ys=(Tm.mkS xs k0).1:=⟨_,rfl⟩
 have hyl:ys.length=xs.length:=by rw [hys,Tm.mkS_len]
 rw [←hys]
 have hL:=Tm.length_wt xs
 refine Ab Jv DF (of_decide_eq_true rfl) ?_
 simp (disch:=omega) only [FH,go_sem,Aa]
 refine go_loop (α:=Int × (Int)) (fun a=>⟨slots 32 0 [(0,.arr (ys.map Tm.d)),(1,.int .i64 (a.2)),(5,.int .i64 (a.1))],[]⟩) (fun a=>∃ k:Nat,a.1=k∧k≤(ys).length∧1≤(a.2)∧(a.2)+Tm.wtS (xs.drop k)=k0+Tm.wtS xs∧ys.drop k=(Tm.mkS (xs.drop k) (a.2)).1∧(Tm.mkS xs k0).2=(Tm.mkS (xs.drop k) (a.2)).2) (fun a=>(ys).length-(a.1).toNat) (0,k0) ⟨0,rfl,zG _,h1,by rw [zD],by rw [zD,zD,hys],by rw [zD]⟩ (by simp (disch:=omega) only [go_sem,Aa]) ?_
 rintro ⟨i,kk⟩ ⟨k,hi,hk,hR⟩
 dsimp only at hi hR
 have hni:i.toNat=k:=by omega
 have hni1:(i+1).toNat=k+1:=by omega
 rcases zR k (ys).length with hlt | hge
 ·obtain ⟨hk1,hkn,hy,hm⟩:=hR
  have hlx:k<xs.length:=by omega
  have hdr:xs.drop k=xs[k] :: xs.drop (k+1):=zC hlx
  have hdy:=zC hlt
  rw [hdr,Tm.wtS] at hkn
  rw [hdr,Tm.mkS] at hm
  rw [hdr,Tm.mkS,hdy] at hy
  dsimp only at hy hm
  obtain ⟨hy1,hy2⟩:=zX hy
  have hg:=get_at Tm.d hlt
  rw [hy1,Tm.mk1_d] at hg
  have hn1:=Tm.wt_eq xs[k]
  have e1:=Tm.mkS_end xs[k].args ((kk+1))
  have t0:=FW (k:=kk) (by omega) (by omega)
  have c58:=ih xs[k] (zP hlx) ((kk+1)) (by omega) (by omega)
  have he:=Tm.mk1_end xs[k] kk
  simp (disch:=omega) only [go_sem,Aa,hni,hg,Da,Cb,t0,c58,DF]
  refine ⟨(i+1,(xs[k].mk1 kk).2),⟨k+1,by dsimp only; omega,hlt,by dsimp only; omega,by dsimp only; omega,hy2,hm⟩,by dsimp only; omega,?_⟩
  dsimp only
  rw [Tm.mk1_eq]
  simp only [and_self,and_true,true_and]
  try omega
 ·obtain ⟨hk1,hkn,hy,hm⟩:=hR
  have hdr:xs.drop k=[]:=zK (by omega)
  rw [hdr,Tm.mkS] at hm
  rw [hm]
  simp (disch:=omega) only [go_sem,Aa,hni]
theorem IQ (x:Tm):Fc x.args:=GS x.args fun y hy=>IQ y
termination_by SizeOf.sizeOf x
decreasing_by exact Tm.AC hy
theorem O9 (xs:List Tm):Fc xs:=GS xs fun y _=>IQ y
def Ej:SC:=(.seq (.reg [⟨some 4,none,.mv (.c (.int .i64 0))⟩]) (.seq (.seq (.reg [⟨some 5,none,.mv (.c (.int .i64 0))⟩]) (.block 0 (.loop [1,1,0,0,0,1,0,0,0,0,0,0,0,0,0,0,0,0,0,0,0,0,0,0,0,0,0,0,0,0,0,0,0,0,0,0,0,0,0,0,0,0,0,0,0] (.seq (.seq (.reg [⟨some 6,none,.mv (.t 5)⟩,⟨some 7,none,.mv (.t 0)⟩,⟨some 8,none,.len false (.t 7)⟩,⟨some 9,none,.bin .lss false (.t 6) (.t 8)⟩]) (.cond (.t 9) .skip (.exit 0))) (.seq (.block 1 (.seq (.seq (.reg [⟨some 12,none,.mv (.t 0)⟩,⟨some 13,none,.mv (.t 5)⟩,⟨some 14,none,.iaddr 3 (.t 12) (.t 13)⟩,⟨some 15,none,.faddr 0 (.t 14)⟩,⟨some 16,none,.load false 1 (.t 15)⟩,⟨some 17,none,.mv (.t 1)⟩,⟨some 18,none,.bin .rem false (.t 17) (.c (.int .i64 3))⟩,⟨some 19,none,.bin .eql false (.t 18) (.c (.int .i64 0))⟩,⟨some 20,none,.bin .neq true (.t 16) (.t 19)⟩]) (.cond (.t 20) (.seq (.reg [⟨some 4,none,.mv (.c (.int .i64 (-(0+1))))⟩]) .ret) .skip)) (.seq (.reg [⟨some 21,none,.mv (.t 1)⟩,⟨some 22,none,.bin .add false (.t 21) (.c (.int .i64 1))⟩,⟨some 1,none,.mv (.t 22)⟩]) (.seq (.seq (.dreg [[],[],[0,1],[2,0,1],[3,2,0,1],[4,3,2,0,1],[],[6],[5,4,3,2,0,1,7,6]] [⟨some 23,none,.mv (.t 0)⟩,⟨some 24,none,.mv (.t 5)⟩,⟨some 25,none,.iaddr 3 (.t 23) (.t 24)⟩,⟨some 26,none,.faddr 1 (.t 25)⟩,⟨some 27,none,.faddr 0 (.t 26)⟩,⟨some 28,none,.load false 1 (.t 27)⟩,⟨some 29,none,.mv (.t 1)⟩,⟨some 30,none,.call 26 [(.t 29)]⟩,⟨some 31,none,.bin .neq false (.t 28) (.t 30)⟩]) (.cond (.t 31) (.seq (.reg [⟨some 4,none,.mv (.c (.int .i64 (-(0+1))))⟩]) .ret) .skip)) (.seq (.reg [⟨some 32,none,.mv (.t 1)⟩,⟨some 33,none,.bin .add false (.t 32) (.c (.int .i64 1))⟩,⟨some 1,none,.mv (.t 33)⟩]) (.seq (.reg [⟨some 34,none,.mv (.t 0)⟩,⟨some 35,none,.mv (.t 5)⟩,⟨some 36,none,.iaddr 3 (.t 34) (.t 35)⟩,⟨some 37,none,.faddr 1 (.t 36)⟩,⟨some 38,none,.faddr 1 (.t 37)⟩,⟨some 39,none,.load false 1 (.t 38)⟩,⟨some 40,none,.mv (.t 1)⟩,⟨some 41,none,.call 28 [(.t 39),(.t 40)]⟩,⟨some 1,none,.mv (.t 41)⟩]) (.seq (.reg [⟨some 42,none,.mv (.t 1)⟩,⟨some 43,none,.bin .lss false (.t 42) (.c (.int .i64 0))⟩]) (.cond (.t 43) (.seq (.reg [⟨some 4,none,.mv (.c (.int .i64 (-(0+1))))⟩]) .ret) .skip)))))))) (.reg [⟨some 10,none,.mv (.t 5)⟩,⟨some 11,none,.bin .add false (.t 10) (.c (.int .i64 1))⟩,⟨some 5,none,.mv (.t 11)⟩])))))) (.seq (.reg [⟨some 44,none,.mv (.t 1)⟩,⟨some 4,none,.mv (.t 44)⟩]) .ret)))
theorem Hx:Ai Tryz.prog 15=some ⟨45,Ej,[(.tmp 4)]⟩:=by kernel_rfl
theorem Ek:modes 15=⟨[],.asis,none,false⟩:=by unfold modes; rfl
theorem Lt.mkS_len:∀ (xs:List Lt) (k:Int),(Lt.mkS xs k).1.length=xs.length
 | [],k=>by rw [Lt.mkS]
 | x :: xs,k=>by rw [Lt.mkS]; simp only [zA]; rw [Lt.mkS_len xs]
abbrev GT (xs:List Lt):Prop:=∀ k:Int,1≤k→k+Lt.wtS xs≤1099511627776→E 15 [.arr ((Lt.mkS xs k).1.map Lt.d),.int .i64 k] []=some (.int .i64 (Lt.mkS xs k).2,[])
theorem IR (xs:List Lt):GT xs:=by
 intro k0 h1 h2
 obtain ⟨ys,hys⟩:∃ ys,ys=(Lt.mkS xs k0).1:=⟨_,rfl⟩
 have hyl:ys.length=xs.length:=by rw [hys,Lt.mkS_len]
 rw [←hys]
 have hL:=Lt.length_wt xs
 refine Ab Hx Ek (of_decide_eq_true rfl) ?_
 simp (disch:=omega) only [Ej,go_sem,Aa]
 refine go_loop (α:=Int × (Int)) (fun a=>⟨slots 45 0 [(0,.arr (ys.map Lt.d)),(1,.int .i64 (a.2)),(5,.int .i64 (a.1))],[]⟩) (fun a=>∃ k:Nat,a.1=k∧k≤(ys).length∧1≤(a.2)∧(a.2)+Lt.wtS (xs.drop k)=k0+Lt.wtS xs∧ys.drop k=(Lt.mkS (xs.drop k) (a.2)).1∧(Lt.mkS xs k0).2=(Lt.mkS (xs.drop k) (a.2)).2) (fun a=>(ys).length-(a.1).toNat) (0,k0) ⟨0,rfl,zG _,h1,by rw [zD],by rw [zD,zD,hys],by rw [zD]⟩ (by simp (disch:=omega) only [go_sem,Aa]) ?_
 rintro ⟨i,kk⟩ ⟨k,hi,hk,hR⟩
 dsimp only at hi hR
 have hni:i.toNat=k:=by omega
 have hni1:(i+1).toNat=k+1:=by omega
 rcases zR k (ys).length with hlt | hge
 ·obtain ⟨hk1,hkn,hy,hm⟩:=hR
  have hlx:k<xs.length:=by omega
  have hdr:xs.drop k=xs[k] :: xs.drop (k+1):=zC hlx
  have hdy:=zC hlt
  rw [hdr,Lt.wtS] at hkn
  rw [hdr,Lt.mkS] at hm
  rw [hdr,Lt.mkS,hdy] at hy
  dsimp only at hy hm
  obtain ⟨hy1,hy2⟩:=zX hy
  have hg:=get_at Lt.d hlt
  rw [hy1,Lt.mk1_d] at hg
  have hn1:=Lt.wt_eq xs[k]
  have e2:=Tm.mkS_end xs[k].atom.args ((kk+1+1))
  have t0:=FW (k:=(kk+1)) (by omega) (by omega)
  have c64:=O9 xs[k].atom.args ((kk+1+1)) (by omega) (by omega)
  have he:=Lt.mk1_end xs[k] kk
  simp (disch:=omega) only [go_sem,Aa,hni,hg,Da,Cb,t0,c64,DF]
  refine ⟨(i+1,(xs[k].mk1 kk).2),⟨k+1,by dsimp only; omega,hlt,by dsimp only; omega,by dsimp only; omega,hy2,hm⟩,by dsimp only; omega,?_⟩
  dsimp only
  rw [Lt.mk1_eq]
  simp only [and_self,and_true,true_and]
  try omega
 ·obtain ⟨hk1,hkn,hy,hm⟩:=hR
  have hdr:xs.drop k=[]:=zK (by omega)
  rw [hdr,Lt.mkS] at hm
  rw [hm]
  simp (disch:=omega) only [go_sem,Aa,hni]
theorem Ls (xs:List Lt):GT xs:=IR xs
theorem Um {o:Ob} {es:List (List OT)} (h:toTree [o]=[.tree es []]):(∃ a b,o=.row a b es)∨o=.tree es []:=by
 cases o with
 | row a b e=>obtain ⟨h1,h2⟩:=zX h; cases h1; exact .inl ⟨a,b,rfl⟩
 | tree e hs=>obtain ⟨h1,h2⟩:=zX h; cases h1; exact .inr rfl
 | _=>simp [toTree] at h
noncomputable def Cl.mkr (x:Cl) (k:Int):Cl × Int:=((Cl.mk ((Lt.mkS x.lits k).1)),(Lt.mkS x.lits k).2)
def Fd:SC:=(.seq (.reg [⟨some 2,none,.boxv 24 1 (.t 0)⟩,⟨some 4,none,.mv (.c (.int .i64 0))⟩]) (.seq (.reg [⟨some 5,none,.faddr 0 (.t 2)⟩,⟨some 6,none,.load false 1 (.t 5)⟩,⟨some 7,none,.mv (.t 1)⟩,⟨some 8,none,.call 14 [(.t 6),(.t 7)]⟩,⟨some 1,none,.mv (.t 8)⟩]) (.seq (.reg [⟨some 9,none,.mv (.t 1)⟩,⟨some 4,none,.mv (.t 9)⟩]) .ret)))
theorem IS:Ai Tryz.prog 7=some ⟨10,Fd,[(.tmp 4)]⟩:=by kernel_rfl
theorem BR:modes 7=⟨[true],.asis,none,false⟩:=by unfold modes; rfl
theorem Nz (x:Cl) (k:Int) (o0:Ob) (h1:1≤k) (h2:k+(Lt.wtS x.lits:Nat)≤1099511627776) (t0:toTree [o0]=[.tree (x.lits.map Lt.o) []]):E 7 [.agg [.ref 0],.int .i64 k] [o0]=some (.int .i64 (x.mkr k).2,[.tree ((Lt.mkS x.lits k).1.map Lt.o) []]):=by
 have e0:=Lt.mkS_end x.lits k
 rw [Cl.mkr]
 dsimp only
 have c0:=Lr x.lits k [o0] (by omega) (by omega) t0
 rcases Um t0 with ⟨a0,b0,rfl⟩ | rfl <;>
  (
  refine Ab IS BR (of_decide_eq_true rfl) ?_
  simp (disch:=omega) only [Fd,go_sem,Aa,c0,Ei])
def Fe:SC:=(.seq (.reg [⟨some 2,none,.boxv 24 1 (.t 0)⟩,⟨some 4,none,.mv (.c (.int .i64 0))⟩]) (.seq (.reg [⟨some 5,none,.faddr 0 (.t 2)⟩,⟨some 6,none,.load false 1 (.t 5)⟩,⟨some 7,none,.mv (.t 1)⟩,⟨some 8,none,.call 15 [(.t 6),(.t 7)]⟩,⟨some 1,none,.mv (.t 8)⟩]) (.seq (.seq (.reg [⟨some 9,none,.mv (.t 1)⟩,⟨some 10,none,.bin .lss false (.t 9) (.c (.int .i64 0))⟩]) (.cond (.t 10) (.seq (.reg [⟨some 4,none,.mv (.c (.int .i64 (-(0+1))))⟩]) .ret) .skip)) (.seq (.reg [⟨some 11,none,.mv (.t 1)⟩,⟨some 4,none,.mv (.t 11)⟩]) .ret))))
theorem IT:Ai Tryz.prog 8=some ⟨12,Fe,[(.tmp 4)]⟩:=by kernel_rfl
theorem BS:modes 8=⟨[],.asis,none,false⟩:=by unfold modes; rfl
theorem N0 (x:Cl) (k:Int) (h1:1≤k) (h2:k+(Lt.wtS x.lits:Nat)≤1099511627776):E 8 [.agg [.arr ((Lt.mkS x.lits k).1.map Lt.d)],.int .i64 k] []=some (.int .i64 (x.mkr k).2,[]):=by
 have e0:=Lt.mkS_end x.lits k
 rw [Cl.mkr]
 dsimp only
 have c0:=Ls x.lits k (by omega) (by omega)
 refine Ab IT BS (of_decide_eq_true rfl) ?_
 simp (disch:=omega) only [Fe,go_sem,Aa,c0,Ek]
def HF:SC:=(.seq (.reg [⟨some 2,none,.boxv 34 2 (.t 0)⟩,⟨some 3,none,.boxv 34 2 (.t 1)⟩,⟨some 4,none,.mv (.c (.bool false))⟩]) (.seq (.seq (.reg [⟨some 5,none,.faddr 0 (.t 2)⟩,⟨some 6,none,.load false 1 (.t 5)⟩,⟨some 7,none,.faddr 0 (.t 3)⟩,⟨some 8,none,.load false 1 (.t 7)⟩,⟨some 9,none,.bin .neq false (.t 6) (.t 8)⟩]) (.cond (.t 9) (.seq (.reg [⟨some 4,none,.mv (.c (.bool false))⟩]) .ret) .skip)) (.seq (.seq (.reg [⟨some 10,none,.faddr 1 (.t 2)⟩,⟨some 11,none,.load false 1 (.t 10)⟩,⟨some 12,none,.faddr 1 (.t 3)⟩,⟨some 13,none,.load false 1 (.t 12)⟩,⟨some 14,none,.call 70 [(.t 11),(.t 13)]⟩,⟨some 15,none,.un .not (.t 14)⟩]) (.cond (.t 15) (.seq (.reg [⟨some 4,none,.mv (.c (.bool false))⟩]) .ret) .skip)) (.seq (.reg [⟨some 4,none,.mv (.c (.bool true))⟩]) .ret))))
theorem LJ:Ai Tryz.prog 47=some ⟨16,HF,[(.tmp 4)]⟩:=by kernel_rfl
theorem Fs:modes 47=⟨[],.asis,none,false⟩:=by unfold modes; rfl
def GU:SC:=(.seq (.reg [⟨some 4,none,.mv (.c (.bool false))⟩]) (.seq (.seq (.reg [⟨some 6,none,.mv (.t 0)⟩,⟨some 7,none,.len false (.t 6)⟩,⟨some 8,none,.mv (.t 1)⟩,⟨some 9,none,.len false (.t 8)⟩,⟨some 10,none,.bin .neq false (.t 7) (.t 9)⟩]) (.cond (.t 10) (.seq (.reg [⟨some 4,none,.mv (.c (.bool false))⟩]) .ret) .skip)) (.seq (.seq (.reg [⟨some 5,none,.mv (.c (.int .i64 0))⟩]) (.block 0 (.loop [1,1,0,0,0,1,0,0,0,0,0,0,0,0,0,0,0,0,0,0,0,0,0,0,0,0,0] (.seq (.seq (.reg [⟨some 11,none,.mv (.t 5)⟩,⟨some 12,none,.mv (.t 0)⟩,⟨some 13,none,.len false (.t 12)⟩,⟨some 14,none,.bin .lss false (.t 11) (.t 13)⟩]) (.cond (.t 14) .skip (.exit 0))) (.seq (.block 1 (.seq (.dreg [[],[],[0,1],[2,0,1],[],[],[4,5],[6,4,5],[3,2,0,1,7,6,4,5],[8,3,2,0,1,7,6,4,5]] [⟨some 17,none,.mv (.t 0)⟩,⟨some 18,none,.mv (.t 5)⟩,⟨some 19,none,.iaddr 2 (.t 17) (.t 18)⟩,⟨some 20,none,.load true 2 (.t 19)⟩,⟨some 21,none,.mv (.t 1)⟩,⟨some 22,none,.mv (.t 5)⟩,⟨some 23,none,.iaddr 2 (.t 21) (.t 22)⟩,⟨some 24,none,.load true 2 (.t 23)⟩,⟨some 25,none,.call 47 [(.t 20),(.t 24)]⟩,⟨some 26,none,.un .not (.t 25)⟩]) (.cond (.t 26) (.seq (.reg [⟨some 4,none,.mv (.c (.bool false))⟩]) .ret) .skip))) (.reg [⟨some 15,none,.mv (.t 5)⟩,⟨some 16,none,.bin .add false (.t 15) (.c (.int .i64 1))⟩,⟨some 5,none,.mv (.t 16)⟩])))))) (.seq (.reg [⟨some 4,none,.mv (.c (.bool true))⟩]) .ret))))
theorem Lu:Ai Tryz.prog 70=some ⟨27,GU,[(.tmp 4)]⟩:=by kernel_rfl
theorem GV:modes 70=⟨[],.asis,none,false⟩:=by unfold modes; rfl
abbrev IU (x:Tm):Prop:=x.bulk≤1048576→E 47 [x.sv,x.sv] []=some (.bool true,[])
abbrev MM (xs:List Tm):Prop:=xs.length+Tm.sumB xs≤1048576→E 70 [.arr (xs.map Tm.d),.arr (xs.map Tm.d)] []=some (.bool true,[])
theorem N1 (xs:List Tm) (h:∀ x∈xs,IU x):MM xs:=by
 intro hb
 refine Ab Lu GV (of_decide_eq_true rfl) ?_
 simp (disch:=omega) only [GU,go_sem,Aa]
 refine go_loop (α:=Int) (fun i=>⟨slots 27 0 [(0,.arr (xs.map Tm.d)),(1,.arr (xs.map Tm.d)),(5,.int .i64 i)],[]⟩) (fun i=>∃ k:Nat,i=k∧k≤xs.length) (fun i=>xs.length-i.toNat) 0 ⟨0,rfl,zG _⟩ (by simp (disch:=omega) only [go_sem,Aa]) ?_
 ·rintro i ⟨k,rfl,hk⟩
  obtain ⟨i,hi⟩:∃ i:Int,i=(k:Int):=⟨_,rfl⟩
  rw [←hi]
  have hn:i.toNat=k:=by omega
  rcases zR k xs.length with hlt | hge
  ·have hg:=get_at Tm.d hlt
   rw [Tm.d_eq] at hg
   have hle:=Tm.bulk_le xs k hlt
   have hc:=h xs[k] (zP hlt) (by omega)
   simp (disch:=omega) only [go_sem,Aa,hn,hg,hc,Fs]
   refine ⟨i+1,⟨k+1,by omega,hlt⟩,by omega,?_⟩
   trivial
  ·obtain rfl:k=xs.length:=by omega
   simp (disch:=omega) only [go_sem,Aa,hn]
theorem OA (x:Tm) (h_args:MM x.args):IU x:=by
 intro hb
 have qb:=Tm.bulk_eq x
 replace h_args:=h_args (by omega)
 refine Ab LJ Fs (of_decide_eq_true rfl) ?_
 simp (disch:=omega) only [HF,go_sem,Aa,h_args,GV,Cb]
theorem OB (x:Tm):IU x:=OA x (N1 x.args fun y hy=>OB y)
termination_by SizeOf.sizeOf x
decreasing_by exact Tm.AC hy
def FI:SC:=(.seq (.reg [⟨some 2,none,.boxv 36 3 (.t 0)⟩,⟨some 3,none,.boxv 36 3 (.t 1)⟩,⟨some 4,none,.mv (.c (.bool false))⟩]) (.seq (.seq (.reg [⟨some 5,none,.faddr 0 (.t 2)⟩,⟨some 6,none,.load false 1 (.t 5)⟩,⟨some 7,none,.faddr 0 (.t 3)⟩,⟨some 8,none,.load false 1 (.t 7)⟩,⟨some 9,none,.bin .neq true (.t 6) (.t 8)⟩]) (.cond (.t 9) (.seq (.reg [⟨some 4,none,.mv (.c (.bool false))⟩]) .ret) .skip)) (.seq (.seq (.reg [⟨some 10,none,.faddr 1 (.t 2)⟩,⟨some 11,none,.load true 2 (.t 10)⟩,⟨some 12,none,.faddr 1 (.t 3)⟩,⟨some 13,none,.load true 2 (.t 12)⟩,⟨some 14,none,.call 47 [(.t 11),(.t 13)]⟩,⟨some 15,none,.un .not (.t 14)⟩]) (.cond (.t 15) (.seq (.reg [⟨some 4,none,.mv (.c (.bool false))⟩]) .ret) .skip)) (.seq (.reg [⟨some 4,none,.mv (.c (.bool true))⟩]) .ret))))
theorem Jw:Ai Tryz.prog 25=some ⟨16,FI,[(.tmp 4)]⟩:=by kernel_rfl
theorem FJ:modes 25=⟨[],.asis,none,false⟩:=by unfold modes; rfl
def Ff:SC:=(.seq (.reg [⟨some 4,none,.mv (.c (.bool false))⟩]) (.seq (.seq (.reg [⟨some 6,none,.mv (.t 0)⟩,⟨some 7,none,.len false (.t 6)⟩,⟨some 8,none,.mv (.t 1)⟩,⟨some 9,none,.len false (.t 8)⟩,⟨some 10,none,.bin .neq false (.t 7) (.t 9)⟩]) (.cond (.t 10) (.seq (.reg [⟨some 4,none,.mv (.c (.bool false))⟩]) .ret) .skip)) (.seq (.seq (.reg [⟨some 5,none,.mv (.c (.int .i64 0))⟩]) (.block 0 (.loop [1,1,0,0,0,1,0,0,0,0,0,0,0,0,0,0,0,0,0,0,0,0,0,0,0,0,0] (.seq (.seq (.reg [⟨some 11,none,.mv (.t 5)⟩,⟨some 12,none,.mv (.t 0)⟩,⟨some 13,none,.len false (.t 12)⟩,⟨some 14,none,.bin .lss false (.t 11) (.t 13)⟩]) (.cond (.t 14) .skip (.exit 0))) (.seq (.block 1 (.seq (.dreg [[],[],[0,1],[2,0,1],[],[],[4,5],[6,4,5],[3,2,0,1,7,6,4,5],[8,3,2,0,1,7,6,4,5]] [⟨some 17,none,.mv (.t 0)⟩,⟨some 18,none,.mv (.t 5)⟩,⟨some 19,none,.iaddr 3 (.t 17) (.t 18)⟩,⟨some 20,none,.load true 3 (.t 19)⟩,⟨some 21,none,.mv (.t 1)⟩,⟨some 22,none,.mv (.t 5)⟩,⟨some 23,none,.iaddr 3 (.t 21) (.t 22)⟩,⟨some 24,none,.load true 3 (.t 23)⟩,⟨some 25,none,.call 25 [(.t 20),(.t 24)]⟩,⟨some 26,none,.un .not (.t 25)⟩]) (.cond (.t 26) (.seq (.reg [⟨some 4,none,.mv (.c (.bool false))⟩]) .ret) .skip))) (.reg [⟨some 15,none,.mv (.t 5)⟩,⟨some 16,none,.bin .add false (.t 15) (.c (.int .i64 1))⟩,⟨some 5,none,.mv (.t 16)⟩])))))) (.seq (.reg [⟨some 4,none,.mv (.c (.bool true))⟩]) .ret))))
theorem IV:Ai Tryz.prog 13=some ⟨27,Ff,[(.tmp 4)]⟩:=by kernel_rfl
theorem Fg:modes 13=⟨[],.asis,none,false⟩:=by unfold modes; rfl
abbrev GW (x:Lt):Prop:=x.bulk≤1048576→E 25 [x.sv,x.sv] []=some (.bool true,[])
abbrev IW (xs:List Lt):Prop:=xs.length+Lt.sumB xs≤1048576→E 13 [.arr (xs.map Lt.d),.arr (xs.map Lt.d)] []=some (.bool true,[])
theorem JY (xs:List Lt) (h:∀ x∈xs,GW x):IW xs:=by
 intro hb
 refine Ab IV Fg (of_decide_eq_true rfl) ?_
 simp (disch:=omega) only [Ff,go_sem,Aa]
 refine go_loop (α:=Int) (fun i=>⟨slots 27 0 [(0,.arr (xs.map Lt.d)),(1,.arr (xs.map Lt.d)),(5,.int .i64 i)],[]⟩) (fun i=>∃ k:Nat,i=k∧k≤xs.length) (fun i=>xs.length-i.toNat) 0 ⟨0,rfl,zG _⟩ (by simp (disch:=omega) only [go_sem,Aa]) ?_
 ·rintro i ⟨k,rfl,hk⟩
  obtain ⟨i,hi⟩:∃ i:Int,i=(k:Int):=⟨_,rfl⟩
  rw [←hi]
  have hn:i.toNat=k:=by omega
  rcases zR k xs.length with hlt | hge
  ·have hg:=get_at Lt.d hlt
   rw [Lt.d_eq] at hg
   have hle:=Lt.bulk_le xs k hlt
   have hc:=h xs[k] (zP hlt) (by omega)
   simp (disch:=omega) only [go_sem,Aa,hn,hg,hc,FJ]
   refine ⟨i+1,⟨k+1,by omega,hlt⟩,by omega,?_⟩
   trivial
  ·obtain rfl:k=xs.length:=by omega
   simp (disch:=omega) only [go_sem,Aa,hn]
theorem Lv (x:Lt) (h_atom:IU x.atom):GW x:=by
 intro hb
 have qb:=Lt.bulk_eq x
 replace h_atom:=h_atom (by omega)
 refine Ab Jw FJ (of_decide_eq_true rfl) ?_
 simp (disch:=omega) only [FI,go_sem,Aa,h_atom,Fs,Cb]
theorem OC (x:Lt):GW x:=Lv x (OB x.atom)
def Gl:SC:=(.seq (.reg [⟨some 2,none,.boxv 24 1 (.t 0)⟩,⟨some 3,none,.boxv 24 1 (.t 1)⟩,⟨some 4,none,.mv (.c (.bool false))⟩]) (.seq (.seq (.reg [⟨some 5,none,.faddr 0 (.t 2)⟩,⟨some 6,none,.load false 1 (.t 5)⟩,⟨some 7,none,.faddr 0 (.t 3)⟩,⟨some 8,none,.load false 1 (.t 7)⟩,⟨some 9,none,.call 13 [(.t 6),(.t 8)]⟩,⟨some 10,none,.un .not (.t 9)⟩]) (.cond (.t 10) (.seq (.reg [⟨some 4,none,.mv (.c (.bool false))⟩]) .ret) .skip)) (.seq (.reg [⟨some 4,none,.mv (.c (.bool true))⟩]) .ret)))
theorem JZ:Ai Tryz.prog 6=some ⟨11,Gl,[(.tmp 4)]⟩:=by kernel_rfl
theorem Cv:modes 6=⟨[],.asis,none,false⟩:=by unfold modes; rfl
abbrev Lw (x:Cl):Prop:=x.bulk≤1048576→E 6 [x.sv,x.sv] []=some (.bool true,[])
theorem LK (x:Cl) (h_lits:IW x.lits):Lw x:=by
 intro hb
 have qb:=Cl.bulk_eq x
 replace h_lits:=h_lits (by omega)
 refine Ab JZ Cv (of_decide_eq_true rfl) ?_
 simp (disch:=omega) only [Gl,go_sem,Aa,h_lits,Fg,Cb]
theorem P5 (x:Cl):Lw x:=LK x (JY x.lits fun y hy=>OC y)
def BH:SC:=(.seq (.reg [⟨some 2,none,.mv (.c (.bool false))⟩]) (.seq (.seq (.reg [⟨some 11,none,.mv (.t 0)⟩,⟨some 12,none,.len true (.t 11)⟩,⟨some 13,none,.bin .gtr false (.t 12) (.c (.int .i64 1048576))⟩]) (.cond (.t 13) (.seq (.reg [⟨some 2,none,.mv (.c (.bool true))⟩]) .ret) .skip)) (.seq (.reg [⟨some 15,none,.mv (.t 0)⟩,⟨some 16,none,.call 4 [(.t 15)]⟩,⟨some 14,none,.mv (.t 16)⟩,⟨some 17,none,.ext (.t 14) 0⟩,⟨some 18,none,.ext (.t 14) 1⟩,⟨some 3,none,.alloc 24 [.nil]⟩,⟨none,none,(.store 1 (.t 3) (.t 17))⟩,⟨some 4,none,.mv (.t 18)⟩]) (.seq (.reg [⟨some 20,none,.mv (.t 0)⟩,⟨some 21,none,.call 5 [(.t 20)]⟩,⟨some 19,none,.mv (.t 21)⟩,⟨some 22,none,.ext (.t 19) 0⟩,⟨some 23,none,.ext (.t 19) 1⟩,⟨some 5,none,.alloc 24 [.nil]⟩,⟨none,none,(.store 1 (.t 5) (.t 22))⟩,⟨some 6,none,.mv (.t 23)⟩]) (.seq (.seq (.reg [⟨some 24,none,.load true 1 (.t 5)⟩,⟨some 25,none,.load true 1 (.t 3)⟩,⟨some 26,none,.call 6 [(.t 24),(.t 25)]⟩,⟨some 27,none,.un .not (.t 26)⟩,⟨some 28,none,.mv (.t 27)⟩,⟨(some 29),(some (28,false)),(.mv (.t 6))⟩,⟨(some 30),(some (28,false)),(.mv (.t 4))⟩,⟨(some 31),(some (28,false)),(.bin .neq true (.t 29) (.t 30))⟩,⟨some 32,none,.pick (.t 28) (.c (.bool true)) (.t 31)⟩]) (.cond (.t 32) (.seq (.reg [⟨some 2,none,.mv (.c (.bool false))⟩]) .ret) .skip)) (.seq (.reg [⟨some 7,none,.mv (.c (.int .i64 1))⟩]) (.seq (.reg [⟨some 33,none,.load true 1 (.t 5)⟩,⟨some 34,none,.mv (.t 7)⟩,⟨some 35,none,.call 7 [(.t 33),(.t 34)]⟩,⟨some 7,none,.mv (.t 35)⟩]) (.seq (.reg [⟨some 8,none,.mv (.c (.int .i64 1))⟩]) (.seq (.reg [⟨some 36,none,.load true 1 (.t 5)⟩,⟨some 37,none,.mv (.t 8)⟩,⟨some 38,none,.call 8 [(.t 36),(.t 37)]⟩,⟨some 8,none,.mv (.t 38)⟩]) (.seq (.seq (.reg [⟨some 39,none,.mv (.t 8)⟩,⟨some 40,none,.bin .lss false (.t 39) (.c (.int .i64 0))⟩]) (.cond (.t 40) (.seq (.reg [⟨some 2,none,.mv (.c (.bool false))⟩]) .ret) .skip)) (.seq (.seq (.reg [⟨some 41,none,.mv (.t 8)⟩,⟨some 42,none,.mv (.t 7)⟩,⟨some 43,none,.bin .neq false (.t 41) (.t 42)⟩]) (.cond (.t 43) (.seq (.reg [⟨some 2,none,.mv (.c (.bool false))⟩]) .ret) .skip)) (.seq (.reg [⟨some 45,none,.mv (.t 0)⟩,⟨some 46,none,.call 5 [(.t 45)]⟩,⟨some 44,none,.mv (.t 46)⟩,⟨some 47,none,.ext (.t 44) 0⟩,⟨some 48,none,.ext (.t 44) 1⟩,⟨some 9,none,.alloc 24 [.nil]⟩,⟨none,none,(.store 1 (.t 9) (.t 47))⟩,⟨some 10,none,.mv (.t 48)⟩]) (.seq (.seq (.reg [⟨some 49,none,.load true 1 (.t 9)⟩,⟨some 50,none,.load true 1 (.t 3)⟩,⟨some 51,none,.call 6 [(.t 49),(.t 50)]⟩,⟨some 52,none,.un .not (.t 51)⟩,⟨some 53,none,.mv (.t 52)⟩,⟨(some 54),(some (53,false)),(.mv (.t 10))⟩,⟨(some 55),(some (53,false)),(.mv (.t 4))⟩,⟨(some 56),(some (53,false)),(.bin .neq true (.t 54) (.t 55))⟩,⟨some 57,none,.pick (.t 53) (.c (.bool true)) (.t 56)⟩]) (.cond (.t 57) (.seq (.reg [⟨some 2,none,.mv (.c (.bool false))⟩]) .ret) .skip)) (.seq (.reg [⟨some 8,none,.mv (.c (.int .i64 1))⟩]) (.seq (.reg [⟨some 58,none,.load true 1 (.t 5)⟩,⟨some 59,none,.mv (.t 8)⟩,⟨some 60,none,.call 8 [(.t 58),(.t 59)]⟩,⟨some 8,none,.mv (.t 60)⟩]) (.seq (.seq (.reg [⟨some 61,none,.mv (.t 8)⟩,⟨some 62,none,.bin .lss false (.t 61) (.c (.int .i64 0))⟩]) (.cond (.t 62) (.seq (.reg [⟨some 2,none,.mv (.c (.bool false))⟩]) .ret) .skip)) (.seq (.seq (.reg [⟨some 63,none,.mv (.t 8)⟩,⟨some 64,none,.mv (.t 7)⟩,⟨some 65,none,.bin .neq false (.t 63) (.t 64)⟩]) (.cond (.t 65) (.seq (.reg [⟨some 2,none,.mv (.c (.bool false))⟩]) .ret) .skip)) (.seq (.reg [⟨some 2,none,.mv (.c (.bool true))⟩]) .ret))))))))))))))))))
theorem CJ:Ai Tryz.prog 3=some ⟨66,BH,[(.tmp 2)]⟩:=by kernel_rfl
theorem CK:modes 3=⟨[],.asis,none,false⟩:=by unfold modes; rfl
theorem P6 {x:Tm} (h:x.atom=true):x.bulk≤1000:=by
 have he:x.expr=true:=by unfold Tm.expr; rw [h,Bool.or_true]
 have hn:=Tm.FY he
 have hl:=Tm.length_le x.args
 have hs:Tm.sumB x.args+x.args.length≤8*Tm.A3 x.args:=by
  have:=Tm.HV x.args fun y hy=>Tm.Lb y (Tm.Sx he hy)
  omega
 have hsz:x.name.size≤6:=by
  unfold Tm.atom at h
  by_cases hq:x.eqn=true
  ·unfold Tm.eqn at hq
   rw [Aj.1 hq]; decide
  ·rw [if_neg hq,zO] at h
   exact Jr h.1
 rw [Tm.At] at hn
 rw [Tm.bulk_eq]
 omega
theorem Qn:∀ ss:List ByteArray,ss.all EM=true→Lt.sumB (ss.map liTo)≤1000*ss.length
 | [],_=>by simp [Lt.sumB]
 | s :: ss,h=>by
  rw [zH,zO] at h
  have h1:=P6 (Qe h.1)
  have h2:=Qn ss h.2
  rw [zI,Lt.sumB,Lt.bulk_eq,zA]; omega
theorem Ri (s:ByteArray):(Hv s).bulk≤1048576:=by
 have hz:(⟨[]⟩:Cl).bulk≤1048576:=by
  rw [Cl.bulk_eq]
  show 0+Lt.sumB []≤_
  simp [Lt.sumB]
 by_cases hf:s=falseB
 ·rw [(GP hf).2]; exact hz
 ·cases hb:pcB s with
  | false=>rw [(Qk hf hb).2]; exact hz
  | true =>
   rw [(P3 hf hb).2]
   unfold pcB at hb
   rw [zO] at hb
   have h1:=Qn _ hb.1
   have h2:=hb.2
   unfold Cl.ok at h2
   rw [zO,decide_eq_true_eq] at h2
   have h3:((pcs s).map liTo).length≤8:=h2.1
   rw [Cl.bulk_eq]
   show ((pcs s).map liTo).length+Lt.sumB ((pcs s).map liTo)≤_
   rw [zM] at h3 ⊢
   omega
theorem Un (s:ByteArray) (hfs:s.size≤9223372036854775807):E 3 [.str s] []=some (.bool true,[]):=by
 rcases zR 1048576 s.size with hn_s | hn_s
 ·have hq_s:((1048576:Int)<(s.size:Int))=True:=eq_true (by omega)
  refine Ab CJ CK (of_decide_eq_true rfl) ?_
  simp (disch:=omega) only [BH,go_sem,Aa,hq_s]
 have hq_s:((1048576:Int)<(s.size:Int))=False:=eq_false (by omega)
 have a1:=IN s (by omega)
 have a2:=IM s (by omega)
 have hb_r:=Ri s
 obtain ⟨r,hr_r⟩:∃ r,r=Hv s:=⟨_,rfl⟩
 rw [←hr_r] at a1 a2 hb_r
 obtain ⟨o,hr_o⟩:∃ r,r=JW s:=⟨_,rfl⟩
 rw [←hr_o] at a1 a2
 have eq_r:=P5 r (by omega)
 have be_r:=Cl.bulk_eq r
 have w_r_lits:=Lt.wtS_bulk r.lits
 have k_r_0:=Lt.mkS_end r.lits (1)
 have m_r:=Nz r (1) (.row 36 3 (r.lits.map Lt.o)) (by omega) (by omega) rfl
 have hd_r:=N0 r (1) (by omega) (by omega)
 obtain ⟨n_r,hn_r⟩:∃ n1,n1=(r.mkr (1)).2:=⟨_,rfl⟩
 have hn'_r:n_r=(Lt.mkS r.lits (1)).2:=hn_r
 rw [←hn_r] at m_r hd_r
 refine Ab CJ CK (of_decide_eq_true rfl) ?_
 simp (disch:=omega) only [BH,go_sem,hq_s,a1,a2,eq_r,hd_r,m_r,Cb,Cv,BS,BR,Bz,By,Cl.osv,Cl.obs,Lt.osv,Lt.obs,Tm.osv,Tm.obs,Lt.erss,Lt.noss]
 repeat ((first | (refine Sc ?_ ?_; (focus (simp (disch:=omega) only [go_sem,hq_s,a1,a2,eq_r,hd_r,m_r,Cb,Cv,BS,BR,Bz,By,Cl.osv,Cl.obs,Lt.osv,Lt.obs,Tm.osv,Tm.obs,Lt.erss,Lt.noss]; done))) | (refine Sd ?_ ?_; (focus (simp (disch:=omega) only [go_sem,hq_s,a1,a2,eq_r,hd_r,m_r,Cb,Cv,BS,BR,Bz,By,Cl.osv,Cl.obs,Lt.osv,Lt.obs,Tm.osv,Tm.obs,Lt.erss,Lt.noss]; done)))); (try simp (disch:=omega) only [go_sem,hq_s,a1,a2,eq_r,hd_r,m_r,Cb,Cv,BS,BR,Bz,By,Cl.osv,Cl.obs,Lt.osv,Lt.obs,Tm.osv,Tm.obs,Lt.erss,Lt.noss]))
end Go.Proofs.YtoglfpfdhojaaaaGreatDoor
set_option maxRecDepth 100000
set_option linter.unusedSimpArgs false
set_option linter.unusedVariables false
set_option linter.unusedSectionVars false
namespace Go.Proofs.YtoglfpfdhojaaaaGreatDoor
open Go.RowKit Go.ChangeShapes Go.WideShapes Go.ChangeAt Go.Deep
section
variable {H:Type} {enc:TypeId × Value→H} {P:Program} {w:World} {base:Nat} {spare:Nat→Bool} {held:Bool}
end
inductive Lvs (w:World):List D→List Value→Prop
 |nil:Lvs w [] []
 |cons {d:D} {v:Value} {ds:List D} {vs:List Value} (h:DAt w d v) (hs:Lvs w ds vs):Lvs w (d :: ds) (v :: vs)
instance:Inhabited Tm:=⟨Tm.zero⟩
instance:Inhabited Fm:=⟨Fm.zero⟩
section
variable {H:Type} {enc:TypeId × Value→H} {w:World} {base:Nat} {spare:Nat→Bool} {held:Bool}
end
end Go.Proofs.YtoglfpfdhojaaaaGreatDoor
set_option maxRecDepth 100000
set_option linter.unusedSimpArgs false
set_option linter.unusedVariables false
set_option linter.unusedSectionVars false
namespace Go.Proofs.YtoglfpfdhojaaaaGreatDoor
open Go.RowKit
theorem Fun.yes {f:FuncId} {args:List SV} (h:Fun Tryz.prog f args [] (.bool true) []) {w:World} {vs:List Value} (hgl:GL w fun b=>b<w.heap.size) (hvs:RepVs w (fun b=>b<w.heap.size) (fun _=>none) args vs):Calls Tryz.prog f vs.toArray w (Ret w (.bool true)):=by
 have nl:∀ g,¬ (Ad [] g).live:=fun g hg=>by simp [Ad,Ob.live] at hg
 refine (h w (fun b=>b<w.heap.size) (fun _=>none) (fun _ _=>False) vs ⟨fun b hb=>hb,fun g hg=>absurd hg (nl g),fun g b hg=>absurd hg (nl g),fun g b hg=>absurd hg (nl g),fun g g' b hg=>absurd hg (nl g),fun g _=>rfl,hgl⟩ hvs).mono ?_
 rintro e w' ⟨v,I',V',B',rfl,hr,hp⟩
 simp only [RepV] at hr
 subst hr
 exact ⟨rfl,hp.fr.os,hp.fr.tape.1,hp.fr.output,hp.fr.size,fun b hb=>hp.fr.block b hb fun ⟨g,hg,_⟩=>absurd hg (nl g)⟩
theorem SP {w:World} {I:Nat→Prop} {V:Nat→Option Value}:RepVs w I V [] []:=by simp [RepVs]
theorem Rj {w:World} {I:Nat→Prop} {V:Nat→Option Value} {x:SV} {xs:List SV} {v:Value} {vs:List Value} (h:RepV w I V x v) (hs:RepVs w I V xs vs):RepVs w I V (x :: xs) (v :: vs):=by
 simp only [RepVs]; exact ⟨v,vs,rfl,h,hs⟩
section
variable {H:Type} {enc:TypeId × Value→H} {w:World} {base:Nat} {spare:Nat→Bool} {held:Bool}
end
end Go.Proofs.YtoglfpfdhojaaaaGreatDoor
