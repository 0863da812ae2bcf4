/-
  Texts of this claim, one behind the other, each built on those ahead of it. No condition.
-/
import Derived.Test.YtkmenhhapfombaaGreatDoorK45a
import Derived.Test.YtkmenhhapfombaaGreatDoorK45b
import Derived.Shelf.SlLaysF0
import Derived.Test.YtkmenhhapfombaaGreatDoorChecked
import Derived.Shelf.SlSortCmp.NoneTotal
import Derived.Lib.QuietBelow
import Derived.Deep.LoopGhost
import Derived.Lib.SliceRun
import Derived.Shelf.Abstract
import Derived.Shelf.Lays2
import Derived.Shelf.Slices.Clone
import Derived.Shelf.Lays
import Derived.Shelf.Sort.Plain
import Derived.Shelf.Slices.In.SortNone
import Derived.Shelf.Slices.CompactS
import Derived.Shelf.Spec.SlicesGrow
import Derived.Shelf.LaysM
import Derived.Shelf.Strconv.Itoa3
set_option maxHeartbeats 16000000
open Bool renaming and_eq_true → zA, and_self → zF, and_true → zQ, or_eq_true → yE, and_false → yR, false_and → y4, eq_false_iff → y8, true_and → xB, false_or → xJ
open List renaming map_cons → zB, eq_nil_of_length_eq_zero → zC, drop_eq_getElem_cons → zG, mem_cons → zH, getElem_mem → zJ, drop_eq_nil_of_le → zL, length_cons → zM, drop_zero → zN, map_nil → zO, length_map → zR, getElem?_eq_getElem → zS, pairwise_cons → zV, getElem_cons_zero → zW, getElem_map → zY, getElem_cons_succ → z6, foldl_cons → z7, length_append → z8, all_eq_true → yA, length_nil → yC, map_append → yH, getD_eq_getElem?_getD → yJ, map_map → yL, mem_map → yM, getElem_of_mem → yN, take_succ_cons → yO, nil_append → yP, getElem?_cons_succ → yQ, take_succ_eq_append_getElem → yS, length_filter_le → yT, cons_append → yU, any_cons → yV, getElem_toArray → yX, drop_succ_cons → yZ, replicate_succ → y0, take_zero → y2, set_cons_zero → y3, getElem?_map → y5, size_toArray → y6, foldl_append → y9, all_cons → xA, length_take → xC, range → xD, headD_cons → xF, append_nil → xG, replicate → xH
open Option.some renaming injEq → zD, inj → zK
open Nat renaming lt_or_ge → zE, zero_le → zP, eq_zero_or_pos → zT, le_refl → zU, zero_add → yB, lt_of_lt_of_le → yG, add_zero → yK, mul_one → yW, not_lt → xE
open Prod.mk renaming injEq → zI, inj → yD
open Array renaming getElem?_eq_getElem → zX, getD_eq_getD_getElem? → zZ, getElem?_eq_some_iff → yI
open Option renaming getD_some → yF, map_some → yY
open Int renaming toNat_natCast → y7, toNat_zero → xI
set_option maxRecDepth 100000
set_option linter.unusedSimpArgs false
set_option linter.unusedVariables false
set_option linter.unusedSectionVars false
namespace Go.Proofs.YtkmenhhapfombaaGreatDoor
open Go.RowKit
abbrev Tm.sv (x:Tm):SV:=.agg [.str x.name,.arr (x.args.map Tm.d)]
mutual
def Tm.o:Tm→List OT
 | .mk name args=>[.str name,.ow (Tm.os args)]
def Tm.os:List Tm→List (List OT)
 | []=>[]
 | x :: xs=>Tm.o x :: Tm.os xs
end
theorem Tm.os_eq:∀ xs:List Tm,Tm.os xs=xs.map Tm.o
 | []=>rfl
 | x :: xs=>by rw [Tm.os,Tm.os_eq xs]; rfl
theorem Tm.o_eq (x:Tm):Tm.o x=[.str x.name,.ow (x.args.map Tm.o)]:=by
 obtain ⟨name,args⟩:=x
 rw [Tm.o,Tm.os_eq]; rfl
theorem Tm.ers_of:∀ xs:List Tm,(∀ x∈xs,OT.ers (Tm.o x)=Tm.d x)→OT.erss (xs.map Tm.o)=xs.map Tm.d
 | [],_=>rfl
 | x :: xs,h=>by
  simp only [zB,OT.erss]
  rw [h x (by simp),Tm.ers_of xs fun y hy=>h y (by simp [hy])]
theorem Tm.er (x:Tm):OT.ers (Tm.o x)=Tm.d x:=by
 have h:=Tm.ers_of x.args fun y hy=>Tm.er y
 rw [Tm.o_eq,Tm.d_eq]
 simp only [OT.ers,OT.er,h]
termination_by SizeOf.sizeOf x
decreasing_by exact Tm.lt_of_mem hy
theorem Tm.erss (xs:List Tm):OT.erss (xs.map Tm.o)=xs.map Tm.d:=Tm.ers_of xs fun x _=>Tm.er x
theorem Tm.nos_of:∀ xs:List Tm,(∀ x∈xs,OT.DF (Tm.o x)=true)→OT.Cg (xs.map Tm.o)=true
 | [],_=>rfl
 | x :: xs,h=>by
  simp only [zB,OT.Cg]
  rw [h x (by simp),Tm.nos_of xs fun y hy=>h y (by simp [hy])]; rfl
theorem Tm.no (x:Tm):OT.DF (Tm.o x)=true:=by
 have h:=Tm.nos_of x.args fun y hy=>Tm.no y
 rw [Tm.o_eq]
 simp only [OT.DF,OT.noSh,h,zF,zQ]
termination_by SizeOf.sizeOf x
decreasing_by exact Tm.lt_of_mem hy
theorem Tm.noss (xs:List Tm):OT.Cg (xs.map Tm.o)=true:=Tm.nos_of xs fun x _=>Tm.no x
abbrev Tm.osv (x:Tm):SV:=.agg [.str x.name,.ref 0]
abbrev Tm.obs (x:Tm):List Ob:=[.row 26 2 (x.args.map Tm.o)]
abbrev Fm.sv (x:Fm):SV:=.agg [.int .i64 x.op,.str x.atom.name,.arr (x.atom.args.map Tm.d),.str x.var,.arr (x.parts.map Fm.d)]
mutual
def Fm.o:Fm→List OT
 | .mk op atom var parts=>[.int op,.str atom.name,.ow (atom.args.map Tm.o),.str var,.ow (Fm.os parts)]
def Fm.os:List Fm→List (List OT)
 | []=>[]
 | x :: xs=>Fm.o x :: Fm.os xs
end
theorem Fm.os_eq:∀ xs:List Fm,Fm.os xs=xs.map Fm.o
 | []=>rfl
 | x :: xs=>by rw [Fm.os,Fm.os_eq xs]; rfl
theorem Fm.o_eq (x:Fm):Fm.o x=[.int x.op,.str x.atom.name,.ow (x.atom.args.map Tm.o),.str x.var,.ow (x.parts.map Fm.o)]:=by
 obtain ⟨op,atom,var,parts⟩:=x
 rw [Fm.o,Fm.os_eq]; rfl
theorem Fm.ers_of:∀ xs:List Fm,(∀ x∈xs,OT.ers (Fm.o x)=Fm.d x)→OT.erss (xs.map Fm.o)=xs.map Fm.d
 | [],_=>rfl
 | x :: xs,h=>by
  simp only [zB,OT.erss]
  rw [h x (by simp),Fm.ers_of xs fun y hy=>h y (by simp [hy])]
theorem Fm.er (x:Fm):OT.ers (Fm.o x)=Fm.d x:=by
 have h:=Fm.ers_of x.parts fun y hy=>Fm.er y
 rw [Fm.o_eq,Fm.d_eq]
 simp only [OT.ers,OT.er,h,Tm.erss]
termination_by SizeOf.sizeOf x
decreasing_by exact Fm.lt_of_mem hy
theorem Fm.erss (xs:List Fm):OT.erss (xs.map Fm.o)=xs.map Fm.d:=Fm.ers_of xs fun x _=>Fm.er x
theorem Fm.nos_of:∀ xs:List Fm,(∀ x∈xs,OT.DF (Fm.o x)=true)→OT.Cg (xs.map Fm.o)=true
 | [],_=>rfl
 | x :: xs,h=>by
  simp only [zB,OT.Cg]
  rw [h x (by simp),Fm.nos_of xs fun y hy=>h y (by simp [hy])]; rfl
theorem Fm.no (x:Fm):OT.DF (Fm.o x)=true:=by
 have h:=Fm.nos_of x.parts fun y hy=>Fm.no y
 rw [Fm.o_eq]
 simp only [OT.DF,OT.noSh,h,Tm.noss,zF,zQ]
termination_by SizeOf.sizeOf x
decreasing_by exact Fm.lt_of_mem hy
theorem Fm.noss (xs:List Fm):OT.Cg (xs.map Fm.o)=true:=Fm.nos_of xs fun x _=>Fm.no x
abbrev Fm.osv (x:Fm):SV:=.agg [.int .i64 x.op,.str x.atom.name,.ref 0,.str x.var,.ref 1]
abbrev Fm.obs (x:Fm):List Ob:=[.row 26 2 (x.atom.args.map Tm.o),.row 29 5 (x.parts.map Fm.o)]
abbrev Lt.sv (x:Lt):SV:=.agg [.bool x.pos,.str x.atom.name,.arr (x.atom.args.map Tm.d)]
def Lt.o (x:Lt):List OT:=[.bool x.pos,.str x.atom.name,.ow (x.atom.args.map Tm.o)]
theorem Lt.er (x:Lt):OT.ers (Lt.o x)=Lt.d x:=by
 simp only [Lt.o,Lt.d,OT.ers,OT.er,Tm.erss]
theorem Lt.erss:∀ xs:List Lt,OT.erss (xs.map Lt.o)=xs.map Lt.d
 | []=>rfl
 | x :: xs=>by simp only [zB,OT.erss,Lt.er,Lt.erss xs]
theorem Lt.no (x:Lt):OT.DF (Lt.o x)=true:=by
 simp only [Lt.o,OT.DF,OT.noSh,Tm.noss,zF,zQ]
theorem Lt.noss:∀ xs:List Lt,OT.Cg (xs.map Lt.o)=true
 | []=>rfl
 | x :: xs=>by simp only [zB,OT.Cg,Lt.no,Lt.noss xs,zF]
def Cl.o (x:Cl):List OT:=[.ow (x.lits.map Lt.o)]
theorem Cl.er (x:Cl):OT.ers (Cl.o x)=Cl.d x:=by
 simp only [Cl.o,Cl.d,OT.ers,OT.er,Lt.erss]
theorem Cl.erss:∀ xs:List Cl,OT.erss (xs.map Cl.o)=xs.map Cl.d
 | []=>rfl
 | x :: xs=>by simp only [zB,OT.erss,Cl.er,Cl.erss xs]
theorem Cl.no (x:Cl):OT.DF (Cl.o x)=true:=by
 simp only [Cl.o,OT.DF,OT.noSh,Lt.noss,zF,zQ]
theorem Cl.noss:∀ xs:List Cl,OT.Cg (xs.map Cl.o)=true
 | []=>rfl
 | x :: xs=>by simp only [zB,OT.Cg,Cl.no,Cl.noss xs,zF]
def Bd.o (x:Bd):List OT:=[.str x.var,.str x.term.name,.ow (x.term.args.map Tm.o)]
theorem Bd.er (x:Bd):OT.ers (Bd.o x)=Bd.d x:=by
 simp only [Bd.o,Bd.d,OT.ers,OT.er,Tm.erss]
theorem Bd.erss:∀ xs:List Bd,OT.erss (xs.map Bd.o)=xs.map Bd.d
 | []=>rfl
 | x :: xs=>by simp only [zB,OT.erss,Bd.er,Bd.erss xs]
theorem Bd.no (x:Bd):OT.DF (Bd.o x)=true:=by
 simp only [Bd.o,OT.DF,OT.noSh,Tm.noss,zF,zQ]
theorem Bd.noss:∀ xs:List Bd,OT.Cg (xs.map Bd.o)=true
 | []=>rfl
 | x :: xs=>by simp only [zB,OT.Cg,Bd.no,Bd.noss xs,zF]
abbrev Sb.sv (x:Sb):SV:=.agg [.arr (x.binds.map Bd.d)]
def Sb.o (x:Sb):List OT:=[.ow (x.binds.map Bd.o)]
theorem Sb.er (x:Sb):OT.ers (Sb.o x)=Sb.d x:=by
 simp only [Sb.o,Sb.d,OT.ers,OT.er,Bd.erss]
theorem Sb.erss:∀ xs:List Sb,OT.erss (xs.map Sb.o)=xs.map Sb.d
 | []=>rfl
 | x :: xs=>by simp only [zB,OT.erss,Sb.er,Sb.erss xs]
theorem Sb.no (x:Sb):OT.DF (Sb.o x)=true:=by
 simp only [Sb.o,OT.DF,OT.noSh,Bd.noss,zF,zQ]
theorem Sb.noss:∀ xs:List Sb,OT.Cg (xs.map Sb.o)=true
 | []=>rfl
 | x :: xs=>by simp only [zB,OT.Cg,Sb.no,Sb.noss xs,zF]
end Go.Proofs.YtkmenhhapfombaaGreatDoor
set_option maxRecDepth 100000
set_option linter.unusedSimpArgs false
set_option linter.unusedVariables false
set_option linter.unusedSectionVars false
namespace Go.Proofs.YtkmenhhapfombaaGreatDoor
open Go.RowKit Go.Shelf Go.Lib Go.Sort
noncomputable def unL (es:List (List OT)):List Lt:=match Classical.propDecidable (∃ xs:List Lt,es=xs.map Lt.o) with
 | .isTrue h=>Classical.choose h
 | .isFalse _=>[]
noncomputable def Qcu (xs:List Lt):List Lt:=xs.mergeSort fun x y=>decide (x.cmp y≤0)
noncomputable def Qcr (xs:List SV) (ob:List Ob):Option (SV × List Ob) :=
 match xs,ob with
 | [.ref 0,.fn f []],[.row t sz es]=>bif dec (f=199∧sz=3∧es.length≤1099511627776∧∃ xs:List Lt,es=xs.map Lt.o∧∀ x∈xs,∀ y∈xs,FunD Tryz.prog f [x.sv,y.sv] [] (.int .i64 (x.cmp y)) []) then some (.tup [],[.row t sz ((Qcu (unL es)).map Lt.o)]) else none
 | [.nil,.fn f []],[]=>bif dec (f=199) then some (.tup [],[]) else none
 | _,_=>none
end Go.Proofs.YtkmenhhapfombaaGreatDoor
set_option maxRecDepth 100000
set_option linter.unusedSimpArgs false
set_option linter.unusedVariables false
set_option linter.unusedSectionVars false
namespace Go.Proofs.YtkmenhhapfombaaGreatDoor
open Go.RowKit Go.Shelf
def Qbo (eq:Nat→Nat→Bool) (i:Nat):Bool:=i == 0 || !eq i (i-1)
def kept (eq:Nat→Nat→Bool) (m:Nat):List Nat:=(xD m).filter (Qbo eq)
structure RowOnly (w:World) (b:Nat) (t:TypeId) (cur:Array Value) (w':World):Prop where
 os:w'.os=w.os
 tape:w'.tape=w.tape
 output:w'.output=w.output
 size:w.heap.size≤w'.heap.size
 block:∀ x,x<w.heap.size→x≠b→w'.heap[x]?=w.heap[x]?
 row:w'.heap[b]?=some (.cells cur t (0,0))
structure CompI (eq:Nat→Nat→Bool) (cur:Array Value) (m kk:Nat) (cur2:Array Value):Prop where
 len:kk=(kept eq m).length
 lt:kk<m
 size:cur2.size=cur.size
 low:∀ p (hp:p<(kept eq m).length) j,j<3→cur2.getD (p*3+j) undef=cur.getD ((kept eq m)[p]*3+j) undef
 high:∀ {q},kk*3≤q→cur2.getD q undef=cur.getD q undef
end Go.Proofs.YtkmenhhapfombaaGreatDoor
set_option maxRecDepth 100000
set_option linter.unusedSimpArgs false
set_option linter.unusedVariables false
set_option linter.unusedSectionVars false
namespace Go.Proofs.YtkmenhhapfombaaGreatDoor
open Go.RowKit Go.Shelf
noncomputable def Qcv (xs:List Lt) (i j:Nat):Bool:=dec (xs[i]?=xs[j]?)
noncomputable def QbW (xs:List Lt):List Lt:=(kept (Qcv xs) xs.length).filterMap fun i=>xs[i]?
noncomputable def Qbp (xs:List SV) (ob:List Ob):Option (SV × List Ob) :=
 match xs,ob with
 | [.ref 0,.fn f []],[.row t sz es]=>bif dec (f=201∧sz=3∧es.length≤1099511627776∧∃ xs:List Lt,es=xs.map Lt.o∧∀ x∈xs,∀ y∈xs,Fun Tryz.prog f [x.sv,y.sv] [] (.bool (dec (x=y))) []) then some (.ref 1,[.gone,.row t sz ((QbW (unL es)).map Lt.o)]) else none
 | [.nil,.fn f []],[]=>bif dec (f=201) then some (.nil,[]) else none
 | _,_=>none
end Go.Proofs.YtkmenhhapfombaaGreatDoor
set_option maxRecDepth 100000
namespace Go.Proofs.YtkmenhhapfombaaGreatDoor
open Go.Shelf
def so_CloneS_ren:Go.Shelf.Ren:=⟨fun | 16=>44 | n=>n,fun | 24=>36 | 9=>9 | 4=>4 | n=>n,fun | n=>n⟩
theorem Mo:Go.Proofs.Lays2.n16 Tryz.prog so_CloneS_ren:={
 mixed:=by kernel_rfl,
 f16:=Tryz.func44.trans (congrArg some (by kernel_rfl)),
 t4:=Tryz.underlying4,
 a4:=Tryz.isAgg4,
 z4:=Tryz.sizeOf4,
 v4:=Tryz.zeroValue4,
 t9:=Tryz.underlying9,
 a9:=Tryz.isAgg9,
 z9:=Tryz.sizeOf9,
 v9:=Tryz.zeroValue9,
 t24:=Tryz.underlying36,
 a24:=Tryz.isAgg36,
 z24:=Tryz.sizeOf36,
 v24:=Tryz.zeroValue36,
 i9:=by kernel_rfl }
end Go.Proofs.YtkmenhhapfombaaGreatDoor
set_option maxRecDepth 100000
set_option linter.unusedSimpArgs false
set_option linter.unusedVariables false
set_option linter.unusedSectionVars false
namespace Go.Proofs.YtkmenhhapfombaaGreatDoor
open Go.RowKit
theorem Jo {w w':World} {I:Nat→Prop} {V:Nat→Option Value} {B:Nat→Nat→Prop} (hwf:Wf w I V B (Au [])) (hbel:Below w.heap.size w w') {v:Value} {t:TypeId} {os:List OT} {vals:List Value} (hl:vals.length=os.length)
  (hown:w'.ownsRow w.heap.size t 1 v os.length vals) (hv:∀ i (h:i<os.length),ORep w' I (fun _=>False) os[i] (vals.getD i undef)) :
  ∃ V' B',RepV w' I V' (.ref 0) v∧FunPost w I V B [] [.row t 1 (os.map fun o=>[o])] w' I V' B':=by
 have hV0:V 0=none:=hwf.fr 0 rfl
 have hn:=hbel.size
 have gS:∀ (e:List (List OT)) (g:Nat),Au [Ob.row t 1 e] (g+1)=.free:=fun _ _=>rfl
 obtain ⟨hx,hform⟩:=hown
 let B':Nat→Nat→Prop:=fun g b=>g=0∧w.heap.size≤b∧b<w'.heap.size∧∃ o n c,v=.slice (some ⟨b,o,none⟩) n c
 have hform2:∃ a n c,v=.slice a n c:=by
  rcases hform with ⟨rfl,_⟩ | ⟨g,cap,cur,rfl,_⟩
  ·exact ⟨_,_,_,rfl⟩
  ·exact ⟨_,_,_,rfl⟩
 have hrow:RowR w' I (B' 0) t 1 (os.map fun o=>[o]) v:=by
  rcases hform with ⟨rfl,h0⟩ | ⟨g,cap,cur,rfl,hg,hb,h1,h2,h3,h4⟩
  ·left
   have:os=[]:=zC h0
   subst this
   exact ⟨rfl,rfl⟩
  ·right
   have hlt:=(yI.1 hb).1
   refine ⟨g,cap,cur,fun _ _ _=>False,by rw [zR],⟨rfl,hg,hlt,_,_,_,rfl⟩,hb,by rw [zR]; exact h1,by unfold maxLen at h2; omega,h3,fun i hi=>by simp,fun _ _ _ h=>h.elim,fun _ _ _ _ _ h=>h.elim,fun i j hi hj=>?_⟩
   have hi':i<os.length:=by simpa using hi
   have hj0:j=0:=by simpa using hj
   subst hj0
   have e:cur.getD (i*1+0) undef=vals.getD i undef:=by
    have hc:i<cur.size:=by omega
    rw [←h4,yW,yK,zZ,yJ,List.getElem?_take]
    simp only [yW,hi',if_true,Array.getElem?_toList]
   rw [e]
   have:=hv i hi'
   simpa using this
 refine ⟨fun g=>if g=0 then some v else V g,B',?_,?_⟩
 ·simp only [RepV]
  exact ⟨by simp,by obtain ⟨a,n,c,e⟩:=hform2; rw [e]; rfl⟩
 ·refine ⟨⟨hbel.os,⟨hbel.tape,fun h=>False.elim h⟩,hbel.output,hn,fun x hx _=>hbel.block x hx⟩,fun x hx=>hx,fun x hx=>.inl hx,fun g u hu=>?_,⟨fun x hx=>yG (hwf.ilt x hx) hn,fun g hl=>?_,fun g b hl hb=>hb.2.2.1,fun g b hl hb hI=>?_,fun g g' b hl hl' hb hb'=>?_,fun g hg=>?_,hwf.gl.keep ⟨hn,fun x _ hlt=>hbel.block x hlt⟩ fun _ h=>h⟩,fun g b hl hb=>.inr hb.2.1⟩
  ·by_cases h0:g=0
   ·subst h0; rw [hV0] at hu; cases hu
   ·simp only [if_neg h0]; exact hu
  ·cases g with
   | zero=>exact ⟨v,by simp,hrow⟩
   | succ g=>rw [gS] at hl; exact hl.elim
  ·have:=hwf.ilt b hI
   have:=hb.2.1
   omega
  ·rw [hb.1,hb'.1]
  ·cases g with
   | zero=>cases hg
   | succ g=>simp only [Nat.add_eq_zero_iff,Nat.succ_ne_self,and_false,if_false]; exact hwf.fr (g+1) rfl
theorem U6 {w:World} {I:Nat→Prop} {es:List (List D)} {v:Value} (h:DRep false w I (.arr es) v) (hsz:∀ e∈es,e.length=1) :
  (es=[]∧∃ a c,v=.slice a 0 c)∨∃ b off cap,v=.slice (some ⟨b,off,none⟩) es.length cap∧∀ i (hi:i<es.length),∃ u,w.cell? ⟨b,off+i,none⟩=some u∧∃ S,DRep false w S (es[i].headD (.int 0)) u:=by
 cases h with
 | arr S sz es a cap f Sub h1 h2 h3 h4 h5 h6 h7 =>
  rcases h3 with h3 | ⟨b,off,rfl,hS,hb,hc,_⟩
  ·left
   have he:es=[]:=zC h3
   subst he
   exact ⟨rfl,_,_,rfl⟩
  ·rcases zT es.length with h0 | h0
   ·left
    have he:es=[]:=zC h0
    subst he
    exact ⟨rfl,_,_,rfl⟩
   ·right
    have hs1:sz=1:=by rw [←h4 0 h0]; exact hsz _ (zJ h0)
    subst hs1
    refine ⟨b,off,cap,rfl,fun i hi=>⟨f i 0,by have:=hc i 0 hi (by omega); simpa using this,Sub i 0,?_⟩⟩
    have hl:=hsz _ (zJ hi)
    have:=h7 i 0 hi (by omega)
    have key:∀ (l:List D) (h:0<l.length),l.headD (.int 0)=l[0]:=fun l h=>by
     cases l with
     | nil=>cases h
     | cons d r=>rfl
    have e:=key es[i] (by omega)
    rw [e]
    exact this
def unS:List D→ByteArray
 | D.str s :: _=>s
 | _=>⟨#[]⟩
noncomputable def Mp (xs:List SV) (ob:List Ob):Option (SV × List Ob) :=
 match xs,ob with
 | [.arr es],[]=>bif dec ((∀ e∈es,∃ s,e=[D.str s])∧es.length≤1048576) then some (.ref 0,[.row 9 1 (es.map fun e=>[OT.str (unS e)])]) else none
 | _,_=>none
theorem Te {xs:List SV} {ob:List Ob} {r:SV} {ob':List Ob} (h:Mp xs ob=some (r,ob')):Fun Tryz.prog 44 xs ob r ob':=by
 unfold Mp at h
 split at h
 ·rename_i es
  obtain ⟨h1,h2⟩:=Ay h
  obtain ⟨k1,k2⟩:=Aw.1 h1
  simp only [zD,zI] at h2
  obtain ⟨rfl,rfl⟩:=h2
  intro w I V B vs hwf hvs
  obtain ⟨v,q,rfl,hv,hvs⟩:=CK hvs
  obtain rfl:=Kh hvs
  simp only [RepV] at hv
  have hsz:∀ e∈es,e.length=1:=fun e he=>by obtain ⟨s,rfl⟩:=k1 e he; rfl
  have hmap:(es.map fun e=>[OT.str (unS e)])=((es.map fun e=>OT.str (unS e)).map fun o=>[o]):=by rw [yL]; rfl
  rcases U6 hv hsz with ⟨rfl,a,c,rfl⟩ | ⟨b,off,cap,rfl,hcell⟩
  ·cases a with
   | none =>
    have hcon:=Any.slices_Clone_string_nil Mo 0 c w
    change Calls Tryz.prog 44 _ _ _ at hcon
    refine hcon.mono ?_
    rintro e w' ⟨rfl,rfl⟩
    obtain ⟨V',B',h3,h4⟩:=Jo (t:=9) (os:=[]) (vals:=[]) hwf (Below.refl _ _) rfl ⟨rfl,.inl ⟨rfl,rfl⟩⟩ (fun i h=>absurd h (by simp))
    exact ⟨_,I,V',B',rfl,h3,h4⟩
   | some a =>
    have hcon:=Any.slices_Clone_string_zero Mo a c w
    change Calls Tryz.prog 44 _ _ _ at hcon
    refine hcon.mono ?_
    rintro e w' ⟨v',rfl,hown,_,hbel⟩
    obtain ⟨V',B',h3,h4⟩:=Jo (t:=9) (os:=[]) (vals:=[]) hwf hbel rfl hown (fun i h=>absurd h (by simp))
    exact ⟨_,I,V',B',rfl,h3,h4⟩
  ·obtain ⟨zs,hzs⟩:∃ zs,zs=es.map unS:=⟨_,rfl⟩
   have hzl:zs.length=es.length:=by rw [hzs,zR]
   have hcz:∀ j (hj:j<es.length),w.cell? ⟨b,off+j,none⟩=some (Value.string (unS es[j]))∧(unS es[j]).size≤9223372036854775807:=fun j hj=>by
    obtain ⟨u,hu,S,hd⟩:=hcell j hj
    obtain ⟨s,he⟩:=k1 es[j] (zJ hj)
    rw [he] at hd ⊢
    simp only [xF] at hd
    cases hd
    exact ⟨hu,by assumption⟩
   have hcon:=Any.slices_Clone_string Mo b off es.length cap zs w (by omega) (by omega) (fun j hj=>by
    have hj':j<es.length:=by omega
    rw [(hcz j hj').1]
    rw [yJ,zS hj]
    simp [hzs])
   change Calls Tryz.prog 44 _ _ _ at hcon
   refine hcon.mono ?_
   rintro e w' ⟨v',rfl,hown,_,hbel⟩
   have ht:zs.take es.length=zs:=List.take_of_length_le (by omega)
   rw [ht] at hown
   have hown2:w'.ownsRow w.heap.size 9 1 v' (es.map fun e=>OT.str (unS e)).length (zs.map Value.string):=by rw [zR]; exact hown
   obtain ⟨V',B',h3,h4⟩:=Jo (t:=9) (os:=es.map fun e=>OT.str (unS e)) (vals:=zs.map Value.string) hwf hbel (by simp [hzl]) hown2 (fun i hi=>by
    have hi':i<es.length:=by simpa using hi
    have e:(zs.map Value.string).getD i undef=Value.string (unS es[i]):=by
     rw [yJ,y5,zS (by omega)]
     simp [hzs]
    rw [e,zY]
    exact .str _ _ (hcz i hi').2)
   rw [hmap]
   exact ⟨_,I,V',B',rfl,h3,h4⟩
 ·cases h
noncomputable def CQ:List ByteArray→ByteArray→List ByteArray
 | [],n=>[n]
 | x :: xs,n=>bif strLt x n then x :: CQ xs n else bif dec (x=n) then x :: xs else n :: x :: xs
noncomputable def CC:List ByteArray→ByteArray→Nat
 | [],_=>0
 | x :: xs,n=>bif strLt x n then CC xs n+1 else 0
theorem FunD.toFun {P:Program} {f:FuncId} {xs:List SV} {ob:List Ob} {r:SV} {ob':List Ob} (h:FunD P f xs ob r ob'):Fun P f xs ob r ob':=by
 intro w I V B vs hwf hvs
 refine (h w I V B vs hwf hvs).mono ?_
 rintro e w' ⟨v,I',V',B',he,hr,⟨⟨f1,⟨f2,_⟩,f3,f4,f5⟩,p1,p2,p3,p4,p5⟩⟩
 exact ⟨v,I',V',B',he,hr,⟨⟨f1,⟨f2,fun h=>h.elim⟩,f3,f4,f5⟩,p1,p2,p3,p4,p5⟩⟩
theorem Fun.taken {P:Program} {f:FuncId} {t:TypeId} {sz:Nat} {es:List (List OT)} {n:ByteArray} {t':TypeId} {sz':Nat} {es':List (List OT)} (hf:OT.AA es=true)
  (h:Fun P f [.arr (OT.erss es),.str n] [] (.ref 0) [.row t' sz' es']):Fun P f [.ref 0,.str n] [.row t sz es] (.ref 1) [.gone,.row t' sz' es']:=by
 intro w I V B vs hwf hvs
 obtain ⟨v,q,rfl,hv,hvs⟩:=CK hvs
 obtain ⟨v2,q,rfl,hv2,hvs⟩:=CK hvs
 obtain rfl:=Kh hvs
 simp only [RepV] at hv hv2
 obtain ⟨val,hval,hrow⟩:=hwf.obj 0 trivial
 rw [hv.1] at hval
 obtain rfl:=zK hval
 have hrow:RowR w I (B 0) t sz es v:=hrow
 have hn:∀ g,Au ([]:List Ob) g=.free:=fun g=>by cases g <;> rfl
 have hnl:∀ g,¬ (Au ([]:List Ob) g).live:=fun g hl=>by rw [hn] at hl; exact hl
 have hHB0:∀ b,¬ HB (fun _ _=>False) ([]:List Ob) b:=fun b ⟨g,hl,_⟩=>hnl g hl
 have hwf0:Wf w (fun x=>I x∨B 0 x) (fun _=>none) (fun _ _=>False) (Au []) :=
  ⟨fun b hb=>hb.elim (hwf.ilt b) (hwf.lt 0 b trivial),fun g hl=>(hnl g hl).elim,fun g b hl=>(hnl g hl).elim,fun g b hl=>(hnl g hl).elim,fun g g' b hl=>(hnl g hl).elim,fun g _=>rfl,hwf.gl.keep ⟨zU _,fun x _ _=>rfl⟩ fun x hx=>.inl hx⟩
 have hD:DRep false w (fun x=>I x∨B 0 x) (.arr (OT.erss es)) v:=hrow.er (fun b hb=>.inr hb) (fun b hb=>.inl hb) hf
 refine (h w _ _ _ [v,v2] hwf0 (by simp only [RepVs,RepV]; exact ⟨v,_,rfl,hD,v2,_,rfl,hv2,rfl⟩)).mono ?_
 rintro e w' ⟨rv,I2,V2,B2,rfl,hr,hp⟩
 simp only [RepV] at hr
 have hlv:∀ g,(Au [Ob.gone,.row t' sz' es'] g).live→g=1:=fun g h=>by
  match g with
  | 0=>exact h.elim
  | 1=>rfl
  | g+2=>exact h.elim
 obtain ⟨f1,f2,f3,f4,f5⟩:=hp.fr
 refine ⟨rv,I2,fun g=>if g=1 then V2 0 else V g,fun g=>if g=1 then B2 0 else B g,rfl,by simp only [RepV]; exact ⟨by simp [hr.1],hr.2⟩,⟨⟨f1,f2,f3,f4,fun x hx _=>f5 x hx (hHB0 x)⟩,fun b hb=>hp.i0 b (.inl hb),fun b hb=>?_,fun g u hu=>?_,?_,fun g x hl hx=>?_⟩⟩
 ·rcases hp.i1 b hb with (h1 | h1) | h1 | h1
  ·exact .inl h1
  ·exact .inr (.inr ⟨0,trivial,h1⟩)
  ·exact .inr (.inl h1)
  ·exact (hHB0 b h1).elim
 ·by_cases e:g=1
  ·subst e
   rw [hwf.fr 1 rfl] at hu; cases hu
  ·simp only [e,if_false]; exact hu
 ·refine ⟨hp.wf.ilt,fun g hl=>?_,fun g x hl hx=>?_,fun g x hl hx=>?_,fun g g' x hl hl' _ _=>by rw [hlv g hl,hlv g' hl'],fun g hfr=>?_,hp.wf.gl⟩
  ·obtain rfl:=hlv g hl
   obtain ⟨val,hv0,hob⟩:=hp.wf.obj 0 trivial
   exact ⟨val,by simp [hv0],hob⟩
  ·obtain rfl:=hlv g hl
   simp only [if_true] at hx
   exact hp.wf.lt 0 x trivial hx
  ·obtain rfl:=hlv g hl
   simp only [if_true] at hx
   exact hp.wf.dI 0 x trivial hx
  ·match g with
   | 0=>cases hfr
   | 1=>cases hfr
   | g+2 =>
    have e:¬ g+2=1:=by omega
    simp only [e,if_false]
    exact hwf.fr (g+2) rfl
 ·obtain rfl:=hlv g hl
  simp only [if_true] at hx
  rcases hp.bh 0 x trivial hx with h1 | h1
  ·exact (hHB0 x h1).elim
  ·exact .inr h1
def Lx (es:List (List OT)):List ByteArray:=es.map fun e=>match e with
 | .str s :: _=>s
 | _=>⟨#[]⟩
theorem Yw (l:List ByteArray):Lx (l.map fun s=>[OT.str s])=l:=by
 unfold Lx
 rw [yL]
 exact (List.map_congr_left fun s _=>rfl).trans (List.map_id l)
theorem Tf:∀ xs:List ByteArray,OT.AA (xs.map fun s=>[OT.str s])=true
 | []=>rfl
 | x :: xs=>by simp only [zB,OT.AA,OT.C1,OT.full,Tf xs,zF]
noncomputable def Mq (xs:List SV) (ob:List Ob):Option (SV × List Ob) :=
 match xs,ob with
 | [.ref 0,.str n],[.row t sz es] =>
  bif dec (es=(Lx es).map (fun s=>[OT.str s])∧(¬ (Lx es).length<(CQ (Lx es) n).length→Fun Tryz.prog 180 [.ref 0,.str n] [.row t sz es] (.ref 0) [.row t sz es])∧((Lx es).length<(CQ (Lx es) n).length→Fun Tryz.prog 180 [.arr ((Lx es).map fun s=>[D.str s]),.str n] [] (.ref 0) [.row 9 1 ((CQ (Lx es) n).map fun s=>[OT.str s])])) then
   bif dec ((Lx es).length<(CQ (Lx es) n).length) then some (.ref 1,[.gone,.row 9 1 ((CQ (Lx es) n).map fun s=>[OT.str s])]) else some (.ref 0,[.row t sz es])
  else none
 | _,_=>none
theorem Tg {xs:List SV} {ob:List Ob} {r:SV} {ob':List Ob} (h:Mq xs ob=some (r,ob')):Fun Tryz.prog 180 xs ob r ob':=by
 unfold Mq at h
 split at h
 ·rename_i n t sz es
  obtain ⟨h1,h2⟩:=Ay h
  obtain ⟨k1,k2,k3⟩:=Aw.1 h1
  by_cases hq:(Lx es).length<(CQ (Lx es) n).length
  ·rw [Ar hq,cond_true] at h2
   simp only [zD,zI] at h2
   obtain ⟨rfl,rfl⟩:=h2
   have h3:=k3 hq
   rw [←C4,← k1] at h3
   exact Fun.taken (by rw [k1]; exact Tf _) h3
  ·rw [Aj hq,cond_false] at h2
   simp only [zD,zI] at h2
   obtain ⟨rfl,rfl⟩:=h2
   exact k2 hq
 ·cases h
end Go.Proofs.YtkmenhhapfombaaGreatDoor
set_option maxRecDepth 100000
namespace Go.Proofs.YtkmenhhapfombaaGreatDoor
open Go.Shelf
def so_SortS_ren:Go.Shelf.Ren:=⟨fun | 190=>82 | 125=>131 | 258=>130 | 128=>190 | 129=>191 | 302=>181 | 303=>182 | 304=>183 | 305=>184 | 306=>185 | 307=>186 | 308=>187 | 309=>188 | 310=>189 | 333=>226 | 329=>227 | 330=>228 | 334=>229 | 335=>230 | 336=>231 | 344=>244 | n=>n,fun | 31=>36 | 9=>9 | 3=>3 | 46=>136 | 0=>0 | 51=>177 | 53=>60 | 4=>4 | 183=>169 | 182=>168 | 131=>174 | 5=>5 | 218=>198 | 222=>202 | 228=>214 | 229=>215 | n=>n,fun | n=>n⟩
theorem Th:Go.Proofs.Lays.n190 Tryz.prog so_SortS_ren:={
 mixed:=by kernel_rfl,
 f125:=Tryz.func131.trans (congrArg some (by kernel_rfl)),
 f128:=Tryz.func190.trans (congrArg some (by kernel_rfl)),
 f129:=Tryz.func191.trans (congrArg some (by kernel_rfl)),
 f190:=Tryz.func82.trans (congrArg some (by kernel_rfl)),
 f258:=Tryz.func130.trans (congrArg some (by kernel_rfl)),
 f302:=Tryz.func181.trans (congrArg some (by kernel_rfl)),
 f303:=Tryz.func182.trans (congrArg some (by kernel_rfl)),
 f304:=Tryz.func183.trans (congrArg some (by kernel_rfl)),
 f305:=Tryz.func184.trans (congrArg some (by kernel_rfl)),
 f306:=Tryz.func185.trans (congrArg some (by kernel_rfl)),
 f307:=Tryz.func186.trans (congrArg some (by kernel_rfl)),
 f308:=Tryz.func187.trans (congrArg some (by kernel_rfl)),
 f309:=Tryz.func188.trans (congrArg some (by kernel_rfl)),
 f310:=Tryz.func189.trans (congrArg some (by kernel_rfl)),
 f329:=Tryz.func227.trans (congrArg some (by kernel_rfl)),
 f330:=Tryz.func228.trans (congrArg some (by kernel_rfl)),
 f333:=Tryz.func226.trans (congrArg some (by kernel_rfl)),
 f334:=Tryz.func229.trans (congrArg some (by kernel_rfl)),
 f335:=Tryz.func230.trans (congrArg some (by kernel_rfl)),
 f336:=Tryz.func231.trans (congrArg some (by kernel_rfl)),
 f344:=Tryz.func244.trans (congrArg some (by kernel_rfl)),
 t0:=Tryz.underlying0,
 a0:=Tryz.isAgg0,
 z0:=Tryz.sizeOf0,
 v0:=Tryz.zeroValue0,
 t3:=Tryz.underlying3,
 a3:=Tryz.isAgg3,
 z3:=Tryz.sizeOf3,
 v3:=Tryz.zeroValue3,
 t4:=Tryz.underlying4,
 a4:=Tryz.isAgg4,
 z4:=Tryz.sizeOf4,
 v4:=Tryz.zeroValue4,
 t5:=Tryz.underlying5,
 a5:=Tryz.isAgg5,
 z5:=Tryz.sizeOf5,
 v5:=Tryz.zeroValue5,
 t9:=Tryz.underlying9,
 a9:=Tryz.isAgg9,
 z9:=Tryz.sizeOf9,
 v9:=Tryz.zeroValue9,
 t31:=Tryz.underlying36,
 a31:=Tryz.isAgg36,
 z31:=Tryz.sizeOf36,
 v31:=Tryz.zeroValue36,
 t46:=Tryz.underlying136,
 a46:=Tryz.isAgg136,
 z46:=Tryz.sizeOf136,
 v46:=Tryz.zeroValue136,
 t51:=Tryz.underlying177,
 a51:=Tryz.isAgg177,
 z51:=Tryz.sizeOf177,
 v51:=Tryz.zeroValue177,
 t53:=Tryz.underlying60,
 a53:=Tryz.isAgg60,
 z53:=Tryz.sizeOf60,
 v53:=Tryz.zeroValue60,
 t131:=Tryz.underlying174,
 a131:=Tryz.isAgg174,
 z131:=Tryz.sizeOf174,
 v131:=Tryz.zeroValue174,
 t182:=Tryz.underlying168,
 a182:=Tryz.isAgg168,
 z182:=Tryz.sizeOf168,
 v182:=Tryz.zeroValue168,
 t183:=Tryz.underlying169,
 a183:=Tryz.isAgg169,
 z183:=Tryz.sizeOf169,
 v183:=Tryz.zeroValue169,
 t218:=Tryz.underlying198,
 a218:=Tryz.isAgg198,
 z218:=Tryz.sizeOf198,
 v218:=Tryz.zeroValue198,
 t222:=Tryz.underlying202,
 a222:=Tryz.isAgg202,
 z222:=Tryz.sizeOf202,
 v222:=Tryz.zeroValue202,
 t228:=Tryz.underlying214,
 a228:=Tryz.isAgg214,
 z228:=Tryz.sizeOf214,
 v228:=Tryz.zeroValue214,
 t229:=Tryz.underlying215,
 a229:=Tryz.isAgg215,
 z229:=Tryz.sizeOf215,
 v229:=Tryz.zeroValue215 }
end Go.Proofs.YtkmenhhapfombaaGreatDoor
set_option maxRecDepth 100000
set_option linter.unusedSimpArgs false
set_option linter.unusedVariables false
set_option linter.unusedSectionVars false
namespace Go.Proofs.YtkmenhhapfombaaGreatDoor
open Go.RowKit Go.Shelf Go.Lib Go.Sort
theorem Q2 (w:World) (b m:Nat) (ss:List (List UInt8)) (os:Array Obj) (x:Nat) (hx:x<w.heap.size) :
  (Sort.grow (putRow encStr (Sort.ahead w m) b 0 ss.toArray) os).heap[x]?=if b=x then (w.heap[x]?).map (onCells (putCells encStr 0 ss.toArray)) else w.heap[x]?:=by
 unfold Sort.grow putRow mapBlock Sort.ahead
 have hx':x<(w.heap.modify b (onCells (putCells encStr 0 ss.toArray))).size:=by simpa using hx
 simp only [Array.getElem?_append,Array.size_modify,hx,if_true,Array.getElem?_modify]
def srt (ss:List (List UInt8)):List (List UInt8):=ss.mergeSort fun x y=>decide (x≤y)
def Ni (l:List UInt8):List OT:=[.str ⟨l.toArray⟩]
noncomputable def JM (xs:List SV) (ob:List Ob):Option (SV × List Ob) :=
 match xs,ob with
 | [.ref 0],[.row t sz es]=>bif dec (sz=1∧(∀ e∈es,∃ s,e=[.str s])∧es.length≤1099511627776) then some (.tup [],[.row t sz ((srt (es.map fun e=>(Lw e).toList)).map Ni)]) else none
 | _,_=>none
theorem ORep.QbX {w:World} {I S:Nat→Prop} {s:ByteArray} {v:Value} (h:ORep w I S (.str s) v):v=.string s∧s.size≤9223372036854775807:=by
 cases h with
 | str _ _ hz=>exact ⟨rfl,hz⟩
theorem Ez (s:ByteArray):(⟨s.toList.toArray⟩:ByteArray)=s:=Mg (by rw [ByteArray.toList_eq])
theorem R2 {xs:List SV} {ob:List Ob} {r:SV} {ob':List Ob} (h:JM xs ob=some (r,ob')):Fun Tryz.prog 82 xs ob r ob':=by
 unfold JM at h
 split at h
 ·rename_i t sz es
  obtain ⟨h1,h2⟩:=Ay h
  obtain ⟨rfl,hk1,hk3⟩:=Aw.1 h1
  simp only [zD,zI] at h2
  obtain ⟨rfl,rfl⟩:=h2
  intro w I V B vs hwf hvs
  obtain ⟨v,q,rfl,hv,hvs⟩:=CK hvs
  obtain rfl:=Kh hvs
  simp only [RepV] at hv
  obtain ⟨val,hval,hrow⟩:=hwf.obj 0 trivial
  rw [hv.1] at hval
  obtain rfl:=zK hval
  have hv0:=hv.1
  have hrow:RowR w I (B 0) t 1 es v:=hrow
  rcases zT es.length with h0 | h0
  ·have he:es=[]:=zC h0
   subst he
   obtain ⟨a,c,rfl,_⟩:=hrow.form
   have hcon:=Any.slices_Sort_string_none Th a c w
   change Calls Tryz.prog 82 _ _ _ at hcon
   refine hcon.mono ?_
   rintro e w' ⟨rfl,rfl⟩
   have e0:(srt ([].map fun e:List OT=>(Lw e).toList)).map Ni=[]:=by simp [srt]
   rw [e0]
   exact ⟨_,I,V,B,rfl,by simp only [RepV,RepVs]; exact ⟨[],rfl,rfl⟩,Yu hwf⟩
  ·rcases hrow with ⟨he,_⟩ | ⟨b,cap,cur,Sub,rfl,hs,hb,g1,g2,g3,g4,g5,g6,g7⟩
   ·subst he; simp at h0
   have hblt:=(yI.1 hb).1
   obtain ⟨ss,hss⟩:∃ ss,ss=es.map fun e=>(Lw e).toList:=⟨_,rfl⟩
   have hsl:ss.length=es.length:=by rw [hss]; simp
   rw [←hss]
   have cellv:∀ i (hi:i<es.length),cur[i]?=some (.string (Lw es[i]))∧(Lw es[i]).size≤9223372036854775807:=fun i hi=>by
    obtain ⟨s,he⟩:=hk1 es[i] (zJ hi)
    have hlt:i<cur.size:=by rw [g3]; omega
    have l0:=g7 i 0 hi (by rw [g4 i hi]; omega)
    simp only [he,zW,yW,yK,zZ,zX hlt,yF] at l0
    rw [zX hlt,he]
    obtain ⟨z1,z2⟩:=ORep.QbX l0
    exact ⟨by rw [z1]; rfl,z2⟩
   have hH:Holds encStr w b 0 ss.toArray:=by
    intro j hj
    have hj1:j<ss.length:=by simpa using hj
    have hj':j<es.length:=by rw [←hsl]; exact hj1
    refine ⟨?_,?_⟩
    ·rw [yB,cell_of_row w b _ _ _ _ hb,(cellv j hj').1,getElem!_pos ss.toArray j hj]
     simp only [yX,hss,zY,encStr,Ez]
    ·unfold World.frozen?
     rw [hb]
     simp
   have hcon:=Any.slices_Sort_string Th b 0 cap ss w hH hblt (by rw [hsl]; omega)
   change Calls Tryz.prog 82 _ _ _ at hcon
   rw [hsl] at hcon
   refine hcon.mono ?_
   rintro e w' ⟨rfl,m,os,rfl⟩
   refine ⟨_,I,V,B,rfl,by simp only [RepV,RepVs]; exact ⟨[],rfl,rfl⟩,?_⟩
   have hper:(srt ss).Perm ss:=List.mergeSort_perm _ _
   have hsl2:(srt ss).length=es.length:=by rw [hper.length_eq,hsl]
   have hgrow:∀ x,x<w.heap.size→x≠b→(Sort.grow (putRow encStr (Sort.ahead w m) b 0 (srt ss).toArray) os).heap[x]?=w.heap[x]?:=fun x hx hne=>by
    rw [Q2 w b m _ os x hx,if_neg (fun e=>hne e.symm)]
   have hbl:(Sort.grow (putRow encStr (Sort.ahead w m) b 0 (srt ss).toArray) os).heap[b]?=some (.cells (putCells encStr 0 (srt ss).toArray cur) t (0,0)):=by
    rw [Q2 w b m _ os b hblt,if_pos rfl,hb]; rfl
   have hsz:w.heap.size≤(Sort.grow (putRow encStr (Sort.ahead w m) b 0 (srt ss).toArray) os).heap.size:=by
    unfold Sort.grow
    simp [putRow,mapBlock,Sort.ahead]
   have hmem:∀ l∈ss,∃ e∈es,(Lw e).toList=l:=by
    rw [hss]
    intro l h
    exact yM.1 h
   have hstr:∀ i (hi:i<(srt ss).length),(⟨(srt ss)[i].toArray⟩:ByteArray).size≤9223372036854775807:=fun i hi=>by
    obtain ⟨e,he,heq⟩:=hmem _ (hper.mem_iff.1 (zJ hi))
    obtain ⟨k,hk,rfl⟩:=yN he
    have:=(cellv k hk).2
    rw [←heq,Ez]
    exact this
   refine Qal (fun _ _ _=>False) hwf hv0 (by rw [zR,hsl2]) hs hb g1 g2 g3 (fun i hi=>by rw [zY]; rfl) (fun i j x h=>h.elim) (fun i j i' j' x h h'=>h.elim) rfl ⟨rfl,fun h=>False.elim h⟩ rfl hsz hgrow hbl (by simp [putCells]) (fun i j hi hj=>?_)
   have hi':i<(srt ss).length:=by simpa using hi
   have hj':j<1:=by simpa [Ni] using hj
   obtain rfl:j=0:=by omega
   have hlt:i<cur.size:=by rw [g3]; omega
   have hc:(putCells encStr 0 (srt ss).toArray cur).getD (i*1+0) undef=.string ⟨(srt ss)[i].toArray⟩:=by
    simp only [yW,yK,putCells,zZ,Array.getElem?_mapIdx,zX hlt,yY,yF,zP,true_and,yB,y6,hi',if_true,Nat.sub_zero]
    rw [getElem!_pos (srt ss).toArray i (by simpa using hi')]
    rfl
   rw [hc]
   simp only [zY,Ni,zW]
   exact .str _ _ (hstr i hi')
 ·cases h
end Go.Proofs.YtkmenhhapfombaaGreatDoor
set_option maxRecDepth 100000
namespace Go.Proofs.YtkmenhhapfombaaGreatDoor
open Go.Shelf
def so_CompS_ren:Go.Shelf.Ren:=⟨fun | 194=>83 | n=>n,fun | 31=>36 | 9=>9 | 3=>3 | 4=>4 | 0=>0 | n=>n,fun | n=>n⟩
theorem Ti:Go.Proofs.Lays.n194 Tryz.prog so_CompS_ren:={
 mixed:=by kernel_rfl,
 f194:=Tryz.func83.trans (congrArg some (by kernel_rfl)),
 t0:=Tryz.underlying0,
 a0:=Tryz.isAgg0,
 z0:=Tryz.sizeOf0,
 v0:=Tryz.zeroValue0,
 t3:=Tryz.underlying3,
 a3:=Tryz.isAgg3,
 z3:=Tryz.sizeOf3,
 v3:=Tryz.zeroValue3,
 t4:=Tryz.underlying4,
 a4:=Tryz.isAgg4,
 z4:=Tryz.sizeOf4,
 v4:=Tryz.zeroValue4,
 t9:=Tryz.underlying9,
 a9:=Tryz.isAgg9,
 z9:=Tryz.sizeOf9,
 v9:=Tryz.zeroValue9,
 t31:=Tryz.underlying36,
 a31:=Tryz.isAgg36,
 z31:=Tryz.sizeOf36,
 v31:=Tryz.zeroValue36 }
end Go.Proofs.YtkmenhhapfombaaGreatDoor
set_option maxRecDepth 100000
set_option linter.unusedSimpArgs false
set_option linter.unusedVariables false
set_option linter.unusedSectionVars false
namespace Go.Proofs.YtkmenhhapfombaaGreatDoor
open Go.RowKit Go.Shelf Go.Lib Go.Sort
theorem Wo {w w':World} {I:Nat→Prop} {V:Nat→Option Value} {B:Nat→Nat→Prop} {t:TypeId} {sz:Nat} {es es':List (List OT)} {v':Value} (hwf:Wf w I V B (Au [.row t sz es]))
  (hos:w'.os=w.os) (htape:TapeOk w w') (hout:w'.output=w.output) (hsz:w.heap.size≤w'.heap.size) (hblk:∀ x,x<w.heap.size→¬ B 0 x→w'.heap[x]?=w.heap[x]?) (hrow:RowR w' I (B 0) t sz es' v') :
  FunPost w I V B [.row t sz es] [.gone,.row t sz es'] w' I (fun g=>if g=1 then some v' else V g) (fun g=>if g=1 then B 0 else B g):=by
 have hB0:∀ x,B 0 x→HB B [Ob.row t sz es] x:=fun x hx=>⟨0,trivial,hx⟩
 have hlv:∀ g,(Au [Ob.gone,.row t sz es'] g).live→g=1:=fun g h=>by
  match g with
  | 0=>exact h.elim
  | 1=>rfl
  | g+2=>exact h.elim
 refine ⟨⟨hos,htape,hout,hsz,fun x hx hn=>hblk x hx fun h=>hn (hB0 x h)⟩,fun _ h=>h,fun _ h=>.inl h,fun g u hu=>?_,?_,fun g x hl hx=>?_⟩
 ·by_cases e:g=1
  ·subst e
   rw [hwf.fr 1 rfl] at hu; cases hu
  ·simp only [e,if_false]; exact hu
 ·refine ⟨fun x hx=>yG (hwf.ilt x hx) hsz,fun g hl=>?_,fun g x hl hx=>?_,fun g x hl hx=>?_,fun g g' x hl hl' _ _=>by rw [hlv g hl,hlv g' hl'],fun g hf=>?_,hwf.gl.keep ⟨hsz,fun x hx hlt=>hblk x hlt fun h=>hwf.dI 0 x trivial h hx⟩ fun _ h=>h⟩
  ·obtain rfl:=hlv g hl
   exact ⟨v',by simp,hrow⟩
  ·obtain rfl:=hlv g hl
   simp only [if_true] at hx
   exact yG (hwf.lt 0 x trivial hx) hsz
  ·obtain rfl:=hlv g hl
   simp only [if_true] at hx
   exact hwf.dI 0 x trivial hx
  ·match g with
   | 0=>cases hf
   | 1=>cases hf
   | g+2 =>
    have e:¬ g+2=1:=by omega
    simp only [e,if_false]
    exact hwf.fr (g+2) rfl
 ·obtain rfl:=hlv g hl
  simp only [if_true] at hx
  exact .inl (hB0 x hx)
theorem Q3 (w:World) (b m:Nat) (ss:List (List UInt8)) (x:Nat):(putRow encStr (Sort.ahead w m) b 0 ss.toArray).heap[x]?=if b=x then (w.heap[x]?).map (onCells (putCells encStr 0 ss.toArray)) else w.heap[x]?:=by
 unfold putRow mapBlock Sort.ahead
 simp only [Array.getElem?_modify]
theorem Tj (zs:List (List UInt8)):(Lib.compact zs).length≤zs.length:=by
 unfold Lib.compact Lib.compactUpTo
 rw [zR]
 exact Nat.le_trans (yT _ _) (by simp)
theorem Tk {zs:List (List UInt8)} {z:List UInt8} (h:z∈Lib.compact zs):z∈zs:=by
 unfold Lib.compact Lib.compactUpTo at h
 obtain ⟨i,hi,rfl⟩:=yM.1 h
 have hi:=List.mem_range.1 (List.mem_filter.1 hi).1
 rw [getElem!_pos zs.toArray i (by simpa using hi)]
 simp
noncomputable def Fn (xs:List SV) (ob:List Ob):Option (SV × List Ob) :=
 match xs,ob with
 | [.ref 0],[.row t sz es]=>bif dec (sz=1∧(∀ e∈es,∃ s,e=[.str s])∧es.length≤1099511627776) then some (.ref 1,[.gone,.row t sz ((Lib.compact (es.map fun e=>(Lw e).toList)).map Ni)]) else none
 | _,_=>none
theorem N1 {xs:List SV} {ob:List Ob} {r:SV} {ob':List Ob} (h:Fn xs ob=some (r,ob')):Fun Tryz.prog 83 xs ob r ob':=by
 unfold Fn at h
 split at h
 ·rename_i t sz es
  obtain ⟨h1,h2⟩:=Ay h
  obtain ⟨rfl,hk1,hk3⟩:=Aw.1 h1
  simp only [zD,zI] at h2
  obtain ⟨rfl,rfl⟩:=h2
  intro w I V B vs hwf hvs
  obtain ⟨v,q,rfl,hv,hvs⟩:=CK hvs
  obtain rfl:=Kh hvs
  simp only [RepV] at hv
  obtain ⟨val,hval,hrow⟩:=hwf.obj 0 trivial
  rw [hv.1] at hval
  obtain rfl:=zK hval
  have hv0:=hv.1
  have hrow:RowR w I (B 0) t 1 es v:=hrow
  rcases zT es.length with h0 | h0
  ·have he:es=[]:=zC h0
   subst he
   obtain ⟨a,c,rfl,_⟩:=hrow.form
   have hcon:=Any.slices_Compact_string_empty Ti a c w
   change Calls Tryz.prog 83 _ _ _ at hcon
   refine hcon.mono ?_
   rintro e w' ⟨rfl,rfl⟩
   have e0:(Lib.compact ([].map fun e:List OT=>(Lw e).toList)).map Ni=[]:=rfl
   rw [e0]
   exact ⟨_,I,_,_,rfl,by simp only [RepV]; exact ⟨rfl,rfl⟩,Wo hwf rfl (TapeOk.mk' rfl rfl) rfl (zU _) (fun _ _ _=>rfl) hrow⟩
  ·rcases hrow with ⟨he,_⟩ | ⟨b,cap,cur,Sub,rfl,hs,hb,g1,g2,g3,g4,g5,g6,g7⟩
   ·subst he; simp at h0
   have hblt:=(yI.1 hb).1
   obtain ⟨ss,hss⟩:∃ ss,ss=es.map fun e=>(Lw e).toList:=⟨_,rfl⟩
   have hsl:ss.length=es.length:=by rw [hss]; simp
   rw [←hss]
   have cellv:∀ i (hi:i<es.length),cur[i]?=some (.string (Lw es[i]))∧(Lw es[i]).size≤9223372036854775807:=fun i hi=>by
    obtain ⟨s,he⟩:=hk1 es[i] (zJ hi)
    have hlt:i<cur.size:=by rw [g3]; omega
    have l0:=g7 i 0 hi (by rw [g4 i hi]; omega)
    simp only [he,zW,yW,yK,zZ,zX hlt,yF] at l0
    rw [zX hlt,he]
    obtain ⟨z1,z2⟩:=ORep.QbX l0
    exact ⟨by rw [z1]; rfl,z2⟩
   have hH:Holds encStr w b 0 ss.toArray:=by
    intro j hj
    have hj1:j<ss.length:=by simpa using hj
    have hj':j<es.length:=by rw [←hsl]; exact hj1
    refine ⟨?_,?_⟩
    ·rw [yB,cell_of_row w b _ _ _ _ hb,(cellv j hj').1,getElem!_pos ss.toArray j hj]
     simp only [yX,hss,zY,encStr,Ez]
    ·unfold World.frozen?
     rw [hb]
     simp
   have hcon:=Any.slices_Compact_string Ti b 0 cap ss w hH (by omega) (by omega)
   change Calls Tryz.prog 83 _ _ _ at hcon
   rw [hsl] at hcon
   refine hcon.mono ?_
   rintro e w' ⟨rfl,m,rfl⟩
   have hcl:=Tj ss
   obtain ⟨cs,hcs⟩:∃ cs,cs=Lib.compact ss:=⟨_,rfl⟩
   obtain ⟨zs,hzs⟩:∃ zs,zs=Lib.compact ss++xH (es.length-(Lib.compact ss).length) ([]:List UInt8):=⟨_,rfl⟩
   rw [←hzs]
   have hgrow:∀ x,x<w.heap.size→¬ B 0 x→(putRow encStr (Sort.ahead w m) b 0 zs.toArray).heap[x]?=w.heap[x]?:=fun x hx hn=>by
    rw [Q3,if_neg (fun e:b=x=>hn (by rw [←e]; exact hs))]
   have hbl:(putRow encStr (Sort.ahead w m) b 0 zs.toArray).heap[b]?=some (.cells (putCells encStr 0 zs.toArray cur) t (0,0)):=by
    rw [Q3,if_pos rfl,hb]; rfl
   have hsz:w.heap.size≤(putRow encStr (Sort.ahead w m) b 0 zs.toArray).heap.size:=by simp [putRow,mapBlock,Sort.ahead]
   have hmem:∀ l∈ss,∃ e∈es,(Lw e).toList=l:=by
    rw [hss]
    intro l h
    exact yM.1 h
   have hstr:∀ i (hi:i<cs.length),(⟨cs[i].toArray⟩:ByteArray).size≤9223372036854775807:=fun i hi=>by
    obtain ⟨e,he,heq⟩:=hmem _ (Tk (by rw [←hcs]; exact zJ hi))
    obtain ⟨k,hk,rfl⟩:=yN he
    have:=(cellv k hk).2
    rw [←heq,Ez]
    exact this
   rw [←hcs] at hcl hzs ⊢
   refine ⟨_,I,_,_,rfl,by simp only [RepV]; exact ⟨rfl,rfl⟩,Wo hwf rfl (TapeOk.le rfl (Nat.le_add_right _ _)) rfl hsz hgrow ?_⟩
   refine .inr ⟨b,cap,putCells encStr 0 zs.toArray cur,fun _ _ _=>False,by rw [zR],hs,hbl,by rw [zR]; omega,g2,by simp [putCells]; omega,fun i hi=>by rw [zY]; rfl,fun i j x h=>h.elim,fun i j i' j' x h h'=>h.elim,fun i j hi hj=>?_⟩
   have hi':i<cs.length:=by simpa using hi
   have hj':j<1:=by simpa [Ni] using hj
   obtain rfl:j=0:=by omega
   have hlt:i<cur.size:=by rw [g3]; omega
   have hiz:i<zs.length:=by rw [hzs,z8]; omega
   have hc:(putCells encStr 0 zs.toArray cur).getD (i*1+0) undef=.string ⟨cs[i].toArray⟩:=by
    simp only [yW,yK,putCells,zZ,Array.getElem?_mapIdx,zX hlt,yY,yF,zP,true_and,yB,y6,hiz,if_true,Nat.sub_zero]
    rw [getElem!_pos zs.toArray i (by simpa using hiz)]
    simp only [yX,hzs,List.getElem_append_left hi']
    first | done | rfl
   rw [hc]
   simp only [zY,Ni,zW]
   exact .str _ _ (hstr i hi')
 ·cases h
end Go.Proofs.YtkmenhhapfombaaGreatDoor
set_option maxRecDepth 100000
set_option linter.unusedSimpArgs false
set_option linter.unusedVariables false
set_option linter.unusedSectionVars false
namespace Go.Proofs.YtkmenhhapfombaaGreatDoor
open Go.RowKit Go.Shelf
theorem Xg {w w':World} {I:Nat→Prop} {V:Nat→Option Value} {B:Nat→Nat→Prop} {t:TypeId} {sz:Nat} {es:List (List OT)} {v':Value} {S:Nat→Prop} (hwf:Wf w I V B (Au []))
  (hos:w'.os=w.os) (htape:TapeOk w w') (hout:w'.output=w.output) (hsz:w.heap.size≤w'.heap.size) (hblk:∀ x,x<w.heap.size→w'.heap[x]?=w.heap[x]?) (hS:∀ x,S x→w.heap.size≤x∧x<w'.heap.size) (hrow:RowR w' I S t sz es v') :
  FunPost w I V B [] [.row t sz es] w' I (fun g=>if g=0 then some v' else V g) (fun g=>if g=0 then S else B g):=by
 have hlv:∀ g,(Au [Ob.row t sz es] g).live→g=0:=fun g h=>by
  match g with
  | 0=>rfl
  | g+1=>exact h.elim
 refine ⟨⟨hos,htape,hout,hsz,fun x hx hn=>hblk x hx⟩,fun _ h=>h,fun _ h=>.inl h,fun g u hu=>?_,?_,fun g x hl hx=>?_⟩
 ·rw [hwf.fr g rfl] at hu; cases hu
 ·refine ⟨fun x hx=>yG (hwf.ilt x hx) hsz,fun g hl=>?_,fun g x hl hx=>?_,fun g x hl hx hI=>?_,fun g g' x hl hl' _ _=>by rw [hlv g hl,hlv g' hl'],fun g hf=>?_,hwf.gl.keep ⟨hsz,fun x _ hlt=>hblk x hlt⟩ fun _ h=>h⟩
  ·obtain rfl:=hlv g hl
   exact ⟨v',by simp,hrow⟩
  ·obtain rfl:=hlv g hl
   simp only [if_true] at hx
   exact (hS x hx).2
  ·obtain rfl:=hlv g hl
   simp only [if_true] at hx
   have:=hwf.ilt x hI
   have:=(hS x hx).1
   omega
  ·match g with
   | 0=>cases hf
   | g+1 =>
    have e:¬ g+1=0:=by omega
    simp only [e,if_false]
    exact hwf.fr (g+1) rfl
 ·obtain rfl:=hlv g hl
  simp only [if_true] at hx
  exact .inr (hS x hx).1
noncomputable def Qcw (xs:List SV) (ob:List Ob):Option (SV × List Ob) :=
 match xs,ob with
 | [.arr es],[]=>bif dec (es≠[]∧es.length≤1048576∧∀ e∈es,e.length=3) then some (.ref 0,[.row 83 3 (es.map fun e=>e.map D.ot)]) else none
 | _,_=>none
noncomputable def Qc1 (xs:List SV) (ob:List Ob):Option (SV × List Ob) :=
 match xs,ob with
 | [.nil,.int .i64 n],[]=>bif dec (n=0) then some (.nil,[]) else bif dec (0 < n∧n≤1048576) then some (.ref 0,[.row 83 3 []]) else none
 | _,_=>none
end Go.Proofs.YtkmenhhapfombaaGreatDoor
set_option maxRecDepth 100000
set_option linter.unusedSimpArgs false
set_option linter.unusedVariables false
set_option linter.unusedSectionVars false
namespace Go.Proofs.YtkmenhhapfombaaGreatDoor
open Go.RowKit Go.Shelf
theorem QbY:∃ (i:TypeInfo) (z:Value),Tryz.prog.info? 9=some i∧i.zero=some z∧i.size=1∧z.cells.size=1∧i.bytes=16:=by
 have h:(match Tryz.prog.info? 9 with
  | some i=>match i.zero with
   | some z=>i.size == 1&&z.cells.size == 1&&i.bytes == 16
   | none=>false
  | none=>false)=true:=by kernel_rfl
 split at h
 ·rename_i i hi
  split at h
  ·rename_i z hz
   rw [zA,zA,beq_iff_eq,beq_iff_eq,beq_iff_eq] at h
   exact ⟨i,z,hi,hz,h.1.1,h.1.2,h.2⟩
  ·cases h
 ·cases h
theorem U7 (w:World):Calls Tryz.prog 135 #[.slice none 0 0,.int .i64 0] w fun e w'=>e=.returned (.slice none 0 0)∧w'=w:=by
 go_enter Tryz.func135,Tryz.ntmps135
 go_wp2
 go_ret
 exact ⟨rfl,rfl⟩
theorem U8 (n:Nat) (hn:0<n) (hb:n≤1048576) (w:World):Calls Tryz.prog 135 #[.slice none 0 0,.int .i64 n] w fun e w'=>∃ (cs:Array Value) (G:Nat),e=.returned (.slice (some ⟨w.heap.size,0,none⟩) 0 G)∧w'=w.drew.alloc (.cells cs 9)∧cs.size=G*1∧G≤9223372036854775807:=by
 obtain ⟨i0,z,hi0,hz0,hs0,hzc,hby⟩:=QbY
 have hold:(Builtin.firstCells i0.size 0 (.slice none 0 0)).run Tryz.prog w.drew=.ok (List.toArray []) w.drew:=run_firstCells_none w.drew i0.size 0 0 0
 have hrz:∀ ty,(Builtin.append_ #[36,3] ty #[.slice none 0 0,.int .i64 (n:Int)]).run Tryz.prog w =
   .ok (.slice (some ⟨w.heap.size,0,none⟩) n (grownCap w n 0 9)) (w.drew.alloc (.cells (List.toArray []++Builtin.zeroCells z.cells n++Builtin.zeroCells z.cells (grownCap w n 0 9-n)) 9)):=fun ty=>by
  have h:=Lib.run_append_grow_zeros w 36 3 ty 9 i0 z .i64 .i64 Tryz.underlying36 Tryz.underlying3 hi0 hz0 none 0 0 [] hold n (by omega) (by omega) (by omega) (by omega)
   (by rw [hby]; omega) (by rw [yB]; exact growslice_fits (by omega) (by rw [hby]; omega))
  rw [yB] at h
  exact h
 have hGn:n≤grownCap w n 0 9:=grownCap_ge w _ _ _
 have hG63:=grownCap_le_maxLen w n 0 9 (by unfold maxLen; omega)
 obtain ⟨G,hG⟩:∃ G,G=grownCap w n 0 9:=⟨_,rfl⟩
 rw [←hG] at hrz hGn hG63
 have hG63':G≤9223372036854775807:=by unfold maxLen at hG63; omega
 obtain ⟨cs,hcs⟩:∃ cs,cs=List.toArray []++Builtin.zeroCells z.cells n++Builtin.zeroCells z.cells (G-n):=⟨_,rfl⟩
 rw [←hcs] at hrz
 have hcl:cs.size=G*1:=by
  rw [hcs]
  simp [Builtin.zeroCells,hzc]
  omega
 clear hG hcs hold hG63
 go_enter Tryz.func135,Tryz.ntmps135
 go_wp2_with (at_builtin; refine Lib.wpList_append_run _ rfl _ _ _ _ rfl _ _ rfl rfl _ _ (hrz _) ?_)
 all_goals (go_ret; exact ⟨cs,G,rfl,rfl,hcl,hG63'⟩)
noncomputable def Nj (xs:List SV) (ob:List Ob):Option (SV × List Ob) :=
 match xs,ob with
 | [.nil,.int .i64 n],[]=>bif dec (n=0) then some (.nil,[]) else bif dec (0 < n∧n≤1048576) then some (.ref 0,[.row 9 1 []]) else none
 | _,_=>none
theorem U9 {xs:List SV} {ob:List Ob} {r:SV} {ob':List Ob} (h:Nj xs ob=some (r,ob')):Fun Tryz.prog 135 xs ob r ob':=by
 unfold Nj at h
 split at h
 ·rename_i n
  intro w I V B vs hwf hvs
  obtain ⟨v,q,rfl,hv,hvs⟩:=CK hvs
  obtain ⟨v2,q,rfl,hv2,hvs⟩:=CK hvs
  obtain rfl:=Kh hvs
  simp only [RepV] at hv hv2
  subst hv hv2
  cases hd:dec (n=0) with
  | true =>
   obtain rfl:=Aw.1 hd
   rw [hd] at h
   simp only [cond_true,zD,zI] at h
   obtain ⟨rfl,rfl⟩:=h
   refine (U7 w).mono ?_
   rintro e w' ⟨rfl,rfl⟩
   exact ⟨_,I,V,B,rfl,by simp only [RepV],⟨⟨rfl,TapeOk.mk' rfl rfl,rfl,zU _,fun _ _ _=>rfl⟩,fun _ h=>h,fun _ h=>.inl h,VLe.refl _,hwf,fun g b hl hb=>.inl ⟨g,hl,hb⟩⟩⟩
  | false =>
   rw [hd,cond_false] at h
   obtain ⟨h1,h2⟩:=Ay h
   obtain ⟨k1,k2⟩:=Aw.1 h1
   simp only [zD,zI] at h2
   obtain ⟨rfl,rfl⟩:=h2
   obtain ⟨m,rfl⟩:∃ m:Nat,n=m:=⟨n.toNat,by omega⟩
   refine (U8 m (by omega) (by omega) w).mono ?_
   rintro e w' ⟨cs,G,rfl,rfl,hcs,hG⟩
   have hnew:=heap_alloc_new w.drew (.cells cs 9)
   have hbl:∀ x,x<w.heap.size→(w.drew.alloc (.cells cs 9)).heap[x]?=w.heap[x]?:=fun x hx=>Below.heap_alloc w.drew _ x hx
   have hsz:(w.drew.alloc (.cells cs 9)).heap.size=w.heap.size+1:=Array.size_push _
   exact ⟨_,I,_,_,rfl,by simp only [RepV]; exact ⟨rfl,rfl⟩,Xg (S:=fun x=>x=w.heap.size) hwf rfl (TapeOk.le rfl (Nat.le_succ _)) rfl (by omega) hbl (fun x hx=>by omega) (.inr ⟨w.heap.size,G,cs,fun _ _ _=>False,rfl,rfl,hnew,zP _,hG,hcs,fun i hi=>absurd hi (by simp),fun _ _ _ h=>h.elim,fun _ _ _ _ _ h=>h.elim,fun i j hi=>absurd hi (by simp)⟩)⟩
 ·cases h
noncomputable def Qc2 (xs:List SV) (ob:List Ob):Option (SV × List Ob) :=
 match xs,ob with
 | [.nil,.int .i64 n],[]=>bif dec (n=0) then some (.nil,[]) else bif dec (0 < n∧n≤1048576) then some (.ref 0,[.row 53 1 []]) else none
 | _,_=>none
end Go.Proofs.YtkmenhhapfombaaGreatDoor
set_option maxRecDepth 100000
namespace Go.Proofs.YtkmenhhapfombaaGreatDoor
open Go.Shelf
def so_Itoa_ren:Go.Shelf.Ren:=⟨fun | 171=>136 | 243=>195 | 246=>232 | 283=>245 | 284=>246 | 285=>247 | 286=>248 | 129=>191 | 317=>262 | 318=>263 | 319=>264 | 320=>265 | 337=>269 | 338=>270 | n=>n,fun | 3=>3 | 9=>9 | 2=>2 | 4=>4 | 171=>217 | 0=>0 | 53=>60 | 37=>22 | 5=>5 | 173=>219 | 212=>228 | 51=>177 | 20=>20 | 213=>229 | 46=>136 | 232=>233 | 233=>234 | n=>n,fun | 17=>0 | 18=>1 | 19=>2 | n=>n⟩
theorem Qam:Go.Proofs.LaysM.n171 Tryz.prog so_Itoa_ren:={
 mixed:=by kernel_rfl,
 f129:=Tryz.func191.trans (congrArg some (by kernel_rfl)),
 f171:=Tryz.func136.trans (congrArg some (by kernel_rfl)),
 f243:=Tryz.func195.trans (congrArg some (by kernel_rfl)),
 f246:=Tryz.func232.trans (congrArg some (by kernel_rfl)),
 f283:=Tryz.func245.trans (congrArg some (by kernel_rfl)),
 f284:=Tryz.func246.trans (congrArg some (by kernel_rfl)),
 f285:=Tryz.func247.trans (congrArg some (by kernel_rfl)),
 f286:=Tryz.func248.trans (congrArg some (by kernel_rfl)),
 f317:=Tryz.func262.trans (congrArg some (by kernel_rfl)),
 f318:=Tryz.func263.trans (congrArg some (by kernel_rfl)),
 f319:=Tryz.func264.trans (congrArg some (by kernel_rfl)),
 f320:=Tryz.func265.trans (congrArg some (by kernel_rfl)),
 f337:=Tryz.func269.trans (congrArg some (by kernel_rfl)),
 f338:=Tryz.func270.trans (congrArg some (by kernel_rfl)),
 t0:=Tryz.underlying0,
 a0:=Tryz.isAgg0,
 z0:=Tryz.sizeOf0,
 v0:=Tryz.zeroValue0,
 t2:=Tryz.underlying2,
 a2:=Tryz.isAgg2,
 z2:=Tryz.sizeOf2,
 v2:=Tryz.zeroValue2,
 t3:=Tryz.underlying3,
 a3:=Tryz.isAgg3,
 z3:=Tryz.sizeOf3,
 v3:=Tryz.zeroValue3,
 t4:=Tryz.underlying4,
 a4:=Tryz.isAgg4,
 z4:=Tryz.sizeOf4,
 v4:=Tryz.zeroValue4,
 t5:=Tryz.underlying5,
 a5:=Tryz.isAgg5,
 z5:=Tryz.sizeOf5,
 v5:=Tryz.zeroValue5,
 t9:=Tryz.underlying9,
 a9:=Tryz.isAgg9,
 z9:=Tryz.sizeOf9,
 v9:=Tryz.zeroValue9,
 t20:=Tryz.underlying20,
 a20:=Tryz.isAgg20,
 z20:=Tryz.sizeOf20,
 v20:=Tryz.zeroValue20,
 t37:=Tryz.underlying22,
 a37:=Tryz.isAgg22,
 z37:=Tryz.sizeOf22,
 v37:=Tryz.zeroValue22,
 t46:=Tryz.underlying136,
 a46:=Tryz.isAgg136,
 z46:=Tryz.sizeOf136,
 v46:=Tryz.zeroValue136,
 t51:=Tryz.underlying177,
 a51:=Tryz.isAgg177,
 z51:=Tryz.sizeOf177,
 v51:=Tryz.zeroValue177,
 t53:=Tryz.underlying60,
 a53:=Tryz.isAgg60,
 z53:=Tryz.sizeOf60,
 v53:=Tryz.zeroValue60,
 t171:=Tryz.underlying217,
 a171:=Tryz.isAgg217,
 z171:=Tryz.sizeOf217,
 v171:=Tryz.zeroValue217,
 t173:=Tryz.underlying219,
 a173:=Tryz.isAgg219,
 z173:=Tryz.sizeOf219,
 v173:=Tryz.zeroValue219,
 t212:=Tryz.underlying228,
 a212:=Tryz.isAgg228,
 z212:=Tryz.sizeOf228,
 v212:=Tryz.zeroValue228,
 t213:=Tryz.underlying229,
 a213:=Tryz.isAgg229,
 z213:=Tryz.sizeOf229,
 t232:=Tryz.underlying233,
 a232:=Tryz.isAgg233,
 z232:=Tryz.sizeOf233,
 v232:=Tryz.zeroValue233,
 t233:=Tryz.underlying234,
 a233:=Tryz.isAgg234,
 z233:=Tryz.sizeOf234,
 v233:=Tryz.zeroValue234,
 g17:=by kernel_rfl,
 g18:=by kernel_rfl,
 g19:=by kernel_rfl,
 i0:=by kernel_rfl,
 i2:=by kernel_rfl,
 i3:=by kernel_rfl,
 i4:=by kernel_rfl,
 i5:=by kernel_rfl,
 i9:=by kernel_rfl,
 i20:=by kernel_rfl,
 i37:=by kernel_rfl,
 i46:=by kernel_rfl,
 i51:=by kernel_rfl,
 i53:=by kernel_rfl,
 i171:=by kernel_rfl,
 i173:=by kernel_rfl,
 i212:=by kernel_rfl,
 i232:=by kernel_rfl,
 i233:=by kernel_rfl,
 m17:=by kernel_rfl,
 m18:=by kernel_rfl,
 m19:=by kernel_rfl }
end Go.Proofs.YtkmenhhapfombaaGreatDoor
set_option maxRecDepth 100000
set_option linter.unusedSimpArgs false
set_option linter.unusedVariables false
set_option linter.unusedSectionVars false
namespace Go.Proofs.YtkmenhhapfombaaGreatDoor
open Go.RowKit
def Jp (n:Int):ByteArray:=⟨(Lib.itoa n).toArray⟩
noncomputable def Q4:List SV→Option SV
 | [.int .i64 n]=>bif dec (0≤n∧n≤1099511627776) then some (.str (Jp n)) else none
 | _=>none
theorem JN {n:Int} (h0:0≤n) (h1:n≤1099511627776):(Jp n).size≤20:=by
 obtain ⟨u,rfl⟩:∃ u:Nat,n=u:=⟨n.toNat,by omega⟩
 show (Lib.itoa u).toArray.size≤20
 rw [Lib.itoa_nonneg,y6,Lib.decDigits_length]
 rcases zT u with rfl | hu
 ·rw [Lib.nDigits_small (by omega)]; omega
 ·have:=Lib.numDigits_eq u hu (by omega)
  split at this <;> omega
theorem UA {xs:List SV} {r:SV} (h:Q4 xs=some r):Fun Tryz.prog 136 xs [] r []:=by
 unfold Q4 at h
 split at h
 ·rename_i n
  obtain ⟨h1,h2⟩:=Ay h
  obtain ⟨k1,k2⟩:=Aw.1 h1
  obtain rfl:=zK h2
  intro w I V B vs hwf hvs
  obtain ⟨v,q,rfl,hv,hvs⟩:=CK hvs
  obtain rfl:=Kh hvs
  obtain rfl:=Qag hv
  have hcon:=Any.strconv_Itoa Qam n (by omega) (by omega) w hwf.gl.2.2
  change Calls Tryz.prog 136 _ _ _ at hcon
  refine hcon.mono ?_
  rintro e w' ⟨rfl,k,os,rfl⟩
  have hsz:w.heap.size≤(Sort.grow (w.drewN k) os).heap.size:=by simp [Sort.grow,World.drewN]
  have hbl:∀ x,x<w.heap.size→(Sort.grow (w.drewN k) os).heap[x]?=w.heap[x]?:=fun x hx=>by
   simp only [Sort.grow,World.drewN]
   rw [Array.getElem?_append_left hx]
  have hno:∀ g,¬ (Au ([]:List Ob) g).live:=fun g h=>by
   have e:Au ([]:List Ob) g=.free:=rfl
   rw [e] at h
   exact h
  refine ⟨_,I,V,B,rfl,?_,⟨⟨rfl,⟨rfl,fun h=>False.elim h⟩,rfl,hsz,fun x hx _=>hbl x hx⟩,fun _ h=>h,fun _ h=>.inl h,VLe.refl _,⟨fun x hx=>yG (hwf.ilt x hx) hsz,fun g hl=>(hno g hl).elim,fun g x hl=>(hno g hl).elim,fun g x hl=>(hno g hl).elim,fun g g' x hl=>(hno g hl).elim,fun g hg=>hwf.fr g rfl,hwf.gl.keep ⟨hsz,fun x _ hx=>hbl x hx⟩ fun _ h=>h⟩,fun g x hl=>(hno g hl).elim⟩⟩
  have:=JN k1 k2
  simp only [RepV]
  exact ⟨rfl,by omega⟩
 ·cases h
def Wp:List (Nat × FM)→Nat→FM
 | [],_=>⟨[],.asis,none,false⟩
 | (f,m) :: r,g=>bif f == g then m else Wp r g
theorem Xh {l:List (Nat × FM)} {f:Nat} {g:List SV→List Ob→Option (SV × List Ob)} (h:(Wp l f).ext=some g):∃ m,(f,m)∈l∧m.ext=some g:=by
 induction l with
 | nil=>cases h
 | cons x r ih =>
  obtain ⟨f',m⟩:=x
  simp only [Wp] at h
  cases e:f' == f with
  | true =>
   rw [e] at h
   obtain rfl:f'=f:=by simpa using e
   exact ⟨m,by simp,h⟩
  | false =>
   rw [e] at h
   obtain ⟨m',h1,h2⟩:=ih h
   exact ⟨m',by simp [h1],h2⟩
noncomputable def Qc3:List SV→Option SV
 | [.int .i64 k]=>bif dec (1≤k)&&dec (k≤1099511627776) then some (.str (QbT k)) else none
 | _=>none
def Yx:List SV→Option SV
 | [.str s]=>some (.bool (AS s))
 | _=>none
theorem Xi {xs:List SV} {r:SV} (h:Yx xs=some r):Fun Tryz.prog 111 xs [] r []:=by
 unfold Yx at h
 split at h
 ·rename_i s
  obtain rfl:=zK h
  refine Fun.of_same (rv:=.bool (AS s)) (fun w I V=>by simp only [RepV]) fun w I V vs h=>?_
  obtain ⟨v,r,rfl,h3,h⟩:=CK h
  obtain rfl:=Kh h
  obtain ⟨rfl,h4⟩:=NI h3
  exact OC s w h4
 ·cases h
def Yy:List SV→Option SV
 | [.str s]=>some (.bool (AS s))
 | _=>none
theorem Xj {xs:List SV} {r:SV} (h:Yy xs=some r):Fun Tryz.prog 176 xs [] r []:=by
 unfold Yy at h
 split at h
 ·rename_i s
  obtain rfl:=zK h
  refine Fun.of_same (rv:=.bool (AS s)) (fun w I V=>by simp only [RepV]) fun w I V vs h=>?_
  obtain ⟨v,r,rfl,h3,h⟩:=CK h
  obtain rfl:=Kh h
  obtain ⟨rfl,h4⟩:=NI h3
  exact Xf s w h4
 ·cases h
def Yz:List SV→Option SV
 | [.str s]=>some (.bool (D5 s))
 | _=>none
theorem Xk {xs:List SV} {r:SV} (h:Yz xs=some r):Fun Tryz.prog 132 xs [] r []:=by
 unfold Yz at h
 split at h
 ·rename_i s
  obtain rfl:=zK h
  refine Fun.Ys (rv:=.bool (D5 s)) (fun w I V=>by simp only [RepV]) fun w I V vs h=>?_
  obtain ⟨v,r,rfl,h3,h⟩:=CK h
  obtain rfl:=Kh h
  obtain ⟨rfl,h4⟩:=NI h3
  exact Rz s w h4
 ·cases h
def Y0:List SV→Option SV
 | [.str s]=>some (.bool (D5 s))
 | _=>none
theorem Xl {xs:List SV} {r:SV} (h:Y0 xs=some r):Fun Tryz.prog 221 xs [] r []:=by
 unfold Y0 at h
 split at h
 ·rename_i s
  obtain rfl:=zK h
  refine Fun.of_same (rv:=.bool (D5 s)) (fun w I V=>by simp only [RepV]) fun w I V vs h=>?_
  obtain ⟨v,r,rfl,h3,h⟩:=CK h
  obtain rfl:=Kh h
  obtain ⟨rfl,h4⟩:=NI h3
  exact R0 s w h4
 ·cases h
noncomputable def modes:FuncId→FM:=Wp [(111,⟨[],.asis,some (Lu Yx),false⟩),(176,⟨[],.asis,some (Lu Yy),false⟩),(132,⟨[],.asis,some (Lu Yz),false⟩),(221,⟨[],.asis,some (Lu Y0),false⟩),(180,⟨[true],.asis,some Mq,false⟩),(82,⟨[true],.asis,some JM,false⟩),(44,⟨[],.asis,some Mp,false⟩),(136,⟨[],.asis,some (Lu Q4),false⟩),(83,⟨[true],.asis,some Fn,false⟩),(135,⟨[true],.asis,some Nj,false⟩),(173,⟨[],.own [some (26,2)],none,false⟩),(120,⟨[],.frz,none,false⟩),(138,⟨[],.frz,none,false⟩),(139,⟨[],.frz,none,false⟩),(179,⟨[],.frz,none,false⟩),(194,⟨[true],.asis,none,false⟩),(85,⟨[true],.own [some (9,1)],none,false⟩),(62,⟨[],.own [none,none,some (26,2),none,some (29,5)],none,false⟩),(59,⟨[],.own [none,none,some (26,2),none,some (29,5)],none,false⟩),(89,⟨[false,false,true],.own [none,none,some (26,2),none,some (29,5)],none,false⟩),(87,⟨[true],.own [none,none,some (26,2),none,some (29,5)],none,false⟩),(29,⟨[true],.own [none,none,some (26,2),none,some (29,5),none],none,false⟩),(67,⟨[],.frz,none,false⟩),(68,⟨[],.frz,none,false⟩),(69,⟨[],.frz,none,false⟩),(33,⟨[],.frz,none,false⟩),(86,⟨[true],.asis,none,false⟩),(88,⟨[],.own [none,some (26,2)],none,false⟩),(92,⟨[],.frz,none,false⟩),(46,⟨[],.own [none,none,some (26,2),none,some (29,5)],none,false⟩),(93,⟨[],.own [none,none,some (26,2),none,some (29,5)],none,false⟩),(18,⟨[],.own [none,none,some (26,2),none,some (29,5),none],none,false⟩),(127,⟨[],.frz,none,false⟩),(79,⟨[],.frz,none,false⟩),(41,⟨[],.frz,none,false⟩),(98,⟨[],.frz,none,false⟩),(49,⟨[],.frz,none,false⟩),(19,⟨[],.frz,none,false⟩),(94,⟨[],.frz,none,false⟩),(137,⟨[true],.asis,none,false⟩),(96,⟨[true],.asis,none,false⟩),(43,⟨[true],.own [some (9,1)],none,false⟩),(90,⟨[],.own [some (9,1)],none,false⟩),(84,⟨[],.frz,none,false⟩),(45,⟨[],.frz,none,false⟩),(225,⟨[true],.asis,none,false⟩),(129,⟨[true],.asis,none,false⟩),(80,⟨[],.asis,none,false⟩),(214,⟨[],.half [none,some (26,2)],none,false⟩),(162,⟨[],.half [none,some (26,2)],none,false⟩),(212,⟨[],.half [none,some (26,2)],none,false⟩),(163,⟨[],.half [none,some (26,2)],none,false⟩),(164,⟨[],.half [none,some (26,2)],none,false⟩),(108,⟨[],.half [none,some (26,2)],none,false⟩),(161,⟨[],.half [none,none,some (26,2),none,some (29,5)],none,false⟩),(107,⟨[],.half [none,none,some (26,2),none,some (29,5)],none,false⟩),(56,⟨[],.half [none,none,some (26,2),none,some (29,5)],none,false⟩),(13,⟨[],.frz,none,false⟩),(37,⟨[],.frz,none,false⟩),(17,⟨[],.frz,none,false⟩)]
theorem noExt {l:List (Nat × FM)} (h:(l.all fun p=>p.2.ext.isNone)=true) {f:Nat} {m:FM} {g:List SV→List Ob→Option (SV × List Ob)} (h1:(f,m)∈l) (h2:m.ext=some g):False:=by
 have h3:=yA.1 h _ h1
 rw [h2] at h3
 cases h3
theorem KL:Lv Tryz.prog modes:=by
 intro f g xs ob r ob' hg hx
 obtain ⟨m,h1,h2⟩:=Xh hg
 rcases zH.1 h1 with h1 | h1
 ·obtain ⟨rfl,rfl⟩:=yD h1
  obtain rfl:=zK h2
  exact HZ Xi hx
 rcases zH.1 h1 with h1 | h1
 ·obtain ⟨rfl,rfl⟩:=yD h1
  obtain rfl:=zK h2
  exact HZ Xj hx
 rcases zH.1 h1 with h1 | h1
 ·obtain ⟨rfl,rfl⟩:=yD h1
  obtain rfl:=zK h2
  exact HZ Xk hx
 rcases zH.1 h1 with h1 | h1
 ·obtain ⟨rfl,rfl⟩:=yD h1
  obtain rfl:=zK h2
  exact HZ Xl hx
 rcases zH.1 h1 with h1 | h1
 ·obtain ⟨rfl,rfl⟩:=yD h1
  obtain rfl:=zK h2
  exact Tg hx
 rcases zH.1 h1 with h1 | h1
 ·obtain ⟨rfl,rfl⟩:=yD h1
  obtain rfl:=zK h2
  exact R2 hx
 rcases zH.1 h1 with h1 | h1
 ·obtain ⟨rfl,rfl⟩:=yD h1
  obtain rfl:=zK h2
  exact Te hx
 rcases zH.1 h1 with h1 | h1
 ·obtain ⟨rfl,rfl⟩:=yD h1
  obtain rfl:=zK h2
  exact HZ UA hx
 rcases zH.1 h1 with h1 | h1
 ·obtain ⟨rfl,rfl⟩:=yD h1
  obtain rfl:=zK h2
  exact N1 hx
 rcases zH.1 h1 with h1 | h1
 ·obtain ⟨rfl,rfl⟩:=yD h1
  obtain rfl:=zK h2
  exact U9 hx
 exact (noExt rfl h1 h2).elim
noncomputable def E:FEnv:=ev Tryz.prog modes
noncomputable def calls:CallF:=CU modes E
theorem E_told {f:FuncId} {xs:List SV} {ob:List Ob} {r:SV} {ob':List Ob} (h:E f xs ob=some (r,ob')):Fun Tryz.prog f xs ob r ob':=Wm Yg KL f xs ob r ob' h
noncomputable def run (n0:Nat):SC→St→Option (X × St):=fr Tryz.prog calls (I1 n0)
def go (n0:Nat) (sc:SC) (st:St) (K:X→St→Prop):Prop:=∃ x st',run n0 sc st=some (x,st')∧K x st'
def R4 (n0:Nat) (b:SC) (K:X→St→Prop):X→St→Prop
 | .normal,st=>go n0 b st K
 | .exit i,st=>K (.exit i) st
 | .ret,st=>K .ret st
def blk (id:Nat) (K:X→St→Prop):X→St→Prop
 | .normal,st=>K .normal st
 | .exit i,st=>if i=id then K .normal st else K (.exit i) st
 | .ret,st=>K .ret st
def OD (r:Option St) (k:X→St→Prop):Prop :=
 match r with
 | some st=>k .normal st
 | none=>False
def OE (anc:List (List Nat)) (r:Option (List Ent × St)) (k:X→St→Prop):Prop :=
 match r with
 | some (es,st)=>obB anc [] (Gq es) 0=true∧k .normal st
 | none=>False
def Hn (v:SV) (a b:Unit→Prop):Prop :=
 match v with
 | .bool true=>a ()
 | .bool false=>b ()
 | _=>False
noncomputable def KM (ops:List SOper) (st:St):Option St:=Nz Tryz.prog calls ops st
noncomputable def KN (ops:List SOper) (acc:List Ent) (st:St):Option (List Ent × St):=H7 Tryz.prog calls ops acc st
section
variable {n0:Nat} {st:St} {K:X→St→Prop}
theorem go_skip:go n0 .skip st K=K .normal st:=by
 refine propext ⟨fun ⟨x,st',h,k⟩=>?_,fun k=>⟨_,_,rfl,k⟩⟩
 obtain ⟨rfl,rfl⟩:X.normal=x∧st=st':=by simpa [run,fr] using h
 exact k
theorem R5 {i:Nat}:go n0 (.exit i) st K=K (.exit i) st:=by
 refine propext ⟨fun ⟨x,st',h,k⟩=>?_,fun k=>⟨_,_,rfl,k⟩⟩
 obtain ⟨rfl,rfl⟩:X.exit i=x∧st=st':=by simpa [run,fr] using h
 exact k
theorem go_ret:go n0 .ret st K=K .ret st:=by
 refine propext ⟨fun ⟨x,st',h,k⟩=>?_,fun k=>⟨_,_,rfl,k⟩⟩
 obtain ⟨rfl,rfl⟩:X.ret=x∧st=st':=by simpa [run,fr] using h
 exact k
theorem UC {ops:List SOper}:go n0 (.reg ops) st K=OD (KM ops st) K:=by
 unfold OD KM
 refine propext ⟨fun ⟨x,st',h,k⟩=>?_,fun k=>?_⟩
 ·simp only [run,fr] at h
  split at h
  ·rename_i s hs
   simp only [zD,zI] at h
   obtain ⟨rfl,rfl⟩:=h
   first | exact k | (simp only [hs]; exact k)
  ·cases h
 ·split at k
  ·rename_i s hs
   exact ⟨.normal,s,by simp only [run,fr,hs],k⟩
  ·exact k.elim
theorem R6 {anc:List (List Nat)} {ops:List SOper}:go n0 (.dreg anc ops) st K=OE anc (KN ops [] st) K:=by
 unfold OE KN
 refine propext ⟨fun ⟨x,st',h,k⟩=>?_,fun k=>?_⟩
 ·simp only [run,fr] at h
  split at h
  ·rename_i es s hs
   obtain ⟨h1,h2⟩:=Ay h
   simp only [zD,zI] at h2
   obtain ⟨rfl,rfl⟩:=h2
   first | exact ⟨h1,k⟩ | (simp only [hs]; exact ⟨h1,k⟩)
  ·cases h
 ·split at k
  ·rename_i es s hs
   exact ⟨.normal,s,by simp only [run,fr,hs,k.1,cond_true],k.2⟩
  ·exact k.elim
theorem UD {a b:SC}:go n0 (.seq a b) st K=go n0 a st (R4 n0 b K):=by
 refine propext ⟨fun ⟨x,st',h,k⟩=>?_,fun ⟨x,st',h,k⟩=>?_⟩
 ·simp only [run,fr,C5] at h
  split at h
  ·rename_i s hs
   exact ⟨.normal,s,hs,x,st',h,k⟩
  ·rename_i i s hs
   simp only [zD,zI] at h
   obtain ⟨rfl,rfl⟩:=h
   exact ⟨_,_,hs,k⟩
  ·rename_i s hs
   simp only [zD,zI] at h
   obtain ⟨rfl,rfl⟩:=h
   exact ⟨_,_,hs,k⟩
  ·cases h
 ·simp only [run] at h
  cases x with
  | normal =>
   obtain ⟨x2,st2,h2,k2⟩:=k
   exact ⟨x2,st2,by simp only [run,fr,C5,h]; exact h2,k2⟩
  | exit i=>exact ⟨_,st',by simp only [run,fr,C5,h],k⟩
  | ret=>exact ⟨_,st',by simp only [run,fr,C5,h],k⟩
theorem OF {id:Nat} {b:SC}:go n0 (.block id b) st K=go n0 b st (blk id K):=by
 refine propext ⟨fun ⟨x,st',h,k⟩=>?_,fun ⟨x,st',h,k⟩=>?_⟩
 ·simp only [run,fr,EA] at h
  split at h
  ·rename_i s hs
   simp only [zD,zI] at h
   obtain ⟨rfl,rfl⟩:=h
   exact ⟨.normal,s,hs,k⟩
  ·rename_i i s hs
   refine ⟨.exit i,s,hs,?_⟩
   simp only [blk]
   by_cases hi:i=id
   ·simp only [if_pos hi,zD,zI] at h ⊢
    obtain ⟨rfl,rfl⟩:=h
    exact k
   ·simp only [if_neg hi,zD,zI] at h ⊢
    obtain ⟨rfl,rfl⟩:=h
    exact k
  ·rename_i s hs
   simp only [zD,zI] at h
   obtain ⟨rfl,rfl⟩:=h
   exact ⟨_,s,hs,k⟩
  ·cases h
 ·simp only [run] at h
  cases x with
  | normal=>exact ⟨_,st',by simp only [run,fr,EA,h],k⟩
  | exit i =>
   simp only [blk] at k
   by_cases hi:i=id
   ·simp only [if_pos hi] at k
    exact ⟨.normal,st',by simp only [run,fr,EA,h,if_pos hi],k⟩
   ·simp only [if_neg hi] at k
    exact ⟨.exit i,st',by simp only [run,fr,EA,h,if_neg hi],k⟩
  | ret=>exact ⟨_,st',by simp only [run,fr,EA,h],k⟩
theorem Ab {q:SX} {a b:SC}:go n0 (.cond q a b) st K=Hn (A8 (gets st.sl) q) (fun _=>go n0 a st K) (fun _=>go n0 b st K):=by
 unfold Hn
 refine propext ⟨fun ⟨x,st',h,k⟩=>?_,fun k=>?_⟩
 ·simp only [run,fr] at h
  split at h
  ·rename_i t ht
   simp only [ht]
   cases t with
   | true=>exact ⟨x,st',h,k⟩
   | false=>exact ⟨x,st',h,k⟩
  ·cases h
 ·split at k
  ·rename_i ht
   obtain ⟨x,st',h,k⟩:=k
   exact ⟨x,st',by simp only [run,fr,ht,cond_true]; exact h,k⟩
  ·rename_i ht
   obtain ⟨x,st',h,k⟩:=k
   exact ⟨x,st',by simp only [run,fr,ht,cond_false]; exact h,k⟩
  ·exact k.elim
theorem R7 {a b:Unit→Prop}:Hn (.bool true) a b=a ():=rfl
theorem R8 {a b:Unit→Prop}:Hn (.bool false) a b=b ():=rfl
theorem R9 {t:Bool} {a b:Unit→Prop}:Hn (.bool (!t)) a b=Hn (.bool t) b a:=by cases t <;> rfl
theorem A2 {q:SX} {a b:SC} (h:A8 (gets st.sl) q=.bool true) (k:go n0 a st K):go n0 (.cond q a b) st K:=by rw [Ab,h]; exact k
theorem A3 {q:SX} {a b:SC} (h:A8 (gets st.sl) q=.bool false) (k:go n0 b st K):go n0 (.cond q a b) st K:=by rw [Ab,h]; exact k
theorem Tl {t:Bool} {a b:Unit→Prop} (h1:t=true→a ()) (h2:t=false→b ()):Hn (.bool t) a b:=by
 cases t with
 | true=>exact h1 rfl
 | false=>exact h2 rfl
theorem UE {b:SC}:R4 n0 b K .normal st=go n0 b st K:=rfl
theorem UF {b:SC} {i:Nat}:R4 n0 b K (.exit i) st=K (.exit i) st:=rfl
theorem UG {b:SC}:R4 n0 b K .ret st=K .ret st:=rfl
theorem Y1 {id:Nat}:blk id K .normal st=K .normal st:=rfl
theorem Y2 {id i:Nat}:blk id K (.exit i) st=if i=id then K .normal st else K (.exit i) st:=rfl
theorem Y3 {id:Nat}:blk id K .ret st=K .ret st:=rfl
theorem RA:OD (some st) K=K .normal st:=rfl
def quiet:List Ent→Bool
 | []=>true
 | ⟨_,_,[],_⟩ :: r=>quiet r
 | ⟨_,_,_ :: _,_⟩ :: _=>false
theorem GE {anc:List (List Nat)} {rd:List Nat} {j:Nat}:∀ {l:List Ent} {i:Nat},quiet l=true→P4 anc rd [] j (Gq l) i=true
 | [],i,_=>rfl
 | ⟨_,_,[],rdi⟩ :: r,i,h=>by
  have:=GE (anc:=anc) (rd:=rd) (j:=j) (l:=r) (i:=i+1) h
  simp only [Gq,zB,zO] at this ⊢
  simp only [P4,this,zQ]
  have e1:meets [] (rd++[])=false:=rfl
  have e2:meets rdi []=false:=by cases rdi <;> simp [meets]
  rw [e1,e2]; rfl
theorem Mr {l l':List Ent} (h:quiet l=true) (h':quiet l'=true):quiet (l++l')=true:=by
 induction l with
 | nil=>exact h'
 | cons x r ih =>
  obtain ⟨a,b,c,d⟩:=x
  cases c with
  | nil=>exact ih h
  | cons _ _=>cases h
theorem Ic {anc:List (List Nat)}:∀ {l pre:List Ent} {j:Nat},quiet pre=true→quiet l=true→obB anc (Gq pre) (Gq l) j=true
 | [],pre,j,_,_=>rfl
 | ⟨a,b,[],rd⟩ :: r,pre,j,hp,h=>by
  have e:=Ic (anc:=anc) (l:=r) (pre:=pre++[⟨a,b,[],rd⟩]) (j:=j+1) (Mr hp rfl) h
  have e2:=GE (anc:=anc) (rd:=rd) (j:=j) (i:=0) hp
  simp only [Gq,yH,zB,zO] at e e2 ⊢
  simp only [obB,e2,e,zF]
theorem RB {anc:List (List Nat)} {es:List Ent}:OE anc (some (es,st)) K=match quiet es with
  | true=>K .normal st
  | false=>obB anc [] (Gq es) 0=true∧K .normal st:=by
 show (obB anc [] (Gq es) 0=true∧K .normal st)=_
 cases h:quiet es with
 | true=>exact propext ⟨fun h=>h.2,fun h'=>⟨Ic (pre:=[]) rfl h,h'⟩⟩
 | false=>rfl
noncomputable def UH (r:List SOper) (e:Option (Ent × St)):Option St :=
 match e with
 | some (_,st)=>KM r st
 | none=>none
noncomputable def UI (r:List SOper) (acc:List Ent) (e:Option (Ent × St)):Option (List Ent × St) :=
 match e with
 | some (x,st)=>KN r (acc++[x]) st
 | none=>none
noncomputable def opF (so:SOp) (sl:List SV) (ob:List Ob):Option R3:=fOp Tryz.prog calls so sl ob
theorem OG:KM [] st=some st:=rfl
theorem Ms {d:Option Tmp} {so:SOp} {r:List SOper} {sl:List SV} {ob:List Ob}:KM (⟨d,none,so⟩ :: r) ⟨sl,ob⟩=UH r (G8 d ⟨sl,ob⟩ (opF so sl ob)):=rfl
noncomputable def gdF (d:Option Tmp) (so:SOp) (want:Bool) (sl:List SV) (ob:List Ob) (v:SV):Option (Ent × St) :=
 match v with
 | .bool b=>bif SN b want then G8 d ⟨sl,ob⟩ (opF so sl ob) else some (⟨false,.tup [],[],[]⟩,⟨Ew sl d (.tup []),ob⟩)
 | .tup []=>some (⟨false,.tup [],[],[]⟩,⟨Ew sl d (.tup []),ob⟩)
 | _=>none
theorem RC {d:Option Tmp} {k:Nat} {want:Bool} {so:SOp} {r:List SOper} {sl:List SV} {ob:List Ob}:KM (⟨d,some (k,want),so⟩ :: r) ⟨sl,ob⟩=UH r (gdF d so want sl ob (gets sl k)):=rfl
theorem OH {acc:List Ent}:KN [] acc st=some (acc,st):=rfl
theorem Mt {d:Option Tmp} {so:SOp} {r:List SOper} {acc:List Ent} {sl:List SV} {ob:List Ob}:KN (⟨d,none,so⟩ :: r) acc ⟨sl,ob⟩=UI r acc (G8 d ⟨sl,ob⟩ (opF so sl ob)):=rfl
theorem RD {d:Option Tmp} {k:Nat} {want:Bool} {so:SOp} {r:List SOper} {acc:List Ent} {sl:List SV} {ob:List Ob}:KN (⟨d,some (k,want),so⟩ :: r) acc ⟨sl,ob⟩=UI r acc (gdF d so want sl ob (gets sl k)):=rfl
theorem UJ {r:List SOper} {e:Ent}:UH r (some (e,st))=KM r st:=rfl
theorem UK {r:List SOper} {acc:List Ent} {e:Ent}:UI r acc (some (e,st))=KN r (acc++[e]) st:=rfl
theorem Y4 {d:Option Tmp} {so:SOp} {sl:List SV} {ob:List Ob}:gdF d so true sl ob (.bool true)=G8 d ⟨sl,ob⟩ (opF so sl ob):=rfl
theorem UL {d:Option Tmp} {so:SOp} {sl:List SV} {ob:List Ob}:gdF d so false sl ob (.bool false)=G8 d ⟨sl,ob⟩ (opF so sl ob):=rfl
theorem UM {d:Option Tmp} {so:SOp} {sl:List SV} {ob:List Ob}:gdF d so true sl ob (.bool false)=some (⟨false,.tup [],[],[]⟩,⟨Ew sl d (.tup []),ob⟩):=rfl
theorem UN {d:Option Tmp} {so:SOp} {sl:List SV} {ob:List Ob}:gdF d so false sl ob (.bool true)=some (⟨false,.tup [],[],[]⟩,⟨Ew sl d (.tup []),ob⟩):=rfl
theorem Y5 {d:Option Tmp} {so:SOp} {want:Bool} {sl:List SV} {ob:List Ob}:gdF d so want sl ob (.tup [])=some (⟨false,.tup [],[],[]⟩,⟨Ew sl d (.tup []),ob⟩):=rfl
theorem UO {d:Option Tmp} {x:SV} {rd:List Nat}:G8 d st (some (x,[],rd))=some (⟨true,x,[],rd⟩,⟨Ew st.sl d x,st.ob⟩):=rfl
theorem UP {d:Option Tmp} {x:SV} {q:Nat × Ob} {u:List (Nat × Ob)} {rd:List Nat}:G8 d st (some (x,q :: u,rd))=bif SL (De st.ob (q :: u)).length (q :: u) then some (⟨true,x,q :: u,rd⟩,⟨Ew st.sl d x,De st.ob (q :: u)⟩) else none:=rfl
def Jq (ob:List Ob) (xs:List SV) (sel:List Nat) (r:Option (SV × List Ob)) (n:Nat):Option R3 :=
 match r with
 | some (r,fob')=>bif decide (n≤fob'.length) then some (DR sel (By sel xs) ob.length r fob') else none
 | none=>none
def UQ (hd:List Bool) (f:FuncId) (xs:List SV) (ob:List Ob) (sel:List Nat) (e:List SV→List Ob→Option (SV × List Ob)) (b:Option (List Ob)):Option R3 :=
 match b with
 | some fob=>bif Fc sel&&H8 ob.length sel&&F3 fob.length fob then Jq ob xs sel (e (EY hd (Au ob) sel xs) fob) fob.length else none
 | none=>none
def OI (hd:List Bool) (f:FuncId) (xs:List SV) (ob:List Ob) (sel:List Nat) (e:List SV→List Ob→Option (SV × List Ob)):Option R3:=UQ hd f xs ob sel e (Eo sel ob sel)
theorem OJ {f:FuncId} {xs:List SV} {ob:List Ob}:calls f xs ob=Ds (modes f).res (OI (modes f).hand f xs ob (reach ob 64 (FI (modes f).hand xs) []) (E f)):=rfl
theorem UR {r:Option R3}:Ds .asis r=r:=rfl
theorem US {r:Option R3}:Ds .frz r=r:=rfl
theorem UT {l:List (Option (Nat × Nat))} {r:Option R3}:Ds (.own l) r=r:=rfl
theorem UU {l:List (Option (Nat × Nat))} {r:Option R3}:Ds (.half l) r=r:=rfl
theorem UV {l:List (Option (Nat × Nat))} {r:Option R3}:Ds (.tr l) r=r:=rfl
theorem UW {l:List Nat} {r:Option R3}:Ds (.frl l) r=r:=rfl
theorem UX {r:R3}:Ds .late (some r)=Ou r:=rfl
theorem E0:∀ u:List (Nat × Ob),CO [] u=u
 | []=>rfl
 | (g,o) :: u=>by rw [CO,E0 u]; rfl
theorem UY {m:RM} {b:Bool} {u:List (Nat × Ob)} {rd:List Nat}:Ds m (some (.bool b,u,rd))=some (.bool b,u,rd):=by
 cases m <;> first | rfl | (show some (SV.bool b,CO [] u,rd)=_; rw [E0])
theorem UZ {m:RM} {k:IntKind} {n:Int} {u:List (Nat × Ob)} {rd:List Nat}:Ds m (some (.int k n,u,rd))=some (.int k n,u,rd):=by
 cases m <;> first | rfl | (show some (SV.int k n,CO [] u,rd)=_; rw [E0])
theorem Mu {hd:List Bool} {f:FuncId} {xs:List SV} {ob:List Ob} {e:List SV→List Ob→Option (SV × List Ob)}:OI hd f xs ob [] e=Jq ob xs [] (e (EY hd (Au ob) [] xs) []) 0:=rfl
theorem KO {hd:List Bool} {f:FuncId} {xs:List SV} {ob:List Ob} {g:Nat} {r:List Nat} {e:List SV→List Ob→Option (SV × List Ob)}:OI hd f xs ob (g :: r) e=UQ hd f xs ob (g :: r) e (Eo (g :: r) ob (g :: r)):=rfl
theorem RE {ob:List Ob} {xs:List SV} {r:SV} {fob':List Ob}:Jq ob xs [] (some (r,fob')) 0=some (DR [] (By [] xs) ob.length r fob'):=rfl
theorem RF {ob:List Ob} {xs:List SV} {sel:List Nat} {r:SV} {fob':List Ob} {n:Nat}:Jq ob xs sel (some (r,fob')) n=bif decide (n≤fob'.length) then some (DR sel (By sel xs) ob.length r fob') else none:=rfl
theorem Va {hd:List Bool} {f:FuncId} {xs:List SV} {ob:List Ob} {sel:List Nat} {fob:List Ob} {e:List SV→List Ob→Option (SV × List Ob)}:UQ hd f xs ob sel e (some fob)=bif Fc sel&&H8 ob.length sel&&F3 fob.length fob then Jq ob xs sel (e (EY hd (Au ob) sel xs) fob) fob.length else none:=rfl
theorem Mv {p:Nat} {r:SV}:DR [] [] p r []=(r.ren (sgp [] p),[],[]):=rfl
def I5 {α:Type} (n0:Nat) (keep:List Nat) (H:α→St) (R:α→Prop) (μ:α→Nat) (a:α) (K:X→St→Prop):X→St→Prop
 | .normal,st'=>∃ y,R y∧μ y < μ a∧canon n0 keep st'=H y
 | .exit i,st'=>K (.exit i) st'
 | .ret,st'=>K .ret st'
theorem OK {α:Type} {keep:List Nat} {H:α→St} {R:α→Prop} {μ:α→Nat} {a:α} {st':St}:I5 n0 keep H R μ a K .normal st'=∃ y,R y∧μ y < μ a∧canon n0 keep st'=H y:=rfl
theorem OL {α:Type} {keep:List Nat} {H:α→St} {R:α→Prop} {μ:α→Nat} {a:α} {i:Nat} {st':St}:I5 n0 keep H R μ a K (.exit i) st'=K (.exit i) st':=rfl
theorem OM {α:Type} {keep:List Nat} {H:α→St} {R:α→Prop} {μ:α→Nat} {a:α} {st':St}:I5 n0 keep H R μ a K .ret st'=K .ret st':=rfl
theorem go_loop {α:Type} {keep:List Nat} {b:SC} (H:α→St) (R:α→Prop) (μ:α→Nat) (a0:α) (hR:R a0) (h0:canon n0 keep st=H a0) (round:∀ a,R a→go n0 b (H a) (I5 n0 keep H R μ a K)):go n0 (.loop keep b) st K:=by
 have key:∀ (n:Nat) (a:α) (st:St),μ a≤n→R a→canon n0 keep st=H a→∃ x st',O8 n0 keep (run n0 b) st=some (x,st')∧K x st':=by
  intro n
  induction n with
  | zero =>
   intro a st hn hR hc
   obtain ⟨x,st',h,k⟩:=round a hR
   cases x with
   | normal =>
    obtain ⟨y,_,h2,_⟩:=k
    omega
   | exit i=>exact ⟨_,st',by rw [Eh,hc,h]; rfl,k⟩
   | ret=>exact ⟨_,st',by rw [Eh,hc,h]; rfl,k⟩
  | succ n ih =>
   intro a st hn hR hc
   obtain ⟨x,st',h,k⟩:=round a hR
   cases x with
   | normal =>
    obtain ⟨y,h1,h2,h3⟩:=k
    obtain ⟨x2,st2,h4,k2⟩:=ih y st' (by omega) h1 h3
    exact ⟨x2,st2,by rw [Eh,hc,h]; exact h4,k2⟩
   | exit i=>exact ⟨_,st',by rw [Eh,hc,h]; rfl,k⟩
   | ret=>exact ⟨_,st',by rw [Eh,hc,h]; rfl,k⟩
 exact key (μ a0) a0 st (zU _) hR h0
def Ho (n0:Nat) (keep keepO:List Nat) (H:EL→St) (F:X × St) (p:EL):X→St→Prop
 | .normal,st'=>canon n0 keep st'=H p
 | .exit i,st'=>F=(.exit i,canon n0 keepO st')
 | .ret,st'=>F=(.ret,canon n0 keepO st')
def Q5 (n0:Nat) (keepO:List Nat) (F:X × St):X→St→Prop
 | .normal,_=>False
 | .exit i,st'=>F=(.exit i,canon n0 keepO st')
 | .ret,st'=>F=(.ret,canon n0 keepO st')
theorem Mw {keep keepO:List Nat} {H:EL→St} {F:X × St} {p:EL} {st':St}:Ho n0 keep keepO H F p .normal st'=(canon n0 keep st'=H p):=rfl
theorem My {keep keepO:List Nat} {H:EL→St} {F:X × St} {p:EL} {i:Nat} {st':St}:Ho n0 keep keepO H F p (.exit i) st'=(F=(.exit i,canon n0 keepO st')):=rfl
theorem Mz {keep keepO:List Nat} {H:EL→St} {F:X × St} {p:EL} {st':St}:Ho n0 keep keepO H F p .ret st'=(F=(.ret,canon n0 keepO st')):=rfl
theorem RG {keepO:List Nat} {F:X × St} {i:Nat} {st':St}:Q5 n0 keepO F (.exit i) st'=(F=(.exit i,canon n0 keepO st')):=rfl
theorem RH {keepO:List Nat} {F:X × St} {st':St}:Q5 n0 keepO F .ret st'=(F=(.ret,canon n0 keepO st')):=rfl
theorem Tn {keep keepO:List Nat} {it:SX} {nx more:Nat} {b:SC} (f:MF) (hfin:∃ l,Enum f l) (F:X × St) (hF:K F.1 F.2) (H:EL→St) (g:Nat) (ks:Bool)
  (h0:canon n0 keep st=H []) (hit:∀ p:EL,P7 it (H p)=some (g,ks,f,(p.map (·.1)).reverse))
  (round:∀ (p:EL) (k:MK) (x:MV),(p.map (·.1)).Nodup→(∀ e,e∈p→f e.1=some e.2)→f k=some x→k ∉ p.map (·.1)→go n0 b (Fb nx more (H p) true [(g,.it ks f (k :: (p.map (·.1)).reverse) (some (k,x)))]) (Ho n0 keep keepO H F (p++[(k,x)])))
  (fin:∀ p:EL,Enum f p→go n0 b (Fb nx more (H p) false []) (Q5 n0 keepO F)):go n0 (.mloop keep keepO it nx more b) st K:=by
 have key:∀ (l p:EL) (s:St),Enum f (p++l)→canon n0 keep s=H p→O4 n0 keepO (FL n0 ⟨keepO,it,nx,more⟩ keep (run n0 b) f l (p.map (·.1)).reverse s)=some F:=by
  intro l
  induction l with
  | nil =>
   intro p s hE hs
   rw [xG] at hE
   unfold FL
   rw [hs,hit p]
   simp only
   try rw [Ar (p:=f=f) rfl,Ar (p:=(p.map (·.1)).reverse=(p.map (·.1)).reverse) rfl]
   simp only [Ar True.intro,zF,cond_true]
   obtain ⟨x,st',h1,h2⟩:=fin p hE
   rw [h1]
   cases x with
   | normal=>exact h2.elim
   | exit i=>have h2:F=_:=h2; rw [h2]; rfl
   | ret=>have h2:F=_:=h2; rw [h2]; rfl
  | cons e l ih =>
   intro p s hE hs
   obtain ⟨k,x⟩:=e
   have hnd:=hE.nd
   rw [yH,List.nodup_append] at hnd
   have hpm:∀ e,e∈p→f e.1=some e.2:=fun e he=>(hE.mem e.1 e.2).1 (by simp [he])
   have hk:f k=some x:=(hE.mem k x).1 (by simp)
   have hn:k ∉ p.map (·.1):=fun hm=>hnd.2.2 k hm k (by simp) rfl
   obtain ⟨x1,st1,h1,h2⟩:=round p k x hnd.1 hpm hk hn
   unfold FL
   rw [hs,hit p]
   simp only
   try rw [Ar (p:=f=f) rfl,Ar (p:=(p.map (·.1)).reverse=(p.map (·.1)).reverse) rfl]
   simp only [Ar True.intro,zF,cond_true]
   rw [h1]
   cases x1 with
   | normal =>
    have h2:canon n0 keep st1=H (p++[(k,x)]):=h2
    have:=ih (p++[(k,x)]) st1 (by rw [List.append_assoc]; exact hE) h2
    have hrev:((p++[(k,x)]).map (·.1)).reverse=k :: (p.map (·.1)).reverse:=by simp
    rw [hrev] at this
    exact this
   | exit i=>have h2:F=_:=h2; rw [h2]; rfl
   | ret=>have h2:F=_:=h2; rw [h2]; rfl
 refine ⟨F.1,F.2,?_,hF⟩
 have:HY n0 ⟨keepO,it,nx,more⟩ keep (run n0 b) st=some F:=by
  unfold HY
  rw [h0,hit []]
  exact Fg.2 ⟨hfin,fun l hl=>key l [] st (by simpa using hl) h0⟩
 exact this
end
def slots:Nat→Nat→List (Nat × SV)→List SV
 | 0,_,_=>[]
 | n+1,k,[]=>.any :: slots n (k+1) []
 | n+1,k,(j,x) :: r=>bif j == k then x :: slots n (k+1) r else .any :: slots n (k+1) ((j,x) :: r)
def To (res:RM) (n0:Nat) (rs:List RX) (out:SV × List Ob) (x:X) (st:St):Prop:=fin res n0 rs x st=some out
def Vb (res:RM) (n0:Nat) (r:Option (SV × List Ob)):Option (SV × List Ob) :=
 match r with
 | some (r,ob)=>order res n0 r ob
 | none=>none
def Ly (res:RM) (n0:Nat) (ob:List Ob) (r:Option SV):Option (SV × List Ob) :=
 match r with
 | some r0=>Vb res n0 (gc n0 r0 ob)
 | none=>none
theorem Vd {res:RM} {n0:Nat} {rs:List RX} {out:SV × List Ob} {sl:List SV} {ob:List Ob}:To res n0 rs out .ret ⟨sl,ob⟩=(Ly res n0 ob (Mf ⟨sl,ob⟩ rs)=some out):=rfl
theorem Ve {res:RM} {n0:Nat} {rs:List RX} {out:SV × List Ob} {sl:List SV} {ob:List Ob}:To res n0 rs out .normal ⟨sl,ob⟩=(Ly res n0 ob (Mf ⟨sl,ob⟩ rs)=some out):=rfl
theorem RI {res:RM} {n0:Nat} {ob:List Ob} {r:SV}:Ly res n0 ob (some r)=Vb res n0 (gc n0 r ob):=rfl
theorem Vf {n0:Nat} {r:SV} {ob:List Ob} {res:RM}:Vb res n0 (some (r,ob))=order res n0 r ob:=rfl
theorem Ai {f:FuncId} {fc:FC} {hand:List Bool} {res:RM} {tr:Bool} {xs:List SV} {ob:List Ob} {out:SV × List Ob} (hc:At Tryz.prog f=some fc) (hr:modes f=⟨hand,res,none,tr⟩) (hn:xs.length≤fc.nt) (h:go ob.length (Gi res fc.sc) ⟨xs++Jf (fc.nt-xs.length),entry tr ob⟩ (To res ob.length fc.rs out)):E f xs ob=some out:=by
 obtain ⟨x,st',h1,h2⟩:=h
 unfold E
 rw [Yr]
 unfold G9
 rw [hc,hr]
 simp only
 rw [decide_eq_true hn,cond_true]
 have h1:fr Tryz.prog (CU modes (ev Tryz.prog modes)) (I1 ob.length) (Gi res fc.sc) ⟨xs++Jf (fc.nt-xs.length),entry tr ob⟩=some (x,st'):=h1
 rw [h1]
 exact h2
theorem KP {f:FuncId} {g:List SV→List Ob→Option (SV × List Ob)} {xs:List SV} {ob:List Ob} (hg:(modes f).ext=some g):E f xs ob=g xs ob:=by
 unfold E
 rw [Yr]
 unfold G9
 rw [hg]
theorem Tp {f:FuncId} {g:List SV→Option SV} {xs:List SV} {r:SV} (hg:(modes f).ext=some (Lu g)) (h:g xs=some r):E f xs []=some (r,[]):=by
 rw [KP hg]
 simp only [Lu,h]
theorem Ae:modes 111=⟨[],.asis,some (Lu Yx),false⟩:=by unfold modes; rfl
theorem Dl (s:ByteArray):E 111 [.str s] []=some (.bool (AS s),[]):=Tp (g:=Yx) (congrArg FM.ext Ae) rfl
theorem Al:modes 176=⟨[],.asis,some (Lu Yy),false⟩:=by unfold modes; rfl
theorem DB (s:ByteArray):E 176 [.str s] []=some (.bool (AS s),[]):=Tp (g:=Yy) (congrArg FM.ext Al) rfl
theorem Be:modes 132=⟨[],.asis,some (Lu Yz),false⟩:=by unfold modes; rfl
theorem GF (s:ByteArray):E 132 [.str s] []=some (.bool (D5 s),[]):=Tp (g:=Yz) (congrArg FM.ext Be) rfl
theorem BH:modes 221=⟨[],.asis,some (Lu Y0),false⟩:=by unfold modes; rfl
theorem ON (s:ByteArray):E 221 [.str s] []=some (.bool (D5 s),[]):=Tp (g:=Y0) (congrArg FM.ext BH) rfl
theorem B9 {n:Int} (h1:-9223372036854775808≤n) (h2:n≤9223372036854775807):dec (inK .i64 n)=true:=Ar (Qad.2 ⟨h1,h2⟩)
theorem get_at {α β:Type} (f:α→β) {xs:List α} {k:Nat} (h:k<xs.length):(xs.map f)[k]?=some (f xs[k]):=by rw [y5,zS h]; rfl
theorem Y6:dec True=true:=Ar trivial
theorem Y7:dec False=false:=Aj fun h=>h
attribute [go_sem] pfx FJ Jl OT.C3 OT.Jk OT.half UU Wj EY Ql SV.isNil Ob.idsB SV.idsB SV.Lo List.getElem?_cons_zero yQ OT.AA OT.C1 OT.full entry toTree ST Qt SS FY G0 E9 VV NS Us OT.erss OT.ers OT.er OT.Cg OT.DF OT.noSh quiet obB P4 Gq meets It go_skip R5 go_ret UC R6 UD OF R7 R8 R9 UE UF UG Y1 Y2 Y3 RA RB OG Ms RC OH Mt RD UJ UK Y4 UL UM UN Y5 UO UP OJ UR US UT UV UW UX UY UZ Ou Qp CO seen Mu KO RE RF Va Mv DR OK OL OM Vd Ve RI Vf order opF fOp Fd SH Yh SF SG VU Iw eqK A8 gets Au Oh Ew De KB Ny AR SL SV.cellsN SV.one Ja splice DZ Rn IZ Kd DE BR Cp BN Hj HO Su eOp.mkEs eOp.addS D.sv OT.sv D.ot H6 Fc reach SV.refs SV.Or SV.ptrs SV.Ot Ob.refs Ob.liveB FI Eo SV.back SV.Lq Ob.back H5 HT CH By B8 H8 F3 SV.ren SV.KD Ob.ren mkU sgp gc Lr names KI VZ Wa Wb Mj WZ We Wg Wh Wi Wk Wl SC.mark O1 FK slots Mf SA rxV Jf Qo SV.noSh SV.Ln Ob.noSh SV.own SV.P6 FX cond_true cond_false zM yC zB zO yZ zN List.drop_nil yO y2 List.take_nil xG yP yU xA List.all_nil List.getD_cons_zero List.getD_cons_succ yV List.any_nil List.contains_cons List.contains_nil List.isEmpty_nil List.isEmpty_cons List.flatten_cons List.flatten_nil y0 List.replicate_zero y3 List.set_cons_succ yK yB zU zP zQ xB zF Bool.or_false xJ Bool.true_or Bool.or_true Bool.not_true Bool.not_false y4 yR decide_true decide_false beq_self_eq_true if_true if_false yY Option.map_none zD yF Option.getD_none y7 true_and and_true and_self eq_self_iff_true zR Bool.false_eq_true Bool.true_eq_false zI SV.int.injEq SV.bool.injEq SV.str.injEq SV.agg.injEq SV.tup.injEq SV.arr.injEq List.cons.injEq St.mk.injEq Int.zero_add Y6 Y7 B9 Ar Aj Qbk svK svD WN svM MV.sv Ss SJ Oq SK Fb St.app P7 MK.sv Mw My Mz RG RH
attribute [go_sem_proc] Nat.reduceAdd Nat.reduceSub Nat.reduceLT Nat.reduceLeDiff Nat.reduceEqDiff Nat.reduceBEq Nat.reduceBneDiff Nat.reduceMul Int.reduceToNat Int.reduceNeg Int.reduceAdd reduceCtorEq
attribute [go_sem_proc ↓] reduceIte
theorem NJ:∀ xs:List ByteArray,OT.AA (xs.map fun s=>[OT.str s])=true
 | []=>rfl
 | x :: xs=>by simp only [zB,OT.AA,OT.C1,OT.full,NJ xs,zF]
theorem Wq:∀ xs:List Int,OT.AA (xs.map fun n=>[OT.int n])=true
 | []=>rfl
 | x :: xs=>by simp only [zB,OT.AA,OT.C1,OT.full,Wq xs,zF]
theorem Tm.fu_of:∀ xs:List Tm,(∀ x∈xs,OT.C1 (Tm.o x)=true)→OT.AA (xs.map Tm.o)=true
 | [],_=>rfl
 | x :: xs,h=>by
  simp only [zB,OT.AA]
  rw [h x (by simp),Tm.fu_of xs fun y hy=>h y (by simp [hy])]; rfl
theorem Tm.fu (x:Tm):OT.C1 (Tm.o x)=true:=by
 have h:=Tm.fu_of x.args fun y hy=>Tm.fu y
 rw [Tm.o_eq]
 simp only [OT.C1,OT.full,h,zF,zQ]
termination_by SizeOf.sizeOf x
decreasing_by exact Tm.lt_of_mem hy
theorem Tm.fus (xs:List Tm):OT.AA (xs.map Tm.o)=true:=Tm.fu_of xs fun x _=>Tm.fu x
theorem Fm.fu_of:∀ xs:List Fm,(∀ x∈xs,OT.C1 (Fm.o x)=true)→OT.AA (xs.map Fm.o)=true
 | [],_=>rfl
 | x :: xs,h=>by
  simp only [zB,OT.AA]
  rw [h x (by simp),Fm.fu_of xs fun y hy=>h y (by simp [hy])]; rfl
theorem Fm.fu (x:Fm):OT.C1 (Fm.o x)=true:=by
 have h:=Fm.fu_of x.parts fun y hy=>Fm.fu y
 rw [Fm.o_eq]
 simp only [OT.C1,OT.full,h,Tm.fus,zF,zQ]
termination_by SizeOf.sizeOf x
decreasing_by exact Fm.lt_of_mem hy
theorem Fm.fus (xs:List Fm):OT.AA (xs.map Fm.o)=true:=Fm.fu_of xs fun x _=>Fm.fu x
theorem Lt.fu (x:Lt):OT.C1 (Lt.o x)=true:=by
 simp only [Lt.o,OT.C1,OT.full,Tm.fus,zF,zQ]
theorem Lt.fus:∀ xs:List Lt,OT.AA (xs.map Lt.o)=true
 | []=>rfl
 | x :: xs=>by simp only [zB,OT.AA,Lt.fu,Lt.fus xs,zF]
theorem Cl.fu (x:Cl):OT.C1 (Cl.o x)=true:=by
 simp only [Cl.o,OT.C1,OT.full,Lt.fus,zF,zQ]
theorem Cl.fus:∀ xs:List Cl,OT.AA (xs.map Cl.o)=true
 | []=>rfl
 | x :: xs=>by simp only [zB,OT.AA,Cl.fu,Cl.fus xs,zF]
theorem Bd.fu (x:Bd):OT.C1 (Bd.o x)=true:=by
 simp only [Bd.o,OT.C1,OT.full,Tm.fus,zF,zQ]
theorem Bd.fus:∀ xs:List Bd,OT.AA (xs.map Bd.o)=true
 | []=>rfl
 | x :: xs=>by simp only [zB,OT.AA,Bd.fu,Bd.fus xs,zF]
theorem Sb.fu (x:Sb):OT.C1 (Sb.o x)=true:=by
 simp only [Sb.o,OT.C1,OT.full,Bd.fus,zF,zQ]
theorem Sb.fus:∀ xs:List Sb,OT.AA (xs.map Sb.o)=true
 | []=>rfl
 | x :: xs=>by simp only [zB,OT.AA,Sb.fu,Sb.fus xs,zF]
attribute [go_sem] NJ Wq C4 Qah Qai Qaj Tm.fus Tm.erss Tm.noss Fm.fus Fm.erss Fm.noss Lt.fus Lt.erss Lt.noss Cl.fus Cl.erss Cl.noss Bd.fus Bd.erss Bd.noss Sb.fus Sb.erss Sb.noss
theorem Y8 {α:Type} (a:α):dec (a=a)=true:=Ar rfl
def IN {α β:Type} (f:α→β) (z:β) (xs:List α) (k:Nat):List β:=(xs.take k).map f++xH (xs.length-k) z
section
variable {α β:Type} (f:α→β) (z:β) {xs:List α} {k:Nat}
theorem Vg:IN f z xs 0=xH xs.length z:=by simp [IN]
theorem Xm:(IN f z xs k).length=xs.length:=by simp [IN]; omega
theorem Xn:IN f z xs xs.length=xs.map f:=by simp [IN]
theorem Xo (h:k<xs.length):(IN f z xs k)[k]?=some z:=by
 have hl:((xs.take k).map f).length=k:=by simp; omega
 unfold IN
 rw [List.getElem?_append_right (by omega),hl,Nat.sub_self,List.getElem?_replicate]
 simp; omega
theorem Xp (h:k<xs.length):(IN f z xs k).set k (f xs[k])=IN f z xs (k+1):=by
 have hl:((xs.take k).map f).length=k:=by simp; omega
 have e:List.take (k+1) xs=List.take k xs++[xs[k]]:=yS h
 unfold IN
 rw [List.set_append_right _ _ (by omega),hl,Nat.sub_self,e,yH,List.append_assoc]
 congr 1
 rw [show xs.length-k=(xs.length-(k+1))+1 by omega,y0,y3]
 rfl
end
theorem Qan (a b:Int):(bif dec (a<b) then b else a)=max a b:=by
 by_cases h:a<b
 ·rw [Ar h,cond_true,Int.max_eq_right (by omega)]
 ·rw [Aj h,cond_false,Int.max_eq_left (by omega)]
def Ed {α:Type} (p:α→Bool):List α→Int→Int
 | [],_=>-1
 | x :: xs,i=>if p x then i else Ed p xs (i+1)
theorem Lz {α:Type} (p:α→Bool):∀ (xs:List α),dec (0≤Ed p xs 0)=xs.any p:=by
 have key:∀ (xs:List α) (i:Int),0≤i→(0≤Ed p xs i ↔ xs.any p=true):=by
  intro xs
  induction xs with
  | nil=>intro i h; simp [Ed]
  | cons x xs ih =>
   intro i h
   simp only [Ed,yV,yE]
   by_cases hp:p x=true
   ·simp [hp,h]
   ·rw [if_neg hp,ih (i+1) (by omega)]; simp [hp]
 intro xs
 cases h:xs.any p with
 | true=>exact Ar ((key xs 0 (by omega)).2 h)
 | false=>exact Aj fun h'=>by rw [(key xs 0 (by omega)).1 h'] at h; cases h
theorem Qbq {p q:Prop} (h:p ↔ q):dec p=dec q:=by rw [propext h]
mutual
def Tm.nodes:Tm→Nat
 | .mk _ args=>1+Tm.nodeS args
def Tm.nodeS:List Tm→Nat
 | []=>0
 | x :: xs=>Tm.nodes x+Tm.nodeS xs
end
theorem Tm.nodes_eq (x:Tm):x.nodes=1+Tm.nodeS x.args:=by
 obtain ⟨name,args⟩:=x
 rw [Tm.nodes]; rfl
theorem Tm.nodes_pos (x:Tm):1≤x.nodes:=by rw [Tm.nodes_eq]; omega
theorem Tm.nodes_le:∀ (xs:List Tm) (k:Nat) (h:k<xs.length),xs[k].nodes≤Tm.nodeS xs
 | [],k,h=>absurd h (by simp)
 | x :: xs,0,_=>by rw [Tm.nodeS]; simp
 | x :: xs,k+1,h=>by
  have:=Tm.nodes_le xs k (by simpa using h)
  rw [Tm.nodeS]; simp only [z6]; omega
mutual
def Tm.deep:Tm→Nat
 | .mk _ args=>Tm.Hp args+1
def Tm.Hp:List Tm→Nat
 | []=>0
 | x :: xs=>max (Tm.deep x) (Tm.Hp xs)
end
theorem Tm.RJ (x:Tm):x.deep=Tm.Hp x.args+1:=by
 obtain ⟨name,args⟩:=x
 rw [Tm.deep]; rfl
theorem Tm.Jr:∀ xs:List Tm,(∀ y∈xs,y.deep≤y.nodes)→Tm.Hp xs≤Tm.nodeS xs
 | [],_=>by simp [Tm.Hp]
 | x :: xs,h=>by
  have h1:=h x (by simp)
  have h2:=Tm.Jr xs fun y hy=>h y (by simp [hy])
  rw [Tm.Hp,Tm.nodeS]; omega
theorem Tm.H9 (x:Tm):x.deep≤x.nodes:=by
 rw [Tm.RJ,Tm.nodes_eq]
 have:=Tm.Jr x.args fun y hy=>Tm.H9 y
 omega
termination_by SizeOf.sizeOf x
decreasing_by exact Tm.lt_of_mem hy
mutual
def Tm.names:Tm→Bool
 | .mk name args=>if AS name then args.length == 0 else D5 name&&decide (args.length≤4)&&Tm.Gj args
def Tm.Gj:List Tm→Bool
 | []=>true
 | x :: xs=>Tm.names x&&Tm.Gj xs
end
theorem Tm.Id (x:Tm):x.names=if AS x.name then x.args.length == 0 else D5 x.name&&decide (x.args.length≤4)&&Tm.Gj x.args:=by
 obtain ⟨name,args⟩:=x
 rw [Tm.names]; rfl
theorem Tm.G1:∀ xs:List Tm,Tm.Gj xs=xs.all Tm.names
 | []=>rfl
 | x :: xs=>by rw [Tm.Gj,Tm.G1 xs]; rfl
theorem Tm.length_le:∀ xs:List Tm,xs.length≤Tm.nodeS xs
 | []=>zU _
 | x :: xs=>by
  have:=Tm.length_le xs
  have:=Tm.nodes_pos x
  rw [Tm.nodeS]; simp only [zM]; omega
theorem Tm.nodes_mem {xs:List Tm} {y:Tm} (h:y∈xs):y.nodes≤Tm.nodeS xs:=by
 obtain ⟨k,hk,rfl⟩:=yN h
 exact Tm.nodes_le xs k hk
def Tm.small (x:Tm):Bool:=decide (x.nodes≤30)&&decide (x.deep≤8)
def Tm.valid (x:Tm):Bool:=x.small&&x.names
noncomputable def Tm.eqn (x:Tm):Bool:=dec (x.name=⟨#[61]⟩)
noncomputable def Tm.atom (x:Tm):Bool:=if x.eqn then x.args.length == 2&&x.small&&Tm.Gj x.args else D5 x.name&&x.valid
theorem Q6 {xs:List Tm} (h:xs.length=2):Tm.Gj xs=((xs[0]'(by omega)).names&&(xs[1]'(by omega)).names):=by
 match xs,h with
 | [a,b],_=>simp [Tm.Gj]
mutual
def Tm.cap:Tm→Int
 | .mk _ xs=>Tm.capL xs 1
def Tm.capL:List Tm→Int→Int
 | [],n=>n
 | x :: xs,n=>if 30 < n then n else Tm.capL xs (n+Tm.cap x)
end
theorem Tm.cap_eq (x:Tm):x.cap=Tm.capL x.args 1:=by
 obtain ⟨n,xs⟩:=x
 rw [Tm.cap]; rfl
theorem Tm.capL_spec:∀ (xs:List Tm) (n:Int),(∀ x∈xs,1≤x.cap∧x.cap≤x.nodes∧(x.cap≤30→x.cap=x.nodes))→1≤n→n≤Tm.capL xs n∧Tm.capL xs n≤n+Tm.nodeS xs∧(Tm.capL xs n≤30→Tm.capL xs n=n+Tm.nodeS xs)
 | [],n,_,h=>by simp [Tm.capL,Tm.nodeS]
 | x :: xs,n,hx,h=>by
  rw [Tm.capL,Tm.nodeS]
  have h1:=hx x (by simp)
  split
  ·omega
  ·have:=Tm.capL_spec xs (n+x.cap) (fun y hy=>hx y (by simp [hy])) (by omega)
   omega
theorem Tm.cap_spec (x:Tm):1≤x.cap∧x.cap≤x.nodes∧(x.cap≤30→x.cap=x.nodes):=by
 rw [Tm.cap_eq,Tm.nodes_eq]
 have:=Tm.capL_spec x.args 1 (fun y hy=>Tm.cap_spec y) (by omega)
 omega
termination_by SizeOf.sizeOf x
decreasing_by exact Tm.lt_of_mem hy
mutual
def Tm.many:Tm→Int→Int
 | .mk _ xs,m=>Tm.manyL xs m 1
def Tm.manyL:List Tm→Int→Int→Int
 | [],_,n=>n
 | x :: xs,m,n=>if n≤m then Tm.manyL xs m (n+Tm.many x (m-n)) else n
end
theorem Tm.many_eq (x:Tm) (m:Int):x.many m=Tm.manyL x.args m 1:=by
 obtain ⟨n,xs⟩:=x
 rw [Tm.many]; rfl
theorem Tm.manyL_spec (m:Int):∀ (xs:List Tm) (n:Int),(∀ x∈xs,∀ m,0≤m→1≤x.many m∧x.many m≤x.nodes∧(x.many m≤m→x.many m=x.nodes))→1≤n→n≤Tm.manyL xs m n∧Tm.manyL xs m n≤n+Tm.nodeS xs∧(Tm.manyL xs m n≤m→Tm.manyL xs m n=n+Tm.nodeS xs)
 | [],n,_,h=>by simp [Tm.manyL,Tm.nodeS]
 | x :: xs,n,hx,h=>by
  rw [Tm.manyL,Tm.nodeS]
  split
  ·have h1:=hx x (by simp) (m-n) (by omega)
   have:=Tm.manyL_spec m xs (n+x.many (m-n)) (fun y hy=>hx y (by simp [hy])) (by omega)
   omega
  ·omega
theorem Tm.many_spec (x:Tm) (m:Int):1≤x.many m∧x.many m≤x.nodes∧(x.many m≤m→x.many m=x.nodes):=by
 rw [Tm.many_eq,Tm.nodes_eq]
 have:=Tm.manyL_spec m x.args 1 (fun y hy m _=>Tm.many_spec y m) (by omega)
 omega
termination_by SizeOf.sizeOf x
decreasing_by exact Tm.lt_of_mem hy
mutual
noncomputable def Tm.ap (f:ByteArray→Option Tm):Tm→Tm
 | .mk name args=>if AS name then (f name).getD (.mk name []) else .mk name (Tm.apL f args)
noncomputable def Tm.apL (f:ByteArray→Option Tm):List Tm→List Tm
 | []=>[]
 | x :: xs=>Tm.ap f x :: Tm.apL f xs
end
theorem Tm.Tq (f:ByteArray→Option Tm) (x:Tm):x.ap f=if AS x.name then (f x.name).getD (.mk x.name []) else .mk x.name (Tm.apL f x.args):=by
 obtain ⟨name,args⟩:=x
 rw [Tm.ap]; rfl
theorem Tm.Qao (f:ByteArray→Option Tm):∀ xs:List Tm,(Tm.apL f xs).length=xs.length
 | []=>by rw [Tm.apL]
 | x :: xs=>by rw [Tm.apL]; simp only [zM,Tm.Qao f xs]
theorem Tm.NK (f:ByteArray→Option Tm):∀ xs:List Tm,Tm.apL f xs=xs.map (Tm.ap f)
 | []=>by rw [Tm.apL]; rfl
 | x :: xs=>by rw [Tm.apL,Tm.NK f xs]; rfl
theorem Tm.G2 {x:Tm} (h:x.names=true) (hv:AS x.name=true):x.args=[]:=by
 rw [Tm.Id,if_pos hv] at h
 exact zC (by simpa using h)
theorem Tm.DS {x:Tm} (h:x.names=true) {y:Tm} (hy:y∈x.args):y.names=true:=by
 rw [Tm.Id] at h
 split at h
 ·have:x.args=[]:=zC (by simpa using h)
  rw [this] at hy; cases hy
 ·rw [zA,Tm.G1,yA] at h
  exact h.2 y hy
def Nk:SC:=(.seq (.reg [⟨some 1,none,.boxv 26 2 (.t 0)⟩,⟨some 2,none,.mv (.c (.int .i64 0))⟩]) (.seq (.reg [⟨some 3,none,.mv (.c (.int .i64 1))⟩]) (.seq (.seq (.reg [⟨some 6,none,.faddr 1 (.t 1)⟩,⟨some 7,none,.load false 1 (.t 6)⟩,⟨some 8,none,.len false (.t 7)⟩,⟨some 9,none,.mv (.c (.int .i64 0))⟩]) (.block 0 (.loop [0,0,0,1,0,0,0,1,1,1,0,0,0,0,0,0,0,0,0,0,0,0] (.seq (.reg [⟨some 10,none,.bin .lss false (.t 9) (.t 8)⟩]) (.seq (.cond (.t 10) .skip (.exit 0)) (.seq (.block 1 (.seq (.reg [⟨some 11,none,.iaddr 2 (.t 7) (.t 9)⟩,⟨some 12,none,.load true 2 (.t 11)⟩,⟨(some 5),none,(.alloc 26 [(.str ⟨#[]⟩),.nil])⟩,⟨none,none,(.store 2 (.t 5) (.t 12))⟩]) (.seq (.seq (.reg [⟨some 13,none,.mv (.t 3)⟩,⟨some 14,none,.bin .gtr false (.t 13) (.c (.int .i64 30))⟩]) (.cond (.t 14) (.seq (.reg [⟨some 15,none,.mv (.t 3)⟩,⟨some 2,none,.mv (.t 15)⟩]) .ret) .skip)) (.reg [⟨some 16,none,.mv (.t 3)⟩,⟨some 17,none,.load true 2 (.t 5)⟩,⟨some 18,none,.call 215 [(.t 17)]⟩,⟨some 19,none,.bin .add false (.t 16) (.t 18)⟩,⟨some 3,none,.mv (.t 19)⟩])))) (.reg [⟨some 20,none,.bin .add false (.t 9) (.c (.int .i64 1))⟩,⟨some 9,none,.mv (.t 20)⟩]))))))) (.seq (.reg [⟨some 21,none,.mv (.t 3)⟩,⟨some 2,none,.mv (.t 21)⟩]) .ret))))
theorem Tr:At Tryz.prog 215=some ⟨22,Nk,[(.tmp 2)]⟩:=by kernel_rfl
theorem FN:modes 215=⟨[],.asis,none,false⟩:=by unfold modes; rfl
theorem Qap (x:Tm) (hn:x.nodes≤1099511627776) (ih:∀ y∈x.args,E 215 [y.sv] []=some (.int .i64 y.cap,[])):E 215 [x.sv] []=some (.int .i64 x.cap,[]):=by
 have hl:=Tm.length_le x.args
 have hx:=Tm.nodes_eq x
 rw [Tm.cap_eq]
 refine Ai Tr FN (of_decide_eq_true rfl) ?_
 simp (disch:=omega) only [Nk,go_sem,Ab]
 refine go_loop (α:=Int × Int) (fun a=>⟨slots 22 0 [(3,.int .i64 a.2),(7,.arr (x.args.map Tm.d)),(8,.int .i64 x.args.length),(9,.int .i64 a.1)],[]⟩) (fun a=>∃ k:Nat,a.1=k∧k≤x.args.length∧1≤a.2∧a.2+Tm.nodeS (x.args.drop k)≤x.nodes∧Tm.capL (x.args.drop k) a.2=Tm.capL x.args 1) (fun a=>x.args.length-a.1.toNat) (0,1) ⟨0,rfl,zP _,by dsimp only; omega,by rw [zN]; dsimp only; omega,rfl⟩ (by simp (disch:=omega) only [go_sem,Ab]) ?_
 rintro ⟨i,n⟩ ⟨k,hi,hk,hn0,hn1,hs⟩
 dsimp only at hi hn0 hn1 hs
 have hni:i.toNat=k:=by omega
 rcases zE k x.args.length with hlt | hge
 ·have hg:=get_at Tm.d hlt
  rw [Tm.d_eq] at hg
  have hd:x.args.drop k=x.args[k] :: x.args.drop (k+1):=zG hlt
  have hc:=ih x.args[k] (zJ hlt)
  have hp:=Tm.cap_spec x.args[k]
  rw [hd,Tm.capL] at hs
  rw [hd,Tm.nodeS] at hn1
  rcases Int.lt_or_le 30 n with h30 | h30
  ·rw [if_pos h30] at hs
   simp (disch:=omega) only [go_sem,Ab,hni,hg,hc,FN]
   exact hs
  ·rw [if_neg (by omega)] at hs
   simp (disch:=omega) only [go_sem,Ab,hni,hg,hc,FN]
   refine ⟨(i+1,n+x.args[k].cap),⟨k+1,by dsimp only; omega,hlt,by dsimp only; omega,by dsimp only; omega,hs⟩,by dsimp only; omega,?_⟩
   simp only [and_self]
 ·have hd:x.args.drop k=[]:=zL hge
  rw [hd,Tm.capL] at hs
  simp (disch:=omega) only [go_sem,Ab,hni]
  exact hs
theorem Y9 (x:Tm) (hn:x.nodes≤1099511627776):E 215 [x.sv] []=some (.int .i64 x.cap,[]) :=
 Qap x hn fun y hy=>Y9 y (by have:=Tm.nodes_mem hy; have:=Tm.nodes_eq x; omega)
termination_by SizeOf.sizeOf x
decreasing_by exact Tm.lt_of_mem hy
def Kj:SC:=(.seq (.reg [⟨some 2,none,.boxv 26 2 (.t 0)⟩,⟨some 4,none,.mv (.c (.int .i64 0))⟩]) (.seq (.reg [⟨some 5,none,.mv (.c (.int .i64 1))⟩]) (.seq (.seq (.reg [⟨some 6,none,.mv (.c (.int .i64 0))⟩]) (.block 0 (.loop [0,1,1,0,0,1,1,0,0,0,0,0,0,0,0,0,0,0,0,0,0,0,0,0,0,0,0,0,0,0,0] (.seq (.seq (.reg [⟨some 7,none,.mv (.t 6)⟩,⟨some 8,none,.faddr 1 (.t 2)⟩,⟨some 9,none,.load false 1 (.t 8)⟩,⟨some 10,none,.len false (.t 9)⟩,⟨some 11,none,.bin .lss false (.t 7) (.t 10)⟩,⟨some 12,none,.mv (.t 11)⟩,⟨(some 13),(some (12,true)),(.mv (.t 5))⟩,⟨(some 14),(some (12,true)),(.mv (.t 1))⟩,⟨(some 15),(some (12,true)),(.bin .leq false (.t 13) (.t 14))⟩,⟨some 16,none,.pick (.t 12) (.t 15) (.c (.bool false))⟩]) (.cond (.t 16) .skip (.exit 0))) (.seq (.block 1 (.reg [⟨some 19,none,.mv (.t 5)⟩,⟨some 20,none,.faddr 1 (.t 2)⟩,⟨some 21,none,.load false 1 (.t 20)⟩,⟨some 22,none,.mv (.t 6)⟩,⟨some 23,none,.iaddr 2 (.t 21) (.t 22)⟩,⟨some 24,none,.load true 2 (.t 23)⟩,⟨some 25,none,.mv (.t 1)⟩,⟨some 26,none,.mv (.t 5)⟩,⟨some 27,none,.bin .sub false (.t 25) (.t 26)⟩,⟨some 28,none,.call 242 [(.t 24),(.t 27)]⟩,⟨some 29,none,.bin .add false (.t 19) (.t 28)⟩,⟨some 5,none,.mv (.t 29)⟩])) (.reg [⟨some 17,none,.mv (.t 6)⟩,⟨some 18,none,.bin .add false (.t 17) (.c (.int .i64 1))⟩,⟨some 6,none,.mv (.t 18)⟩])))))) (.seq (.reg [⟨some 30,none,.mv (.t 5)⟩,⟨some 4,none,.mv (.t 30)⟩]) .ret))))
theorem PC:At Tryz.prog 242=some ⟨31,Kj,[(.tmp 4)]⟩:=by kernel_rfl
theorem Ei:modes 242=⟨[],.asis,none,false⟩:=by unfold modes; rfl
theorem Qaq (x:Tm) (m:Int) (hm:0≤m) (hm1:m≤1099511627776) (hn:x.nodes≤1099511627776) (ih:∀ y∈x.args,∀ m:Int,0≤m→m≤1099511627776→E 242 [y.sv,.int .i64 m] []=some (.int .i64 (y.many m),[])):E 242 [x.sv,.int .i64 m] []=some (.int .i64 (x.many m),[]):=by
 have hl:=Tm.length_le x.args
 have hx:=Tm.nodes_eq x
 rw [Tm.many_eq]
 refine Ai PC Ei (of_decide_eq_true rfl) ?_
 simp (disch:=omega) only [Kj,go_sem,Ab]
 refine go_loop (α:=Int × Int) (fun a=>⟨slots 31 0 [(1,.int .i64 m),(2,.ptr 0 0),(5,.int .i64 a.2),(6,.int .i64 a.1)],[.box 26 [.str x.name,.arr (x.args.map Tm.d)]]⟩) (fun a=>∃ k:Nat,a.1=k∧k≤x.args.length∧1≤a.2∧a.2+Tm.nodeS (x.args.drop k)≤x.nodes∧Tm.manyL (x.args.drop k) m a.2=Tm.manyL x.args m 1) (fun a=>x.args.length-a.1.toNat) (0,1) ⟨0,rfl,zP _,by dsimp only; omega,by rw [zN]; dsimp only; omega,rfl⟩ (by simp (disch:=omega) only [go_sem,Ab]) ?_
 rintro ⟨i,n⟩ ⟨k,hi,hk,hn0,hn1,hs⟩
 dsimp only at hi hn0 hn1 hs
 have hni:i.toNat=k:=by omega
 rcases zE k x.args.length with hlt | hge
 ·have hg:=get_at Tm.d hlt
  rw [Tm.d_eq] at hg
  have hd:x.args.drop k=x.args[k] :: x.args.drop (k+1):=zG hlt
  rw [hd,Tm.manyL] at hs
  rw [hd,Tm.nodeS] at hn1
  rcases Int.lt_or_le m n with h30 | h30
  ·rw [if_neg (by omega)] at hs
   simp (disch:=omega) only [go_sem,Ab,hni,hg,Ei]
   exact hs
  ·rw [if_pos h30] at hs
   have hc:=ih x.args[k] (zJ hlt) (m-n) (by omega) (by omega)
   have hp:=Tm.many_spec x.args[k] (m-n)
   simp (disch:=omega) only [go_sem,Ab,hni,hg,hc,Ei]
   refine ⟨(i+1,n+x.args[k].many (m-n)),⟨k+1,by dsimp only; omega,hlt,by dsimp only; omega,by dsimp only; omega,hs⟩,by dsimp only; omega,?_⟩
   simp only [and_self]
 ·have hd:x.args.drop k=[]:=zL hge
  rw [hd,Tm.manyL] at hs
  simp (disch:=omega) only [go_sem,Ab,hni]
  exact hs
theorem YA (x:Tm) (m:Int) (hm:0≤m) (hm1:m≤1099511627776) (hn:x.nodes≤1099511627776):E 242 [x.sv,.int .i64 m] []=some (.int .i64 (x.many m),[]) :=
 Qaq x m hm hm1 hn fun y hy m hm hm1=>YA y m hm hm1 (by have:=Tm.nodes_mem hy; have:=Tm.nodes_eq x; omega)
termination_by SizeOf.sizeOf x
decreasing_by exact Tm.lt_of_mem hy
def L1:SC:=(.seq (.reg [⟨some 1,none,.boxv 26 2 (.t 0)⟩,⟨some 2,none,.mv (.c (.int .i64 0))⟩]) (.seq (.reg [⟨some 3,none,.mv (.c (.int .i64 0))⟩]) (.seq (.seq (.reg [⟨some 6,none,.faddr 1 (.t 1)⟩,⟨some 7,none,.load false 1 (.t 6)⟩,⟨some 8,none,.len false (.t 7)⟩,⟨some 9,none,.mv (.c (.int .i64 0))⟩]) (.block 0 (.loop [0,0,0,1,0,0,0,1,1,1,0,0,0,0,0,0,0,0,0,0] (.seq (.reg [⟨some 10,none,.bin .lss false (.t 9) (.t 8)⟩]) (.seq (.cond (.t 10) .skip (.exit 0)) (.seq (.block 1 (.seq (.reg [⟨some 11,none,.iaddr 2 (.t 7) (.t 9)⟩,⟨some 12,none,.load true 2 (.t 11)⟩,⟨(some 5),none,(.alloc 26 [(.str ⟨#[]⟩),.nil])⟩,⟨none,none,(.store 2 (.t 5) (.t 12))⟩]) (.reg [⟨some 13,none,.mv (.t 3)⟩,⟨some 14,none,.load true 2 (.t 5)⟩,⟨some 15,none,.call 216 [(.t 14)]⟩,⟨some 16,none,.minmax true (.t 13) (.t 15)⟩,⟨some 3,none,.mv (.t 16)⟩]))) (.reg [⟨some 17,none,.bin .add false (.t 9) (.c (.int .i64 1))⟩,⟨some 9,none,.mv (.t 17)⟩]))))))) (.seq (.reg [⟨some 18,none,.mv (.t 3)⟩,⟨some 19,none,.bin .add false (.t 18) (.c (.int .i64 1))⟩,⟨some 2,none,.mv (.t 19)⟩]) .ret))))
theorem RK:At Tryz.prog 216=some ⟨20,L1,[(.tmp 2)]⟩:=by kernel_rfl
theorem Gs:modes 216=⟨[],.asis,none,false⟩:=by unfold modes; rfl
def Kk:SC:=(.seq (.reg [⟨some 4,none,.mv (.c (.int .i64 0))⟩]) (.seq (.seq (.reg [⟨some 5,none,.mv (.t 0)⟩,⟨some 6,none,.mv (.t 1)⟩,⟨some 7,none,.bin .gtr false (.t 5) (.t 6)⟩]) (.cond (.t 7) (.seq (.reg [⟨some 8,none,.mv (.t 0)⟩,⟨some 4,none,.mv (.t 8)⟩]) .ret) .skip)) (.seq (.reg [⟨some 9,none,.mv (.t 1)⟩,⟨some 4,none,.mv (.t 9)⟩]) .ret)))
theorem PD:At Tryz.prog 261=some ⟨10,Kk,[(.tmp 4)]⟩:=by kernel_rfl
theorem Kl:modes 261=⟨[],.asis,none,false⟩:=by unfold modes; rfl
def Js:SC:=(.seq (.reg [⟨some 1,none,.boxv 26 2 (.t 0)⟩,⟨some 2,none,.mv (.c (.int .i64 0))⟩]) (.seq (.reg [⟨some 3,none,.mv (.c (.int .i64 0))⟩]) (.seq (.seq (.reg [⟨some 4,none,.mv (.c (.int .i64 0))⟩]) (.block 0 (.loop [0,1,0,1,1,0,0,0,0,0,0,0,0,0,0,0,0,0,0,0,0,0] (.seq (.seq (.reg [⟨some 5,none,.mv (.t 4)⟩,⟨some 6,none,.faddr 1 (.t 1)⟩,⟨some 7,none,.load false 1 (.t 6)⟩,⟨some 8,none,.len false (.t 7)⟩,⟨some 9,none,.bin .lss false (.t 5) (.t 8)⟩]) (.cond (.t 9) .skip (.exit 0))) (.seq (.block 1 (.reg [⟨some 12,none,.mv (.t 3)⟩,⟨some 13,none,.faddr 1 (.t 1)⟩,⟨some 14,none,.load false 1 (.t 13)⟩,⟨some 15,none,.mv (.t 4)⟩,⟨some 16,none,.iaddr 2 (.t 14) (.t 15)⟩,⟨some 17,none,.load true 2 (.t 16)⟩,⟨some 18,none,.call 243 [(.t 17)]⟩,⟨some 19,none,.call 261 [(.t 12),(.t 18)]⟩,⟨some 3,none,.mv (.t 19)⟩])) (.reg [⟨some 10,none,.mv (.t 4)⟩,⟨some 11,none,.bin .add false (.t 10) (.c (.int .i64 1))⟩,⟨some 4,none,.mv (.t 11)⟩])))))) (.seq (.reg [⟨some 20,none,.mv (.t 3)⟩,⟨some 21,none,.bin .add false (.t 20) (.c (.int .i64 1))⟩,⟨some 2,none,.mv (.t 21)⟩]) .ret))))
theorem OO:At Tryz.prog 243=some ⟨22,Js,[(.tmp 2)]⟩:=by kernel_rfl
theorem ED:modes 243=⟨[],.asis,none,false⟩:=by unfold modes; rfl
theorem YB (a b:Int):E 261 [.int .i64 a,.int .i64 b] []=some (.int .i64 (max a b),[]):=by
 refine Ai PD Kl (of_decide_eq_true rfl) ?_
 simp (disch:=omega) only [Kk,go_sem,Ab]
 repeat' (refine Tl (fun hq=>?_) (fun hq=>?_) <;> (first | replace hq:=Aw.1 hq | replace hq:=F2.1 hq) <;> (try simp (disch:=omega) only [go_sem,Ab]))
 all_goals omega
theorem YC (x:Tm) (hn:x.nodes≤1099511627776) (ih:∀ y∈x.args,E 216 [y.sv] []=some (.int .i64 y.deep,[])):E 216 [x.sv] []=some (.int .i64 x.deep,[]):=by
 have hl:=Tm.length_le x.args
 have hx:=Tm.nodes_eq x
 have hd1:=Tm.RJ x
 have hd2:=Tm.H9 x
 refine Ai RK Gs (of_decide_eq_true rfl) ?_
 simp (disch:=omega) only [L1,go_sem,Ab]
 refine go_loop (α:=Int × (Int)) (fun a=>⟨slots 20 0 [(3,.int .i64 (a.2)),(7,.arr (x.args.map Tm.d)),(8,.int .i64 x.args.length),(9,.int .i64 (a.1))],[]⟩) (fun a=>∃ k:Nat,a.1=k∧k≤(x.args).length∧0≤(a.2)∧max (a.2) (Tm.Hp (x.args.drop k):Nat)=(Tm.Hp x.args:Nat)) (fun a=>(x.args).length-(a.1).toNat) (0,0) ⟨0,rfl,zP _,by dsimp only; omega,by rw [zN]; dsimp only; omega⟩ (by simp (disch:=omega) only [go_sem,Ab]) ?_
 rintro ⟨i,n⟩ ⟨k,hi,hk,hR⟩
 dsimp only at hi hR
 have hni:i.toNat=k:=by omega
 have hni1:(i+1).toNat=k+1:=by omega
 rcases zE k (x.args).length with hlt | hge
 ·have hg:=get_at Tm.d hlt
  rw [Tm.d_eq] at hg
  have hc:=ih x.args[k] (zJ hlt)
  rw [zG hlt,Tm.Hp] at hR
  simp (disch:=omega) only [go_sem,Ab,hni,hg,hc,Gs,Qan]
  refine ⟨(i+1,max n (x.args[k].deep:Int)),⟨k+1,by dsimp only; omega,hlt,by dsimp only; omega⟩,by dsimp only; omega,?_⟩
  simp only [and_self]
 ·rw [zL hge,Tm.Hp] at hR
  simp (disch:=omega) only [go_sem,Ab,hni]
  omega
theorem Wr (x:Tm) (hn:x.nodes≤1099511627776):E 216 [x.sv] []=some (.int .i64 x.deep,[]) :=
 YC x hn fun y hy=>Wr y (by have:=Tm.nodes_mem hy; have:=Tm.nodes_eq x; omega)
termination_by SizeOf.sizeOf x
decreasing_by exact Tm.lt_of_mem hy
theorem Vh (x:Tm) (hn:x.nodes≤1099511627776) (ih:∀ y∈x.args,E 243 [y.sv] []=some (.int .i64 y.deep,[])):E 243 [x.sv] []=some (.int .i64 x.deep,[]):=by
 have hl:=Tm.length_le x.args
 have hx:=Tm.nodes_eq x
 have hd1:=Tm.RJ x
 have hd2:=Tm.H9 x
 refine Ai OO ED (of_decide_eq_true rfl) ?_
 simp (disch:=omega) only [Js,go_sem,Ab]
 refine go_loop (α:=Int × (Int)) (fun a=>⟨slots 22 0 [(1,.ptr 0 0),(3,.int .i64 (a.2)),(4,.int .i64 (a.1))],[.box 26 [.str x.name,.arr (x.args.map Tm.d)]]⟩) (fun a=>∃ k:Nat,a.1=k∧k≤(x.args).length∧0≤(a.2)∧max (a.2) (Tm.Hp (x.args.drop k):Nat)=(Tm.Hp x.args:Nat)) (fun a=>(x.args).length-(a.1).toNat) (0,0) ⟨0,rfl,zP _,by dsimp only; omega,by rw [zN]; dsimp only; omega⟩ (by simp (disch:=omega) only [go_sem,Ab]) ?_
 rintro ⟨i,n⟩ ⟨k,hi,hk,hR⟩
 dsimp only at hi hR
 have hni:i.toNat=k:=by omega
 have hni1:(i+1).toNat=k+1:=by omega
 rcases zE k (x.args).length with hlt | hge
 ·have hg:=get_at Tm.d hlt
  rw [Tm.d_eq] at hg
  have hc:=ih x.args[k] (zJ hlt)
  rw [zG hlt,Tm.Hp] at hR
  simp (disch:=omega) only [go_sem,Ab,hni,hg,hc,ED,YB,Kl]
  refine ⟨(i+1,max n (x.args[k].deep:Int)),⟨k+1,by dsimp only; omega,hlt,by dsimp only; omega⟩,by dsimp only; omega,?_⟩
  simp only [and_self]
 ·rw [zL hge,Tm.Hp] at hR
  simp (disch:=omega) only [go_sem,Ab,hni]
  omega
theorem Q7 (x:Tm) (hn:x.nodes≤1099511627776):E 243 [x.sv] []=some (.int .i64 x.deep,[]) :=
 Vh x hn fun y hy=>Q7 y (by have:=Tm.nodes_mem hy; have:=Tm.nodes_eq x; omega)
termination_by SizeOf.sizeOf x
decreasing_by exact Tm.lt_of_mem hy
def Cq:SC:=(.seq (.reg [⟨some 4,none,.mv (.c (.int .i64 0))⟩]) (.seq (.seq (.reg [⟨some 6,none,.mv (.t 0)⟩,⟨some 7,none,.len false (.t 6)⟩,⟨some 8,none,.mv (.c (.int .i64 0))⟩]) (.block 0 (.loop [1,1,0,0,0,0,0,1,1,0,0,0,0,0,0,0,0,0,0] (.seq (.reg [⟨some 9,none,.bin .lss false (.t 8) (.t 7)⟩]) (.seq (.cond (.t 9) .skip (.exit 0)) (.seq (.block 1 (.seq (.reg [⟨some 10,none,.mv (.t 8)⟩,⟨some 5,none,.mv (.t 10)⟩]) (.seq (.reg [⟨some 11,none,.mv (.t 1)⟩,⟨some 12,none,.mv (.t 0)⟩,⟨some 13,none,.mv (.t 5)⟩,⟨some 14,none,.iaddr 2 (.t 12) (.t 13)⟩,⟨some 15,none,.load true 2 (.t 14)⟩,⟨some 16,none,.callv (.t 11) [(.t 15)]⟩]) (.cond (.t 16) (.seq (.reg [⟨some 17,none,.mv (.t 5)⟩,⟨some 4,none,.mv (.t 17)⟩]) .ret) .skip)))) (.reg [⟨some 18,none,.bin .add false (.t 8) (.c (.int .i64 1))⟩,⟨some 8,none,.mv (.t 18)⟩]))))))) (.seq (.reg [⟨some 4,none,.mv (.c (.int .i64 (-(0+1))))⟩]) .ret)))
theorem DG:At Tryz.prog 241=some ⟨19,Cq,[(.tmp 4)]⟩:=by kernel_rfl
theorem Cr:modes 241=⟨[],.asis,none,false⟩:=by unfold modes; rfl
def Cd:SC:=(.seq (.reg [⟨some 4,none,.mv (.c (.bool false))⟩]) (.seq (.reg [⟨some 5,none,.mv (.t 0)⟩,⟨some 6,none,.mv (.t 1)⟩,⟨some 7,none,.call 241 [(.t 5),(.t 6)]⟩,⟨some 8,none,.bin .geq false (.t 7) (.c (.int .i64 0))⟩,⟨some 4,none,.mv (.t 8)⟩]) .ret))
theorem Du:At Tryz.prog 217=some ⟨9,Cd,[(.tmp 4)]⟩:=by kernel_rfl
theorem Ce:modes 217=⟨[],.asis,none,false⟩:=by unfold modes; rfl
theorem N2 (fid:Nat) (p:Tm→Bool) (xs:List Tm) (hl:xs.length≤1099511627776) (hg:IY Tryz.prog fid=true) (hm:(modes fid).hand=[]) (hE:∀ x∈xs,E fid [x.sv] []=some (.bool (p x),[])):E 241 [.arr (xs.map Tm.d),.fn fid []] []=some (.int .i64 (Ed p xs 0),[]):=by
 refine Ai DG Cr (of_decide_eq_true rfl) ?_
 simp (disch:=omega) only [Cq,go_sem,Ab]
 refine go_loop (α:=Int) (fun a=>⟨slots 19 0 [(0,.arr (xs.map Tm.d)),(1,.fn fid []),(7,.int .i64 xs.length),(8,.int .i64 a)],[]⟩) (fun a=>∃ k:Nat,a=k∧k≤(xs).length∧Ed p (xs.drop k) a=Ed p xs 0) (fun a=>(xs).length-(a).toNat) 0 ⟨0,rfl,zP _,by rw [zN]⟩ (by simp (disch:=omega) only [go_sem,Ab]) ?_
 rintro i ⟨k,hi,hk,hR⟩
 have hni:i.toNat=k:=by omega
 have hni1:(i+1).toNat=k+1:=by omega
 rcases zE k (xs).length with hlt | hge
 ·have hg':=get_at Tm.d hlt
  rw [Tm.d_eq] at hg'
  have hc:=hE xs[k] (zJ hlt)
  rw [zG hlt,Ed] at hR
  cases hp:p xs[k] with
  | true =>
   rw [hp] at hc hR
   simp (disch:=omega) only [go_sem,Ab,hni,hg',hc,hg,hm]
   simpa using hR
  | false =>
   rw [hp] at hc hR
   simp (disch:=omega) only [go_sem,Ab,hni,hg',hc,hg,hm]
   exact ⟨i+1,⟨k+1,by omega,hlt,by simpa using hR⟩,by omega,by first | trivial | rfl⟩
 ·rw [zL hge,Ed] at hR
  simp (disch:=omega) only [go_sem,Ab,hni]
  exact hR
theorem KQ (fid:Nat) (p:Tm→Bool) (xs:List Tm) (hl:xs.length≤1099511627776) (hg:IY Tryz.prog fid=true) (hm:(modes fid).hand=[]) (hE:∀ x∈xs,E fid [x.sv] []=some (.bool (p x),[])):E 217 [.arr (xs.map Tm.d),.fn fid []] []=some (.bool (xs.any p),[]):=by
 have h:=N2 fid p xs hl hg hm hE
 refine Ai Du Ce (of_decide_eq_true rfl) ?_
 simp (disch:=omega) only [Cd,go_sem,Ab,h,Cr]
 rw [Lz]
def Dv:SC:=(.seq (.reg [⟨some 1,none,.boxv 26 2 (.t 0)⟩,⟨some 2,none,.mv (.c (.bool false))⟩]) (.seq (.seq (.reg [⟨some 3,none,.faddr 0 (.t 1)⟩,⟨some 4,none,.load false 1 (.t 3)⟩,⟨some 5,none,.call 111 [(.t 4)]⟩]) (.cond (.t 5) (.seq (.reg [⟨some 6,none,.faddr 1 (.t 1)⟩,⟨some 7,none,.load false 1 (.t 6)⟩,⟨some 8,none,.len false (.t 7)⟩,⟨some 9,none,.bin .eql false (.t 8) (.c (.int .i64 0))⟩,⟨some 2,none,.mv (.t 9)⟩]) .ret) .skip)) (.seq (.reg [⟨some 10,none,.faddr 0 (.t 1)⟩,⟨some 11,none,.load false 1 (.t 10)⟩,⟨some 12,none,.call 132 [(.t 11)]⟩,⟨some 13,none,.mv (.t 12)⟩,⟨(some 14),(some (13,true)),(.faddr 1 (.t 1))⟩,⟨(some 15),(some (13,true)),(.load false 1 (.t 14))⟩,⟨(some 16),(some (13,true)),(.len false (.t 15))⟩,⟨(some 17),(some (13,true)),(.bin .leq false (.t 16) (.c (.int .i64 4)))⟩,⟨some 18,none,.pick (.t 13) (.t 17) (.c (.bool false))⟩,⟨some 19,none,.mv (.t 18)⟩,⟨(some 20),(some (19,true)),(.faddr 1 (.t 1))⟩,⟨(some 21),(some (19,true)),(.load false 1 (.t 20))⟩,⟨(some 22),(some (19,true)),(.call 217 [(.t 21),(.c (.fn 218 []))])⟩,⟨(some 23),(some (19,true)),(.un .not (.t 22))⟩,⟨some 24,none,.pick (.t 19) (.t 23) (.c (.bool false))⟩,⟨some 2,none,.mv (.t 24)⟩]) .ret)))
theorem Er:At Tryz.prog 171=some ⟨25,Dv,[(.tmp 2)]⟩:=by kernel_rfl
theorem Bf:modes 171=⟨[],.asis,none,false⟩:=by unfold modes; rfl
def Hq:SC:=(.seq (.reg [⟨some 1,none,.boxv 26 2 (.t 0)⟩,⟨some 2,none,.mv (.c (.bool false))⟩]) (.seq (.reg [⟨some 3,none,.load true 2 (.t 1)⟩,⟨some 4,none,.call 171 [(.t 3)]⟩,⟨some 5,none,.un .not (.t 4)⟩,⟨some 2,none,.mv (.t 5)⟩]) .ret))
theorem L2:At Tryz.prog 218=some ⟨6,Hq,[(.tmp 2)]⟩:=by kernel_rfl
theorem Hr:modes 218=⟨[],.asis,none,false⟩:=by unfold modes; rfl
theorem L3:IY Tryz.prog 218=true:=by kernel_rfl
theorem Tm.any_not (xs:List Tm):(!xs.any fun y=>!y.names)=Tm.Gj xs:=by
 rw [Tm.G1]
 induction xs with
 | nil=>rfl
 | cons x xs ih=>simp only [yV,xA,Bool.not_or,Bool.not_not,ih]
theorem Ts (x:Tm) (hn:x.nodes≤1099511627776) (ih:∀ y∈x.args,E 171 [y.sv] []=some (.bool y.names,[])):E 171 [x.sv] []=some (.bool x.names,[]):=by
 have hl:=Tm.length_le x.args
 have hx:=Tm.nodes_eq x
 have h1:∀ y∈x.args,E 218 [y.sv] []=some (.bool (!y.names),[]):=fun y hy=>by
  have h:=ih y hy
  refine Ai L2 Hr (of_decide_eq_true rfl) ?_
  simp (disch:=omega) only [Hq,go_sem,Ab,h,Bf]
 have h2:=KQ 218 (fun y=>!y.names) x.args (by omega) L3 (by rw [Hr]) h1
 rw [Tm.Id,← Tm.any_not]
 cases hv:AS x.name with
 | true =>
  have h3:=Dl x.name
  rw [hv] at h3
  refine Ai Er Bf (of_decide_eq_true rfl) ?_
  simp (disch:=omega) only [Dv,go_sem,Ab,h3,Ae]
  rw [KG]; cases x.args <;> simp <;> omega
 | false =>
  have h3:=Dl x.name
  rw [hv] at h3
  have h4:=GF x.name
  cases hs:D5 x.name with
  | false =>
   rw [hs] at h4
   refine Ai Er Bf (of_decide_eq_true rfl) ?_
   simp (disch:=omega) only [Dv,go_sem,Ab,h2,h3,h4,Ae,Be]
  | true =>
   rw [hs] at h4
   rcases zE 4 x.args.length with h5 | h5
   ·refine Ai Er Bf (of_decide_eq_true rfl) ?_
    simp (disch:=omega) only [Dv,go_sem,Ab,h2,h3,h4,Ae,Be]
    simp; omega
   ·refine Ai Er Bf (of_decide_eq_true rfl) ?_
    simp (disch:=omega) only [Dv,go_sem,Ab,h2,h3,h4,Ae,Be,Ce]
    simp [h5]
theorem I6 (x:Tm) (hn:x.nodes≤1099511627776):E 171 [x.sv] []=some (.bool x.names,[]) :=
 Ts x hn fun y hy=>I6 y (by have:=Tm.nodes_mem hy; have:=Tm.nodes_eq x; omega)
termination_by SizeOf.sizeOf x
decreasing_by exact Tm.lt_of_mem hy
def DH:SC:=(.seq (.reg [⟨some 1,none,.boxv 26 2 (.t 0)⟩,⟨some 2,none,.mv (.c (.bool false))⟩]) (.seq (.seq (.reg [⟨some 4,none,.faddr 0 (.t 1)⟩,⟨some 5,none,.load false 1 (.t 4)⟩,⟨some 6,none,.call 176 [(.t 5)]⟩]) (.cond (.t 6) (.seq (.reg [⟨some 7,none,.faddr 1 (.t 1)⟩,⟨some 8,none,.load false 1 (.t 7)⟩,⟨some 9,none,.len false (.t 8)⟩,⟨some 10,none,.bin .eql false (.t 9) (.c (.int .i64 0))⟩,⟨some 2,none,.mv (.t 10)⟩]) .ret) .skip)) (.seq (.seq (.reg [⟨some 11,none,.faddr 0 (.t 1)⟩,⟨some 12,none,.load false 1 (.t 11)⟩,⟨some 13,none,.call 221 [(.t 12)]⟩,⟨some 14,none,.un .not (.t 13)⟩,⟨some 15,none,.mv (.t 14)⟩,⟨(some 16),(some (15,false)),(.faddr 1 (.t 1))⟩,⟨(some 17),(some (15,false)),(.load false 1 (.t 16))⟩,⟨(some 18),(some (15,false)),(.len false (.t 17))⟩,⟨(some 19),(some (15,false)),(.bin .gtr false (.t 18) (.c (.int .i64 4)))⟩,⟨some 20,none,.pick (.t 15) (.c (.bool true)) (.t 19)⟩]) (.cond (.t 20) (.seq (.reg [⟨some 2,none,.mv (.c (.bool false))⟩]) .ret) .skip)) (.seq (.seq (.reg [⟨some 3,none,.mv (.c (.int .i64 0))⟩]) (.block 0 (.loop [0,1,0,1,0,0,0,0,0,0,0,0,0,0,0,0,0,0,0,0,0,0,0,0,0,0,0,0,0,0,0,0,0,0,0] (.seq (.seq (.reg [⟨some 21,none,.mv (.t 3)⟩,⟨some 22,none,.faddr 1 (.t 1)⟩,⟨some 23,none,.load false 1 (.t 22)⟩,⟨some 24,none,.len false (.t 23)⟩,⟨some 25,none,.bin .lss false (.t 21) (.t 24)⟩]) (.cond (.t 25) .skip (.exit 0))) (.seq (.block 1 (.seq (.reg [⟨some 28,none,.faddr 1 (.t 1)⟩,⟨some 29,none,.load false 1 (.t 28)⟩,⟨some 30,none,.mv (.t 3)⟩,⟨some 31,none,.iaddr 2 (.t 29) (.t 30)⟩,⟨some 32,none,.load true 2 (.t 31)⟩,⟨some 33,none,.call 220 [(.t 32)]⟩,⟨some 34,none,.un .not (.t 33)⟩]) (.cond (.t 34) (.seq (.reg [⟨some 2,none,.mv (.c (.bool false))⟩]) .ret) .skip))) (.reg [⟨some 26,none,.mv (.t 3)⟩,⟨some 27,none,.bin .add false (.t 26) (.c (.int .i64 1))⟩,⟨some 3,none,.mv (.t 27)⟩])))))) (.seq (.reg [⟨some 2,none,.mv (.c (.bool true))⟩]) .ret)))))
theorem EE:At Tryz.prog 220=some ⟨35,DH,[(.tmp 2)]⟩:=by kernel_rfl
theorem Bi:modes 220=⟨[],.asis,none,false⟩:=by unfold modes; rfl
theorem Vi (x:Tm) (hn:x.nodes≤1099511627776) (ih:∀ y∈x.args,E 220 [y.sv] []=some (.bool y.names,[])):E 220 [x.sv] []=some (.bool x.names,[]):=by
 have hl:=Tm.length_le x.args
 have hx:=Tm.nodes_eq x
 have h3:=DB x.name
 have h4:=ON x.name
 rw [Tm.Id]
 cases hv:AS x.name with
 | true =>
  rw [hv] at h3
  refine Ai EE Bi (of_decide_eq_true rfl) ?_
  simp (disch:=omega) only [DH,go_sem,Ab,h3,Al]
  rw [KG]; cases x.args <;> simp <;> omega
 | false =>
  rw [hv] at h3
  cases hs:D5 x.name with
  | false =>
   rw [hs] at h4
   refine Ai EE Bi (of_decide_eq_true rfl) ?_
   simp (disch:=omega) only [DH,go_sem,Ab,h3,h4,Al,BH]
  | true =>
   rw [hs] at h4
   rcases zE 4 x.args.length with h5 | h5
   ·refine Ai EE Bi (of_decide_eq_true rfl) ?_
    simp (disch:=omega) only [DH,go_sem,Ab,h3,h4,Al,BH]
    simp; omega
   ·refine Ai EE Bi (of_decide_eq_true rfl) ?_
    simp (disch:=omega) only [DH,go_sem,Ab,h3,h4,Al,BH]
    refine go_loop (α:=Int) (fun a=>⟨slots 35 0 [(1,.ptr 0 0),(3,.int .i64 a)],[.box 26 [.str x.name,.arr (x.args.map Tm.d)]]⟩) (fun a=>∃ k:Nat,a=k∧k≤(x.args).length∧Tm.Gj (x.args.drop k)=Tm.Gj x.args) (fun a=>(x.args).length-(a).toNat) 0 ⟨0,rfl,zP _,by rw [zN]⟩ (by simp (disch:=omega) only [go_sem,Ab]) ?_
    rintro i ⟨k,hi,hk,hR⟩
    have hni:i.toNat=k:=by omega
    have hni1:(i+1).toNat=k+1:=by omega
    rcases zE k (x.args).length with hlt | hge
    ·have hg:=get_at Tm.d hlt
     rw [Tm.d_eq] at hg
     have hc:=ih x.args[k] (zJ hlt)
     rw [zG hlt,Tm.Gj] at hR
     cases hp:x.args[k].names with
     | true =>
      rw [hp] at hc hR
      simp (disch:=omega) only [go_sem,Ab,hni,hg,hc,Bi]
      exact ⟨i+1,⟨k+1,by omega,hlt,by simpa using hR⟩,by omega,by first | trivial | rfl⟩
     | false =>
      rw [hp] at hc hR
      simp (disch:=omega) only [go_sem,Ab,hni,hg,hc,Bi]
      simp at hR ⊢; exact fun _=>hR
    ·rw [zL hge,Tm.Gj] at hR
     simp (disch:=omega) only [go_sem,Ab,hni]
     simp [h5,← hR]
theorem JO (x:Tm) (hn:x.nodes≤1099511627776):E 220 [x.sv] []=some (.bool x.names,[]) :=
 Vi x hn fun y hy=>JO y (by have:=Tm.nodes_mem hy; have:=Tm.nodes_eq x; omega)
termination_by SizeOf.sizeOf x
decreasing_by exact Tm.lt_of_mem hy
def GG:SC:=(.seq (.reg [⟨some 1,none,.boxv 26 2 (.t 0)⟩,⟨some 2,none,.mv (.c (.bool false))⟩]) (.seq (.reg [⟨some 3,none,.load true 2 (.t 1)⟩,⟨some 4,none,.call 215 [(.t 3)]⟩,⟨some 5,none,.bin .leq false (.t 4) (.c (.int .i64 30))⟩,⟨some 6,none,.mv (.t 5)⟩,⟨(some 7),(some (6,true)),(.load true 2 (.t 1))⟩,⟨(some 8),(some (6,true)),(.call 216 [(.t 7)])⟩,⟨(some 9),(some (6,true)),(.bin .leq false (.t 8) (.c (.int .i64 8)))⟩,⟨some 10,none,.pick (.t 6) (.t 9) (.c (.bool false))⟩,⟨some 2,none,.mv (.t 10)⟩]) .ret))
theorem Jt:At Tryz.prog 170=some ⟨11,GG,[(.tmp 2)]⟩:=by kernel_rfl
theorem BK:modes 170=⟨[],.asis,none,false⟩:=by unfold modes; rfl
def HA:SC:=(.seq (.reg [⟨some 1,none,.boxv 26 2 (.t 0)⟩,⟨some 2,none,.mv (.c (.bool false))⟩]) (.seq (.reg [⟨some 3,none,.load true 2 (.t 1)⟩,⟨some 4,none,.call 242 [(.t 3),(.c (.int .i64 30))]⟩,⟨some 5,none,.bin .leq false (.t 4) (.c (.int .i64 30))⟩,⟨some 6,none,.mv (.t 5)⟩,⟨(some 7),(some (6,true)),(.load true 2 (.t 1))⟩,⟨(some 8),(some (6,true)),(.call 243 [(.t 7)])⟩,⟨(some 9),(some (6,true)),(.bin .leq false (.t 8) (.c (.int .i64 8)))⟩,⟨some 10,none,.pick (.t 6) (.t 9) (.c (.bool false))⟩,⟨some 2,none,.mv (.t 10)⟩]) .ret))
theorem Km:At Tryz.prog 219=some ⟨11,HA,[(.tmp 2)]⟩:=by kernel_rfl
theorem BZ:modes 219=⟨[],.asis,none,false⟩:=by unfold modes; rfl
def E1:SC:=(.seq (.reg [⟨some 1,none,.boxv 26 2 (.t 0)⟩,⟨some 2,none,.mv (.c (.bool false))⟩]) (.seq (.reg [⟨some 3,none,.load true 2 (.t 1)⟩,⟨some 4,none,.call 170 [(.t 3)]⟩,⟨some 5,none,.mv (.t 4)⟩,⟨(some 6),(some (5,true)),(.load true 2 (.t 1))⟩,⟨(some 7),(some (5,true)),(.call 171 [(.t 6)])⟩,⟨some 8,none,.pick (.t 5) (.t 7) (.c (.bool false))⟩,⟨some 2,none,.mv (.t 8)⟩]) .ret))
theorem GH:At Tryz.prog 172=some ⟨9,E1,[(.tmp 2)]⟩:=by kernel_rfl
theorem BA:modes 172=⟨[],.asis,none,false⟩:=by unfold modes; rfl
def HC:SC:=(.seq (.reg [⟨some 1,none,.boxv 26 2 (.t 0)⟩,⟨some 2,none,.mv (.c (.bool false))⟩]) (.seq (.reg [⟨some 3,none,.load true 2 (.t 1)⟩,⟨some 4,none,.call 219 [(.t 3)]⟩,⟨some 5,none,.mv (.t 4)⟩,⟨(some 6),(some (5,true)),(.load true 2 (.t 1))⟩,⟨(some 7),(some (5,true)),(.call 220 [(.t 6)])⟩,⟨some 8,none,.pick (.t 5) (.t 7) (.c (.bool false))⟩,⟨some 2,none,.mv (.t 8)⟩]) .ret))
theorem Kn:At Tryz.prog 222=some ⟨9,HC,[(.tmp 2)]⟩:=by kernel_rfl
theorem C6:modes 222=⟨[],.asis,none,false⟩:=by unfold modes; rfl
def Hs:SC:=(.seq (.reg [⟨some 1,none,.boxv 26 2 (.t 0)⟩,⟨some 2,none,.mv (.c (.bool false))⟩]) (.seq (.reg [⟨some 3,none,.faddr 0 (.t 1)⟩,⟨some 4,none,.load false 1 (.t 3)⟩,⟨(some 5),none,(.bin .eql false (.t 4) (.c (.str ⟨#[61]⟩)))⟩,⟨some 2,none,.mv (.t 5)⟩]) .ret))
theorem L4:At Tryz.prog 169=some ⟨6,Hs,[(.tmp 2)]⟩:=by kernel_rfl
theorem Ca:modes 169=⟨[],.asis,none,false⟩:=by unfold modes; rfl
def BO:SC:=(.seq (.reg [⟨some 1,none,.boxv 26 2 (.t 0)⟩,⟨some 2,none,.mv (.c (.bool false))⟩]) (.seq (.seq (.reg [⟨some 3,none,.load true 2 (.t 1)⟩,⟨some 4,none,.call 169 [(.t 3)]⟩]) (.cond (.t 4) (.seq (.reg [⟨some 5,none,.faddr 1 (.t 1)⟩,⟨some 6,none,.load false 1 (.t 5)⟩,⟨some 7,none,.len false (.t 6)⟩,⟨some 8,none,.bin .eql false (.t 7) (.c (.int .i64 2))⟩,⟨some 9,none,.mv (.t 8)⟩,⟨(some 10),(some (9,true)),(.load true 2 (.t 1))⟩,⟨(some 11),(some (9,true)),(.call 170 [(.t 10)])⟩,⟨some 12,none,.pick (.t 9) (.t 11) (.c (.bool false))⟩,⟨some 13,none,.mv (.t 12)⟩,⟨(some 14),(some (13,true)),(.faddr 1 (.t 1))⟩,⟨(some 15),(some (13,true)),(.load false 1 (.t 14))⟩,⟨(some 16),(some (13,true)),(.iaddr 2 (.t 15) (.c (.int .i64 0)))⟩,⟨(some 17),(some (13,true)),(.load true 2 (.t 16))⟩,⟨(some 18),(some (13,true)),(.call 171 [(.t 17)])⟩,⟨some 19,none,.pick (.t 13) (.t 18) (.c (.bool false))⟩,⟨some 20,none,.mv (.t 19)⟩,⟨(some 21),(some (20,true)),(.faddr 1 (.t 1))⟩,⟨(some 22),(some (20,true)),(.load false 1 (.t 21))⟩,⟨(some 23),(some (20,true)),(.iaddr 2 (.t 22) (.c (.int .i64 1)))⟩,⟨(some 24),(some (20,true)),(.load true 2 (.t 23))⟩,⟨(some 25),(some (20,true)),(.call 171 [(.t 24)])⟩,⟨some 26,none,.pick (.t 20) (.t 25) (.c (.bool false))⟩,⟨some 2,none,.mv (.t 26)⟩]) .ret) .skip)) (.seq (.reg [⟨some 27,none,.faddr 0 (.t 1)⟩,⟨some 28,none,.load false 1 (.t 27)⟩,⟨some 29,none,.call 132 [(.t 28)]⟩,⟨some 30,none,.mv (.t 29)⟩,⟨(some 31),(some (30,true)),(.load true 2 (.t 1))⟩,⟨(some 32),(some (30,true)),(.call 172 [(.t 31)])⟩,⟨some 33,none,.pick (.t 30) (.t 32) (.c (.bool false))⟩,⟨some 2,none,.mv (.t 33)⟩]) .ret)))
theorem Ch:At Tryz.prog 112=some ⟨34,BO,[(.tmp 2)]⟩:=by kernel_rfl
theorem Ad:modes 112=⟨[],.asis,none,false⟩:=by unfold modes; rfl
def CR:SC:=(.seq (.reg [⟨some 1,none,.boxv 26 2 (.t 0)⟩,⟨some 2,none,.mv (.c (.bool false))⟩]) (.seq (.seq (.reg [⟨some 3,none,.faddr 0 (.t 1)⟩,⟨some 4,none,.load false 1 (.t 3)⟩,⟨(some 5),none,(.bin .eql false (.t 4) (.c (.str ⟨#[61]⟩)))⟩]) (.cond (.t 5) (.seq (.reg [⟨some 6,none,.faddr 1 (.t 1)⟩,⟨some 7,none,.load false 1 (.t 6)⟩,⟨some 8,none,.len false (.t 7)⟩,⟨some 9,none,.bin .eql false (.t 8) (.c (.int .i64 2))⟩,⟨some 10,none,.mv (.t 9)⟩,⟨(some 11),(some (10,true)),(.load true 2 (.t 1))⟩,⟨(some 12),(some (10,true)),(.call 219 [(.t 11)])⟩,⟨some 13,none,.pick (.t 10) (.t 12) (.c (.bool false))⟩,⟨some 14,none,.mv (.t 13)⟩,⟨(some 15),(some (14,true)),(.faddr 1 (.t 1))⟩,⟨(some 16),(some (14,true)),(.load false 1 (.t 15))⟩,⟨(some 17),(some (14,true)),(.iaddr 2 (.t 16) (.c (.int .i64 0)))⟩,⟨(some 18),(some (14,true)),(.load true 2 (.t 17))⟩,⟨(some 19),(some (14,true)),(.call 220 [(.t 18)])⟩,⟨some 20,none,.pick (.t 14) (.t 19) (.c (.bool false))⟩,⟨some 21,none,.mv (.t 20)⟩,⟨(some 22),(some (21,true)),(.faddr 1 (.t 1))⟩,⟨(some 23),(some (21,true)),(.load false 1 (.t 22))⟩,⟨(some 24),(some (21,true)),(.iaddr 2 (.t 23) (.c (.int .i64 1)))⟩,⟨(some 25),(some (21,true)),(.load true 2 (.t 24))⟩,⟨(some 26),(some (21,true)),(.call 220 [(.t 25)])⟩,⟨some 27,none,.pick (.t 21) (.t 26) (.c (.bool false))⟩,⟨some 2,none,.mv (.t 27)⟩]) .ret) .skip)) (.seq (.reg [⟨some 28,none,.faddr 0 (.t 1)⟩,⟨some 29,none,.load false 1 (.t 28)⟩,⟨some 30,none,.call 221 [(.t 29)]⟩,⟨some 31,none,.mv (.t 30)⟩,⟨(some 32),(some (31,true)),(.load true 2 (.t 1))⟩,⟨(some 33),(some (31,true)),(.call 222 [(.t 32)])⟩,⟨some 34,none,.pick (.t 31) (.t 33) (.c (.bool false))⟩,⟨some 2,none,.mv (.t 34)⟩]) .ret)))
theorem D0:At Tryz.prog 175=some ⟨35,CR,[(.tmp 2)]⟩:=by kernel_rfl
theorem An:modes 175=⟨[],.asis,none,false⟩:=by unfold modes; rfl
theorem Q8 (x:Tm) (hn:x.nodes≤1099511627776):E 170 [x.sv] []=some (.bool x.small,[]):=by
 have h1:=Y9 x hn
 have h2:=Wr x hn
 have h3:=Tm.cap_spec x
 have h4:=Tm.many_spec x 30
 unfold Tm.small
 rcases zE 30 x.nodes with h5 | h5
 ·rw [decide_eq_false (by omega),y4]
  refine Ai Jt BK (of_decide_eq_true rfl) ?_
  simp (disch:=omega) only [GG,go_sem,Ab,h1,h2,FN,Gs]
 ·rw [decide_eq_true h5,xB]
  refine Ai Jt BK (of_decide_eq_true rfl) ?_
  simp (disch:=omega) only [GG,go_sem,Ab,h1,h2,FN,Gs]
  rcases zE 8 x.deep with h6 | h6
  ·rw [decide_eq_false (by omega),Aj (by omega)]
  ·rw [decide_eq_true h6,Ar (by omega)]
theorem Tt (x:Tm) (hn:x.nodes≤1099511627776):E 219 [x.sv] []=some (.bool x.small,[]):=by
 have h1:=YA x 30 (by omega) (by omega) hn
 have h2:=Q7 x hn
 have h3:=Tm.cap_spec x
 have h4:=Tm.many_spec x 30
 unfold Tm.small
 rcases zE 30 x.nodes with h5 | h5
 ·rw [decide_eq_false (by omega),y4]
  refine Ai Km BZ (of_decide_eq_true rfl) ?_
  simp (disch:=omega) only [HA,go_sem,Ab,h1,h2,Ei,ED]
 ·rw [decide_eq_true h5,xB]
  refine Ai Km BZ (of_decide_eq_true rfl) ?_
  simp (disch:=omega) only [HA,go_sem,Ab,h1,h2,Ei,ED]
  rcases zE 8 x.deep with h6 | h6
  ·rw [decide_eq_false (by omega),Aj (by omega)]
  ·rw [decide_eq_true h6,Ar (by omega)]
theorem PE (x:Tm) (hn:x.nodes≤1099511627776):E 172 [x.sv] []=some (.bool x.valid,[]):=by
 have h1:=Q8 x hn
 have h2:=I6 x hn
 unfold Tm.valid
 cases h3:x.small <;> rw [h3] at h1
 ·refine Ai GH BA (of_decide_eq_true rfl) ?_
  simp (disch:=omega) only [E1,go_sem,Ab,h1,h2,BK,Bf]
 ·refine Ai GH BA (of_decide_eq_true rfl) ?_
  simp (disch:=omega) only [E1,go_sem,Ab,h1,h2,BK,Bf]
theorem YD (x:Tm) (hn:x.nodes≤1099511627776):E 222 [x.sv] []=some (.bool x.valid,[]):=by
 have h1:=Tt x hn
 have h2:=JO x hn
 unfold Tm.valid
 cases h3:x.small <;> rw [h3] at h1
 ·refine Ai Kn C6 (of_decide_eq_true rfl) ?_
  simp (disch:=omega) only [HC,go_sem,Ab,h1,h2,BZ,Bi]
 ·refine Ai Kn C6 (of_decide_eq_true rfl) ?_
  simp (disch:=omega) only [HC,go_sem,Ab,h1,h2,BZ,Bi]
theorem L5 (x:Tm):E 169 [x.sv] []=some (.bool x.eqn,[]):=by
 unfold Tm.eqn
 refine Ai L4 Ca (of_decide_eq_true rfl) ?_
 simp (disch:=omega) only [Hs,go_sem,Ab]
theorem PF (x:Tm) (hn:x.nodes≤1099511627776):E 112 [x.sv] []=some (.bool x.atom,[]):=by
 have hl:=Tm.length_le x.args
 have hx:=Tm.nodes_eq x
 have h0:=L5 x
 have h1:=Q8 x hn
 have h2:=GF x.name
 have h3:=PE x hn
 have hE:dec (x.name=⟨#[61]⟩)=x.eqn:=rfl
 unfold Tm.atom
 cases he:x.eqn <;> rw [he] at h0 hE
 ·rw [if_neg (by simp)]
  cases hs:D5 x.name <;> rw [hs] at h2
  ·refine Ai Ch Ad (of_decide_eq_true rfl) ?_
   simp (disch:=omega) only [BO,go_sem,Ab,h0,h1,h2,h3,hE,BK,Bf,Be,BA,Ca]
  ·refine Ai Ch Ad (of_decide_eq_true rfl) ?_
   simp (disch:=omega) only [BO,go_sem,Ab,h0,h1,h2,h3,hE,BK,Bf,Be,BA,Ca]
 ·rw [if_pos rfl]
  by_cases hc:x.args.length=2
  ·have hlt0:0<x.args.length:=by omega
   have hlt1:1<x.args.length:=by omega
   have hg0:=get_at Tm.d hlt0
   have hg1:=get_at Tm.d hlt1
   rw [Tm.d_eq] at hg0 hg1
   have hb0:=Tm.nodes_le x.args 0 hlt0
   have hb1:=Tm.nodes_le x.args 1 hlt1
   have hn0:=I6 x.args[0] (by omega)
   have hn1:=I6 x.args[1] (by omega)
   rw [Q6 hc,show (x.args.length == 2)=true by simpa using hc]
   cases hs:x.small <;> rw [hs] at h1
   ·refine Ai Ch Ad (of_decide_eq_true rfl) ?_
    simp (disch:=omega) only [BO,go_sem,Ab,h0,h1,h2,h3,hE,hg0,hg1,hn0,hn1,hc,BK,Bf,Be,BA,Ca]
    try simp
   ·cases hq:(x.args[0]'hlt0).names <;> rw [hq] at hn0
    ·refine Ai Ch Ad (of_decide_eq_true rfl) ?_
     simp (disch:=omega) only [BO,go_sem,Ab,h0,h1,h2,h3,hE,hg0,hg1,hn0,hn1,hc,BK,Bf,Be,BA,Ca]
     try simp
    ·refine Ai Ch Ad (of_decide_eq_true rfl) ?_
     simp (disch:=omega) only [BO,go_sem,Ab,h0,h1,h2,h3,hE,hg0,hg1,hn0,hn1,hc,BK,Bf,Be,BA,Ca]
     try simp
  ·refine Ai Ch Ad (of_decide_eq_true rfl) ?_
   simp (disch:=omega) only [BO,go_sem,Ab,h0,h1,h2,h3,hE,BK,Bf,Be,BA,Ca]
   rw [show (x.args.length == 2)=false by simpa using hc]
   try simp
theorem YE (x:Tm) (hn:x.nodes≤1099511627776):E 175 [x.sv] []=some (.bool x.atom,[]):=by
 have hl:=Tm.length_le x.args
 have hx:=Tm.nodes_eq x
 have h0:=L5 x
 have h1:=Tt x hn
 have h2:=ON x.name
 have h3:=YD x hn
 have hE:dec (x.name=⟨#[61]⟩)=x.eqn:=rfl
 unfold Tm.atom
 cases he:x.eqn <;> rw [he] at h0 hE
 ·rw [if_neg (by simp)]
  cases hs:D5 x.name <;> rw [hs] at h2
  ·refine Ai D0 An (of_decide_eq_true rfl) ?_
   simp (disch:=omega) only [CR,go_sem,Ab,h0,h1,h2,h3,hE,BZ,Bi,BH,C6]
  ·refine Ai D0 An (of_decide_eq_true rfl) ?_
   simp (disch:=omega) only [CR,go_sem,Ab,h0,h1,h2,h3,hE,BZ,Bi,BH,C6]
 ·rw [if_pos rfl]
  by_cases hc:x.args.length=2
  ·have hlt0:0<x.args.length:=by omega
   have hlt1:1<x.args.length:=by omega
   have hg0:=get_at Tm.d hlt0
   have hg1:=get_at Tm.d hlt1
   rw [Tm.d_eq] at hg0 hg1
   have hb0:=Tm.nodes_le x.args 0 hlt0
   have hb1:=Tm.nodes_le x.args 1 hlt1
   have hn0:=JO x.args[0] (by omega)
   have hn1:=JO x.args[1] (by omega)
   rw [Q6 hc,show (x.args.length == 2)=true by simpa using hc]
   cases hs:x.small <;> rw [hs] at h1
   ·refine Ai D0 An (of_decide_eq_true rfl) ?_
    simp (disch:=omega) only [CR,go_sem,Ab,h0,h1,h2,h3,hE,hg0,hg1,hn0,hn1,hc,BZ,Bi,BH,C6]
    try simp
   ·cases hq:(x.args[0]'hlt0).names <;> rw [hq] at hn0
    ·refine Ai D0 An (of_decide_eq_true rfl) ?_
     simp (disch:=omega) only [CR,go_sem,Ab,h0,h1,h2,h3,hE,hg0,hg1,hn0,hn1,hc,BZ,Bi,BH,C6]
     try simp
    ·refine Ai D0 An (of_decide_eq_true rfl) ?_
     simp (disch:=omega) only [CR,go_sem,Ab,h0,h1,h2,h3,hE,hg0,hg1,hn0,hn1,hc,BZ,Bi,BH,C6]
     try simp
  ·refine Ai D0 An (of_decide_eq_true rfl) ?_
   simp (disch:=omega) only [CR,go_sem,Ab,h0,h1,h2,h3,hE,BZ,Bi,BH,C6]
   rw [show (x.args.length == 2)=false by simpa using hc]
   try simp
noncomputable def Tm.expr (x:Tm):Bool:=x.valid || x.atom
theorem Tm.Vj {x:Tm} (h:x.expr=true):x.small=true:=by
 unfold Tm.expr Tm.atom Tm.valid at h
 cases hs:x.small with
 | true=>rfl
 | false =>
  rw [hs] at h
  split at h <;> simp at h
theorem Tm.Vk {x:Tm} (h:x.expr=true):x.nodes≤30:=by
 have:=Tm.Vj h
 unfold Tm.small at this
 rw [zA,decide_eq_true_eq] at this
 exact this.1
theorem Tm.Qar {x:Tm} (h:x.eqn=true):AS x.name=false:=by
 unfold Tm.eqn at h
 rw [Aw.1 h]
 kernel_rfl
theorem Tm.Vl {x:Tm} (h:x.expr=true):x.names=true∨(x.eqn=true∧Tm.Gj x.args=true):=by
 unfold Tm.expr Tm.valid at h
 cases hn:x.names with
 | true=>exact .inl rfl
 | false =>
  rw [hn,yR,xJ] at h
  unfold Tm.atom at h
  split at h
  ·rename_i he
   rw [zA] at h
   exact .inr ⟨he,h.2⟩
  ·unfold Tm.valid at h; rw [hn,yR,yR] at h; cases h
theorem Tm.Tu {x:Tm} (h:x.expr=true) {y:Tm} (hy:y∈x.args):y.names=true:=by
 rcases Tm.Vl h with h1 | ⟨h1,h2⟩
 ·exact Tm.DS h1 hy
 ·rw [Tm.G1,yA] at h2; exact h2 y hy
theorem Xq {s:ByteArray} (h:AS s=true):s.size≤6:=by
 unfold AS inB at h
 simp at h
 omega
theorem Q9 {s:ByteArray} (h:D5 s=true):s.size≤6:=by
 unfold D5 inB at h
 simp at h
 omega
mutual
def Fm.nodes:Fm→Nat
 | .mk _ _ _ args=>1+Fm.nodeS args
def Fm.nodeS:List Fm→Nat
 | []=>0
 | x :: xs=>Fm.nodes x+Fm.nodeS xs
end
theorem Fm.nodes_eq (x:Fm):x.nodes=1+Fm.nodeS x.parts:=by
 obtain ⟨op,atom,var,parts⟩:=x
 rw [Fm.nodes]; rfl
theorem Fm.nodes_pos (x:Fm):1≤x.nodes:=by rw [Fm.nodes_eq]; omega
theorem Fm.nodes_le:∀ (xs:List Fm) (k:Nat) (h:k<xs.length),xs[k].nodes≤Fm.nodeS xs
 | [],k,h=>absurd h (by simp)
 | x :: xs,0,_=>by rw [Fm.nodeS]; simp
 | x :: xs,k+1,h=>by
  have:=Fm.nodes_le xs k (by simpa using h)
  rw [Fm.nodeS]; simp only [z6]; omega
theorem Fm.OP:∀ (xs:List Fm) (k:Nat) (h:k<xs.length),Fm.nodeS (xs.take (k+1))=Fm.nodeS (xs.take k)+xs[k].nodes
 | [],k,h=>absurd h (by simp)
 | x :: xs,0,_=>by simp [Fm.nodeS]
 | x :: xs,k+1,h=>by
  have:=Fm.OP xs k (by simpa using h)
  simp only [yO,Fm.nodeS,z6,this]; omega
theorem Fm.PG (xs:List Fm) (k:Nat):Fm.nodeS (xs.take k)≤Fm.nodeS xs:=by
 induction xs generalizing k with
 | nil=>simp [Fm.nodeS]
 | cons x xs ih =>
  cases k with
  | zero=>simp [Fm.nodeS]
  | succ k=>simp only [yO,Fm.nodeS]; have:=ih k; omega
theorem Fm.nodes_mem {xs:List Fm} {y:Fm} (h:y∈xs):y.nodes≤Fm.nodeS xs:=by
 obtain ⟨k,hk,rfl⟩:=yN h
 exact Fm.nodes_le xs k hk
mutual
def Fm.cap:Fm→Int
 | .mk _ _ _ xs=>Fm.capL xs 1
def Fm.capL:List Fm→Int→Int
 | [],n=>n
 | x :: xs,n=>if 40 < n then n else Fm.capL xs (n+Fm.cap x)
end
theorem Fm.cap_eq (x:Fm):x.cap=Fm.capL x.parts 1:=by
 obtain ⟨op,atom,var,xs⟩:=x
 rw [Fm.cap]; rfl
theorem Fm.capL_spec:∀ (xs:List Fm) (n:Int),(∀ x∈xs,1≤x.cap∧x.cap≤x.nodes∧(x.cap≤40→x.cap=x.nodes))→1≤n→n≤Fm.capL xs n∧Fm.capL xs n≤n+Fm.nodeS xs∧(Fm.capL xs n≤40→Fm.capL xs n=n+Fm.nodeS xs)
 | [],n,_,h=>by simp [Fm.capL,Fm.nodeS]
 | x :: xs,n,hx,h=>by
  rw [Fm.capL,Fm.nodeS]
  have h1:=hx x (by simp)
  split
  ·omega
  ·have:=Fm.capL_spec xs (n+x.cap) (fun y hy=>hx y (by simp [hy])) (by omega)
   omega
theorem Fm.cap_spec (x:Fm):1≤x.cap∧x.cap≤x.nodes∧(x.cap≤40→x.cap=x.nodes):=by
 rw [Fm.cap_eq,Fm.nodes_eq]
 have:=Fm.capL_spec x.parts 1 (fun y hy=>Fm.cap_spec y) (by omega)
 omega
termination_by SizeOf.sizeOf x
decreasing_by exact Fm.lt_of_mem hy
mutual
def Fm.many:Fm→Int→Int
 | .mk _ _ _ xs,m=>Fm.manyL xs m 1
def Fm.manyL:List Fm→Int→Int→Int
 | [],_,n=>n
 | x :: xs,m,n=>if n≤m then Fm.manyL xs m (n+Fm.many x (m-n)) else n
end
theorem Fm.many_eq (x:Fm) (m:Int):x.many m=Fm.manyL x.parts m 1:=by
 obtain ⟨op,atom,var,xs⟩:=x
 rw [Fm.many]; rfl
theorem Fm.manyL_spec (m:Int):∀ (xs:List Fm) (n:Int),(∀ x∈xs,∀ m,0≤m→1≤x.many m∧x.many m≤x.nodes∧(x.many m≤m→x.many m=x.nodes))→1≤n→n≤Fm.manyL xs m n∧Fm.manyL xs m n≤n+Fm.nodeS xs∧(Fm.manyL xs m n≤m→Fm.manyL xs m n=n+Fm.nodeS xs)
 | [],n,_,h=>by simp [Fm.manyL,Fm.nodeS]
 | x :: xs,n,hx,h=>by
  rw [Fm.manyL,Fm.nodeS]
  split
  ·have h1:=hx x (by simp) (m-n) (by omega)
   have:=Fm.manyL_spec m xs (n+x.many (m-n)) (fun y hy=>hx y (by simp [hy])) (by omega)
   omega
  ·omega
theorem Fm.many_spec (x:Fm) (m:Int):1≤x.many m∧x.many m≤x.nodes∧(x.many m≤m→x.many m=x.nodes):=by
 rw [Fm.many_eq,Fm.nodes_eq]
 have:=Fm.manyL_spec m x.parts 1 (fun y hy m _=>Fm.many_spec y m) (by omega)
 omega
termination_by SizeOf.sizeOf x
decreasing_by exact Fm.lt_of_mem hy
noncomputable def Tm.isZ (x:Tm):Bool:=dec (x.name=⟨#[]⟩)&&x.args.length == 0
noncomputable def Fm.form (x:Fm):Bool :=
 if x.op=1∨x.op=2 then x.parts.length == 0&&x.atom.isZ&&dec (x.var=⟨#[]⟩)
 else if x.op=3 then x.parts.length == 0&&x.atom.atom&&dec (x.var=⟨#[]⟩)
 else if x.op=4 then x.parts.length == 1&&x.atom.isZ&&dec (x.var=⟨#[]⟩)
 else if x.op=5∨x.op=6∨x.op=7 then x.parts.length == 2&&x.atom.isZ&&dec (x.var=⟨#[]⟩)
 else if x.op=8∨x.op=9 then x.parts.length == 1&&x.atom.isZ&&AS x.var
 else false
theorem L6 (n:Int):n=1∨n=2∨n=3∨n=4∨n=5∨n=6∨n=7∨n=8∨n=9∨(n≠1∧n≠2∧n≠3∧n≠4∧n≠5∧n≠6∧n≠7∧n≠8∧n≠9):=by omega
mutual
noncomputable def Fm.forms:Fm→Bool
 | .mk op atom var parts=>Fm.form (.mk op atom var parts)&&Fm.Ko parts
noncomputable def Fm.Ko:List Fm→Bool
 | []=>true
 | x :: xs=>Fm.forms x&&Fm.Ko xs
end
theorem Fm.EF (x:Fm):x.forms=(x.form&&Fm.Ko x.parts):=by
 obtain ⟨op,atom,var,parts⟩:=x
 rw [Fm.forms]; rfl
theorem Fm.M0:∀ xs:List Fm,Fm.Ko xs=xs.all Fm.forms
 | []=>rfl
 | x :: xs=>by rw [Fm.Ko,Fm.M0 xs]; rfl
theorem Fm.any_not (xs:List Fm):(!xs.any fun y=>!y.forms)=Fm.Ko xs:=by
 rw [Fm.M0]
 induction xs with
 | nil=>rfl
 | cons x xs ih=>simp only [yV,xA,Bool.not_or,Bool.not_not,ih]
noncomputable def Fm.valid (x:Fm):Bool:=decide (x.nodes≤40)&&x.forms
theorem Fm.length_le:∀ xs:List Fm,xs.length≤Fm.nodeS xs
 | []=>by simp
 | x :: xs=>by
  have h:=Fm.length_le xs
  have h1:=Fm.nodes_pos x
  rw [Fm.nodeS,zM]; omega
mutual
def Fm.tame:Fm→Prop
 | .mk _ atom _ parts=>atom.nodes≤1099511627776∧Fm.Cb parts
def Fm.Cb:List Fm→Prop
 | []=>True
 | x :: xs=>Fm.tame x∧Fm.Cb xs
end
theorem Fm.JP (x:Fm):x.tame=(x.atom.nodes≤1099511627776∧Fm.Cb x.parts):=by
 obtain ⟨op,atom,var,parts⟩:=x
 rw [Fm.tame]; rfl
theorem Fm.QA:∀ {xs:List Fm},Fm.Cb xs→∀ y∈xs,y.tame
 | [],_,y,hy=>by cases hy
 | x :: xs,h,y,hy=>by
  rw [Fm.Cb] at h
  rcases zH.1 hy with rfl | hy
  ·exact h.1
  ·exact Fm.QA h.2 y hy
theorem Fm.tame_at {x:Fm} (h:x.tame):x.atom.nodes≤1099511627776:=by rw [Fm.JP] at h; exact h.1
theorem Fm.JQ {x y:Fm} (h:x.tame) (hy:y∈x.parts):y.tame:=by rw [Fm.JP] at h; exact Fm.QA h.2 y hy
theorem Tm.M1 {x:Tm} (h:x.atom=true):x.expr=true:=by unfold Tm.expr; rw [h,Bool.or_true]
theorem Tm.KR {x:Tm} (h:x.atom=true):x.nodes≤30:=Tm.Vk (Tm.M1 h)
noncomputable def qB (op:Int):Bool:=dec (op=8) || dec (op=9)
theorem Fm.QaQ (a:Int) (b:Tm) (c:ByteArray) (d:List Fm):(Fm.mk a b c d).op=a∧(Fm.mk a b c d).atom=b∧(Fm.mk a b c d).var=c∧(Fm.mk a b c d).parts=d:=⟨rfl,rfl,rfl,rfl⟩
theorem Tm.RL {x:Tm} (h:x.isZ=true):x=.mk ⟨#[]⟩ []:=by
 obtain ⟨n,a⟩:=x
 unfold Tm.isZ at h
 rw [zA] at h
 have h1:n=⟨#[]⟩:=Aw.1 h.1
 have h3:(a.length == 0)=true:=h.2
 have h2:a=[]:=zC (by simpa using h3)
 rw [h1,h2]
theorem Fm.CZ {x:Fm} (h:x.form=true) (ho:x.op=3):x.parts=[]∧x.atom.atom=true∧x.var=⟨#[]⟩:=by
 unfold Fm.form at h
 simp only [ho] at h
 simp at h
 exact ⟨h.1.1,h.1.2,Aw.1 h.2⟩
theorem Fm.E2 {x:Fm} (h:x.form=true) (ho:¬ x.op=3):x.atom=.mk ⟨#[]⟩ []:=by
 unfold Fm.form at h
 split at h
 ·rw [zA,zA] at h; exact Tm.RL h.1.2
 ·try rw [if_neg ho] at h
  split at h
  ·rw [zA,zA] at h; exact Tm.RL h.1.2
  ·split at h
   ·rw [zA,zA] at h; exact Tm.RL h.1.2
   ·split at h
    ·rw [zA,zA] at h; exact Tm.RL h.1.2
    ·cases h
theorem Fm.Bu {x:Fm} (h:x.form=true) (ho:qB x.op=true):AS x.var=true∧∃ p,x.parts=[p]:=by
 unfold qB at ho
 rw [yE,Aw,Aw] at ho
 unfold Fm.form at h
 rw [if_neg (by omega),if_neg (by omega),if_neg (by omega),if_neg (by omega),if_pos (by omega),zA,zA] at h
 refine ⟨h.2,?_⟩
 have hl:x.parts.length=1:=by simpa using h.1.1
 match hq:x.parts,hl with
 | [p],_=>exact ⟨p,rfl⟩
theorem Fm.AQ {x y:Fm} (h:x.forms=true) (hy:y∈x.parts):y.forms=true:=by
 rw [Fm.EF,zA,Fm.M0,yA] at h
 exact h.2 y hy
theorem Fm.Bo {x:Fm} (h:x.forms=true):x.form=true:=by
 rw [Fm.EF,zA] at h
 exact h.1
theorem Fm.F4 {x:Fm} (h:x.form=true):x.atom.nodes≤30:=by
 by_cases ho:x.op=3
 ·exact Tm.KR (Fm.CZ h ho).2.1
 ·rw [Fm.E2 h ho,Tm.nodes_eq]
  simp [Tm.args,Tm.nodeS]
theorem Fm.KS (x:Fm) (h:x.forms=true):x.tame:=by
 have key:∀ xs:List Fm,(∀ y∈xs,y.tame)→Fm.Cb xs:=by
  intro xs
  induction xs with
  | nil=>intro _; rw [Fm.Cb]; trivial
  | cons y ys ih=>intro hh; rw [Fm.Cb]; exact ⟨hh y (by simp),ih fun z hz=>hh z (by simp [hz])⟩
 have h1:=Fm.F4 (Fm.Bo h)
 rw [Fm.JP]
 exact ⟨by omega,key _ fun y hy=>Fm.KS y (Fm.AQ h hy)⟩
termination_by SizeOf.sizeOf x
decreasing_by exact Fm.lt_of_mem hy
theorem GI {p:Nat→Int→Bool} {s:ByteArray} (h:EC p s s.size=true) (hs:0<s.size):p 0 (GC s 0)=true:=by
 unfold EC at h
 rw [yA] at h
 exact h 0 (List.mem_range.2 hs)
theorem Xr {s:ByteArray} (h:AS s=true):Ki s=true:=by
 have h0:=h
 unfold AS inB at h
 rw [zA,zA,decide_eq_true_eq,decide_eq_true_eq] at h
 have hs:0<s.size:=by omega
 have h1:=GI h.1 hs
 unfold Ib at h1
 unfold Ki
 rw [h0]
 simp at h1
 simp [hs,h1]
theorem QB {s:ByteArray} (hs:0<s.size) (h:N0 (GC s 0)=false):Ki s=true:=by
 have hv:AS s=false:=by
  rw [y8]
  intro hv
  unfold AS at hv
  rw [zA] at hv
  have h1:=GI hv.1 hs
  unfold Ib at h1
  rw [h] at h1
  simp at h1
 unfold Ki
 rw [hv,h]
 simp [hs]
theorem Xs {s:ByteArray} (h:D5 s=true):Ki s=true:=by
 unfold D5 inB at h
 rw [zA,zA,zA,decide_eq_true_eq,decide_eq_true_eq] at h
 have hs:0<s.size:=by omega
 refine QB hs ?_
 have h1:=GI h.1.1 hs
 unfold IM at h1
 simp at h1
 have h2:=h1.1
 unfold PA at h2
 unfold N0
 simp at h2 ⊢
 omega
theorem Xt {s:ByteArray} (h:s.toList=[61]):Ki s=true:=by
 have hs:s.size=1:=by
  have:=congrArg List.length h
  rw [ByteArray.toList_eq] at this
  simpa using this
 refine QB (by omega) ?_
 unfold GC
 rw [h]
 rfl
mutual
theorem Tm.JR:∀ x:Tm,x.names=true→x.cok=true
 | .mk n xs,h=>by
  rw [Tm.names] at h
  rw [Tm.cok,zA]
  split at h
  ·rename_i hv
   have:xs=[]:=by
    rw [beq_iff_eq] at h
    exact zC h
   subst this
   exact ⟨Xr hv,rfl⟩
  ·rw [zA,zA] at h
   exact ⟨Xs h.1.1,Tm.KT xs h.2⟩
theorem Tm.KT:∀ xs:List Tm,Tm.Gj xs=true→Tm.U5 xs=true
 | [],_=>rfl
 | x :: xs,h=>by
  rw [Tm.Gj,zA] at h
  rw [Tm.U5,zA]
  exact ⟨Tm.JR x h.1,Tm.KT xs h.2⟩
end
theorem Tm.YF {x:Tm} (h:x.atom=true):x.cok=true:=by
 unfold Tm.atom at h
 rcases he:x.eqn with _ | _
 ·rw [he,if_neg (by simp),zA] at h
  unfold Tm.valid at h
  rw [zA] at h
  exact Tm.JR x h.2.2
 ·rw [he,if_pos rfl,zA,zA] at h
  unfold Tm.eqn at he
  rw [Aw] at he
  rw [Tm.R1,zA]
  exact ⟨Xt (by rw [he,ByteArray.toList_eq]),Tm.KT _ h.2⟩
theorem Xu {s:ByteArray} {k:Nat} (h:k<s.size):Ec s k=GC s k:=by
 rw [←Fl h]
 unfold Ec
 rw [show s[k]?=some s[k] from getElem?_pos s k h]; rfl
theorem QC {s:ByteArray} (h:Ki s=true):0<s.size∧(dec (65≤Ec s 0)&&dec (Ec s 0≤90))=AS s:=by
 unfold Ki at h
 rw [zA,decide_eq_true_eq,beq_iff_eq] at h
 refine ⟨h.1,?_⟩
 rw [←h.2,Xu h.1,KG,KG]
 unfold N0
 rfl
theorem I7 (a:ByteArray):strLt a a=false:=by
 unfold strLt
 have key:∀ l:List UInt8,Op.bytesLess l l=false:=by
  intro l
  induction l with
  | nil=>rfl
  | cons x l ih=>simp [Op.bytesLess,ih]
 exact key _
def GJ:SC:=(.seq (.reg [⟨some 2,none,.mv (.c (.bool false))⟩]) (.seq (.reg [⟨some 3,none,.mv (.t 0)⟩,⟨some 4,none,.bin .geq false (.t 3) (.c (.int .u8 65))⟩,⟨some 5,none,.mv (.t 4)⟩,⟨(some 6),(some (5,true)),(.mv (.t 0))⟩,⟨(some 7),(some (5,true)),(.bin .leq false (.t 6) (.c (.int .u8 90)))⟩,⟨some 8,none,.pick (.t 5) (.t 7) (.c (.bool false))⟩,⟨some 2,none,.mv (.t 8)⟩]) .ret))
theorem Ju:At Tryz.prog 165=some ⟨9,GJ,[(.tmp 2)]⟩:=by kernel_rfl
theorem GK:modes 165=⟨[],.asis,none,false⟩:=by unfold modes; rfl
def L7:SC:=(.seq (.reg [⟨some 1,none,.boxv 26 2 (.t 0)⟩,⟨some 2,none,.mv (.c (.bool false))⟩]) (.seq (.reg [⟨some 3,none,.faddr 0 (.t 1)⟩,⟨some 4,none,.load false 1 (.t 3)⟩,⟨some 5,none,.idx (.t 4) (.c (.int .i64 0))⟩,⟨some 6,none,.call 165 [(.t 5)]⟩,⟨some 2,none,.mv (.t 6)⟩]) .ret))
theorem RN:At Tryz.prog 121=some ⟨7,L7,[(.tmp 2)]⟩:=by kernel_rfl
theorem Gt:modes 121=⟨[],.asis,none,false⟩:=by unfold modes; rfl
theorem Xv (n:Int):E 165 [.int .u8 n] []=some (.bool (dec (65≤n)&&dec (n≤90)),[]):=by
 cases h1:dec (65≤n)
 ·refine Ai Ju GK (of_decide_eq_true rfl) ?_
  simp (disch:=omega) only [GJ,go_sem,Ab,h1]
 ·refine Ai Ju GK (of_decide_eq_true rfl) ?_
  simp (disch:=omega) only [GJ,go_sem,Ab,h1]
theorem Qas (x:Tm) (h:x.cok=true):E 121 [x.sv] []=some (.bool (AS x.name),[]):=by
 rw [Tm.R1,zA] at h
 obtain ⟨h1,h2⟩:=QC h.1
 have h3:=Xv (Ec x.name 0)
 rw [h2] at h3
 refine Ai RN Gt (of_decide_eq_true rfl) ?_
 simp (disch:=omega) only [L7,go_sem,Ab,h3,GK]
theorem Tm.G3 {x:Tm} (h:x.atom=true):(AS x.name=true→x.args=[])∧∀ y∈x.args,y.names=true:=by
 unfold Tm.atom at h
 cases he:x.eqn with
 | true =>
  rw [he,if_pos rfl,zA,zA] at h
  have h2:=h.2
  rw [Tm.G1,yA] at h2
  refine ⟨fun hv=>?_,h2⟩
  have hn:=Aw.1 he
  have hnv0:AS ⟨#[61]⟩=false:=by kernel_rfl
  rw [hn,hnv0] at hv
  cases hv
 | false =>
  rw [he,if_neg (by simp),zA] at h
  have hnm:x.names=true:=by have h3:=h.2; unfold Tm.valid at h3; rw [zA] at h3; exact h3.2
  exact ⟨fun hv=>Tm.G2 hnm hv,fun y hy=>Tm.DS hnm hy⟩
mutual
noncomputable def Tm.vs:Tm→List ByteArray
 | .mk name args=>bif AS name then [name] else Tm.vsL args
noncomputable def Tm.vsL:List Tm→List ByteArray
 | []=>[]
 | x :: xs=>Tm.vs x++Tm.vsL xs
end
theorem Tm.QD (x:Tm):x.vs=bif AS x.name then [x.name] else Tm.vsL x.args:=by
 obtain ⟨n,a⟩:=x
 rw [Tm.vs]; rfl
theorem Tm.RO {v:ByteArray}:∀ {xs:List Tm},v∈Tm.vsL xs ↔ ∃ x∈xs,v∈x.vs
 | []=>by simp [Tm.vsL]
 | x :: xs=>by rw [Tm.vsL,List.mem_append,Tm.RO (xs:=xs)]; simp
theorem Tm.Ws:∀ xs:List Tm,(∀ x∈xs,x.vs.length≤x.nodes)→(Tm.vsL xs).length≤Tm.nodeS xs
 | [],_=>by simp [Tm.vsL]
 | x :: xs,h=>by
  have h1:=h x (by simp)
  have h2:=Tm.Ws xs fun y hy=>h y (by simp [hy])
  rw [Tm.vsL,Tm.nodeS,z8]; omega
theorem Tm.KU (x:Tm):x.vs.length≤x.nodes:=by
 have h:=Tm.Ws x.args fun y hy=>Tm.KU y
 rw [Tm.QD,Tm.nodes_eq]
 cases AS x.name with
 | true=>simp
 | false=>simp only [cond_false]; omega
termination_by SizeOf.sizeOf x
decreasing_by exact Tm.lt_of_mem hy
noncomputable def Gu (l:List ByteArray) (n:ByteArray):List ByteArray:=bif dec (n∈l) then l else l++[n]
theorem YG (l:List ByteArray) (n:ByteArray):(Gu l n).length≤l.length+1:=by
 unfold Gu
 cases dec (n∈l) <;> simp
theorem YH {l:List ByteArray} {n m:ByteArray}:m∈Gu l n ↔ m∈l∨m=n:=by
 unfold Gu
 by_cases h:n∈l
 ·rw [Ar h,cond_true]
  exact ⟨.inl,fun h'=>h'.elim id fun e=>e▸h⟩
 ·rw [Aj h,cond_false]
  simp
theorem Vm {l:List ByteArray} {n:ByteArray} (h:l.Nodup):(Gu l n).Nodup:=by
 unfold Gu
 by_cases k:n∈l
 ·rw [Ar k]; exact h
 ·rw [Aj k,cond_false,List.nodup_append]
  exact ⟨h,by simp,fun a ha b hb e=>by simp at hb; subst hb; subst e; exact k ha⟩
noncomputable def B7 (l ns:List ByteArray):List ByteArray:=ns.foldl Gu l
theorem DI:∀ (ns l:List ByteArray),(B7 l ns).length≤l.length+ns.length
 | [],l=>by simp [B7]
 | n :: ns,l=>by
  have h:=DI ns (Gu l n)
  have h2:=YG l n
  simp only [B7,z7,zM] at h ⊢
  omega
theorem OQ:∀ {ns l:List ByteArray} {m:ByteArray},m∈B7 l ns ↔ m∈l∨m∈ns
 | [],l,m=>by simp [B7]
 | n :: ns,l,m=>by
  have h:=OQ (ns:=ns) (l:=Gu l n) (m:=m)
  simp only [B7,z7] at h ⊢
  rw [h,YH]
  simp only [zH]
  exact or_assoc
theorem KV:∀ {ns l:List ByteArray},l.Nodup→(B7 l ns).Nodup
 | [],l,h=>h
 | n :: ns,l,h=>KV (ns:=ns) (Vm h)
theorem GM (l a b:List ByteArray):B7 l (a++b)=B7 (B7 l a) b:=y9
def Dw:SC:=(.seq (.reg [⟨some 4,none,.mv (.c (.int .i64 0))⟩]) (.seq (.seq (.reg [⟨some 6,none,.mv (.t 0)⟩,⟨some 7,none,.len false (.t 6)⟩,⟨some 8,none,.mv (.c (.int .i64 0))⟩]) (.block 0 (.loop [1,1,0,0,0,0,0,1,1,0,0,0,0,0,0,0,0,0,0] (.seq (.reg [⟨some 9,none,.bin .lss false (.t 8) (.t 7)⟩]) (.seq (.cond (.t 9) .skip (.exit 0)) (.seq (.block 1 (.seq (.reg [⟨some 10,none,.mv (.t 8)⟩,⟨some 5,none,.mv (.t 10)⟩]) (.seq (.reg [⟨some 11,none,.mv (.t 1)⟩,⟨some 12,none,.mv (.t 0)⟩,⟨some 13,none,.mv (.t 5)⟩,⟨some 14,none,.iaddr 1 (.t 12) (.t 13)⟩,⟨some 15,none,.load false 1 (.t 14)⟩,⟨some 16,none,.bin .eql false (.t 11) (.t 15)⟩]) (.cond (.t 16) (.seq (.reg [⟨some 17,none,.mv (.t 5)⟩,⟨some 4,none,.mv (.t 17)⟩]) .ret) .skip)))) (.reg [⟨some 18,none,.bin .add false (.t 8) (.c (.int .i64 1))⟩,⟨some 8,none,.mv (.t 18)⟩]))))))) (.seq (.reg [⟨some 4,none,.mv (.c (.int .i64 (-(0+1))))⟩]) .ret)))
theorem FZ:At Tryz.prog 193=some ⟨19,Dw,[(.tmp 4)]⟩:=by kernel_rfl
theorem Dx:modes 193=⟨[],.asis,none,false⟩:=by unfold modes; rfl
def CV:SC:=(.seq (.reg [⟨some 4,none,.mv (.c (.bool false))⟩]) (.seq (.reg [⟨some 5,none,.mv (.t 0)⟩,⟨some 6,none,.mv (.t 1)⟩,⟨some 7,none,.call 193 [(.t 5),(.t 6)]⟩,⟨some 8,none,.bin .geq false (.t 7) (.c (.int .i64 0))⟩,⟨some 4,none,.mv (.t 8)⟩]) .ret))
theorem EX:At Tryz.prog 133=some ⟨9,CV,[(.tmp 4)]⟩:=by kernel_rfl
theorem A6:modes 133=⟨[],.asis,none,false⟩:=by unfold modes; rfl
theorem YI (xs:List ByteArray) (n:ByteArray) (hl:xs.length≤1099511627776):E 193 [.arr (xs.map fun s=>[D.str s]),.str n] []=some (.int .i64 (Ed (fun s=>dec (n=s)) xs 0),[]):=by
 refine Ai FZ Dx (of_decide_eq_true rfl) ?_
 simp (disch:=omega) only [Dw,go_sem,Ab]
 refine go_loop (α:=Int) (fun a=>⟨slots 19 0 [(0,.arr (xs.map fun s=>[D.str s])),(1,.str n),(7,.int .i64 xs.length),(8,.int .i64 a)],[]⟩) (fun a=>∃ k:Nat,a=k∧k≤(xs).length∧Ed (fun s=>dec (n=s)) (xs.drop k) a=Ed (fun s=>dec (n=s)) xs 0) (fun a=>(xs).length-(a).toNat) 0 ⟨0,rfl,zP _,by rw [zN]⟩ (by simp (disch:=omega) only [go_sem,Ab]) ?_
 rintro i ⟨k,hi,hk,hR⟩
 have hni:i.toNat=k:=by omega
 have hni1:(i+1).toNat=k+1:=by omega
 rcases zE k (xs).length with hlt | hge
 ·have hg:=get_at (fun s=>[D.str s]) hlt
  rw [zG hlt,Ed] at hR
  cases hp:dec (n=xs[k]) with
  | true =>
   rw [hp] at hR
   simp (disch:=omega) only [go_sem,Ab,hni,hg,hp]
   simpa using hR
  | false =>
   rw [hp] at hR
   simp (disch:=omega) only [go_sem,Ab,hni,hg,hp]
   exact ⟨i+1,⟨k+1,by omega,hlt,by simpa using hR⟩,by omega,by first | trivial | rfl⟩
 ·rw [zL hge,Ed] at hR
  simp (disch:=omega) only [go_sem,Ab,hni]
  exact hR
theorem FO (xs:List ByteArray) (n:ByteArray) (hl:xs.length≤1099511627776):E 133 [.arr (xs.map fun s=>[D.str s]),.str n] []=some (.bool (dec (n∈xs)),[]):=by
 have h:=YI xs n hl
 have e:dec (n∈xs)=dec (0≤Ed (fun s=>dec (n=s)) xs 0):=by
  rw [Lz]
  by_cases hm:n∈xs
  ·rw [Ar hm]
   exact (List.any_eq_true.2 ⟨n,hm,Ar rfl⟩).symm
  ·rw [Aj hm]
   refine Eq.symm (y8.2 fun h=>?_)
   obtain ⟨x,h1,h2⟩:=List.any_eq_true.1 h
   have e:=Aw.1 h2
   subst e
   exact hm h1
 rw [e]
 refine Ai EX A6 (of_decide_eq_true rfl) ?_
 simp (disch:=omega) only [CV,go_sem,Ab,h,Dx]
theorem E6:∀ (ns l:List ByteArray),l.length≤(B7 l ns).length
 | [],l=>by simp [B7]
 | n :: ns,l=>by
  have h:=E6 ns (Gu l n)
  have h2:l.length≤(Gu l n).length:=by unfold Gu; cases dec (n∈l) <;> simp
  simp only [B7,z7] at h ⊢
  omega
def DJ:SC:=(.seq (.reg [⟨some 3,none,.boxv 26 2 (.t 1)⟩,⟨some 4,none,.mv (.c .nil)⟩]) (.seq (.seq (.reg [⟨some 7,none,.faddr 1 (.t 3)⟩,⟨some 8,none,.load false 1 (.t 7)⟩,⟨some 9,none,.len false (.t 8)⟩,⟨some 10,none,.bin .eql false (.t 9) (.c (.int .i64 0))⟩,⟨some 11,none,.mv (.t 10)⟩,⟨(some 12),(some (11,true)),(.load true 2 (.t 3))⟩,⟨(some 13),(some (11,true)),(.call 121 [(.t 12)])⟩,⟨some 14,none,.pick (.t 11) (.t 13) (.c (.bool false))⟩]) (.cond (.t 14) (.seq (.seq (.reg [⟨some 15,none,.mv (.t 0)⟩,⟨some 16,none,.faddr 0 (.t 3)⟩,⟨some 17,none,.load false 1 (.t 16)⟩,⟨some 18,none,.call 133 [(.t 15),(.t 17)]⟩,⟨some 19,none,.un .not (.t 18)⟩]) (.cond (.t 19) (.reg [⟨some 20,none,.mv (.t 0)⟩,⟨some 21,none,.faddr 0 (.t 3)⟩,⟨some 22,none,.load false 1 (.t 21)⟩,⟨(some 23),none,(.mkrow 9 1 [(.str ⟨#[]⟩)] 1 [(0,(.t 22))])⟩,⟨(some 24),none,(.append 9 1 16 [(.str ⟨#[]⟩)] (.t 20) (.t 23))⟩,⟨some 0,none,.mv (.t 24)⟩]) .skip)) (.seq (.reg [⟨some 25,none,.mv (.t 0)⟩,⟨some 4,none,.mv (.t 25)⟩]) .ret)) .skip)) (.seq (.seq (.reg [⟨some 26,none,.faddr 1 (.t 3)⟩,⟨some 27,none,.load false 1 (.t 26)⟩,⟨some 28,none,.len false (.t 27)⟩,⟨some 29,none,.mv (.c (.int .i64 0))⟩]) (.block 0 (.loop [1,0,0,0,0,0,0,0,0,0,0,0,0,0,0,0,0,0,0,0,0,0,0,0,0,0,0,1,1,1,0,0,0,0,0,0,0,0] (.seq (.reg [⟨some 30,none,.bin .lss false (.t 29) (.t 28)⟩]) (.seq (.cond (.t 30) .skip (.exit 0)) (.seq (.block 1 (.seq (.reg [⟨some 31,none,.iaddr 2 (.t 27) (.t 29)⟩,⟨some 32,none,.load true 2 (.t 31)⟩,⟨(some 6),none,(.alloc 26 [(.str ⟨#[]⟩),.nil])⟩,⟨none,none,(.store 2 (.t 6) (.t 32))⟩]) (.reg [⟨some 33,none,.mv (.t 0)⟩,⟨some 34,none,.load true 2 (.t 6)⟩,⟨some 35,none,.call 194 [(.t 33),(.t 34)]⟩,⟨some 0,none,.mv (.t 35)⟩]))) (.reg [⟨some 36,none,.bin .add false (.t 29) (.c (.int .i64 1))⟩,⟨some 29,none,.mv (.t 36)⟩]))))))) (.seq (.reg [⟨some 37,none,.mv (.t 0)⟩,⟨some 4,none,.mv (.t 37)⟩]) .ret))))
theorem EG:At Tryz.prog 194=some ⟨38,DJ,[(.tmp 4)]⟩:=by kernel_rfl
theorem CD:modes 194=⟨[true],.asis,none,false⟩:=by unfold modes; rfl
abbrev YJ (x:Tm):Prop:=∀ l:List ByteArray,l.length+x.nodes≤1048576→E 194 [.ref 0,x.sv] [.row 9 1 (l.map fun s=>[OT.str s])]=some ((bif dec (l.length<(B7 l x.vs).length) then .ref 1 else .ref 0),(bif dec (l.length<(B7 l x.vs).length) then [.gone,.row 9 1 ((B7 l x.vs).map fun s=>[OT.str s])] else [.row 9 1 ((B7 l x.vs).map fun s=>[OT.str s])]))
theorem OR (x:Tm) (hva:AS x.name=true→x.args=[]) (hc:x.cok=true) (ih:∀ y∈x.args,YJ y):YJ x:=by
 intro l hn
 have hl:=Tm.length_le x.args
 have hne:=Tm.nodes_eq x
 have hv:=Qas x hc
 have hvs:=Tm.QD x
 rcases zT x.args.length with h0 | h0
 ·have hx0:x.args=[]:=zC h0
  have hz:((x.args.length:Int)=0)=True:=by rw [hx0]; simp
  cases hvv:AS x.name with
  | true =>
   rw [hvv] at hv hvs
   have h1:=FO l x.name (by omega)
   rw [hvs]
   cases hm:dec (x.name∈l) with
   | true =>
    have e:B7 l [x.name]=l:=by simp only [B7,z7,List.foldl_nil,Gu,hm,cond_true]
    rw [hm] at h1
    simp only [cond_true,e]
    refine Ai EG CD (of_decide_eq_true rfl) ?_
    simp (disch:=omega) only [DJ,go_sem,Ab,hz,hv,h1,Gt,A6]
   | false =>
    have e:B7 l [x.name]=l++[x.name]:=by simp only [B7,z7,List.foldl_nil,Gu,hm,cond_false]
    have hg:l.length<(l++[x.name]).length:=by simp
    rw [hm] at h1
    simp only [cond_true,e,Ar hg]
    refine Ai EG CD (of_decide_eq_true rfl) ?_
    simp (disch:=omega) only [DJ,go_sem,Ab,hz,hv,h1,Gt,A6]
    simp only [yH,zB,zO]
  | false =>
   rw [hvv] at hv hvs
   have e:B7 l x.vs=l:=by rw [hvs,hx0]; simp only [cond_false,Tm.vsL]; rfl
   rw [e]
   refine Ai EG CD (of_decide_eq_true rfl) ?_
   simp (disch:=omega) only [DJ,go_sem,Ab,hz,hv,Gt]
   refine go_loop (α:=Int) (fun a=>⟨slots 38 0 [(0,.ref 0),(27,.arr (x.args.map Tm.d)),(28,.int .i64 x.args.length),(29,.int .i64 a)],[.row 9 1 (l.map fun s=>[OT.str s])]⟩) (fun a=>∃ k:Nat,a=k∧k≤(x.args).length) (fun a=>(x.args).length-(a).toNat) 0 ⟨0,rfl,zP _⟩ (by simp (disch:=omega) only [go_sem,Ab]) ?_
   rintro i ⟨k,hi,hk⟩
   have hni:i.toNat=k:=by omega
   have hni1:(i+1).toNat=k+1:=by omega
   rcases zE k (x.args).length with hlt | hge
   ·omega
   ·simp (disch:=omega) only [go_sem,Ab,hni]
 ·have hz:((x.args.length:Int)=0)=False:=eq_false (by omega)
  have hvv:AS x.name=false:=by
   cases h:AS x.name with
   | false=>rfl
   | true=>rw [hva h] at h0; simp at h0
  rw [hvv] at hvs
  simp only [cond_false] at hvs
  rw [hvs]
  refine Ai EG CD (of_decide_eq_true rfl) ?_
  simp (disch:=omega) only [DJ,go_sem,Ab,hz]
  refine go_loop (α:=Int × (List ByteArray)) (fun a=>⟨slots 38 0 [(0,(bif dec (l.length<(a.2).length) then .ref 1 else .ref 0)),(27,.arr (x.args.map Tm.d)),(28,.int .i64 x.args.length),(29,.int .i64 (a.1))],(bif dec (l.length<(a.2).length) then [.gone,.row 9 1 ((a.2).map fun s=>[OT.str s])] else [.row 9 1 ((a.2).map fun s=>[OT.str s])])⟩) (fun a=>∃ k:Nat,a.1=k∧k≤(x.args).length∧B7 (a.2) (Tm.vsL (x.args.drop k))=B7 l (Tm.vsL x.args)∧(a.2).length+Tm.nodeS (x.args.drop k)≤1048576∧l.length≤(a.2).length) (fun a=>(x.args).length-(a.1).toNat) (0,l) ⟨0,rfl,zP _,by rw [zN],by rw [zN]; dsimp only; omega,zU _⟩ (by simp (disch:=omega) only [go_sem,Ab]) ?_
  rintro ⟨i,acc⟩ ⟨k,hi,hk,hR⟩
  dsimp only at hi hR
  have hni:i.toNat=k:=by omega
  have hni1:(i+1).toNat=k+1:=by omega
  rcases zE k (x.args).length with hlt | hge
  ·have hg:=get_at Tm.d hlt
   rw [Tm.d_eq] at hg
   obtain ⟨hR1,hR2,hR3⟩:=hR
   rw [zG hlt,Tm.vsL,GM] at hR1
   rw [zG hlt,Tm.nodeS] at hR2
   have hc:=ih x.args[k] (zJ hlt) acc (by omega)
   have hlen:=DI x.args[k].vs acc
   have hgr:=E6 x.args[k].vs acc
   have hvl:=Tm.KU x.args[k]
   obtain ⟨acc2,ha2⟩:∃ a,a=B7 acc x.args[k].vs:=⟨_,rfl⟩
   rw [←ha2] at hc hlen hgr hR1
   rcases zE l.length acc.length with q1 | q1 <;> rcases zE acc.length acc2.length with q2 | q2
   all_goals
    first
     |rw [Ar q2] at hc
     |rw [Aj (xE.2 q2)] at hc
    simp only [cond_true,cond_false] at hc
    simp (disch:=omega) only [go_sem,Ab,hni,hg,hc,CD]
    refine ⟨(i+1,acc2),⟨k+1,by dsimp only; omega,hlt,hR1,by dsimp only; omega,by dsimp only; omega⟩,by dsimp only; omega,?_⟩
    first | done | simp (disch:=omega) only [go_sem,Ab]
  ·rw [zL hge,Tm.vsL] at hR
   obtain ⟨hR1,hR2,hR3⟩:=hR
   have hR1:acc=B7 l (Tm.vsL x.args):=hR1
   rw [←hR1]
   rcases zE l.length acc.length with q1 | q1
   ·simp (disch:=omega) only [go_sem,Ab,hni]
   ·simp (disch:=omega) only [go_sem,Ab,hni]
theorem QE (x:Tm) (hx:x.names=true) (hc:x.cok=true):YJ x :=
 OR x (fun h=>Tm.G2 hx h) hc fun y hy=>QE y (Tm.DS hx hy) (by rw [Tm.R1,zA] at hc; exact Tm.Yv hc.2 hy)
termination_by SizeOf.sizeOf x
decreasing_by exact Tm.lt_of_mem hy
noncomputable def I8 (l:List ByteArray):List ByteArray:=(srt (l.map (·.toList))).map fun x=>⟨x.toArray⟩
theorem M2 (l:List ByteArray):(I8 l).Perm l:=by
 unfold I8
 have h:(srt (l.map (·.toList))).Perm (l.map (·.toList)):=List.mergeSort_perm _ _
 have h2:=h.map fun x:List UInt8=>(⟨x.toArray⟩:ByteArray)
 rw [yL] at h2
 have e:((fun x:List UInt8=>(⟨x.toArray⟩:ByteArray)) ∘ fun x:ByteArray=>x.toList)=id:=by
  funext x
  exact Ez x
 rw [e,List.map_id] at h2
 exact h2
theorem Br:modes 82=⟨[true],.asis,some JM,false⟩:=by unfold modes; rfl
theorem RP (l:List ByteArray) (hl:l.length≤1099511627776):E 82 [.ref 0] [.row 9 1 (l.map fun s=>[OT.str s])]=some (.tup [],[.row 9 1 ((I8 l).map fun s=>[OT.str s])]):=by
 rw [KP (g:=JM) (congrArg FM.ext Br)]
 unfold JM
 simp only
 rw [Ar ⟨by first | trivial | rfl,fun e he=>by obtain ⟨s,_,rfl⟩:=yM.1 he; exact ⟨s,rfl⟩,by simpa using hl⟩,cond_true]
 have e1:(l.map fun s=>[OT.str s]).map (fun e=>(Lw e).toList)=l.map (·.toList):=by rw [yL]; rfl
 rw [e1]
 unfold I8
 rw [yL]
 rfl
noncomputable def Tm.vars (x:Tm):List ByteArray:=I8 (B7 [] x.vs)
def Fo:SC:=(.seq (.reg [⟨some 1,none,.boxv 26 2 (.t 0)⟩,⟨some 2,none,.mv (.c .nil)⟩]) (.seq (.reg [⟨(some 4),none,(.mkrow 9 1 [(.str ⟨#[]⟩)] 0 [])⟩,⟨some 5,none,.load true 2 (.t 1)⟩,⟨some 6,none,.call 194 [(.t 4),(.t 5)]⟩,⟨some 3,none,.mv (.t 6)⟩]) (.seq (.reg [⟨some 7,none,.mv (.t 3)⟩,⟨some 8,none,.call 82 [(.t 7)]⟩]) (.seq (.reg [⟨some 9,none,.mv (.t 3)⟩,⟨some 2,none,.mv (.t 9)⟩]) .ret))))
theorem Ie:At Tryz.prog 134=some ⟨10,Fo,[(.tmp 2)]⟩:=by kernel_rfl
theorem Fp:modes 134=⟨[],.asis,none,false⟩:=by unfold modes; rfl
theorem RQ (x:Tm) (hcol:YJ x) (hn:x.nodes≤1048576):E 134 [x.sv] []=some (.ref 0,[.row 9 1 (x.vars.map fun s=>[OT.str s])]):=by
 have h1:=hcol [] (by simpa using hn)
 have hl:=DI x.vs []
 have hv:=Tm.KU x
 rw [yC,yB] at hl
 have h2:=RP (B7 [] x.vs) (by omega)
 rw [zO,yC] at h1
 unfold Tm.vars
 rcases zE 0 (B7 [] x.vs).length with q | q
 ·rw [Ar q] at h1
  simp only [cond_true] at h1
  refine Ai Ie Fp (of_decide_eq_true rfl) ?_
  simp (disch:=omega) only [Fo,go_sem,Ab,h1,h2,CD,Br]
 ·rw [Aj (by omega)] at h1
  simp only [cond_false] at h1
  refine Ai Ie Fp (of_decide_eq_true rfl) ?_
  simp (disch:=omega) only [Fo,go_sem,Ab,h1,h2,CD,Br]
theorem Vn (x:Tm) (h:x.atom=true):YJ x :=
 OR x (Tm.G3 h).1 (Tm.YF h) fun y hy=>QE y ((Tm.G3 h).2 y hy) (Tm.JR y ((Tm.G3 h).2 y hy))
namespace Wd
def modes:FuncId→FM:=fun _=>⟨[],.asis,none,false⟩
theorem mode (f:FuncId):modes f=⟨[],.asis,none,false⟩:=rfl
theorem KL:@Lv Rx Tryz.prog modes:=fun _ _ _ _ _ _ hg _=>by cases hg
noncomputable def E:FEnv:=ev Tryz.prog modes
noncomputable def calls:CallF:=CU modes E
theorem E_told {f:FuncId} {xs:List SV} {ob:List Ob} {r:SV} {ob':List Ob} (h:E f xs ob=some (r,ob')):FunD Tryz.prog f xs ob r ob':=@Wm Rx _ _ Yg KL f xs ob r ob' h
noncomputable def run (n0:Nat):SC→St→Option (X × St):=fr Tryz.prog calls (I1 n0)
def go (n0:Nat) (sc:SC) (st:St) (K:X→St→Prop):Prop:=∃ x st',run n0 sc st=some (x,st')∧K x st'
def R4 (n0:Nat) (b:SC) (K:X→St→Prop):X→St→Prop
 | .normal,st=>go n0 b st K
 | .exit i,st=>K (.exit i) st
 | .ret,st=>K .ret st
def blk (id:Nat) (K:X→St→Prop):X→St→Prop
 | .normal,st=>K .normal st
 | .exit i,st=>if i=id then K .normal st else K (.exit i) st
 | .ret,st=>K .ret st
def OD (r:Option St) (k:X→St→Prop):Prop :=
 match r with
 | some st=>k .normal st
 | none=>False
def OE (anc:List (List Nat)) (r:Option (List Ent × St)) (k:X→St→Prop):Prop :=
 match r with
 | some (es,st)=>obB anc [] (Gq es) 0=true∧k .normal st
 | none=>False
def Hn (v:SV) (a b:Unit→Prop):Prop :=
 match v with
 | .bool true=>a ()
 | .bool false=>b ()
 | _=>False
noncomputable def KM (ops:List SOper) (st:St):Option St:=Nz Tryz.prog calls ops st
noncomputable def KN (ops:List SOper) (acc:List Ent) (st:St):Option (List Ent × St):=H7 Tryz.prog calls ops acc st
section
variable {n0:Nat} {st:St} {K:X→St→Prop}
theorem go_skip:go n0 .skip st K=K .normal st:=by
 refine propext ⟨fun ⟨x,st',h,k⟩=>?_,fun k=>⟨_,_,rfl,k⟩⟩
 obtain ⟨rfl,rfl⟩:X.normal=x∧st=st':=by simpa [run,fr] using h
 exact k
theorem R5 {i:Nat}:go n0 (.exit i) st K=K (.exit i) st:=by
 refine propext ⟨fun ⟨x,st',h,k⟩=>?_,fun k=>⟨_,_,rfl,k⟩⟩
 obtain ⟨rfl,rfl⟩:X.exit i=x∧st=st':=by simpa [run,fr] using h
 exact k
theorem go_ret:go n0 .ret st K=K .ret st:=by
 refine propext ⟨fun ⟨x,st',h,k⟩=>?_,fun k=>⟨_,_,rfl,k⟩⟩
 obtain ⟨rfl,rfl⟩:X.ret=x∧st=st':=by simpa [run,fr] using h
 exact k
theorem UC {ops:List SOper}:go n0 (.reg ops) st K=OD (KM ops st) K:=by
 unfold OD KM
 refine propext ⟨fun ⟨x,st',h,k⟩=>?_,fun k=>?_⟩
 ·simp only [run,fr] at h
  split at h
  ·rename_i s hs
   simp only [zD,zI] at h
   obtain ⟨rfl,rfl⟩:=h
   first | exact k | (simp only [hs]; exact k)
  ·cases h
 ·split at k
  ·rename_i s hs
   exact ⟨.normal,s,by simp only [run,fr,hs],k⟩
  ·exact k.elim
theorem R6 {anc:List (List Nat)} {ops:List SOper}:go n0 (.dreg anc ops) st K=OE anc (KN ops [] st) K:=by
 unfold OE KN
 refine propext ⟨fun ⟨x,st',h,k⟩=>?_,fun k=>?_⟩
 ·simp only [run,fr] at h
  split at h
  ·rename_i es s hs
   obtain ⟨h1,h2⟩:=Ay h
   simp only [zD,zI] at h2
   obtain ⟨rfl,rfl⟩:=h2
   first | exact ⟨h1,k⟩ | (simp only [hs]; exact ⟨h1,k⟩)
  ·cases h
 ·split at k
  ·rename_i es s hs
   exact ⟨.normal,s,by simp only [run,fr,hs,k.1,cond_true],k.2⟩
  ·exact k.elim
theorem UD {a b:SC}:go n0 (.seq a b) st K=go n0 a st (R4 n0 b K):=by
 refine propext ⟨fun ⟨x,st',h,k⟩=>?_,fun ⟨x,st',h,k⟩=>?_⟩
 ·simp only [run,fr,C5] at h
  split at h
  ·rename_i s hs
   exact ⟨.normal,s,hs,x,st',h,k⟩
  ·rename_i i s hs
   simp only [zD,zI] at h
   obtain ⟨rfl,rfl⟩:=h
   exact ⟨_,_,hs,k⟩
  ·rename_i s hs
   simp only [zD,zI] at h
   obtain ⟨rfl,rfl⟩:=h
   exact ⟨_,_,hs,k⟩
  ·cases h
 ·simp only [run] at h
  cases x with
  | normal =>
   obtain ⟨x2,st2,h2,k2⟩:=k
   exact ⟨x2,st2,by simp only [run,fr,C5,h]; exact h2,k2⟩
  | exit i=>exact ⟨_,st',by simp only [run,fr,C5,h],k⟩
  | ret=>exact ⟨_,st',by simp only [run,fr,C5,h],k⟩
theorem OF {id:Nat} {b:SC}:go n0 (.block id b) st K=go n0 b st (blk id K):=by
 refine propext ⟨fun ⟨x,st',h,k⟩=>?_,fun ⟨x,st',h,k⟩=>?_⟩
 ·simp only [run,fr,EA] at h
  split at h
  ·rename_i s hs
   simp only [zD,zI] at h
   obtain ⟨rfl,rfl⟩:=h
   exact ⟨.normal,s,hs,k⟩
  ·rename_i i s hs
   refine ⟨.exit i,s,hs,?_⟩
   simp only [blk]
   by_cases hi:i=id
   ·simp only [if_pos hi,zD,zI] at h ⊢
    obtain ⟨rfl,rfl⟩:=h
    exact k
   ·simp only [if_neg hi,zD,zI] at h ⊢
    obtain ⟨rfl,rfl⟩:=h
    exact k
  ·rename_i s hs
   simp only [zD,zI] at h
   obtain ⟨rfl,rfl⟩:=h
   exact ⟨_,s,hs,k⟩
  ·cases h
 ·simp only [run] at h
  cases x with
  | normal=>exact ⟨_,st',by simp only [run,fr,EA,h],k⟩
  | exit i =>
   simp only [blk] at k
   by_cases hi:i=id
   ·simp only [if_pos hi] at k
    exact ⟨.normal,st',by simp only [run,fr,EA,h,if_pos hi],k⟩
   ·simp only [if_neg hi] at k
    exact ⟨.exit i,st',by simp only [run,fr,EA,h,if_neg hi],k⟩
  | ret=>exact ⟨_,st',by simp only [run,fr,EA,h],k⟩
theorem Ab {q:SX} {a b:SC}:go n0 (.cond q a b) st K=Hn (A8 (gets st.sl) q) (fun _=>go n0 a st K) (fun _=>go n0 b st K):=by
 unfold Hn
 refine propext ⟨fun ⟨x,st',h,k⟩=>?_,fun k=>?_⟩
 ·simp only [run,fr] at h
  split at h
  ·rename_i t ht
   simp only [ht]
   cases t with
   | true=>exact ⟨x,st',h,k⟩
   | false=>exact ⟨x,st',h,k⟩
  ·cases h
 ·split at k
  ·rename_i ht
   obtain ⟨x,st',h,k⟩:=k
   exact ⟨x,st',by simp only [run,fr,ht,cond_true]; exact h,k⟩
  ·rename_i ht
   obtain ⟨x,st',h,k⟩:=k
   exact ⟨x,st',by simp only [run,fr,ht,cond_false]; exact h,k⟩
  ·exact k.elim
theorem R7 {a b:Unit→Prop}:Hn (.bool true) a b=a ():=rfl
theorem R8 {a b:Unit→Prop}:Hn (.bool false) a b=b ():=rfl
theorem R9 {t:Bool} {a b:Unit→Prop}:Hn (.bool (!t)) a b=Hn (.bool t) b a:=by cases t <;> rfl
theorem UE {b:SC}:R4 n0 b K .normal st=go n0 b st K:=rfl
theorem UF {b:SC} {i:Nat}:R4 n0 b K (.exit i) st=K (.exit i) st:=rfl
theorem UG {b:SC}:R4 n0 b K .ret st=K .ret st:=rfl
theorem Y1 {id:Nat}:blk id K .normal st=K .normal st:=rfl
theorem Y2 {id i:Nat}:blk id K (.exit i) st=if i=id then K .normal st else K (.exit i) st:=rfl
theorem Y3 {id:Nat}:blk id K .ret st=K .ret st:=rfl
theorem RA:OD (some st) K=K .normal st:=rfl
def quiet:List Ent→Bool
 | []=>true
 | ⟨_,_,[],_⟩ :: r=>quiet r
 | ⟨_,_,_ :: _,_⟩ :: _=>false
theorem GE {anc:List (List Nat)} {rd:List Nat} {j:Nat}:∀ {l:List Ent} {i:Nat},quiet l=true→P4 anc rd [] j (Gq l) i=true
 | [],i,_=>rfl
 | ⟨_,_,[],rdi⟩ :: r,i,h=>by
  have:=GE (anc:=anc) (rd:=rd) (j:=j) (l:=r) (i:=i+1) h
  simp only [Gq,zB,zO] at this ⊢
  simp only [P4,this,zQ]
  have e1:meets [] (rd++[])=false:=rfl
  have e2:meets rdi []=false:=by cases rdi <;> simp [meets]
  rw [e1,e2]; rfl
theorem Mr {l l':List Ent} (h:quiet l=true) (h':quiet l'=true):quiet (l++l')=true:=by
 induction l with
 | nil=>exact h'
 | cons x r ih =>
  obtain ⟨a,b,c,d⟩:=x
  cases c with
  | nil=>exact ih h
  | cons _ _=>cases h
theorem Ic {anc:List (List Nat)}:∀ {l pre:List Ent} {j:Nat},quiet pre=true→quiet l=true→obB anc (Gq pre) (Gq l) j=true
 | [],pre,j,_,_=>rfl
 | ⟨a,b,[],rd⟩ :: r,pre,j,hp,h=>by
  have e:=Ic (anc:=anc) (l:=r) (pre:=pre++[⟨a,b,[],rd⟩]) (j:=j+1) (Mr hp rfl) h
  have e2:=GE (anc:=anc) (rd:=rd) (j:=j) (i:=0) hp
  simp only [Gq,yH,zB,zO] at e e2 ⊢
  simp only [obB,e2,e,zF]
theorem RB {anc:List (List Nat)} {es:List Ent}:OE anc (some (es,st)) K=match quiet es with
  | true=>K .normal st
  | false=>obB anc [] (Gq es) 0=true∧K .normal st:=by
 show (obB anc [] (Gq es) 0=true∧K .normal st)=_
 cases h:quiet es with
 | true=>exact propext ⟨fun h=>h.2,fun h'=>⟨Ic (pre:=[]) rfl h,h'⟩⟩
 | false=>rfl
noncomputable def UH (r:List SOper) (e:Option (Ent × St)):Option St :=
 match e with
 | some (_,st)=>KM r st
 | none=>none
noncomputable def UI (r:List SOper) (acc:List Ent) (e:Option (Ent × St)):Option (List Ent × St) :=
 match e with
 | some (x,st)=>KN r (acc++[x]) st
 | none=>none
noncomputable def opF (so:SOp) (sl:List SV) (ob:List Ob):Option R3:=fOp Tryz.prog calls so sl ob
theorem OG:KM [] st=some st:=rfl
theorem Ms {d:Option Tmp} {so:SOp} {r:List SOper} {sl:List SV} {ob:List Ob}:KM (⟨d,none,so⟩ :: r) ⟨sl,ob⟩=UH r (G8 d ⟨sl,ob⟩ (opF so sl ob)):=rfl
noncomputable def gdF (d:Option Tmp) (so:SOp) (want:Bool) (sl:List SV) (ob:List Ob) (v:SV):Option (Ent × St) :=
 match v with
 | .bool b=>bif SN b want then G8 d ⟨sl,ob⟩ (opF so sl ob) else some (⟨false,.tup [],[],[]⟩,⟨Ew sl d (.tup []),ob⟩)
 | .tup []=>some (⟨false,.tup [],[],[]⟩,⟨Ew sl d (.tup []),ob⟩)
 | _=>none
theorem RC {d:Option Tmp} {k:Nat} {want:Bool} {so:SOp} {r:List SOper} {sl:List SV} {ob:List Ob}:KM (⟨d,some (k,want),so⟩ :: r) ⟨sl,ob⟩=UH r (gdF d so want sl ob (gets sl k)):=rfl
theorem OH {acc:List Ent}:KN [] acc st=some (acc,st):=rfl
theorem Mt {d:Option Tmp} {so:SOp} {r:List SOper} {acc:List Ent} {sl:List SV} {ob:List Ob}:KN (⟨d,none,so⟩ :: r) acc ⟨sl,ob⟩=UI r acc (G8 d ⟨sl,ob⟩ (opF so sl ob)):=rfl
theorem RD {d:Option Tmp} {k:Nat} {want:Bool} {so:SOp} {r:List SOper} {acc:List Ent} {sl:List SV} {ob:List Ob}:KN (⟨d,some (k,want),so⟩ :: r) acc ⟨sl,ob⟩=UI r acc (gdF d so want sl ob (gets sl k)):=rfl
theorem UJ {r:List SOper} {e:Ent}:UH r (some (e,st))=KM r st:=rfl
theorem UK {r:List SOper} {acc:List Ent} {e:Ent}:UI r acc (some (e,st))=KN r (acc++[e]) st:=rfl
theorem Y4 {d:Option Tmp} {so:SOp} {sl:List SV} {ob:List Ob}:gdF d so true sl ob (.bool true)=G8 d ⟨sl,ob⟩ (opF so sl ob):=rfl
theorem UL {d:Option Tmp} {so:SOp} {sl:List SV} {ob:List Ob}:gdF d so false sl ob (.bool false)=G8 d ⟨sl,ob⟩ (opF so sl ob):=rfl
theorem UM {d:Option Tmp} {so:SOp} {sl:List SV} {ob:List Ob}:gdF d so true sl ob (.bool false)=some (⟨false,.tup [],[],[]⟩,⟨Ew sl d (.tup []),ob⟩):=rfl
theorem UN {d:Option Tmp} {so:SOp} {sl:List SV} {ob:List Ob}:gdF d so false sl ob (.bool true)=some (⟨false,.tup [],[],[]⟩,⟨Ew sl d (.tup []),ob⟩):=rfl
theorem Y5 {d:Option Tmp} {so:SOp} {want:Bool} {sl:List SV} {ob:List Ob}:gdF d so want sl ob (.tup [])=some (⟨false,.tup [],[],[]⟩,⟨Ew sl d (.tup []),ob⟩):=rfl
theorem UO {d:Option Tmp} {x:SV} {rd:List Nat}:G8 d st (some (x,[],rd))=some (⟨true,x,[],rd⟩,⟨Ew st.sl d x,st.ob⟩):=rfl
theorem UP {d:Option Tmp} {x:SV} {q:Nat × Ob} {u:List (Nat × Ob)} {rd:List Nat}:G8 d st (some (x,q :: u,rd))=bif SL (De st.ob (q :: u)).length (q :: u) then some (⟨true,x,q :: u,rd⟩,⟨Ew st.sl d x,De st.ob (q :: u)⟩) else none:=rfl
def Jq (ob:List Ob) (xs:List SV) (sel:List Nat) (r:Option (SV × List Ob)) (n:Nat):Option R3 :=
 match r with
 | some (r,fob')=>bif decide (n≤fob'.length) then some (DR sel (By sel xs) ob.length r fob') else none
 | none=>none
def UQ (hd:List Bool) (f:FuncId) (xs:List SV) (ob:List Ob) (sel:List Nat) (e:List SV→List Ob→Option (SV × List Ob)) (b:Option (List Ob)):Option R3 :=
 match b with
 | some fob=>bif Fc sel&&H8 ob.length sel&&F3 fob.length fob then Jq ob xs sel (e (EY hd (Au ob) sel xs) fob) fob.length else none
 | none=>none
def OI (hd:List Bool) (f:FuncId) (xs:List SV) (ob:List Ob) (sel:List Nat) (e:List SV→List Ob→Option (SV × List Ob)):Option R3:=UQ hd f xs ob sel e (Eo sel ob sel)
theorem OJ {f:FuncId} {xs:List SV} {ob:List Ob}:calls f xs ob=Ds (modes f).res (OI (modes f).hand f xs ob (reach ob 64 (FI (modes f).hand xs) []) (E f)):=rfl
theorem UR {r:Option R3}:Ds .asis r=r:=rfl
theorem US {r:Option R3}:Ds .frz r=r:=rfl
theorem UT {l:List (Option (Nat × Nat))} {r:Option R3}:Ds (.own l) r=r:=rfl
theorem UU {l:List (Option (Nat × Nat))} {r:Option R3}:Ds (.half l) r=r:=rfl
theorem UV {l:List (Option (Nat × Nat))} {r:Option R3}:Ds (.tr l) r=r:=rfl
theorem UW {l:List Nat} {r:Option R3}:Ds (.frl l) r=r:=rfl
theorem UX {r:R3}:Ds .late (some r)=Ou r:=rfl
theorem E0:∀ u:List (Nat × Ob),CO [] u=u
 | []=>rfl
 | (g,o) :: u=>by rw [CO,E0 u]; rfl
theorem UY {m:RM} {b:Bool} {u:List (Nat × Ob)} {rd:List Nat}:Ds m (some (.bool b,u,rd))=some (.bool b,u,rd):=by
 cases m <;> first | rfl | (show some (SV.bool b,CO [] u,rd)=_; rw [E0])
theorem UZ {m:RM} {k:IntKind} {n:Int} {u:List (Nat × Ob)} {rd:List Nat}:Ds m (some (.int k n,u,rd))=some (.int k n,u,rd):=by
 cases m <;> first | rfl | (show some (SV.int k n,CO [] u,rd)=_; rw [E0])
theorem Mu {hd:List Bool} {f:FuncId} {xs:List SV} {ob:List Ob} {e:List SV→List Ob→Option (SV × List Ob)}:OI hd f xs ob [] e=Jq ob xs [] (e (EY hd (Au ob) [] xs) []) 0:=rfl
theorem KO {hd:List Bool} {f:FuncId} {xs:List SV} {ob:List Ob} {g:Nat} {r:List Nat} {e:List SV→List Ob→Option (SV × List Ob)}:OI hd f xs ob (g :: r) e=UQ hd f xs ob (g :: r) e (Eo (g :: r) ob (g :: r)):=rfl
theorem RE {ob:List Ob} {xs:List SV} {r:SV} {fob':List Ob}:Jq ob xs [] (some (r,fob')) 0=some (DR [] (By [] xs) ob.length r fob'):=rfl
theorem RF {ob:List Ob} {xs:List SV} {sel:List Nat} {r:SV} {fob':List Ob} {n:Nat}:Jq ob xs sel (some (r,fob')) n=bif decide (n≤fob'.length) then some (DR sel (By sel xs) ob.length r fob') else none:=rfl
theorem Va {hd:List Bool} {f:FuncId} {xs:List SV} {ob:List Ob} {sel:List Nat} {fob:List Ob} {e:List SV→List Ob→Option (SV × List Ob)}:UQ hd f xs ob sel e (some fob)=bif Fc sel&&H8 ob.length sel&&F3 fob.length fob then Jq ob xs sel (e (EY hd (Au ob) sel xs) fob) fob.length else none:=rfl
theorem Mv {p:Nat} {r:SV}:DR [] [] p r []=(r.ren (sgp [] p),[],[]):=rfl
def I5 {α:Type} (n0:Nat) (keep:List Nat) (H:α→St) (R:α→Prop) (μ:α→Nat) (a:α) (K:X→St→Prop):X→St→Prop
 | .normal,st'=>∃ y,R y∧μ y < μ a∧canon n0 keep st'=H y
 | .exit i,st'=>K (.exit i) st'
 | .ret,st'=>K .ret st'
theorem OK {α:Type} {keep:List Nat} {H:α→St} {R:α→Prop} {μ:α→Nat} {a:α} {st':St}:I5 n0 keep H R μ a K .normal st'=∃ y,R y∧μ y < μ a∧canon n0 keep st'=H y:=rfl
theorem OL {α:Type} {keep:List Nat} {H:α→St} {R:α→Prop} {μ:α→Nat} {a:α} {i:Nat} {st':St}:I5 n0 keep H R μ a K (.exit i) st'=K (.exit i) st':=rfl
theorem OM {α:Type} {keep:List Nat} {H:α→St} {R:α→Prop} {μ:α→Nat} {a:α} {st':St}:I5 n0 keep H R μ a K .ret st'=K .ret st':=rfl
theorem go_loop {α:Type} {keep:List Nat} {b:SC} (H:α→St) (R:α→Prop) (μ:α→Nat) (a0:α) (hR:R a0) (h0:canon n0 keep st=H a0) (round:∀ a,R a→go n0 b (H a) (I5 n0 keep H R μ a K)):go n0 (.loop keep b) st K:=by
 have key:∀ (n:Nat) (a:α) (st:St),μ a≤n→R a→canon n0 keep st=H a→∃ x st',O8 n0 keep (run n0 b) st=some (x,st')∧K x st':=by
  intro n
  induction n with
  | zero =>
   intro a st hn hR hc
   obtain ⟨x,st',h,k⟩:=round a hR
   cases x with
   | normal =>
    obtain ⟨y,_,h2,_⟩:=k
    omega
   | exit i=>exact ⟨_,st',by rw [Eh,hc,h]; rfl,k⟩
   | ret=>exact ⟨_,st',by rw [Eh,hc,h]; rfl,k⟩
  | succ n ih =>
   intro a st hn hR hc
   obtain ⟨x,st',h,k⟩:=round a hR
   cases x with
   | normal =>
    obtain ⟨y,h1,h2,h3⟩:=k
    obtain ⟨x2,st2,h4,k2⟩:=ih y st' (by omega) h1 h3
    exact ⟨x2,st2,by rw [Eh,hc,h]; exact h4,k2⟩
   | exit i=>exact ⟨_,st',by rw [Eh,hc,h]; rfl,k⟩
   | ret=>exact ⟨_,st',by rw [Eh,hc,h]; rfl,k⟩
 exact key (μ a0) a0 st (zU _) hR h0
def Ho (n0:Nat) (keep keepO:List Nat) (H:EL→St) (F:X × St) (p:EL):X→St→Prop
 | .normal,st'=>canon n0 keep st'=H p
 | .exit i,st'=>F=(.exit i,canon n0 keepO st')
 | .ret,st'=>F=(.ret,canon n0 keepO st')
def Q5 (n0:Nat) (keepO:List Nat) (F:X × St):X→St→Prop
 | .normal,_=>False
 | .exit i,st'=>F=(.exit i,canon n0 keepO st')
 | .ret,st'=>F=(.ret,canon n0 keepO st')
theorem Mw {keep keepO:List Nat} {H:EL→St} {F:X × St} {p:EL} {st':St}:Ho n0 keep keepO H F p .normal st'=(canon n0 keep st'=H p):=rfl
theorem My {keep keepO:List Nat} {H:EL→St} {F:X × St} {p:EL} {i:Nat} {st':St}:Ho n0 keep keepO H F p (.exit i) st'=(F=(.exit i,canon n0 keepO st')):=rfl
theorem Mz {keep keepO:List Nat} {H:EL→St} {F:X × St} {p:EL} {st':St}:Ho n0 keep keepO H F p .ret st'=(F=(.ret,canon n0 keepO st')):=rfl
theorem RG {keepO:List Nat} {F:X × St} {i:Nat} {st':St}:Q5 n0 keepO F (.exit i) st'=(F=(.exit i,canon n0 keepO st')):=rfl
theorem RH {keepO:List Nat} {F:X × St} {st':St}:Q5 n0 keepO F .ret st'=(F=(.ret,canon n0 keepO st')):=rfl
end
def slots:Nat→Nat→List (Nat × SV)→List SV
 | 0,_,_=>[]
 | n+1,k,[]=>.any :: slots n (k+1) []
 | n+1,k,(j,x) :: r=>bif j == k then x :: slots n (k+1) r else .any :: slots n (k+1) ((j,x) :: r)
def To (res:RM) (n0:Nat) (rs:List RX) (out:SV × List Ob) (x:X) (st:St):Prop:=fin res n0 rs x st=some out
def Vb (res:RM) (n0:Nat) (r:Option (SV × List Ob)):Option (SV × List Ob) :=
 match r with
 | some (r,ob)=>order res n0 r ob
 | none=>none
def Ly (res:RM) (n0:Nat) (ob:List Ob) (r:Option SV):Option (SV × List Ob) :=
 match r with
 | some r0=>Vb res n0 (gc n0 r0 ob)
 | none=>none
theorem Vd {res:RM} {n0:Nat} {rs:List RX} {out:SV × List Ob} {sl:List SV} {ob:List Ob}:To res n0 rs out .ret ⟨sl,ob⟩=(Ly res n0 ob (Mf ⟨sl,ob⟩ rs)=some out):=rfl
theorem Ve {res:RM} {n0:Nat} {rs:List RX} {out:SV × List Ob} {sl:List SV} {ob:List Ob}:To res n0 rs out .normal ⟨sl,ob⟩=(Ly res n0 ob (Mf ⟨sl,ob⟩ rs)=some out):=rfl
theorem RI {res:RM} {n0:Nat} {ob:List Ob} {r:SV}:Ly res n0 ob (some r)=Vb res n0 (gc n0 r ob):=rfl
theorem Vf {n0:Nat} {r:SV} {ob:List Ob} {res:RM}:Vb res n0 (some (r,ob))=order res n0 r ob:=rfl
theorem Ai {f:FuncId} {fc:FC} {hand:List Bool} {res:RM} {tr:Bool} {xs:List SV} {ob:List Ob} {out:SV × List Ob} (hc:At Tryz.prog f=some fc) (hr:modes f=⟨hand,res,none,tr⟩) (hn:xs.length≤fc.nt) (h:go ob.length (Gi res fc.sc) ⟨xs++Jf (fc.nt-xs.length),entry tr ob⟩ (To res ob.length fc.rs out)):E f xs ob=some out:=by
 obtain ⟨x,st',h1,h2⟩:=h
 unfold E
 rw [Yr]
 unfold G9
 rw [hc,hr]
 simp only
 rw [decide_eq_true hn,cond_true]
 have h1:fr Tryz.prog (CU modes (ev Tryz.prog modes)) (I1 ob.length) (Gi res fc.sc) ⟨xs++Jf (fc.nt-xs.length),entry tr ob⟩=some (x,st'):=h1
 rw [h1]
 exact h2
end Wd
theorem OS:∀ {xs:List ByteArray} {n m:ByteArray},m∈CQ xs n ↔ m∈xs∨m=n
 | [],n,m=>by simp [CQ]
 | x :: xs,n,m=>by
  rw [CQ]
  cases strLt x n with
  | true=>rw [cond_true,zH,OS,zH,or_assoc]
  | false =>
   rw [cond_false]
   by_cases h:x=n
   ·rw [Ar h,cond_true]
    exact ⟨.inl,fun h'=>h'.elim id fun e=>by subst e; subst h; simp⟩
   ·rw [Aj h,cond_false,zH]
    exact or_comm
theorem OU:∀ (xs:List ByteArray) (n:ByteArray),(CQ xs n).length≤xs.length+1
 | [],n=>by simp [CQ]
 | x :: xs,n=>by
  have h:=OU xs n
  rw [CQ]
  cases strLt x n with
  | true=>simp only [cond_true,zM]; omega
  | false =>
   rw [cond_false]
   cases dec (x=n) with
   | true=>simp only [cond_true,zM]; omega
   | false=>simp only [cond_false,zM]; omega
theorem Wt:∀ (xs:List ByteArray) (n:ByteArray),CC xs n≤xs.length
 | [],n=>by simp [CC]
 | x :: xs,n=>by
  have h:=Wt xs n
  rw [CC]
  cases strLt x n with
  | true=>simp only [cond_true,zM]; omega
  | false=>simp only [cond_false,zM]; omega
theorem I9:∀ {xs:List ByteArray} {n:ByteArray} (h:CC xs n<xs.length),xs[CC xs n]=n→CQ xs n=xs
 | [],n,h,_=>by simp at h
 | x :: xs,n,h,e=>by
  rw [CQ]
  cases hq:strLt x n with
  | true =>
   simp only [CC,hq,cond_true,zM,z6] at h e
   rw [cond_true,I9 (by omega) e]
  | false =>
   simp only [CC,hq,cond_false,zW] at e
   rw [cond_false,Ar e]; rfl
theorem EH:∀ {xs:List ByteArray} {n:ByteArray},(∀ h:CC xs n<xs.length,¬ xs[CC xs n]=n)→CQ xs n=xs.take (CC xs n)++n :: xs.drop (CC xs n)
 | [],n,_=>by simp [CQ,CC]
 | x :: xs,n,h=>by
  rw [CQ]
  cases hq:strLt x n with
  | true =>
   simp only [CC,hq,cond_true,zM,z6] at h ⊢
   rw [EH fun h'=>h (by omega)]
   simp
  | false =>
   simp only [CC,hq,cond_false,zW] at h ⊢
   rw [Aj (h (by simp))]
   simp
theorem QF {xs:List ByteArray} {n:ByteArray} {k:Nat} (h:k+CC (xs.drop k) n=CC xs n) (hk:k<xs.length):(strLt xs[k] n=true∧k+1+CC (xs.drop (k+1)) n=CC xs n)∨(strLt xs[k] n=false∧k=CC xs n):=by
 rw [zG hk,CC] at h
 cases hq:strLt xs[k] n with
 | true=>rw [hq,cond_true] at h; exact .inl ⟨rfl,by omega⟩
 | false=>rw [hq,cond_false] at h; exact .inr ⟨rfl,by omega⟩
theorem ot_take (xs:List ByteArray) (k:Nat):((xs.map fun s=>[D.str s]).take k).map (fun x=>x.map D.ot)=(xs.take k).map fun s=>[OT.str s]:=by
 rw [←List.map_take,yL]; rfl
theorem ot_drop (xs:List ByteArray) (k:Nat):((xs.map fun s=>[D.str s]).drop k).map (fun x=>x.map D.ot)=(xs.drop k).map fun s=>[OT.str s]:=by
 rw [←List.map_drop,yL]; rfl
theorem CW (xs:List ByteArray):((xs.map fun s=>[OT.str s]).all fun l=>l.length == 1)=true:=by
 rw [List.all_map,yA]
 intro x _; rfl
theorem EI (xs:List ByteArray):((xs.map fun s=>[D.str s]).all fun l=>l.length == 1)=true:=by
 rw [List.all_map,yA]
 intro x _; rfl
namespace Wd
attribute [local go_sem] pfx FJ Jl OT.C3 OT.Jk OT.half UU Wj EY Ql SV.isNil Ob.idsB SV.idsB SV.Lo List.getElem?_cons_zero yQ OT.AA OT.C1 OT.full entry toTree ST Qt SS FY G0 E9 VV NS Us OT.erss OT.ers OT.er OT.Cg OT.DF OT.noSh quiet obB P4 Gq meets It go_skip R5 go_ret UC R6 UD OF R7 R8 R9 UE UF UG Y1 Y2 Y3 RA RB OG Ms RC OH Mt RD UJ UK Y4 UL UM UN Y5 UO UP OJ UR US UT UV UW UX UY UZ Ou Qp CO seen Mu KO RE RF Va Mv DR OK OL OM Vd Ve RI Vf order opF fOp Fd SH Yh SF SG VU Iw eqK A8 gets Au Oh Ew De KB Ny AR SL SV.cellsN SV.one Ja splice DZ Rn IZ Kd DE BR Cp BN Hj HO Su eOp.mkEs eOp.addS D.sv OT.sv D.ot H6 Fc reach SV.refs SV.Or SV.ptrs SV.Ot Ob.refs Ob.liveB FI Eo SV.back SV.Lq Ob.back H5 HT CH By B8 H8 F3 SV.ren SV.KD Ob.ren mkU sgp gc Lr names KI VZ Wa Wb Mj WZ We Wg Wh Wi Wk Wl SC.mark O1 FK slots Mf SA rxV Jf Qo SV.noSh SV.Ln Ob.noSh SV.own SV.P6 FX cond_true cond_false zM yC zB zO yZ zN List.drop_nil yO y2 List.take_nil xG yP yU xA List.all_nil List.getD_cons_zero List.getD_cons_succ yV List.any_nil List.contains_cons List.contains_nil List.isEmpty_nil List.isEmpty_cons List.flatten_cons List.flatten_nil y0 List.replicate_zero y3 List.set_cons_succ yK yB zU zP zQ xB zF Bool.or_false xJ Bool.true_or Bool.or_true Bool.not_true Bool.not_false y4 yR decide_true decide_false beq_self_eq_true if_true if_false yY Option.map_none zD yF Option.getD_none y7 true_and and_true and_self eq_self_iff_true zR Bool.false_eq_true Bool.true_eq_false zI SV.int.injEq SV.bool.injEq SV.str.injEq SV.agg.injEq SV.tup.injEq SV.arr.injEq List.cons.injEq St.mk.injEq Int.zero_add Y6 Y7 B9 Ar Aj Qbk svK svD WN svM MV.sv Ss SJ Oq SK Fb St.app P7 MK.sv Mw My Mz RG RH mode
def IA:SC:=(.seq (.reg [⟨some 4,none,.mv (.c .nil)⟩]) (.seq (.reg [⟨some 5,none,.mv (.c (.int .i64 0))⟩]) (.seq (.block 0 (.loop [1,1,0,0,0,1,0,0,0,0,0,0,0,0,0,0,0,0,0,0,0,0,0,0,0,0,0,0,0,0,0,0,0,0,0,0,0,0,0,0,0,0,0,0,0] (.seq (.seq (.reg [⟨some 6,none,.mv (.t 5)⟩,⟨some 7,none,.mv (.t 0)⟩,⟨some 8,none,.len false (.t 7)⟩,⟨some 9,none,.bin .lss false (.t 6) (.t 8)⟩,⟨some 10,none,.mv (.t 9)⟩,⟨(some 11),(some (10,true)),(.mv (.t 0))⟩,⟨(some 12),(some (10,true)),(.mv (.t 5))⟩,⟨(some 13),(some (10,true)),(.iaddr 1 (.t 11) (.t 12))⟩,⟨(some 14),(some (10,true)),(.load false 1 (.t 13))⟩,⟨(some 15),(some (10,true)),(.mv (.t 1))⟩,⟨(some 16),(some (10,true)),(.bin .lss false (.t 14) (.t 15))⟩,⟨some 17,none,.pick (.t 10) (.t 16) (.c (.bool false))⟩]) (.cond (.t 17) .skip (.exit 0))) (.block 1 (.reg [⟨some 18,none,.mv (.t 5)⟩,⟨some 19,none,.bin .add false (.t 18) (.c (.int .i64 1))⟩,⟨some 5,none,.mv (.t 19)⟩]))))) (.seq (.seq (.reg [⟨some 20,none,.mv (.t 5)⟩,⟨some 21,none,.mv (.t 0)⟩,⟨some 22,none,.len false (.t 21)⟩,⟨some 23,none,.bin .lss false (.t 20) (.t 22)⟩,⟨some 24,none,.mv (.t 23)⟩,⟨(some 25),(some (24,true)),(.mv (.t 0))⟩,⟨(some 26),(some (24,true)),(.mv (.t 5))⟩,⟨(some 27),(some (24,true)),(.iaddr 1 (.t 25) (.t 26))⟩,⟨(some 28),(some (24,true)),(.load false 1 (.t 27))⟩,⟨(some 29),(some (24,true)),(.mv (.t 1))⟩,⟨(some 30),(some (24,true)),(.bin .eql false (.t 28) (.t 29))⟩,⟨some 31,none,.pick (.t 24) (.t 30) (.c (.bool false))⟩]) (.cond (.t 31) (.seq (.reg [⟨some 32,none,.mv (.t 0)⟩,⟨some 4,none,.mv (.t 32)⟩]) .ret) .skip)) (.seq (.dreg [[],[],[],[1,2],[0,3,1,2],[],[5],[4,0,3,1,2,6,5],[],[],[8,9],[7,4,0,3,1,2,6,5,10,8,9],[11,7,4,0,3,1,2,6,5,10,8,9]] [⟨(some 33),none,(.mkrow 9 1 [(.str ⟨#[]⟩)] 0 [])⟩,⟨some 34,none,.mv (.t 0)⟩,⟨some 35,none,.mv (.t 5)⟩,⟨some 36,none,.slice false 1 (.t 34) none (some (.t 35))⟩,⟨(some 37),none,(.append 9 1 16 [(.str ⟨#[]⟩)] (.t 33) (.t 36))⟩,⟨some 38,none,.mv (.t 1)⟩,⟨(some 39),none,(.mkrow 9 1 [(.str ⟨#[]⟩)] 1 [(0,(.t 38))])⟩,⟨(some 40),none,(.append 9 1 16 [(.str ⟨#[]⟩)] (.t 37) (.t 39))⟩,⟨some 41,none,.mv (.t 0)⟩,⟨some 42,none,.mv (.t 5)⟩,⟨some 43,none,.slice false 1 (.t 41) (some (.t 42)) none⟩,⟨(some 44),none,(.append 9 1 16 [(.str ⟨#[]⟩)] (.t 40) (.t 43))⟩,⟨some 4,none,.mv (.t 44)⟩]) .ret)))))
theorem L8:At Tryz.prog 180=some ⟨45,IA,[(.tmp 4)]⟩:=by kernel_rfl
theorem Dm:modes 180=⟨[],.asis,none,false⟩:=rfl
theorem Qat {xs:List ByteArray} {k:Nat} (h:k<xs.length):(xs.map fun s=>[OT.str s])[k]?=some [OT.str xs[k]]:=by rw [y5,zS h]; rfl
theorem l2PutN_E (xs:List ByteArray) (n:ByteArray) (hl:xs.length≤1048576) (hg:xs.length<(CQ xs n).length):E 180 [.arr (xs.map fun s=>[D.str s]),.str n] []=some (.ref 0,[.row 9 1 ((CQ xs n).map fun s=>[OT.str s])]):=by
 have e1:=ot_take xs (CC xs n)
 have e2:=ot_drop xs (CC xs n)
 have e3:=CW (xs.take (CC xs n))
 have e4:=CW (xs.drop (CC xs n))
 have e5:=EI xs
 have l1:=Wt xs n
 have e6:(xs.map fun s=>[D.str s]).take xs.length=xs.map fun s=>[D.str s]:=List.take_of_length_le (by simp)
 have e7:(xs.take (CC xs n)).length=CC xs n:=by rw [xC]; omega
 have e8:(xs.drop (CC xs n)).length=xs.length-CC xs n:=List.length_drop
 refine Ai L8 Dm (of_decide_eq_true rfl) ?_
 simp (disch:=omega) only [IA,go_sem,Ab]
 refine go_loop (α:=Int) (fun a=>⟨slots 45 0 [(0,.arr (xs.map fun s=>[D.str s])),(1,.str n),(5,.int .i64 a)],[]⟩) (fun a=>∃ k:Nat,a=k∧k≤(xs).length∧k+CC (xs.drop k) n=CC xs n) (fun a=>(xs).length-(a).toNat) 0 ⟨0,rfl,zP _,by rw [zN,yB]⟩ (by simp (disch:=omega) only [go_sem,Ab]) ?_
 rintro i ⟨k,hi,hk,hR⟩
 have hni:i.toNat=k:=by omega
 have hni1:(i+1).toNat=k+1:=by omega
 rcases zE k (xs).length with hlt | hge
 ·have hg':=get_at (fun s=>[D.str s]) hlt
  rcases QF hR hlt with ⟨q,hR'⟩ | ⟨q,hk'⟩
  ·simp (disch:=omega) only [go_sem,Ab,hni,hg',q]
   exact ⟨i+1,⟨k+1,by omega,hlt,hR'⟩,by omega,by first | trivial | rfl⟩
  ·subst hk'
   by_cases h0:xs[CC xs n]=n
   ·have hi0:=I9 hlt h0
    rw [hi0] at hg
    exact absurd hg (Nat.lt_irrefl _)
   ·have hi0:=EH (fun _=>h0)
    have hx2:(xs.take (CC xs n)).map (fun s=>[OT.str s])++[[OT.str n]]++(xs.drop (CC xs n)).map (fun s=>[OT.str s])=(CQ xs n).map fun s=>[OT.str s]:=by rw [hi0]; simp
    simp (disch:=omega) only [go_sem,Ab,hni,hg',q,h0,e1,e2,e3,e4,e5,e6,e7,e8,hx2,z8,xI]
 ·obtain rfl:k=xs.length:=by omega
  have hk':xs.length=CC xs n:=by rw [←hR,zL (zU _)]; simp [CC]
  have hi0:=EH (xs:=xs) (n:=n) (fun h=>by omega)
  have hx2:(xs.take (CC xs n)).map (fun s=>[OT.str s])++[[OT.str n]]++(xs.drop (CC xs n)).map (fun s=>[OT.str s])=(CQ xs n).map fun s=>[OT.str s]:=by rw [hi0]; simp
  rw [hk'] at hni
  simp (disch:=omega) only [go_sem,Ab,hni,e1,e2,e3,e4,e5,e6,e7,e8,hx2,z8,xI]
theorem l2PutT_E (xs:List ByteArray) (n:ByteArray) (hl:xs.length≤1048576) (hg:¬ xs.length<(CQ xs n).length):E 180 [.ref 0,.str n] [.row 9 1 (xs.map fun s=>[OT.str s])]=some (.ref 0,[.row 9 1 (xs.map fun s=>[OT.str s])]):=by
 refine Ai L8 Dm (of_decide_eq_true rfl) ?_
 simp (disch:=omega) only [IA,go_sem,Ab]
 refine go_loop (α:=Int) (fun a=>⟨slots 45 0 [(0,.ref 0),(1,.str n),(5,.int .i64 a)],[.row 9 1 (xs.map fun s=>[OT.str s])]⟩) (fun a=>∃ k:Nat,a=k∧k≤(xs).length∧k+CC (xs.drop k) n=CC xs n) (fun a=>(xs).length-(a).toNat) 0 ⟨0,rfl,zP _,by rw [zN,yB]⟩ (by simp (disch:=omega) only [go_sem,Ab]) ?_
 rintro i ⟨k,hi,hk,hR⟩
 have hni:i.toNat=k:=by omega
 have hni1:(i+1).toNat=k+1:=by omega
 rcases zE k (xs).length with hlt | hge
 ·have hg':=Qat hlt
  rcases QF hR hlt with ⟨q,hR'⟩ | ⟨q,hk'⟩
  ·simp (disch:=omega) only [go_sem,Ab,hni,hg',q]
   exact ⟨i+1,⟨k+1,by omega,hlt,hR'⟩,by omega,by first | trivial | rfl⟩
  ·subst hk'
   by_cases h0:xs[CC xs n]=n
   ·simp (disch:=omega) only [go_sem,Ab,hni,hg',q,h0,I7,Y8]
   ·have hi0:=EH (fun _=>h0)
    refine absurd ?_ hg
    rw [hi0]; simp; omega
 ·obtain rfl:k=xs.length:=by omega
  have hk':xs.length=CC xs n:=by rw [←hR,zL (zU _)]; simp [CC]
  have hi0:=EH (xs:=xs) (n:=n) (fun h=>by omega)
  refine absurd ?_ hg
  rw [hi0]; simp; omega
end Wd
theorem Dm:modes 180=⟨[true],.asis,some Mq,false⟩:=by unfold modes; rfl
theorem Tv (xs:List ByteArray) (n:ByteArray) (hl:xs.length≤1048576):E 180 [.ref 0,.str n] [.row 9 1 (xs.map fun s=>[OT.str s])]=some (bif dec (xs.length<(CQ xs n).length) then .ref 1 else .ref 0,bif dec (xs.length<(CQ xs n).length) then [.gone,.row 9 1 ((CQ xs n).map fun s=>[OT.str s])] else [.row 9 1 (xs.map fun s=>[OT.str s])]):=by
 rw [KP (g:=Mq) (congrArg FM.ext Dm)]
 unfold Mq
 simp only [Yw]
 rw [Ar ⟨trivial,fun h=>(FunD.toFun (Wd.E_told (Wd.l2PutT_E xs n hl h))),fun h=>FunD.toFun (Wd.E_told (Wd.l2PutN_E xs n hl h))⟩,cond_true]
 cases dec (xs.length<(CQ xs n).length) <;> rfl
theorem QG (xs:List ByteArray) (n:ByteArray):xs.length≤(CQ xs n).length:=by
 rcases zE (CC xs n) xs.length with h | h
 ·by_cases h0:xs[CC xs n]=n
  ·rw [I9 h h0]; exact zU _
  ·rw [EH (fun _=>h0)]; simp; omega
 ·rw [EH (fun h'=>by omega)]; simp; omega
theorem QH {xs:List ByteArray} {n:ByteArray} (h:(CQ xs n).length≤xs.length):CQ xs n=xs:=by
 rcases zE (CC xs n) xs.length with h1 | h1
 ·by_cases h0:xs[CC xs n]=n
  ·exact I9 h1 h0
  ·rw [EH (fun _=>h0)] at h
   simp at h
   omega
 ·rw [EH (fun h'=>by omega)] at h
  simp at h
  omega
noncomputable def C2 (l ns:List ByteArray):List ByteArray:=ns.foldl CQ l
theorem DK:∀ (ns l:List ByteArray),(C2 l ns).length≤l.length+ns.length
 | [],l=>by simp [C2]
 | n :: ns,l=>by
  have h:=DK ns (CQ l n)
  have h2:=OU l n
  simp only [C2,z7,zM] at h ⊢
  omega
theorem Tw:∀ {ns l:List ByteArray} {m:ByteArray},m∈C2 l ns ↔ m∈l∨m∈ns
 | [],l,m=>by simp [C2]
 | n :: ns,l,m=>by
  have h:=Tw (ns:=ns) (l:=CQ l n) (m:=m)
  simp only [C2,z7] at h ⊢
  rw [h,OS]
  simp only [zH]
  exact or_assoc
theorem OV (l a b:List ByteArray):C2 l (a++b)=C2 (C2 l a) b:=y9
def F5:SC:=(.seq (.reg [⟨some 3,none,.boxv 26 2 (.t 1)⟩,⟨some 4,none,.mv (.c .nil)⟩]) (.seq (.seq (.reg [⟨some 6,none,.faddr 0 (.t 3)⟩,⟨some 7,none,.load false 1 (.t 6)⟩,⟨some 8,none,.call 176 [(.t 7)]⟩]) (.cond (.t 8) (.seq (.reg [⟨some 9,none,.mv (.t 0)⟩,⟨some 10,none,.faddr 0 (.t 3)⟩,⟨some 11,none,.load false 1 (.t 10)⟩,⟨some 12,none,.call 180 [(.t 9),(.t 11)]⟩,⟨some 4,none,.mv (.t 12)⟩]) .ret) .skip)) (.seq (.seq (.reg [⟨some 5,none,.mv (.c (.int .i64 0))⟩]) (.block 0 (.loop [1,0,0,1,0,1,0,0,0,0,0,0,0,0,0,0,0,0,0,0,0,0,0,0,0,0,0,0] (.seq (.seq (.reg [⟨some 13,none,.mv (.t 5)⟩,⟨some 14,none,.faddr 1 (.t 3)⟩,⟨some 15,none,.load false 1 (.t 14)⟩,⟨some 16,none,.len false (.t 15)⟩,⟨some 17,none,.bin .lss false (.t 13) (.t 16)⟩]) (.cond (.t 17) .skip (.exit 0))) (.seq (.block 1 (.reg [⟨some 20,none,.mv (.t 0)⟩,⟨some 21,none,.faddr 1 (.t 3)⟩,⟨some 22,none,.load false 1 (.t 21)⟩,⟨some 23,none,.mv (.t 5)⟩,⟨some 24,none,.iaddr 2 (.t 22) (.t 23)⟩,⟨some 25,none,.load true 2 (.t 24)⟩,⟨some 26,none,.call 225 [(.t 20),(.t 25)]⟩,⟨some 0,none,.mv (.t 26)⟩])) (.reg [⟨some 18,none,.mv (.t 5)⟩,⟨some 19,none,.bin .add false (.t 18) (.c (.int .i64 1))⟩,⟨some 5,none,.mv (.t 19)⟩])))))) (.seq (.reg [⟨some 27,none,.mv (.t 0)⟩,⟨some 4,none,.mv (.t 27)⟩]) .ret))))
theorem HD:At Tryz.prog 225=some ⟨28,F5,[(.tmp 4)]⟩:=by kernel_rfl
theorem D1:modes 225=⟨[true],.asis,none,false⟩:=by unfold modes; rfl
def HE:SC:=(.seq (.reg [⟨some 1,none,.boxv 26 2 (.t 0)⟩,⟨some 2,none,.mv (.c .nil)⟩]) (.seq (.reg [⟨(some 3),none,(.mkrow 9 1 [(.str ⟨#[]⟩)] 0 [])⟩,⟨some 4,none,.load true 2 (.t 1)⟩,⟨some 5,none,.call 225 [(.t 3),(.t 4)]⟩,⟨some 2,none,.mv (.t 5)⟩]) .ret))
theorem Kp:At Tryz.prog 179=some ⟨6,HE,[(.tmp 2)]⟩:=by kernel_rfl
theorem HF:modes 179=⟨[],.frz,none,false⟩:=by unfold modes; rfl
theorem JS:∀ (ns l:List ByteArray),l.length≤(C2 l ns).length
 | [],l=>zU _
 | n :: ns,l=>by
  have h:=JS ns (CQ l n)
  have h2:=QG l n
  simp only [C2,z7] at h ⊢
  omega
abbrev YK (x:Tm):Prop:=∀ l:List ByteArray,l.length+x.nodes≤1048576→E 225 [.ref 0,x.sv] [.row 9 1 (l.map fun s=>[OT.str s])]=some ((bif dec (l.length<(C2 l x.vs).length) then .ref 1 else .ref 0),(bif dec (l.length<(C2 l x.vs).length) then [.gone,.row 9 1 ((C2 l x.vs).map fun s=>[OT.str s])] else [.row 9 1 ((C2 l x.vs).map fun s=>[OT.str s])]))
theorem Xw (x:Tm) (ih:∀ y∈x.args,YK y):YK x:=by
 intro l hn
 have hl:=Tm.length_le x.args
 have hne:=Tm.nodes_eq x
 have hvs:=Tm.QD x
 have hp:=Tv l x.name (by omega)
 have hxs:x.sv=.agg [.str x.name,.arr (x.args.map Tm.d)]:=rfl
 cases hvv:AS x.name with
 | true =>
  rw [hvv] at hvs
  have e:C2 l x.vs=CQ l x.name:=by rw [hvs]; rfl
  rw [e]
  rcases zE l.length (CQ l x.name).length with q | q
  all_goals
   first
    |rw [Ar q] at hp ⊢
    |rw [Aj (xE.2 q)] at hp ⊢
   simp only [cond_true,cond_false] at hp ⊢
  ·refine Ai HD D1 (of_decide_eq_true rfl) ?_
   simp (disch:=omega) only [F5,go_sem,Ab,hvv,hp,Al,DB,Dm]
  ·have e2:CQ l x.name=l:=QH q
   rw [e2]
   refine Ai HD D1 (of_decide_eq_true rfl) ?_
   simp (disch:=omega) only [F5,go_sem,Ab,hvv,hp,Al,DB,Dm]
 | false =>
  rw [hvv] at hvs
  simp only [cond_false] at hvs
  rw [hvs]
  have hgl:dec (l.length < l.length)=false:=Aj (by omega)
  refine Ai HD D1 (of_decide_eq_true rfl) ?_
  simp (disch:=omega) only [F5,go_sem,Ab,hvv,Al,DB]
  refine go_loop (α:=Int × (List ByteArray)) (fun a=>⟨slots 28 0 [(0,(bif dec (l.length < (a.2).length) then .ref 1 else .ref 0)),(3,(bif dec (l.length < (a.2).length) then .ptr 2 0 else .ptr 1 0)),(5,.int .i64 (a.1))],(bif dec (l.length < (a.2).length) then [.gone,.row 9 1 ((a.2).map fun s=>[OT.str s]),.box 26 [.str x.name,.arr (x.args.map Tm.d)]] else [.row 9 1 ((a.2).map fun s=>[OT.str s]),.box 26 [.str x.name,.arr (x.args.map Tm.d)]])⟩) (fun a=>∃ k:Nat,a.1=k∧k≤(x.args).length∧C2 (a.2) (Tm.vsL (x.args.drop k))=C2 l (Tm.vsL x.args)∧(a.2).length+Tm.nodeS (x.args.drop k)≤1048576∧l.length≤(a.2).length) (fun a=>(x.args).length - (a.1).toNat) (0,l) ⟨0,rfl,zP _,by rw [zN],by rw [zN]; dsimp only; omega,zU _⟩ (by simp (disch:=omega) only [go_sem,Ab,hgl]) ?_
  rintro ⟨i,acc⟩ ⟨k,hi,hk,hR⟩
  dsimp only at hi hR
  have hni:i.toNat=k:=by omega
  have hni1:(i+1).toNat=k+1:=by omega
  rcases zE k (x.args).length with hlt | hge
  ·have hg:=get_at Tm.d hlt
   rw [Tm.d_eq] at hg
   obtain ⟨hR1,hR2,hR3⟩:=hR
   rw [zG hlt,Tm.vsL,OV] at hR1
   rw [zG hlt,Tm.nodeS] at hR2
   have hc:=ih x.args[k] (zJ hlt) acc (by omega)
   have hlen:=DK x.args[k].vs acc
   have hgr:=JS x.args[k].vs acc
   have hvl:=Tm.KU x.args[k]
   obtain ⟨acc2,ha2⟩:∃ a,a=C2 acc x.args[k].vs:=⟨_,rfl⟩
   rw [←ha2] at hc hlen hgr hR1
   rcases zE l.length acc.length with q1 | q1 <;> rcases zE acc.length acc2.length with q2 | q2
   all_goals
    first
     |rw [Ar q2] at hc
     |rw [Aj (xE.2 q2)] at hc
    simp only [cond_true,cond_false] at hc
    first
     |have d1:=Ar q1
     |have d1:=Aj (xE.2 q1)
    first
     |have d2:dec (l.length < acc2.length)=true:=Ar (by omega)
     |have d2:dec (l.length < acc2.length)=false:=Aj (by omega)
    simp (disch:=omega) only [go_sem,Ab,hni,hg,hc,d1,D1]
    refine ⟨(i+1,acc2),⟨k+1,by dsimp only; omega,hlt,hR1,by dsimp only; omega,by dsimp only; omega⟩,by dsimp only; omega,?_⟩
    first | done | simp (disch:=omega) only [go_sem,Ab,d2]
  ·rw [zL hge,Tm.vsL] at hR
   obtain ⟨hR1,hR2,hR3⟩:=hR
   have hR1:acc=C2 l (Tm.vsL x.args):=hR1
   rw [←hR1]
   rcases zE l.length acc.length with q1 | q1
   ·have d1:=Ar q1
    simp (disch:=omega) only [go_sem,Ab,hni,d1]
   ·have d1:=Aj (xE.2 q1)
    simp (disch:=omega) only [go_sem,Ab,hni,d1]
theorem Tx (x:Tm):YK x:=Xw x fun y hy=>Tx y
termination_by SizeOf.sizeOf x
decreasing_by exact Tm.lt_of_mem hy
theorem YL (x:Tm) (hn:x.nodes≤1048576):E 179 [x.sv] []=some (.arr ((C2 [] x.vs).map fun s=>[D.str s]),[]):=by
 have h:=Tx x [] (by simpa using hn)
 rw [zO,yC] at h
 obtain ⟨ns,hns⟩:∃ ns,ns=C2 [] x.vs:=⟨_,rfl⟩
 rw [←hns] at h ⊢
 rcases zE 0 ns.length with q | q
 ·rw [Ar q] at h
  simp only [cond_true] at h
  refine Ai Kp HF (of_decide_eq_true rfl) ?_
  simp (disch:=omega) only [HE,go_sem,Ab,h,D1]
 ·have e:ns=[]:=zC (by omega)
  subst e
  rw [Aj (by simp)] at h
  simp only [cond_false,zO] at h
  refine Ai Kp HF (of_decide_eq_true rfl) ?_
  simp (disch:=omega) only [HE,go_sem,Ab,h,D1]
theorem OW:∀ x y:List UInt8,Op.bytesLess x y=true→Op.bytesLess y x=false
 | [],[],h=>by simp [Op.bytesLess] at h
 | [],_ :: _,_=>rfl
 | _ :: _,[],h=>by simp [Op.bytesLess] at h
 | a :: x,b :: y,h=>by
  simp only [Op.bytesLess,yE,decide_eq_true_eq,zA,beq_iff_eq] at h
  simp only [Op.bytesLess,Bool.or_eq_false_iff,decide_eq_false_iff_not]
  rcases h with h | ⟨rfl,h⟩
  ·have h2:¬ b<a:=by intro h3; exact absurd (UInt8.lt_trans h h3) (UInt8.lt_irrefl _)
   have h3:(b == a)=false:=by
    rw [beq_eq_false_iff_ne]; rintro rfl; exact UInt8.lt_irrefl _ h
   exact ⟨h2,by rw [h3]; rfl⟩
  ·exact ⟨UInt8.lt_irrefl _,by rw [OW x y h]; simp⟩
theorem OX:∀ x y:List UInt8,Op.bytesLess x y=false→Op.bytesLess y x=false→x=y
 | [],[],_,_=>rfl
 | [],_ :: _,h,_=>by simp [Op.bytesLess] at h
 | _ :: _,[],_,h=>by simp [Op.bytesLess] at h
 | a :: x,b :: y,h,k=>by
  simp only [Op.bytesLess,Bool.or_eq_false_iff,decide_eq_false_iff_not] at h k
  have hab:a=b:=by
   have h1:=h.1; have h2:=k.1
   rw [UInt8.lt_iff_toNat_lt] at h1 h2
   exact UInt8.toNat_inj.1 (by omega)
  subst hab
  have h1:Op.bytesLess x y=false:=by simpa using h.2
  have h2:Op.bytesLess y x=false:=by simpa using k.2
  rw [OX x y h1 h2]
theorem Jv {a b:ByteArray} (h:strLt a b=true):strLt b a=false:=OW _ _ h
theorem Ht {a b:ByteArray} (h:strLt a b=false) (h':strLt b a=false):a=b:=Mg (OX _ _ h h')
theorem OY:∀ x y z:List UInt8,Op.bytesLess x y=true→Op.bytesLess y z=true→Op.bytesLess x z=true
 | _,_,[],_,h=>by simp [Op.bytesLess] at h
 | [],[],_ :: _,h,_=>by simp [Op.bytesLess] at h
 | [],_ :: _,_ :: _,_,_=>rfl
 | _ :: _,[],_ :: _,h,_=>by simp [Op.bytesLess] at h
 | a :: x,b :: y,c :: z,h,k=>by
  simp only [Op.bytesLess,yE,decide_eq_true_eq,zA,beq_iff_eq] at h k ⊢
  rcases h with h | ⟨rfl,h⟩
  ·rcases k with k | ⟨rfl,k⟩
   ·exact .inl (UInt8.lt_trans h k)
   ·exact .inl h
  ·rcases k with k | ⟨rfl,k⟩
   ·exact .inl k
   ·exact .inr ⟨rfl,OY x y z h k⟩
theorem Nl {a b c:ByteArray} (h:strLt a b=true) (k:strLt b c=true):strLt a c=true:=OY _ _ _ h k
theorem YM {a b:ByteArray} (h:strLt a b=true):¬ a=b:=by rintro rfl; rw [I7] at h; cases h
theorem Wu:∀ x y:List UInt8,Op.bytesLess x y=true ↔ x<y
 | [],[]=>by simp [Op.bytesLess]
 | [],b :: y=>by simp [Op.bytesLess]
 | a :: x,[]=>by simp [Op.bytesLess]
 | a :: x,b :: y=>by
  have h:=Wu x y
  rw [List.cons_lt_cons_iff,← h]
  simp only [Op.bytesLess,yE,decide_eq_true_eq,zA,beq_iff_eq]
theorem YN (a b:ByteArray):strLt a b=true ↔ a.toList<b.toList:=Wu _ _
theorem QI (n:ByteArray):∀ xs:List ByteArray,xs.Pairwise (fun x y=>strLt x y=true)→(CQ xs n).Pairwise fun x y=>strLt x y=true
 | [],_=>by simp [CQ]
 | x :: xs,h=>by
  rw [CQ]
  rw [zV] at h
  cases hq:strLt x n with
  | true =>
   rw [cond_true,zV]
   refine ⟨fun y hy=>?_,QI n xs h.2⟩
   rcases OS.1 hy with hy | rfl
   ·exact h.1 y hy
   ·exact hq
  | false =>
   rw [cond_false]
   by_cases he:x=n
   ·rw [Ar he,cond_true,zV]; exact h
   ·rw [Aj he,cond_false,zV,zV]
    have hn:strLt n x=true:=by
     cases hh:strLt n x with
     | true=>rfl
     | false=>exact absurd (Ht hq hh) he
    refine ⟨fun y hy=>?_,h⟩
    rcases zH.1 hy with rfl | hy
    ·exact hn
    ·exact Nl hn (h.1 y hy)
theorem QJ:∀ (ns xs:List ByteArray),xs.Pairwise (fun x y=>strLt x y=true)→(C2 xs ns).Pairwise fun x y=>strLt x y=true
 | [],xs,h=>h
 | n :: ns,xs,h=>QJ ns (CQ xs n) (QI n xs h)
theorem Vo {xs:List ByteArray} (h:xs.Pairwise fun x y=>strLt x y=true):xs.Nodup :=
 h.imp fun {a b} hab e=>by rw [e,I7] at hab; cases hab
theorem Xx (l:List ByteArray):(I8 l).Pairwise fun x y=>strLt y x=false:=by
 unfold I8 srt
 rw [List.pairwise_map]
 have h:=List.pairwise_mergeSort (le:=fun x y:List UInt8=>decide (x≤y)) (fun a b c h k=>by
  rw [decide_eq_true_eq] at h k ⊢; exact List.le_trans h k) (fun a b=>by
  rw [yE,decide_eq_true_eq,decide_eq_true_eq]; exact List.le_total a b) (l.map (·.toList))
 refine h.imp fun {a b} hab=>?_
 rw [decide_eq_true_eq] at hab
 rw [y8]
 intro hh
 have:=(YN _ _).1 hh
 rw [ByteArray.toList_eq,ByteArray.toList_eq] at this
 exact absurd this (List.not_lt.2 hab)
theorem M3 (ns:List ByteArray):I8 (B7 [] ns)=C2 [] ns:=by
 have h1:=QJ ns [] List.Pairwise.nil
 have n1:=Vo h1
 have n2:(B7 [] ns).Nodup:=KV List.nodup_nil
 have hp:(I8 (B7 [] ns)).Perm (C2 [] ns):=(M2 _).trans ((List.perm_ext_iff_of_nodup n2 n1).2 fun a=>by rw [OQ,Tw])
 refine List.Perm.eq_of_pairwise (le:=fun x y=>strLt y x=false) (fun a b _ _ h k=>Ht k h) (Xx _) (h1.imp fun h=>Jv h) hp
mutual
noncomputable def Fm.fv:Fm→List ByteArray→List ByteArray
 | .mk op atom var parts,b=>bif dec (op=3) then (C2 [] atom.vs).filter (fun n=>!dec (n∈b)) else Fm.fvL parts (bif qB op then b++[var] else b)
noncomputable def Fm.fvL:List Fm→List ByteArray→List ByteArray
 | [],_=>[]
 | x :: xs,b=>Fm.fv x b++Fm.fvL xs b
end
theorem Fm.YO (x:Fm) (b:List ByteArray):x.fv b=bif dec (x.op=3) then (C2 [] x.atom.vs).filter (fun n=>!dec (n∈b)) else Fm.fvL x.parts (bif qB x.op then b++[x.var] else b):=by
 obtain ⟨op,atom,var,parts⟩:=x
 rw [Fm.fv]; rfl
mutual
def Fm.vn:Fm→Nat
 | .mk _ atom _ parts=>atom.nodes+Fm.vnS parts
def Fm.vnS:List Fm→Nat
 | []=>0
 | x :: xs=>Fm.vn x+Fm.vnS xs
end
theorem Fm.Kq (x:Fm):x.vn=x.atom.nodes+Fm.vnS x.parts:=by
 obtain ⟨op,atom,var,parts⟩:=x
 rw [Fm.vn]; rfl
theorem Fm.Wv (b:List ByteArray):∀ xs:List Fm,(∀ x∈xs,(x.fv b).length≤x.vn)→(Fm.fvL xs b).length≤Fm.vnS xs
 | [],_=>by simp [Fm.fvL]
 | x :: xs,h=>by
  have h1:=h x (by simp)
  have h2:=Fm.Wv b xs fun y hy=>h y (by simp [hy])
  rw [Fm.fvL,Fm.vnS,z8]; omega
theorem Fm.HG (x:Fm):∀ b:List ByteArray,(x.fv b).length≤x.vn:=by
 intro b
 rw [Fm.YO,Fm.Kq]
 cases dec (x.op=3) with
 | true =>
  simp only [cond_true]
  have h1:=yT (fun n=>!dec (n∈b)) (C2 [] x.atom.vs)
  have h2:=DK x.atom.vs []
  have h3:=Tm.KU x.atom
  simp only [yC] at h2
  omega
 | false =>
  simp only [cond_false]
  have h:=Fm.Wv (bif qB x.op then b++[x.var] else b) x.parts fun y hy=>Fm.HG y _
  omega
termination_by SizeOf.sizeOf x
decreasing_by exact Fm.lt_of_mem hy
theorem Fm.YP:∀ xs:List Fm,(∀ x∈xs,x.vn≤30*x.nodes)→Fm.vnS xs≤30*Fm.nodeS xs
 | [],_=>by simp [Fm.vnS]
 | x :: xs,h=>by
  have h1:=h x (by simp)
  have h2:=Fm.YP xs fun y hy=>h y (by simp [hy])
  rw [Fm.vnS,Fm.nodeS]; omega
theorem Fm.YQ (x:Fm) (h:x.forms=true):x.vn≤30*x.nodes:=by
 have h1:=Fm.YP x.parts fun y hy=>Fm.YQ y (Fm.AQ h hy)
 have h2:=Fm.F4 (Fm.Bo h)
 rw [Fm.Kq,Fm.nodes_eq]; omega
termination_by SizeOf.sizeOf x
decreasing_by exact Fm.lt_of_mem hy
noncomputable def Fm.free (x:Fm):List ByteArray:=C2 [] (x.fv [])
noncomputable def Qcx (x:Bd):Bool:=AS x.var&&(x.term.valid&&!dec (x.term.name=x.var))
noncomputable def Qcy (xs:List Bd) (k:Nat):Bool:=match xs[k]? with
 | none=>true
 | some x=>Qcx x&&(match k with
  | 0=>true
  | j+1=>match xs[j]? with
   | none=>true
   | some y=>strLt y.var x.var)
noncomputable def QbZ (xs:List Bd):Nat→Bool
 | 0=>true
 | k+1=>QbZ xs k&&Qcy xs k
noncomputable def Sb.ok (x:Sb):Bool:=decide (x.binds.length≤12)&&QbZ x.binds x.binds.length
def Sb.tame (x:Sb):Prop:=x.binds.length≤1099511627776∧∀ y∈x.binds,y.term.nodes≤1099511627776
theorem Sb.tame_at {x:Sb} (h:x.tame) {k:Nat} (hk:k<x.binds.length):x.binds[k].term.nodes≤1099511627776:=h.2 _ (zJ hk)
def Kr:SC:=(.seq (.reg [⟨some 2,none,.boxv 119 1 (.t 0)⟩,⟨some 4,none,.mv (.c (.int .i64 0))⟩]) (.seq (.seq (.reg [⟨some 5,none,.mv (.c (.int .i64 0))⟩]) (.block 0 (.loop [0,1,1,0,0,1,0,0,0,0,0,0,0,0,0,0,0,0,0,0,0,0] (.seq (.seq (.reg [⟨some 6,none,.mv (.t 5)⟩,⟨some 7,none,.faddr 0 (.t 2)⟩,⟨some 8,none,.load false 1 (.t 7)⟩,⟨some 9,none,.len false (.t 8)⟩,⟨some 10,none,.bin .lss false (.t 6) (.t 9)⟩]) (.cond (.t 10) .skip (.exit 0))) (.seq (.block 1 (.seq (.reg [⟨some 13,none,.faddr 0 (.t 2)⟩,⟨some 14,none,.load false 1 (.t 13)⟩,⟨some 15,none,.mv (.t 5)⟩,⟨some 16,none,.iaddr 3 (.t 14) (.t 15)⟩,⟨some 17,none,.faddr 0 (.t 16)⟩,⟨some 18,none,.load false 1 (.t 17)⟩,⟨some 19,none,.mv (.t 1)⟩,⟨some 20,none,.bin .eql false (.t 18) (.t 19)⟩]) (.cond (.t 20) (.seq (.reg [⟨some 21,none,.mv (.t 5)⟩,⟨some 4,none,.mv (.t 21)⟩]) .ret) .skip))) (.reg [⟨some 11,none,.mv (.t 5)⟩,⟨some 12,none,.bin .add false (.t 11) (.c (.int .i64 1))⟩,⟨some 5,none,.mv (.t 12)⟩])))))) (.seq (.reg [⟨some 4,none,.mv (.c (.int .i64 (-(0+1))))⟩]) .ret)))
theorem PH:At Tryz.prog 196=some ⟨22,Kr,[(.tmp 4)]⟩:=by kernel_rfl
theorem F6:modes 196=⟨[],.asis,none,false⟩:=by unfold modes; rfl
theorem YR (x:Sb) (n:ByteArray) (hl:x.binds.length≤1099511627776):E 196 [x.sv,.str n] []=some (.int .i64 (Ed (fun b=>dec (b.var=n)) x.binds 0),[]):=by
 refine Ai PH F6 (of_decide_eq_true rfl) ?_
 simp (disch:=omega) only [Kr,go_sem,Ab]
 refine go_loop (α:=Int) (fun a=>⟨slots 22 0 [(1,.str n),(2,.ptr 0 0),(5,.int .i64 a)],[.box 119 [.arr (x.binds.map Bd.d)]]⟩) (fun a=>∃ k:Nat,a=k∧k≤(x.binds).length∧Ed (fun b=>dec (b.var=n)) (x.binds.drop k) a=Ed (fun b=>dec (b.var=n)) x.binds 0) (fun a=>(x.binds).length-(a).toNat) 0 ⟨0,rfl,zP _,by rw [zN]⟩ (by simp (disch:=omega) only [go_sem,Ab]) ?_
 rintro i ⟨k,hi,hk,hR⟩
 have hni:i.toNat=k:=by omega
 have hni1:(i+1).toNat=k+1:=by omega
 rcases zE k (x.binds).length with hlt | hge
 ·have hg:=get_at Bd.d hlt
  rw [Bd.d_eq] at hg
  rw [zG hlt,Ed] at hR
  cases hp:dec (x.binds[k].var=n) with
  | true =>
   rw [hp] at hR
   simp (disch:=omega) only [go_sem,Ab,hni,hg,hp]
   simpa using hR
  | false =>
   rw [hp] at hR
   simp (disch:=omega) only [go_sem,Ab,hni,hg,hp]
   exact ⟨i+1,⟨k+1,by omega,hlt,by simpa using hR⟩,by omega,by first | trivial | rfl⟩
 ·rw [zL hge,Ed] at hR
  simp (disch:=omega) only [go_sem,Ab,hni]
  exact hR
def Fq:SC:=(.seq (.reg [⟨some 2,none,.mv (.c .nil)⟩]) (.seq (.seq (.reg [⟨some 6,none,.mv (.t 0)⟩,⟨some 7,none,.len false (.t 6)⟩,⟨some 8,none,.bin .eql false (.t 7) (.c (.int .i64 0))⟩]) (.cond (.t 8) (.seq (.reg [⟨some 2,none,.mv (.c .nil)⟩]) .ret) .skip)) (.seq (.reg [⟨some 9,none,.mv (.t 0)⟩,⟨some 10,none,.len false (.t 9)⟩,⟨(some 11),none,(.mkslice 26 2 40 [(.str ⟨#[]⟩),.nil] (.t 10))⟩,⟨some 3,none,.mv (.t 11)⟩]) (.seq (.seq (.reg [⟨some 12,none,.mv (.t 0)⟩,⟨some 13,none,.len false (.t 12)⟩,⟨some 14,none,.mv (.c (.int .i64 0))⟩]) (.block 0 (.loop [0,0,0,1,0,0,0,0,0,0,0,0,1,1,1,0,0,0,0,0,0,0,0,0,0,0] (.seq (.reg [⟨some 15,none,.bin .lss false (.t 14) (.t 13)⟩]) (.seq (.cond (.t 15) .skip (.exit 0)) (.seq (.block 1 (.seq (.reg [⟨some 16,none,.mv (.t 14)⟩,⟨some 17,none,.iaddr 2 (.t 12) (.t 14)⟩,⟨some 18,none,.load true 2 (.t 17)⟩,⟨(some 5),none,(.alloc 26 [(.str ⟨#[]⟩),.nil])⟩,⟨some 4,none,.mv (.t 16)⟩,⟨none,none,(.store 2 (.t 5) (.t 18))⟩]) (.reg [⟨some 19,none,.mv (.t 3)⟩,⟨some 20,none,.mv (.t 4)⟩,⟨some 21,none,.load true 2 (.t 5)⟩,⟨some 22,none,.call 115 [(.t 21)]⟩,⟨some 23,none,.iaddr 2 (.t 19) (.t 20)⟩,⟨none,none,(.store 2 (.t 23) (.t 22))⟩]))) (.reg [⟨some 24,none,.bin .add false (.t 14) (.c (.int .i64 1))⟩,⟨some 14,none,.mv (.t 24)⟩]))))))) (.seq (.reg [⟨some 25,none,.mv (.t 3)⟩,⟨some 2,none,.mv (.t 25)⟩]) .ret)))))
theorem If:At Tryz.prog 173=some ⟨26,Fq,[(.tmp 2)]⟩:=by kernel_rfl
theorem Fs:modes 173=⟨[],.own [some (26,2)],none,false⟩:=by unfold modes; rfl
def IO:SC:=(.seq (.reg [⟨some 1,none,.boxv 26 2 (.t 0)⟩,⟨(some 2),none,(.alloc 26 [(.str ⟨#[]⟩),.nil])⟩]) (.seq (.dreg [[],[0],[],[2],[3,2],[1,0,4,3,2],[5,1,0,4,3,2]] [⟨some 3,none,.faddr 0 (.t 1)⟩,⟨some 4,none,.load false 1 (.t 3)⟩,⟨some 5,none,.faddr 1 (.t 1)⟩,⟨some 6,none,.load false 1 (.t 5)⟩,⟨some 7,none,.call 173 [(.t 6)]⟩,⟨(some 8),none,(.build [(.str ⟨#[]⟩),.nil] [(0,(1,(.t 4))),(1,(1,(.t 7)))])⟩,⟨none,none,(.store 2 (.t 2) (.t 8))⟩]) .ret))
theorem N3:At Tryz.prog 115=some ⟨9,IO,[(.cell 2 true 2)]⟩:=by kernel_rfl
theorem Dy:modes 115=⟨[],.asis,none,false⟩:=by unfold modes; rfl
def L9:SC:=(.seq (.reg [⟨some 1,none,.boxv 26 2 (.t 0)⟩,⟨(some 2),none,(.alloc 26 [(.str ⟨#[]⟩),.nil])⟩]) (.seq (.reg [⟨some 5,none,.faddr 0 (.t 1)⟩,⟨some 6,none,.load false 1 (.t 5)⟩,⟨(some 7),none,(.build [(.str ⟨#[]⟩),.nil] [(0,(1,(.t 6)))])⟩,⟨(some 3),none,(.alloc 26 [(.str ⟨#[]⟩),.nil])⟩,⟨none,none,(.store 2 (.t 3) (.t 7))⟩]) (.seq (.seq (.reg [⟨some 4,none,.mv (.c (.int .i64 0))⟩]) (.block 0 (.loop [0,1,1,1,1,0,0,0,0,0,0,0,0,0,0,0,0,0,0,0,0,0,0,0,0,0,0] (.seq (.seq (.reg [⟨some 8,none,.mv (.t 4)⟩,⟨some 9,none,.faddr 1 (.t 1)⟩,⟨some 10,none,.load false 1 (.t 9)⟩,⟨some 11,none,.len false (.t 10)⟩,⟨some 12,none,.bin .lss false (.t 8) (.t 11)⟩]) (.cond (.t 12) .skip (.exit 0))) (.seq (.block 1 (.dreg [[],[0],[],[2],[],[3,2,4],[5,3,2,4],[6,5,3,2,4],[7,6,5,3,2,4],[1,0,8,7,6,5,3,2,4],[0,1,2,3,4,5,6,7,8,9],[10,0,1,2,3,4,5,6,7,8,9]] [⟨some 15,none,.faddr 1 (.t 3)⟩,⟨some 16,none,.load false 1 (.t 15)⟩,⟨some 17,none,.faddr 1 (.t 1)⟩,⟨some 18,none,.load false 1 (.t 17)⟩,⟨some 19,none,.mv (.t 4)⟩,⟨some 20,none,.iaddr 2 (.t 18) (.t 19)⟩,⟨some 21,none,.load true 2 (.t 20)⟩,⟨some 22,none,.call 120 [(.t 21)]⟩,⟨(some 23),none,(.mkrow 26 2 [(.str ⟨#[]⟩),.nil] 1 [(0,(.t 22))])⟩,⟨(some 24),none,(.append 26 2 40 [(.str ⟨#[]⟩),.nil] (.t 16) (.t 23))⟩,⟨some 25,none,.faddr 1 (.t 3)⟩,⟨none,none,(.store 1 (.t 25) (.t 24))⟩])) (.reg [⟨some 13,none,.mv (.t 4)⟩,⟨some 14,none,.bin .add false (.t 13) (.c (.int .i64 1))⟩,⟨some 4,none,.mv (.t 14)⟩])))))) (.seq (.reg [⟨some 26,none,.load true 2 (.t 3)⟩,⟨none,none,(.store 2 (.t 2) (.t 26))⟩]) .ret))))
theorem RR:At Tryz.prog 120=some ⟨27,L9,[(.cell 2 true 2)]⟩:=by kernel_rfl
theorem Dn:modes 120=⟨[],.frz,none,false⟩:=by unfold modes; rfl
theorem RS (xs:List Tm) (hl:xs.length≤1099511627776) (h:∀ x∈xs,E 115 [x.sv] []=some (x.osv,x.obs)):E 173 [.arr (xs.map Tm.d)] []=some (.ref 0,[.row 26 2 (xs.map Tm.o)]):=by
 cases xs with
 | nil =>
  refine Ai If Fs (of_decide_eq_true rfl) ?_
  simp (disch:=omega) only [Fq,go_sem,Ab]
 | cons x0 xs0 =>
 generalize hxs:x0 :: xs0=xs at *
 have hpos:0<xs.length:=by rw [←hxs]; simp
 refine Ai If Fs (of_decide_eq_true rfl) ?_
 simp (disch:=omega) only [Fq,go_sem,Ab]
 refine go_loop (α:=Int) (fun a=>⟨slots 26 0 [(3,.ref 0),(12,.arr (xs.map Tm.d)),(13,.int .i64 xs.length),(14,.int .i64 a)],[.row 26 2 (IN Tm.o [.str ⟨#[]⟩,.ow []] xs a.toNat)]⟩) (fun a=>∃ k:Nat,a=k∧k≤(xs).length) (fun a=>(xs).length-(a).toNat) 0 ⟨0,rfl,zP _⟩ (by simp (disch:=omega) only [go_sem,Ab,Vg,xI]) ?_
 rintro i ⟨k,hi,hk⟩
 have hni:i.toNat=k:=by omega
 have hni1:(i+1).toNat=k+1:=by omega
 rcases zE k (xs).length with hlt | hge
 ·have hg:=get_at Tm.d hlt
  rw [Tm.d_eq] at hg
  have hz:=Xo Tm.o [.str ⟨#[]⟩,.ow []] hlt
  have hc:=h xs[k] (zJ hlt)
  have hs:=Xp Tm.o [.str ⟨#[]⟩,.ow []] hlt
  rw [Tm.o_eq] at hs
  simp (disch:=omega) only [go_sem,Ab,hni,hg,hc,hz,Xm,Dy,Tm.osv,Tm.obs]
  refine ⟨i+1,⟨k+1,by omega,hlt⟩,by omega,?_⟩
  simp (disch:=omega) only [go_sem,Ab,hni1,hs]
 ·obtain rfl:k=xs.length:=by omega
  simp (disch:=omega) only [go_sem,Ab,hni,Xn]
theorem Ty (x:Tm) (h:E 173 [.arr (x.args.map Tm.d)] []=some (.ref 0,[.row 26 2 (x.args.map Tm.o)])):E 115 [x.sv] []=some (x.osv,x.obs):=by
 refine Ai N3 Dy (of_decide_eq_true rfl) ?_
 simp (disch:=omega) only [IO,go_sem,Ab,h,Fs]
theorem IB (x:Tm) (hn:x.nodes≤1099511627776):E 115 [x.sv] []=some (x.osv,x.obs) :=
 Ty x (RS x.args (by have:=Tm.nodes_eq x; have:=Tm.length_le x.args; omega) fun y hy=>IB y (by have:=Tm.nodes_mem hy; have:=Tm.nodes_eq x; omega))
termination_by SizeOf.sizeOf x
decreasing_by exact Tm.lt_of_mem hy
def Qbr (res:RM) (n0:Nat) (rs:List RX) (Q:SV × List Ob→Prop) (x:X) (st:St):Prop:=∃ out,To res n0 rs out x st∧Q out
theorem exq {α:Type} {a:α} {Q:α→Prop}:(∃ out,some a=some out∧Q out)=Q a:=propext ⟨fun ⟨o,h,q⟩=>by obtain rfl:=zK h; exact q,fun q=>⟨a,rfl,q⟩⟩
theorem Qbs {res:RM} {n0:Nat} {rs:List RX} {Q:SV × List Ob→Prop} {sl:List SV} {ob:List Ob}:Qbr res n0 rs Q .ret ⟨sl,ob⟩=∃ out,Ly res n0 ob (Mf ⟨sl,ob⟩ rs)=some out∧Q out:=rfl
theorem Qbt {res:RM} {n0:Nat} {rs:List RX} {Q:SV × List Ob→Prop} {sl:List SV} {ob:List Ob}:Qbr res n0 rs Q .normal ⟨sl,ob⟩=∃ out,Ly res n0 ob (Mf ⟨sl,ob⟩ rs)=some out∧Q out:=rfl
theorem AL {f:FuncId} {fc:FC} {hand:List Bool} {res:RM} {tr:Bool} {xs:List SV} {ob:List Ob} {Q:SV × List Ob→Prop} (hc:At Tryz.prog f=some fc) (hr:modes f=⟨hand,res,none,tr⟩) (hn:xs.length≤fc.nt) (h:go ob.length (Gi res fc.sc) ⟨xs++Jf (fc.nt-xs.length),entry tr ob⟩ (Qbr res ob.length fc.rs Q)):∃ out,E f xs ob=some out∧Q out:=by
 obtain ⟨x,st',h1,out,h2,h3⟩:=h
 exact ⟨out,Ai hc hr hn ⟨x,st',h1,h2⟩,h3⟩
attribute [go_sem] Qbs Qbt exq
def Tm.osh (x:Tm):List OT:=[.str x.name,.sh (x.args.map Tm.d)]
theorem Tm.osh_eq (x:Tm):x.osh=[.str x.name,.sh (x.args.map Tm.d)]:=rfl
theorem Tm.osh_full:∀ xs:List Tm,OT.AA (xs.map Tm.osh)=true
 | []=>rfl
 | x :: xs=>by rw [zB,Tm.osh_eq]; simp [OT.AA,OT.C1,OT.full,Tm.osh_full xs]
theorem Tm.osh_er:∀ xs:List Tm,OT.erss (xs.map Tm.osh)=xs.map Tm.d
 | []=>rfl
 | x :: xs=>by rw [zB,zB,Tm.osh_eq,Tm.d_eq]; simp [OT.erss,OT.ers,OT.er,Tm.osh_er xs]
theorem GN {α β:Type} (f:α→β) {xs:List α} {k:Nat} (h:k<xs.length):(xs.take k).map f++[f xs[k]]=(xs.take (k+1)).map f:=by
 rw [yS h,yH]; rfl
theorem YS (x:Tm) (hn:x.nodes≤1099511627776) (ih:∀ y∈x.args,E 120 [y.sv] []=some (y.sv,[])):E 120 [x.sv] []=some (x.sv,[]):=by
 have hl:=Tm.length_le x.args
 have hne:=Tm.nodes_eq x
 have h10:((1:Int)=0)=False:=by simp
 have hfu:=Tm.osh_full x.args
 have her:=Tm.osh_er x.args
 refine Ai RR Dn (of_decide_eq_true rfl) ?_
 simp (disch:=omega) only [L9,go_sem,Ab]
 refine go_loop (α:=Int) (fun a=>⟨slots 27 0 [(1,.ptr 0 0),(2,.ptr 1 0),(3,.ptr 2 0),(4,.int .i64 a)],(if a=0 then [.box 26 [.str x.name,.arr (x.args.map Tm.d)],.box 26 [.str ⟨#[]⟩,.nil],.box 26 [.str x.name,.nil]] else [.box 26 [.str x.name,.arr (x.args.map Tm.d)],.box 26 [.str ⟨#[]⟩,.nil],.box 26 [.str x.name,.ref 3],.row 26 2 ((x.args.take a.toNat).map Tm.osh)])⟩) (fun a=>∃ k:Nat,a=k∧k≤(x.args).length) (fun a=>(x.args).length-(a).toNat) 0 ⟨0,rfl,zP _⟩ (by simp (disch:=omega) only [go_sem,Ab,eq_self,if_true]) ?_
 rintro i ⟨k,hi,hk⟩
 have hni:i.toNat=k:=by omega
 have hni1:(i+1).toNat=k+1:=by omega
 rcases zE k (x.args).length with hlt | hge
 ·have hg:=get_at Tm.d hlt
  rw [Tm.d_eq] at hg
  have hc:=ih x.args[k] (zJ hlt)
  have hs:=GN Tm.osh hlt
  rw [Tm.osh_eq] at hs
  rcases zT k with h0 | h0
  ·subst h0
   obtain rfl:i=0:=hi
   rw [y2,zO,yP] at hs
   simp (disch:=omega) only [go_sem,Ab,hni,hg,hc,Dn,eq_self,if_true]
   refine ⟨1,⟨1,rfl,hlt⟩,by omega,?_⟩
   simp (disch:=omega) only [go_sem,Ab,h10,if_false,hs]
  ·have hi0:(i=0)=False:=by simp; omega
   have hi1:(i+1=0)=False:=by simp; omega
   have htl:(x.args.take k).length=k:=by rw [xC]; omega
   simp (disch:=omega) only [go_sem,Ab,hni,hg,hc,Dn,hi0,if_false,htl]
   refine ⟨i+1,⟨k+1,by omega,hlt⟩,by omega,?_⟩
   simp (disch:=omega) only [go_sem,Ab,hni1,hi1,if_false,hs]
 ·obtain rfl:k=x.args.length:=by omega
  have ht:x.args.take x.args.length=x.args:=List.take_length
  rcases zT x.args.length with h0 | h0
  ·have hx:x.args=[]:=zC h0
   obtain rfl:i=0:=by omega
   simp (disch:=omega) only [go_sem,Ab,hni,hx,eq_self,if_true,zO,yC]
  ·have hi0:(i=0)=False:=by simp; omega
   simp (disch:=omega) only [go_sem,Ab,hni,hi0,if_false,ht,hfu,her]
theorem NL (x:Tm) (hn:x.nodes≤1099511627776):E 120 [x.sv] []=some (x.sv,[]) :=
 YS x hn fun y hy=>NL y (by have:=Tm.nodes_mem hy; have:=Tm.nodes_eq x; omega)
termination_by SizeOf.sizeOf x
decreasing_by exact Tm.lt_of_mem hy
def OZ (xs:List Bd):Prop:=∀ j k (h:j<k) (hk:k<xs.length),strLt xs[j].var xs[k].var=true
def Cf:List Bd→ByteArray→Nat
 | [],_=>0
 | x :: xs,n=>if strLt x.var n then Cf xs n+1 else 0
theorem Ww (n:ByteArray):∀ xs:List Bd,Cf xs n≤xs.length
 | []=>zU _
 | x :: xs=>by
  have:=Ww n xs
  rw [Cf]; simp only [zM]; split <;> omega
theorem Nm (n:ByteArray):∀ (xs:List Bd) (j:Nat) (h:j<xs.length),j<Cf xs n→strLt xs[j].var n=true
 | [],j,h,_=>absurd h (by simp)
 | x :: xs,j,h,hj=>by
  rw [Cf] at hj
  split at hj
  ·rename_i hx
   cases j with
   | zero=>exact hx
   | succ j=>exact Nm n xs j (by simpa using h) (by omega)
  ·omega
theorem Wx (n:ByteArray):∀ (xs:List Bd) (h:Cf xs n<xs.length),strLt (xs[Cf xs n]).var n=false
 | [],h=>absurd h (by simp)
 | x :: xs,h=>by
  cases hx:strLt x.var n with
  | false =>
   have e:Cf (x :: xs) n=0:=by rw [Cf,if_neg (by rw [hx]; simp)]
   simp only [e,zW]; exact hx
  | true =>
   have e:Cf (x :: xs) n=Cf xs n+1:=by rw [Cf,if_pos hx]
   have h2:Cf xs n<xs.length:=by rw [e] at h; simpa using h
   simp only [e,z6]; exact Wx n xs h2
noncomputable def IC (xs:List Bd) (n:ByteArray):Bool:=match xs[Cf xs n]? with
 | none=>false
 | some b=>dec (b.var=n)
theorem Tz {α:Type} (p:α→Bool):∀ (xs:List α) (k:Nat) (i:Int) (h:k<xs.length),(∀ j (hj:j<k),p xs[j]=false)→p xs[k]=true→Ed p xs i=i+k
 | [],k,i,h,_,_=>absurd h (by simp)
 | x :: xs,0,i,h,_,hp=>by rw [Ed,if_pos (show p x=true from hp)]; simp
 | x :: xs,k+1,i,h,hb,hp=>by
  have h0:p x=false:=hb 0 (by omega)
  have:=Tz p xs k (i+1) (by simpa using h) (fun j hj=>hb (j+1) (by omega)) hp
  rw [Ed,if_neg (by rw [h0]; simp),this]; omega
theorem RT {α:Type} (p:α→Bool):∀ (xs:List α) (i:Int),(∀ j (hj:j<xs.length),p xs[j]=false)→Ed p xs i=-1
 | [],i,_=>by rw [Ed]
 | x :: xs,i,h=>by
  have h0:p x=false:=h 0 (by simp)
  rw [Ed,if_neg (by rw [h0]; simp)]
  exact RT p xs (i+1) fun j hj=>h (j+1) (by simpa using hj)
theorem T0 {xs:List Bd} (hs:OZ xs) (n:ByteArray):Ed (fun b=>dec (b.var=n)) xs 0=if IC xs n then ((Cf xs n:Nat):Int) else -1:=by
 have before:∀ j (hj:j<xs.length),j<Cf xs n→dec (xs[j].var=n)=false:=fun j hj hL=>Aj (YM (Nm n xs j hj hL))
 rcases zE (Cf xs n) xs.length with hlt | hge
 ·have hh:IC xs n=dec (xs[Cf xs n].var=n):=by unfold IC; rw [zS hlt]
  cases hq:dec (xs[Cf xs n].var=n) with
  | true =>
   rw [hh,hq,if_pos rfl,Tz _ xs (Cf xs n) 0 hlt (fun j hj=>before j (by omega) hj) hq]; omega
  | false =>
   rw [hh,hq,if_neg (by simp)]
   refine RT _ xs 0 fun j hj=>?_
   rcases Nat.lt_trichotomy j (Cf xs n) with h | h | h
   ·exact before j hj h
   ·subst h; exact hq
   ·refine Aj fun e=>?_
    have h1:=hs _ _ h hj
    rw [e,Wx n xs hlt] at h1
    cases h1
 ·have hh:IC xs n=false:=by unfold IC; rw [List.getElem?_eq_none hge]
  rw [hh,if_neg (by simp)]
  exact RT _ xs 0 fun j hj=>before j hj (by omega)
theorem NM {xs:List Bd} {n:ByteArray} (h:IC xs n=true):Cf xs n<xs.length:=by
 rcases zE (Cf xs n) xs.length with h1 | h1
 ·exact h1
 ·unfold IC at h; rw [List.getElem?_eq_none h1] at h; cases h
noncomputable def Sb.look (x:Sb) (n:ByteArray):Option Tm:=if h:IC x.binds n=true then some (x.binds[Cf x.binds n]'(NM h)).term else none
theorem Wy {xs:List Bd} {n:ByteArray} (h:IC xs n=true) (hlt:Cf xs n<xs.length):(xs[Cf xs n]).var=n:=by
 have hh:IC xs n=dec (xs[Cf xs n].var=n):=by unfold IC; rw [zS hlt]
 rw [hh] at h
 exact Aw.1 h
theorem Sb.Pa {x:Sb} {n:ByteArray} (h:IC x.binds n=true) (hlt:Cf x.binds n<x.binds.length):x.look n=some (x.binds[Cf x.binds n]).term:=by
 unfold Sb.look; rw [dif_pos h]
theorem Sb.NN {x:Sb} {n:ByteArray} (h:IC x.binds n=false):x.look n=none:=by
 unfold Sb.look; rw [dif_neg (by rw [h]; simp)]
def Sb.fine (s:Sb):Prop:=OZ s.binds∧∀ b∈s.binds,AS b.var=true
def EJ:SC:=(.seq (.reg [⟨some 2,none,.boxv 119 1 (.t 0)⟩,⟨some 3,none,.boxv 26 2 (.t 1)⟩,⟨(some 4),none,(.alloc 26 [(.str ⟨#[]⟩),.nil])⟩]) (.seq (.seq (.reg [⟨some 8,none,.faddr 0 (.t 3)⟩,⟨some 9,none,.load false 1 (.t 8)⟩,⟨some 10,none,.call 176 [(.t 9)]⟩]) (.cond (.t 10) (.seq (.seq (.reg [⟨some 11,none,.load true 1 (.t 2)⟩,⟨some 12,none,.faddr 0 (.t 3)⟩,⟨some 13,none,.load false 1 (.t 12)⟩,⟨some 14,none,.call 196 [(.t 11),(.t 13)]⟩,⟨some 5,none,.mv (.t 14)⟩]) (.seq (.reg [⟨some 15,none,.mv (.t 5)⟩,⟨some 16,none,.bin .geq false (.t 15) (.c (.int .i64 0))⟩]) (.cond (.t 16) (.seq (.reg [⟨some 17,none,.faddr 0 (.t 2)⟩,⟨some 18,none,.load false 1 (.t 17)⟩,⟨some 19,none,.mv (.t 5)⟩,⟨some 20,none,.iaddr 3 (.t 18) (.t 19)⟩,⟨some 21,none,.faddr 1 (.t 20)⟩,⟨some 22,none,.load true 2 (.t 21)⟩,⟨some 23,none,.call 120 [(.t 22)]⟩,⟨none,none,(.store 2 (.t 4) (.t 23))⟩]) .ret) .skip))) (.seq (.reg [⟨some 24,none,.faddr 0 (.t 3)⟩,⟨some 25,none,.load false 1 (.t 24)⟩,⟨(some 26),none,(.build [(.str ⟨#[]⟩),.nil] [(0,(1,(.t 25)))])⟩,⟨none,none,(.store 2 (.t 4) (.t 26))⟩]) .ret)) .skip)) (.seq (.reg [⟨some 27,none,.faddr 0 (.t 3)⟩,⟨some 28,none,.load false 1 (.t 27)⟩,⟨(some 29),none,(.build [(.str ⟨#[]⟩),.nil] [(0,(1,(.t 28)))])⟩,⟨(some 6),none,(.alloc 26 [(.str ⟨#[]⟩),.nil])⟩,⟨none,none,(.store 2 (.t 6) (.t 29))⟩]) (.seq (.seq (.reg [⟨some 7,none,.mv (.c (.int .i64 0))⟩]) (.block 0 (.loop [0,0,1,1,1,0,1,1,0,0,0,0,0,0,0,0,0,0,0,0,0,0,0,0,0,0,0,0,0,0,0,0,0,0,0,0,0,0,0,0,0,0,0,0,0,0,0,0,0,0] (.seq (.seq (.reg [⟨some 30,none,.mv (.t 7)⟩,⟨some 31,none,.faddr 1 (.t 3)⟩,⟨some 32,none,.load false 1 (.t 31)⟩,⟨some 33,none,.len false (.t 32)⟩,⟨some 34,none,.bin .lss false (.t 30) (.t 33)⟩]) (.cond (.t 34) .skip (.exit 0))) (.seq (.block 1 (.dreg [[],[0],[],[],[3],[],[4,3,5],[6,4,3,5],[2,7,6,4,3,5],[8,2,7,6,4,3,5],[1,0,9,8,2,7,6,4,3,5],[0,1,2,3,4,5,6,7,8,9,10],[11,0,1,2,3,4,5,6,7,8,9,10]] [⟨some 37,none,.faddr 1 (.t 6)⟩,⟨some 38,none,.load false 1 (.t 37)⟩,⟨some 39,none,.load true 1 (.t 2)⟩,⟨some 40,none,.faddr 1 (.t 3)⟩,⟨some 41,none,.load false 1 (.t 40)⟩,⟨some 42,none,.mv (.t 7)⟩,⟨some 43,none,.iaddr 2 (.t 41) (.t 42)⟩,⟨some 44,none,.load true 2 (.t 43)⟩,⟨some 45,none,.call 138 [(.t 39),(.t 44)]⟩,⟨(some 46),none,(.mkrow 26 2 [(.str ⟨#[]⟩),.nil] 1 [(0,(.t 45))])⟩,⟨(some 47),none,(.append 26 2 40 [(.str ⟨#[]⟩),.nil] (.t 38) (.t 46))⟩,⟨some 48,none,.faddr 1 (.t 6)⟩,⟨none,none,(.store 1 (.t 48) (.t 47))⟩])) (.reg [⟨some 35,none,.mv (.t 7)⟩,⟨some 36,none,.bin .add false (.t 35) (.c (.int .i64 1))⟩,⟨some 7,none,.mv (.t 36)⟩])))))) (.seq (.reg [⟨some 49,none,.load true 2 (.t 6)⟩,⟨none,none,(.store 2 (.t 4) (.t 49))⟩]) .ret)))))
theorem GO:At Tryz.prog 138=some ⟨50,EJ,[(.cell 4 true 2)]⟩:=by kernel_rfl
theorem Da:modes 138=⟨[],.frz,none,false⟩:=by unfold modes; rfl
theorem Vp (s:Sb) (hs:s.fine) (ht:s.tame) (x:Tm) (hn:x.nodes≤1099511627776) (ih:∀ y∈x.args,E 138 [s.sv,y.sv] []=some ((y.ap s.look).sv,[])):E 138 [s.sv,x.sv] []=some ((x.ap s.look).sv,[]):=by
 have hsl:=ht.1
 have hl:=Tm.length_le x.args
 have hne:=Tm.nodes_eq x
 have hf:=YR s x.name hsl
 rw [T0 hs.1] at hf
 cases hv:AS x.name with
 | true =>
  cases hh:IC s.binds x.name with
  | true =>
   have hlt:=NM hh
   have hg:=get_at Bd.d hlt
   rw [Bd.d_eq] at hg
   have hni:((Cf s.binds x.name:Nat):Int).toNat=Cf s.binds x.name:=y7 _
   have hd:=NL (s.binds[Cf s.binds x.name]).term (Sb.tame_at ht hlt)
   have e:x.ap s.look=(s.binds[Cf s.binds x.name]).term:=by rw [Tm.Tq,if_pos hv,Sb.Pa hh hlt]; rfl
   rw [hh,if_pos rfl] at hf
   rw [e]
   refine Ai GO Da (of_decide_eq_true rfl) ?_
   simp (disch:=omega) only [EJ,go_sem,Ab,hv,hf,hg,hni,hd,F6,Al,DB,Dn]
  | false =>
   have e:x.ap s.look=.mk x.name []:=by rw [Tm.Tq,if_pos hv,Sb.NN hh]; rfl
   rw [hh,if_neg (by simp)] at hf
   rw [e]
   have e1:(Tm.mk x.name []).sv=.agg [.str x.name,.arr []]:=rfl
   rw [e1]
   refine Ai GO Da (of_decide_eq_true rfl) ?_
   simp (disch:=omega) only [EJ,go_sem,Ab,hv,hf,F6,Al,DB]
 | false =>
  have e:x.ap s.look=.mk x.name (x.args.map (Tm.ap s.look)):=by rw [Tm.Tq,if_neg (by rw [hv]; simp),Tm.NK]
  rw [e]
  have e1:(Tm.mk x.name (x.args.map (Tm.ap s.look))).sv=.agg [.str x.name,.arr ((x.args.map (Tm.ap s.look)).map Tm.d)]:=rfl
  rw [e1]
  have h10:((1:Int)=0)=False:=by simp
  have hfu:=Tm.osh_full (x.args.map (Tm.ap s.look))
  have her:=Tm.osh_er (x.args.map (Tm.ap s.look))
  refine Ai GO Da (of_decide_eq_true rfl) ?_
  simp (disch:=omega) only [EJ,go_sem,Ab,hv,F6,Al,DB]
  refine go_loop (α:=Int) (fun a=>⟨slots 50 0 [(2,.ptr 0 0),(3,.ptr 1 0),(4,.ptr 2 0),(6,.ptr 3 0),(7,.int .i64 a)],(if a=0 then [.box 119 [.arr (s.binds.map Bd.d)],.box 26 [.str x.name,.arr (x.args.map Tm.d)],.box 26 [.str ⟨#[]⟩,.nil],.box 26 [.str x.name,.nil]] else [.box 119 [.arr (s.binds.map Bd.d)],.box 26 [.str x.name,.arr (x.args.map Tm.d)],.box 26 [.str ⟨#[]⟩,.nil],.box 26 [.str x.name,.ref 4],.row 26 2 (((x.args.map (Tm.ap s.look)).take a.toNat).map Tm.osh)])⟩) (fun a=>∃ k:Nat,a=k∧k≤(x.args).length) (fun a=>(x.args).length-(a).toNat) 0 ⟨0,rfl,zP _⟩ (by simp (disch:=omega) only [go_sem,Ab,eq_self,if_true]) ?_
  rintro i ⟨k,hi,hk⟩
  have hni:i.toNat=k:=by omega
  have hni1:(i+1).toNat=k+1:=by omega
  rcases zE k (x.args).length with hlt | hge
  ·have hg:=get_at Tm.d hlt
   rw [Tm.d_eq] at hg
   have hltm:k<(x.args.map (Tm.ap s.look)).length:=by rw [zR]; exact hlt
   have hc:=ih x.args[k] (zJ hlt)
   have hse:=GN Tm.osh hltm
   rw [Tm.osh_eq,zY] at hse
   rcases zT k with h0 | h0
   ·subst h0
    obtain rfl:i=0:=hi
    rw [y2,zO,yP] at hse
    simp (disch:=omega) only [go_sem,Ab,hni,hg,hc,Da,eq_self,if_true]
    refine ⟨1,⟨1,rfl,hlt⟩,by omega,?_⟩
    simp (disch:=omega) only [go_sem,Ab,h10,if_false,hse]
   ·have hi0:(i=0)=False:=by simp; omega
    have hi1:(i+1=0)=False:=by simp; omega
    have htl:((x.args.map (Tm.ap s.look)).take k).length=k:=by rw [xC]; omega
    simp (disch:=omega) only [go_sem,Ab,hni,hg,hc,Da,hi0,if_false,htl]
    refine ⟨i+1,⟨k+1,by omega,hlt⟩,by omega,?_⟩
    simp (disch:=omega) only [go_sem,Ab,hni1,hi1,if_false,hse]
  ·obtain rfl:k=x.args.length:=by omega
   have hta:(x.args.map (Tm.ap s.look)).take x.args.length=x.args.map (Tm.ap s.look):=by
    have:=List.take_length (l:=x.args.map (Tm.ap s.look))
    rwa [zR] at this
   rcases zT x.args.length with h0 | h0
   ·have hx:x.args=[]:=zC h0
    obtain rfl:i=0:=by omega
    simp (disch:=omega) only [go_sem,Ab,hni,hx,eq_self,if_true,zO,yC]
   ·have hi0:(i=0)=False:=by simp; omega
    simp (disch:=omega) only [go_sem,Ab,hni,hi0,if_false,hta,hfu,her]
theorem QK (s:Sb) (hs:s.fine) (ht:s.tame) (x:Tm) (hn:x.nodes≤1099511627776):E 138 [s.sv,x.sv] []=some ((x.ap s.look).sv,[]) :=
 Vp s hs ht x hn fun y hy=>QK s hs ht y (by have:=Tm.nodes_mem hy; have:=Tm.nodes_eq x; omega)
termination_by SizeOf.sizeOf x
decreasing_by exact Tm.lt_of_mem hy
theorem Vq:(Sb.mk []).fine:=⟨fun j k hj hk=>by
 have:k<0:=hk
 omega,fun b hb=>by cases hb⟩
theorem Vr (m:ByteArray):(Sb.mk []).look m=none:=Sb.NN (x:=⟨[]⟩) rfl
theorem M4 {s:ByteArray} (h:AS s=true):D5 s=false:=by
 unfold AS at h
 rw [zA] at h
 have hsz:0<s.size:=by
  have h2:=h.2
  unfold inB at h2
  rw [zA,decide_eq_true_eq,decide_eq_true_eq] at h2
  omega
 have h0:=GI h.1 hsz
 unfold D5
 have h1:EC IM s s.size=false:=Ey (k:=0) hsz (by
  unfold Ib at h0
  unfold IM
  rw [zA] at h0
  have hu:N0 (GC s 0)=true:=by simpa using h0.1
  have hlo:PA (GC s 0)=false:=by
   unfold N0 at hu
   unfold PA
   rw [zA,decide_eq_true_eq,decide_eq_true_eq] at hu
   rw [decide_eq_false (by omega)]
   rfl
  rw [hlo]
  rfl)
 rw [h1]
 rfl
noncomputable def upE (E:ByteArray→Int) (n:ByteArray) (v:Int):ByteArray→Int:=fun m=>bif dec (m=n) then v else E m
theorem T1 (E:ByteArray→Int) (n:ByteArray) (v:Int):upE E n v n=v:=by unfold upE; rw [Ar rfl]; rfl
theorem JT {E:ByteArray→Int} {n m:ByteArray} {v:Int} (h:m≠n):upE E n v m=E m:=by unfold upE; rw [Aj h]; rfl
def Ft (s:ByteArray):Nat→Int
 | 0=>17
 | k+1=>(31*Ft s k+Ec s k).tmod 65521
def Ig (h:Int) (vs:List Int):Nat→Int
 | 0=>h
 | k+1=>(37*Ig h vs k+vs.getD k 0+1).tmod 65521
def D6 (l:List Int) (i:Int):Int:=if i<l.length then l.getD i.toNat 0 else (i*7+l.length).tmod 256
def RU (l:List Int) (nm:ByteArray) (vs:List Int):Int:=(Ig (Ft nm nm.size) vs vs.length+13*D6 l ((Ig (Ft nm nm.size) vs vs.length).tmod 53)+D6 l ((Ig (Ft nm nm.size) vs vs.length).tmod 89)).tdiv 3
mutual
noncomputable def Tm.val (l:List Int) (n:Int) (E:ByteArray→Int):Tm→Int
 | .mk nm args=>bif AS nm then E nm else (RU l nm (Tm.YT l n E args)).tmod n
noncomputable def Tm.YT (l:List Int) (n:Int) (E:ByteArray→Int):List Tm→List Int
 | []=>[]
 | x :: xs=>Tm.val l n E x :: Tm.YT l n E xs
end
section
variable {l:List Int} {n:Int} {E E':ByteArray→Int}
theorem Tm.T2:∀ xs:List Tm,Tm.YT l n E xs=xs.map (Tm.val l n E)
 | []=>by rw [Tm.YT]; rfl
 | x :: xs=>by rw [Tm.YT,Tm.T2 xs]; rfl
theorem Tm.ID (x:Tm):x.val l n E=bif AS x.name then E x.name else (RU l x.name (x.args.map (Tm.val l n E))).tmod n:=by
 obtain ⟨nm,args⟩:=x
 rw [Tm.val,Tm.T2]; rfl
theorem Tm.T3 (x:Tm) (h:∀ m∈x.vs,E m=E' m):x.val l n E=x.val l n E':=by
 rw [Tm.ID,Tm.ID]
 rw [Tm.QD] at h
 cases hv:AS x.name with
 | true =>
  rw [hv,cond_true] at h
  exact h _ (by simp)
 | false =>
  rw [hv,cond_false] at h
  have:x.args.map (Tm.val l n E)=x.args.map (Tm.val l n E'):=List.map_congr_left fun y hy=>Tm.T3 y fun m hm=>h m (Tm.RO.2 ⟨y,hy,hm⟩)
  rw [this]; rfl
termination_by SizeOf.sizeOf x
decreasing_by exact Tm.lt_of_mem hy
end
noncomputable def KW (l:List Int) (n:Int) (E:ByteArray→Int) (a:Tm):Bool :=
 bif dec (a.name=⟨#[61]⟩)&&dec (a.args.length=2) then dec ((a.args.map (Tm.val l n E)).getD 0 0=(a.args.map (Tm.val l n E)).getD 1 0)
 else dec ((RU l ((⟨#[126]⟩:ByteArray)++a.name) (a.args.map (Tm.val l n E))).tmod 2=1)
abbrev BF:=(ByteArray→Int)→Bool
def p0 (ps:List BF):BF:=ps.getD 0 fun _=>false
def p1 (ps:List BF):BF:=ps.getD 1 fun _=>false
noncomputable def vtF (l:List Int) (n:Int) (op:Int) (atom:Tm) (var:ByteArray) (ps:List BF) (E:ByteArray→Int):Bool :=
 bif dec (op=1) then true else bif dec (op=2) then false else bif dec (op=3) then KW l n E atom else bif dec (op=4) then !p0 ps E
 else bif dec (op=5) then p0 ps E&&p1 ps E else bif dec (op=6) then p0 ps E || p1 ps E else bif dec (op=7) then !p0 ps E || p1 ps E
 else bif dec (op=8) then (xD n.toNat).all fun k=>p0 ps (upE E var (k:Nat)) else (xD n.toNat).any fun k=>p0 ps (upE E var (k:Nat))
mutual
noncomputable def Fm.vt (l:List Int) (n:Int):Fm→BF
 | .mk op atom var parts=>vtF l n op atom var (Fm.vtL l n parts)
noncomputable def Fm.vtL (l:List Int) (n:Int):List Fm→List BF
 | []=>[]
 | x :: xs=>Fm.vt l n x :: Fm.vtL l n xs
end
section
variable {l:List Int} {n:Int}
theorem Fm.Wz:∀ xs:List Fm,Fm.vtL l n xs=xs.map (Fm.vt l n)
 | []=>by rw [Fm.vtL]; rfl
 | x :: xs=>by rw [Fm.vtL,Fm.Wz xs]; rfl
theorem Fm.QL (x:Fm):x.vt l n=vtF l n x.op x.atom x.var (x.parts.map (Fm.vt l n)):=by
 obtain ⟨op,atom,var,parts⟩:=x
 rw [Fm.vt,Fm.Wz]; rfl
theorem Fm.NO {x:Fm} (h:x.form=true) (ho:x.op=5∨x.op=6∨x.op=7):∃ p q,x.parts=[p,q]:=by
 unfold Fm.form at h
 rw [if_neg (by omega),if_neg (by omega),if_neg (by omega),if_pos ho,zA,zA] at h
 have hl:x.parts.length=2:=by simpa using h.1.1
 match hq:x.parts,hl with
 | [p,q],_=>exact ⟨p,q,rfl⟩
theorem Fm.W0 {x:Fm} (h:x.form=true) (ho:x.op=4):∃ p,x.parts=[p]:=by
 unfold Fm.form at h
 rw [if_neg (by omega),if_neg (by omega),if_pos ho,zA,zA] at h
 have hl:x.parts.length=1:=by simpa using h.1.1
 match hq:x.parts,hl with
 | [p],_=>exact ⟨p,rfl⟩
theorem Fm.W1 {x:Fm} (h:x.form=true):x.op=1∨x.op=2∨x.op=3∨x.op=4∨(x.op=5∨x.op=6∨x.op=7)∨x.op=8∨x.op=9:=by
 unfold Fm.form at h
 rcases L6 x.op with h1 | h1 | h1 | h1 | h1 | h1 | h1 | h1 | h1 | h1
 any_goals omega
 rw [if_neg (by omega),if_neg (by omega),if_neg (by omega),if_neg (by omega),if_neg (by omega)] at h
 cases h
variable {x p q:Fm} {E E':ByteArray→Int}
theorem Fm.Qca (h:x.op=1):x.vt l n E=true:=by rw [Fm.QL]; unfold vtF; rw [Ar h]; rfl
theorem Fm.Qcb (h:x.op=2):x.vt l n E=false:=by rw [Fm.QL]; unfold vtF; rw [Aj (by omega),Ar h]; rfl
theorem Fm.YU (h:x.op=3):x.vt l n E=KW l n E x.atom:=by rw [Fm.QL]; unfold vtF; rw [Aj (by omega),Aj (by omega),Ar h]; rfl
theorem Fm.Qbu (h:x.op=4) (hp:x.parts=[p]):x.vt l n E=!p.vt l n E:=by rw [Fm.QL]; unfold vtF; rw [Aj (by omega),Aj (by omega),Aj (by omega),Ar h,hp]; rfl
noncomputable def Pb (op:Int) (a b:Bool):Bool:=bif dec (op=5) then a&&b else bif dec (op=6) then a || b else !a || b
theorem Fm.YV (h:x.op=5∨x.op=6∨x.op=7) (hp:x.parts=[p,q]):x.vt l n E=Pb x.op (p.vt l n E) (q.vt l n E):=by
 rw [Fm.QL]; unfold vtF Pb
 rw [Aj (by omega),Aj (by omega),Aj (by omega),Aj (by omega),hp]
 rcases h with h | h | h
 ·rw [Ar h]; rfl
 ·rw [Aj (by omega),Ar h]; rfl
 ·rw [Aj (by omega),Aj (by omega),Ar h]; rfl
noncomputable def Ks (op:Int) (n:Int) (f:Int→Bool):Bool:=bif dec (op=8) then (xD n.toNat).all fun k=>f (k:Nat) else (xD n.toNat).any fun k=>f (k:Nat)
theorem Fm.YW (h:x.op=8∨x.op=9) (hp:x.parts=[p]):x.vt l n E=Ks x.op n fun k=>p.vt l n (upE E x.var k):=by
 rw [Fm.QL]; unfold vtF Ks
 rw [Aj (by omega),Aj (by omega),Aj (by omega),Aj (by omega),Aj (by omega),Aj (by omega),Aj (by omega),hp]
 rfl
theorem Tm.Qau {x:Tm} (h:x.atom=true):AS x.name=false:=by
 unfold Tm.atom at h
 split at h
 ·rename_i he
  exact Tm.Qar he
 ·rw [zA] at h
  cases hv:AS x.name with
  | false=>rfl
  | true=>rw [M4 hv] at h; cases h.1
end
noncomputable def Pc (p:EL):MF:=p.foldl (fun m e=>K9 m e.1 e.2) nomap
theorem Pd (p:EL) (k:MK) (x:MV):Pc (p++[(k,x)])=K9 (Pc p) k x:=by unfold Pc; rw [y9]; rfl
theorem T4 {f:MF} {p:EL} (h:Enum f p):Pc p=f:=by
 have key:∀ (p:EL) (m0:MF) (k:MK),(p.map (·.1)).Nodup→p.foldl (fun m e=>K9 m e.1 e.2) m0 k=match p.find? (fun e=>dec (e.1=k)) with | some e=>some e.2 | none=>m0 k:=by
  intro p
  induction p with
  | nil=>intro m0 k _; rfl
  | cons e p ih =>
   intro m0 k hn
   rw [zB,List.nodup_cons] at hn
   rw [z7,ih _ _ hn.2,List.find?_cons]
   by_cases he:e.1=k
   ·rw [Ar he]
    have:p.find? (fun e=>dec (e.1=k))=none:=by
     rw [List.find?_eq_none]
     intro e' he' hd
     rw [Aw] at hd
     exact hn.1 (yM.2 ⟨e',he',by rw [hd,he]⟩)
    rw [this]
    simp only
    rw [←he,HR]
   ·rw [Aj he]
    simp only
    cases p.find? (fun e=>dec (e.1=k)) with
    | some e'=>rfl
    | none=>simp only; rw [Hm fun h=>he h.symm]
 funext k
 unfold Pc
 rw [key p nomap k h.nd]
 cases hf:p.find? (fun e=>dec (e.1=k)) with
 | some e =>
  have h1:=List.mem_of_find?_eq_some hf
  have h2:=List.find?_some hf
  rw [Aw] at h2
  subst h2
  exact ((h.mem e.1 e.2).1 h1).symm
 | none =>
  simp only
  cases hk:f k with
  | none=>rfl
  | some x =>
   have h1:=(h.mem k x).2 hk
   rw [List.find?_eq_none] at hf
   exact absurd (Ar rfl) (hf _ h1)
theorem Qav {f:MF} (l:List ByteArray) (hl:∀ k x,f k=some x→∃ s∈l,k=.str s):∃ L,Enum f L:=by
 have key:∀ l:List ByteArray,∃ L:EL,(L.map (·.1)).Nodup∧∀ k x,(k,x)∈L ↔ f k=some x∧k∈l.map MK.str:=by
  intro l
  induction l with
  | nil=>exact ⟨[],by simp,fun k x=>by simp⟩
  | cons s l ih =>
   obtain ⟨L,h1,h2⟩:=ih
   cases hs:f (.str s) with
   | none =>
    refine ⟨L,h1,fun k x=>?_⟩
    rw [h2]
    constructor
    ·rintro ⟨a,b⟩; exact ⟨a,by simp only [zB,zH]; exact .inr b⟩
    ·rintro ⟨a,b⟩
     rcases zH.1 b with rfl | b
     ·rw [hs] at a; cases a
     ·exact ⟨a,b⟩
   | some v =>
    by_cases hm:MK.str s∈l.map MK.str
    ·refine ⟨L,h1,fun k x=>?_⟩
     rw [h2]
     constructor
     ·rintro ⟨a,b⟩; exact ⟨a,by simp only [zB,zH]; exact .inr b⟩
     ·rintro ⟨a,b⟩
      rcases zH.1 b with rfl | b
      ·exact ⟨a,hm⟩
      ·exact ⟨a,b⟩
    ·refine ⟨(.str s,v) :: L,?_,fun k x=>?_⟩
     ·rw [zB,List.nodup_cons]
      refine ⟨fun hk=>?_,h1⟩
      obtain ⟨⟨k,x⟩,hk1,hk2⟩:=yM.1 hk
      have:=(h2 k x).1 hk1
      have hk2:k=.str s:=hk2
      rw [hk2] at this
      exact hm this.2
     ·rw [zH,h2]
      constructor
      ·rintro (hk | ⟨a,b⟩)
       ·obtain ⟨rfl,rfl⟩:=yD hk
        exact ⟨hs,by simp⟩
       ·exact ⟨a,by simp only [zB,zH]; exact .inr b⟩
      ·rintro ⟨a,b⟩
       rcases zH.1 b with rfl | b
       ·rw [hs] at a
        exact .inl (by rw [zK a])
       ·exact .inr ⟨a,b⟩
 obtain ⟨L,h1,h2⟩:=key l
 refine ⟨L,h1,fun k x=>?_⟩
 rw [h2]
 exact ⟨fun h=>h.1,fun h=>⟨h,by obtain ⟨s,hs,rfl⟩:=hl k x h; exact yM.2 ⟨s,hs,rfl⟩⟩⟩
abbrev SEnv:=ByteArray→Option ByteArray
noncomputable def N4 (e:SEnv) (s n:ByteArray):SEnv:=fun q=>bif dec (q=s) then some n else e q
mutual
noncomputable def Tm.rn (e:SEnv):Tm→Tm
 | .mk n args=>.mk (bif args.isEmpty then (e n).getD n else n) (Tm.rnL e args)
noncomputable def Tm.rnL (e:SEnv):List Tm→List Tm
 | []=>[]
 | x :: xs=>Tm.rn e x :: Tm.rnL e xs
end
theorem Tm.W2 (e:SEnv):∀ xs:List Tm,Tm.rnL e xs=xs.map (Tm.rn e)
 | []=>by rw [Tm.rnL]; rfl
 | x :: xs=>by rw [Tm.rnL,Tm.W2 e xs]; rfl
theorem Tm.W3 (e:SEnv) (x:Tm):x.rn e=.mk (bif x.args.isEmpty then (e x.name).getD x.name else x.name) (x.args.map (Tm.rn e)):=by
 obtain ⟨n,args⟩:=x
 rw [Tm.rn,Tm.W2]; rfl
theorem Tm.T5 (e:SEnv) (x:Tm):(x.rn e).nodes=x.nodes:=by
 have key:∀ xs:List Tm,(∀ y∈xs,(y.rn e).nodes=y.nodes)→Tm.nodeS (xs.map (Tm.rn e))=Tm.nodeS xs:=by
  intro xs
  induction xs with
  | nil=>intro _; rfl
  | cons y ys ih =>
   intro h
   rw [zB,Tm.nodeS,Tm.nodeS,h y (by simp),ih fun z hz=>h z (by simp [hz])]
 rw [Tm.W3,Tm.nodes_eq,Tm.nodes_eq]
 show 1+Tm.nodeS (x.args.map (Tm.rn e))=_
 rw [key x.args fun y hy=>Tm.T5 e y]
termination_by SizeOf.sizeOf x
decreasing_by exact Tm.lt_of_mem hy
theorem W4 (u:Nat):Lib.decDigits u≠[]:=by
 rw [Lib.decDigits]
 split <;> simp
theorem W5 {a b:Nat} (ha:a<10) (hb:b<10) (h:UInt8.ofNat (48+a)=UInt8.ofNat (48+b)):a=b:=by
 have:=congrArg UInt8.toNat h
 rw [UInt8.toNat_ofNat',UInt8.toNat_ofNat'] at this
 omega
theorem YX:∀ u v:Nat,Lib.decDigits u=Lib.decDigits v→u=v:=by
 intro u
 induction u using Nat.strongRecOn with
 | _ u ih =>
  intro v h
  rw [Lib.decDigits,Lib.decDigits.eq_def v] at h
  split at h <;> split at h
  ·rename_i h1 h2
   exact W5 h1 h2 (by simpa using h)
  ·rename_i h1 h2
   have:=congrArg List.length h
   have hne:=W4 (v / 10)
   rw [z8] at this
   have:(Lib.decDigits (v / 10)).length=0:=by simp at this; simpa using this
   exact absurd (zC this) hne
  ·rename_i h1 h2
   have:=congrArg List.length h
   have hne:=W4 (u / 10)
   rw [z8] at this
   have:(Lib.decDigits (u / 10)).length=0:=by simp at this; simpa using this
   exact absurd (zC this) hne
  ·rename_i h1 h2
   obtain ⟨e1,e2⟩:=List.append_inj' h rfl
   have e3:=ih (u / 10) (by omega) _ e1
   have e4:=W5 (Nat.mod_lt _ (by omega)) (Nat.mod_lt _ (by omega)) (by simpa using e2)
   omega
theorem YY {a b:Int} (ha:0≤a) (hb:0≤b) (h:Jp a=Jp b):a=b:=by
 obtain ⟨u,rfl⟩:∃ u:Nat,a=u:=⟨a.toNat,by omega⟩
 obtain ⟨v,rfl⟩:∃ v:Nat,b=v:=⟨b.toNat,by omega⟩
 unfold Jp at h
 rw [Lib.itoa_nonneg,Lib.itoa_nonneg] at h
 have:=YX u v (by have:=congrArg (fun x:ByteArray=>x.data.toList) h; simpa using this)
 omega
theorem Vs {n:Int} (h0:0≤n) (h:n<10):Jp n=⟨#[UInt8.ofNat (48+n.toNat)]⟩:=by
 obtain ⟨u,rfl⟩:∃ u:Nat,n=u:=⟨n.toNat,by omega⟩
 unfold Jp
 rw [Lib.itoa_nonneg,Lib.decDigits,dif_pos (by omega)]
 rfl
theorem YZ {n:Int} (h:10≤n):Jp n=Jp (n.tdiv 10)++⟨#[UInt8.ofNat (48+(n.tmod 10).toNat)]⟩:=by
 obtain ⟨u,rfl⟩:∃ u:Nat,n=u:=⟨n.toNat,by omega⟩
 have e1:(u:Int).tdiv 10=((u / 10:Nat):Int):=by rw [Int.tdiv_eq_ediv_of_nonneg (by omega)]; rfl
 have e2:((u:Int).tmod 10).toNat=u % 10:=by rw [Int.tmod_eq_emod_of_nonneg (by omega)]; omega
 rw [e1,e2]
 unfold Jp
 rw [Lib.itoa_nonneg,Lib.itoa_nonneg,Lib.decDigits,dif_neg (by omega)]
 have key:∀ (x:List UInt8) (y:UInt8),(⟨(x++[y]).toArray⟩:ByteArray)=⟨x.toArray⟩++⟨#[y]⟩:=fun x y=>by
  have e:∀ a b:ByteArray,a.data=b.data→a=b:=fun a b h=>by cases a; cases b; cases h; rfl
  apply e
  simp
 exact key _ _
def pre (p:ByteArray) (n:Int):ByteArray:=p++Jp n
theorem Qaw {p:ByteArray} {a b:Int} (ha:0≤a) (hb:0≤b) (h:pre p a=pre p b):a=b:=by
 refine YY ha hb ?_
 unfold pre at h
 simpa using h
noncomputable def beyond (p:ByteArray) (taken:List ByteArray) (c:Int):Nat:=(taken.filter fun s=>dec (∃ k:Int,c<k∧s=pre p k)).length
theorem M5 (p:ByteArray) (taken:List ByteArray) (c:Int):beyond p taken c≤taken.length:=yT _ _
theorem JU {p:ByteArray} {taken:List ByteArray} {c:Int} (hc:0≤c) (h:pre p (c+1)∈taken):beyond p taken (c+1)<beyond p taken c:=by
 unfold beyond
 refine filter_lt (fun x hx=>?_) h (Ar ⟨c+1,by omega,rfl⟩) (Aj ?_)
 ·rw [Aw] at hx ⊢
  obtain ⟨k,h1,h2⟩:=hx
  exact ⟨k,by omega,h2⟩
 ·rintro ⟨k,h1,h2⟩
  have:=Qaw (by omega) (by omega) h2
  omega
noncomputable def D7 (p:ByteArray) (taken:List ByteArray):Nat→Int→Int
 | 0,c=>c+1
 | k+1,c=>bif dec (pre p (c+1)∈taken) then D7 p taken k (c+1) else c+1
noncomputable def fresh (p:ByteArray) (taken:List ByteArray) (c:Int):Int:=D7 p taken (taken.length+1) c
theorem LA (p:ByteArray) (taken:List ByteArray):∀ (k:Nat) (c:Int),c<D7 p taken k c∧D7 p taken k c≤c+1+k
 | 0,c=>by rw [D7]; omega
 | k+1,c=>by
  have:=LA p taken k (c+1)
  rw [D7]
  cases dec (pre p (c+1)∈taken) with
  | true=>rw [cond_true]; omega
  | false=>rw [cond_false]; omega
theorem Hu {p:ByteArray} {taken:List ByteArray}:∀ (k j:Nat) (c:Int),0≤c→beyond p taken c<k→beyond p taken c<j→D7 p taken k c=D7 p taken j c
 | 0,_,_,_,h,_=>by omega
 | _,0,_,_,_,h=>by omega
 | k+1,j+1,c,hc,h1,h2=>by
  rw [D7,D7]
  by_cases h:pre p (c+1)∈taken
  ·have:=JU hc h
   rw [Ar h,cond_true,cond_true]
   exact Hu k j (c+1) (by omega) (by omega) (by omega)
  ·rw [Aj h]; rfl
theorem QM {p:ByteArray} {taken:List ByteArray} {c:Int} (hc:0≤c) (h:pre p (c+1)∈taken):fresh p taken c=fresh p taken (c+1):=by
 have h1:=JU hc h
 have h2:=M5 p taken c
 unfold fresh
 rw [D7,Ar h,cond_true]
 exact Hu _ _ _ (by omega) (by omega) (by omega)
theorem QN {p:ByteArray} {taken:List ByteArray} {c:Int} (h:¬ pre p (c+1)∈taken):fresh p taken c=c+1:=by
 unfold fresh
 rw [D7,Aj h]; rfl
theorem C7 (p:ByteArray) (taken:List ByteArray) (c:Int):c<fresh p taken c∧fresh p taken c≤c+2+taken.length:=by
 have:=LA p taken (taken.length+1) c
 unfold fresh
 omega
theorem GP:modes 136=⟨[],.asis,some (Lu Q4),false⟩:=by unfold modes; rfl
theorem Qbv (n:Int) (h0:0≤n) (h1:n≤1099511627776):E 136 [.int .i64 n] []=some (.str (Jp n),[]) :=
 Tp (g:=Q4) (congrArg FM.ext GP) (by simp only [Q4,Ar (⟨h0,h1⟩:0≤n∧n≤1099511627776),cond_true])
def Fm.Qax (x:Fm):Fm:=.mk 4 Tm.zero ⟨#[]⟩ [x]
def Fm.QO (op:Int) (x y:Fm):Fm:=.mk op Tm.zero ⟨#[]⟩ [x,y]
noncomputable def Pe (op:Int):Int:=bif dec (op=1) then 2 else bif dec (op=2) then 1 else bif dec (op=5) then 6 else bif dec (op=6) then 5 else bif dec (op=8) then 9 else bif dec (op=9) then 8 else 0
noncomputable def Fm.Qay (op:Int) (atom:Tm) (var:ByteArray) (parts:List Fm) (b:Bool) (ys zs:List Fm):Fm :=
 bif dec (op=3) then (bif b then .mk op atom var parts else Fm.Qax (.mk op atom var parts))
 else bif dec (op=4) then zs.headD Fm.zero
 else bif dec (op=7) then Fm.QO (bif b then 6 else 5) (zs.headD Fm.zero) ((ys.drop 1).headD Fm.zero)
 else .mk (bif b then op else Pe op) atom var ys
mutual
noncomputable def Fm.nnf:Fm→Bool→Fm
 | .mk op atom var parts,b=>Fm.Qay op atom var parts b (Fm.Xy parts b) (Fm.Xy parts (!b))
noncomputable def Fm.Xy:List Fm→Bool→List Fm
 | [],_=>[]
 | x :: xs,b=>Fm.nnf x b :: Fm.Xy xs b
end
theorem Fm.Pf (b:Bool):∀ xs:List Fm,Fm.Xy xs b=xs.map fun y=>y.nnf b
 | []=>by rw [Fm.Xy]; rfl
 | x :: xs=>by rw [Fm.Xy,Fm.Pf b xs]; rfl
theorem Fm.Za (x:Fm) (b:Bool):x.nnf b=Fm.Qay x.op x.atom x.var x.parts b (x.parts.map fun y=>y.nnf b) (x.parts.map fun y=>y.nnf (!b)):=by
 obtain ⟨op,atom,var,parts⟩:=x
 rw [Fm.nnf,Fm.Pf,Fm.Pf]; rfl
theorem Fm.JV {x:Fm} (h:x.form=true) (ho:x.op=1∨x.op=2):x=.mk x.op Tm.zero ⟨#[]⟩ []:=by
 have ha:=Fm.E2 h (by omega)
 unfold Fm.form at h
 rw [if_pos ho,zA,zA] at h
 have hl:x.parts.length=0:=by simpa using h.1.1
 have hp:x.parts=[]:=zC hl
 have hv:x.var=⟨#[]⟩:=Aw.1 h.2
 obtain ⟨op,atom,var,parts⟩:=x
 change atom=_ at ha
 change parts=_ at hp
 change var=_ at hv
 subst ha hp hv; rfl
theorem Fm.LB {x:Fm} (h:x.form=true) (ho:x.op=4):∃ p,x=.mk 4 Tm.zero ⟨#[]⟩ [p]:=by
 have ha:=Fm.E2 h (by omega)
 unfold Fm.form at h
 rw [if_neg (by omega),if_neg (by omega),if_pos ho,zA,zA] at h
 have hl:x.parts.length=1:=by simpa using h.1.1
 have hv:x.var=⟨#[]⟩:=Aw.1 h.2
 obtain ⟨op,atom,var,parts⟩:=x
 change atom=_ at ha
 change parts.length=_ at hl
 change var=_ at hv
 change op=_ at ho
 subst ha hv ho
 match parts,hl with
 | [p],_=>exact ⟨p,rfl⟩
theorem Fm.Ih {x:Fm} (h:x.form=true) (ho:x.op=5∨x.op=6∨x.op=7):∃ p q,x=.mk x.op Tm.zero ⟨#[]⟩ [p,q]:=by
 have ha:=Fm.E2 h (by omega)
 unfold Fm.form at h
 rw [if_neg (by omega),if_neg (by omega),if_neg (by omega),if_pos ho,zA,zA] at h
 have hl:x.parts.length=2:=by simpa using h.1.1
 have hv:x.var=⟨#[]⟩:=Aw.1 h.2
 obtain ⟨op,atom,var,parts⟩:=x
 change atom=_ at ha
 change parts.length=_ at hl
 change var=_ at hv
 subst ha hv
 match parts,hl with
 | [p,q],_=>exact ⟨p,q,rfl⟩
theorem Fm.Vt {x:Fm} (h:x.form=true) (ho:x.op=8∨x.op=9):∃ p,x=.mk x.op Tm.zero x.var [p]:=by
 have ha:=Fm.E2 h (by omega)
 obtain ⟨_,p,hp⟩:=Fm.Bu h (by unfold qB; rw [yE,Aw,Aw]; exact ho)
 obtain ⟨op,atom,var,parts⟩:=x
 change atom=_ at ha
 change parts=_ at hp
 subst ha hp
 exact ⟨p,rfl⟩
theorem Fm.T6 {x:Fm} (h:x.form=true):x.op=1∨x.op=2∨x.op=3∨x.op=4∨x.op=5∨x.op=6∨x.op=7∨x.op=8∨x.op=9:=by
 rcases L6 x.op with h1 | h1 | h1 | h1 | h1 | h1 | h1 | h1 | h1 | h1 <;> try omega
 unfold Fm.form at h
 rw [if_neg (by omega),if_neg (by omega),if_neg (by omega),if_neg (by omega),if_neg (by omega)] at h
 cases h
theorem Tm.IE:Tm.zero.nodes=1:=by rw [Tm.nodes_eq]; show 1+Tm.nodeS []=1; rw [Tm.nodeS]
theorem Fm.DT {op:Int} {t:Tm} {v:ByteArray} {ps:List Fm}:(Fm.mk op t v ps).tame=(t.nodes≤1099511627776∧Fm.Cb ps):=Fm.JP _
theorem Fm.nodes_mk {op:Int} {t:Tm} {v:ByteArray} {ps:List Fm}:(Fm.mk op t v ps).nodes=1+Fm.nodeS ps:=Fm.nodes_eq _
theorem Fm.QP (x:Fm) (h:x.forms=true) (b:Bool):(x.nnf b).tame∧(x.nnf b).nodes≤2*x.nodes:=by
 have ih:∀ y∈x.parts,∀ b,(y.nnf b).tame∧(y.nnf b).nodes≤2*y.nodes:=fun y hy b=>Fm.QP y (Fm.AQ h hy) b
 have ht:=Fm.KS x h
 have hf:=Fm.Bo h
 have hz:=Tm.IE
 rw [Fm.Za]
 unfold Fm.Qay
 rcases Fm.T6 hf with h1 | h1 | h1 | h1 | h1 | h1 | h1 | h1 | h1
 ·rw [Aj (p:=x.op=3) (by omega),Aj (p:=x.op=4) (by omega),Aj (p:=x.op=7) (by omega)]
  have e:=Fm.JV hf (by omega)
  have hp:x.parts=[]:=by rw [e]; rfl
  have ha:x.atom=Tm.zero:=by rw [e]; rfl
  have hx:=Fm.nodes_pos x
  simp only [cond_false,hp,ha,zO,Fm.DT,Fm.nodes_mk,Fm.Cb,Fm.nodeS,hz]
  exact ⟨⟨by omega,trivial⟩,by omega⟩
 ·rw [Aj (p:=x.op=3) (by omega),Aj (p:=x.op=4) (by omega),Aj (p:=x.op=7) (by omega)]
  have e:=Fm.JV hf (by omega)
  have hp:x.parts=[]:=by rw [e]; rfl
  have ha:x.atom=Tm.zero:=by rw [e]; rfl
  have hx:=Fm.nodes_pos x
  simp only [cond_false,hp,ha,zO,Fm.DT,Fm.nodes_mk,Fm.Cb,Fm.nodeS,hz]
  exact ⟨⟨by omega,trivial⟩,by omega⟩
 ·rw [Ar h1]
  have hx:Fm.mk x.op x.atom x.var x.parts=x:=by obtain ⟨_,_,_,_⟩:=x; rfl
  have hn:=Fm.nodes_pos x
  cases b with
  | true=>simp only [cond_true,hx]; exact ⟨ht,by omega⟩
  | false =>
   simp only [cond_true,cond_false,hx,Fm.Qax,Fm.DT,Fm.nodes_mk,Fm.Cb,Fm.nodeS,hz]
   exact ⟨⟨by omega,ht,trivial⟩,by omega⟩
 ·rw [Aj (p:=x.op=3) (by omega),Ar h1]
  obtain ⟨p,e⟩:=Fm.LB hf h1
  have hp:x.parts=[p]:=by rw [e]; rfl
  have hi:=ih p (by rw [hp]; simp) (!b)
  have hn:=Fm.nodes_eq x
  rw [hp,Fm.nodeS,Fm.nodeS] at hn
  simp only [cond_true,cond_false,hp,zB,xF]
  exact ⟨hi.1,by omega⟩
 ·rw [Aj (p:=x.op=3) (by omega),Aj (p:=x.op=4) (by omega),Aj (p:=x.op=7) (by omega)]
  obtain ⟨p,q,e⟩:=Fm.Ih hf (by omega)
  have hp:x.parts=[p,q]:=by rw [e]; rfl
  have ha:x.atom=Tm.zero:=by rw [e]; rfl
  have hi:=ih p (by rw [hp]; simp) b
  have hj:=ih q (by rw [hp]; simp) b
  have hn:=Fm.nodes_eq x
  rw [hp,Fm.nodeS,Fm.nodeS,Fm.nodeS] at hn
  simp only [cond_true,cond_false,hp,ha,zB,zO,Fm.DT,Fm.nodes_mk,Fm.Cb,Fm.nodeS,hz]
  exact ⟨⟨by omega,hi.1,hj.1,trivial⟩,by omega⟩
 ·rw [Aj (p:=x.op=3) (by omega),Aj (p:=x.op=4) (by omega),Aj (p:=x.op=7) (by omega)]
  obtain ⟨p,q,e⟩:=Fm.Ih hf (by omega)
  have hp:x.parts=[p,q]:=by rw [e]; rfl
  have ha:x.atom=Tm.zero:=by rw [e]; rfl
  have hi:=ih p (by rw [hp]; simp) b
  have hj:=ih q (by rw [hp]; simp) b
  have hn:=Fm.nodes_eq x
  rw [hp,Fm.nodeS,Fm.nodeS,Fm.nodeS] at hn
  simp only [cond_true,cond_false,hp,ha,zB,zO,Fm.DT,Fm.nodes_mk,Fm.Cb,Fm.nodeS,hz]
  exact ⟨⟨by omega,hi.1,hj.1,trivial⟩,by omega⟩
 ·rw [Aj (p:=x.op=3) (by omega),Aj (p:=x.op=4) (by omega),Ar h1]
  obtain ⟨p,q,e⟩:=Fm.Ih hf (by omega)
  have hp:x.parts=[p,q]:=by rw [e]; rfl
  have hi:=ih p (by rw [hp]; simp) (!b)
  have hj:=ih q (by rw [hp]; simp) b
  have hn:=Fm.nodes_eq x
  rw [hp,Fm.nodeS,Fm.nodeS,Fm.nodeS] at hn
  simp only [cond_true,cond_false,hp,zB,zO,xF,yZ,zN,Fm.QO,Fm.DT,Fm.nodes_mk,Fm.Cb,Fm.nodeS,hz]
  exact ⟨⟨by omega,hi.1,hj.1,trivial⟩,by omega⟩
 all_goals
  rw [Aj (p:=x.op=3) (by omega),Aj (p:=x.op=4) (by omega),Aj (p:=x.op=7) (by omega)]
  obtain ⟨p,e⟩:=Fm.Vt hf (by omega)
  have hp:x.parts=[p]:=by rw [e]; rfl
  have ha:x.atom=Tm.zero:=by rw [e]; rfl
  have hi:=ih p (by rw [hp]; simp) b
  have hn:=Fm.nodes_eq x
  rw [hp,Fm.nodeS,Fm.nodeS] at hn
  simp only [cond_true,cond_false,hp,ha,zB,zO,Fm.DT,Fm.nodes_mk,Fm.Cb,Fm.nodeS,hz]
  exact ⟨⟨by omega,hi.1,trivial⟩,by omega⟩
termination_by SizeOf.sizeOf x
decreasing_by exact Fm.lt_of_mem hy
def A4 {α β S:Type} (f:α→S→β × S):List α→S→List β × S
 | [],s=>([],s)
 | x :: xs,s=>((f x s).1 :: (A4 f xs (f x s).2).1,(A4 f xs (f x s).2).2)
def D8:ByteArray:=⟨#[86]⟩
mutual
noncomputable def Fm.sep (tk:List ByteArray):Fm→SEnv→Int→Fm × Int
 | .mk op atom var parts,e,c=>bif dec (op=3) then (.mk 3 (atom.rn e) ⟨#[]⟩ [],c)
  else bif qB op then (.mk op Tm.zero (pre D8 (fresh D8 tk c)) (Fm.RV tk parts (N4 e var (pre D8 (fresh D8 tk c))) (fresh D8 tk c)).1,(Fm.RV tk parts (N4 e var (pre D8 (fresh D8 tk c))) (fresh D8 tk c)).2)
  else (.mk op Tm.zero ⟨#[]⟩ (Fm.RV tk parts e c).1,(Fm.RV tk parts e c).2)
noncomputable def Fm.RV (tk:List ByteArray):List Fm→SEnv→Int→List Fm × Int
 | [],_,c=>([],c)
 | x :: xs,e,c=>((Fm.sep tk x e c).1 :: (Fm.RV tk xs e (Fm.sep tk x e c).2).1,(Fm.RV tk xs e (Fm.sep tk x e c).2).2)
end
theorem Fm.M6 (tk:List ByteArray) (e:SEnv):∀ (xs:List Fm) (c:Int),Fm.RV tk xs e c=A4 (fun y c=>Fm.sep tk y e c) xs c
 | [],c=>by rw [Fm.RV]; rfl
 | x :: xs,c=>by rw [Fm.RV,A4,Fm.M6 tk e xs]
theorem Fm.Vu (tk:List ByteArray) (x:Fm) (e:SEnv) (c:Int):x.sep tk e c=bif dec (x.op=3) then (.mk 3 (x.atom.rn e) ⟨#[]⟩ [],c)
  else bif qB x.op then (.mk x.op Tm.zero (pre D8 (fresh D8 tk c)) (A4 (fun y d=>Fm.sep tk y (N4 e x.var (pre D8 (fresh D8 tk c))) d) x.parts (fresh D8 tk c)).1,(A4 (fun y d=>Fm.sep tk y (N4 e x.var (pre D8 (fresh D8 tk c))) d) x.parts (fresh D8 tk c)).2)
  else (.mk x.op Tm.zero ⟨#[]⟩ (A4 (fun y c=>Fm.sep tk y e c) x.parts c).1,(A4 (fun y c=>Fm.sep tk y e c) x.parts c).2):=by
 obtain ⟨op,atom,var,parts⟩:=x
 rw [Fm.sep,Fm.M6,Fm.M6]
 rfl
theorem Fm.JW (tk:List ByteArray) (x:Fm):∀ (e:SEnv) (c:Int),0≤c→c≤(x.sep tk e c).2∧(x.sep tk e c).2≤c+x.nodes*(tk.length+2:Nat):=by
 intro e c hc
 have ih:∀ y∈x.parts,∀ (e:SEnv) (c:Int),0≤c→c≤(y.sep tk e c).2∧(y.sep tk e c).2≤c+y.nodes*(tk.length+2:Nat):=fun y hy=>Fm.JW tk y
 have key:∀ (e:SEnv) (xs:List Fm),(∀ y∈xs,y∈x.parts)→∀ c:Int,0≤c→c≤(A4 (fun y c=>Fm.sep tk y e c) xs c).2∧(A4 (fun y c=>Fm.sep tk y e c) xs c).2≤c+Fm.nodeS xs*(tk.length+2:Nat):=by
  intro e xs
  induction xs with
  | nil=>intro _ c _; rw [A4,Fm.nodeS]; simp
  | cons y ys ihy =>
   intro hm c h0
   have h1:=ih y (hm y (by simp)) e c h0
   have h2:=ihy (fun z hz=>hm z (by simp [hz])) (y.sep tk e c).2 (by omega)
   rw [A4,Fm.nodeS]
   dsimp only
   rw [Int.natCast_add,Int.add_mul]
   omega
 rw [Fm.Vu,Fm.nodes_eq,Int.natCast_add,Int.add_mul]
 have hT:(0:Int)≤(Fm.nodeS x.parts:Int)*(tk.length+2:Nat):=Int.mul_nonneg (by omega) (by omega)
 have hO:((1:Nat):Int)*(tk.length+2:Nat)=tk.length+2:=by simp
 rw [hO]
 cases dec (x.op=3) with
 | true=>simp only [cond_true]; omega
 | false =>
  cases qB x.op with
  | true =>
   have hf:=C7 D8 tk c
   have:=key (N4 e x.var (pre D8 (fresh D8 tk c))) x.parts (fun y hy=>hy) (fresh D8 tk c) (by omega)
   simp only [cond_true,cond_false]; omega
  | false =>
   have:=key e x.parts (fun y hy=>hy) c hc
   simp only [cond_false]; omega
termination_by SizeOf.sizeOf x
decreasing_by exact Fm.lt_of_mem hy
theorem Fm.QQ (tk:List ByteArray) (x:Fm) (h:x.forms=true):∀ (e:SEnv) (c:Int),(x.sep tk e c).1.tame∧(x.sep tk e c).1.nodes≤x.nodes:=by
 intro e c
 have ih:∀ y∈x.parts,∀ (e:SEnv) (c:Int),(y.sep tk e c).1.tame∧(y.sep tk e c).1.nodes≤y.nodes:=fun y hy=>Fm.QQ tk y (Fm.AQ h hy)
 have key:∀ (e:SEnv) (xs:List Fm),(∀ y∈xs,y∈x.parts)→∀ c:Int,Fm.Cb (A4 (fun y c=>Fm.sep tk y e c) xs c).1∧Fm.nodeS (A4 (fun y c=>Fm.sep tk y e c) xs c).1≤Fm.nodeS xs:=by
  intro e xs
  induction xs with
  | nil=>intro _ c; rw [A4,Fm.Cb,Fm.nodeS]; exact ⟨trivial,zU _⟩
  | cons y ys ihy =>
   intro hm c
   have h1:=ih y (hm y (by simp)) e c
   have h2:=ihy (fun z hz=>hm z (by simp [hz])) (y.sep tk e c).2
   rw [A4,Fm.Cb,Fm.nodeS,Fm.nodeS]
   exact ⟨⟨h1.1,h2.1⟩,by omega⟩
 have hz:Tm.zero.nodes≤1099511627776:=by rw [Tm.IE]; omega
 have ha:=Fm.F4 (Fm.Bo h)
 rw [Fm.Vu,Fm.nodes_eq x]
 cases dec (x.op=3) with
 | true =>
  simp only [cond_true]
  rw [Fm.DT,Fm.nodes_mk,Fm.Cb,Fm.nodeS,Tm.T5]
  exact ⟨⟨by omega,trivial⟩,by omega⟩
 | false =>
  cases qB x.op with
  | true =>
   have:=key (N4 e x.var (pre D8 (fresh D8 tk c))) x.parts (fun y hy=>hy) (fresh D8 tk c)
   simp only [cond_true,cond_false]
   rw [Fm.DT,Fm.nodes_mk]
   exact ⟨⟨hz,this.1⟩,by omega⟩
  | false =>
   have:=key e x.parts (fun y hy=>hy) c
   simp only [cond_false]
   rw [Fm.DT,Fm.nodes_mk]
   exact ⟨⟨hz,this.1⟩,by omega⟩
termination_by SizeOf.sizeOf x
decreasing_by exact Fm.lt_of_mem hy
noncomputable def Qaz (x:Fm):Fm:=(x.sep x.free (fun _=>none) 0).1
noncomputable def Ga:List ByteArray→List ByteArray→SEnv
 | a :: from_,b :: to_,s=>match Ga from_ to_ s with
  | some n=>some n
  | none=>bif dec (s=a) then some b else none
 | [],_,_=>none
 | _ :: _,[],_=>none
theorem QR:∀ (a b:List ByteArray) (s n:ByteArray),a.length=b.length→Ga (a++[s]) (b++[n])=N4 (Ga a b) s n
 | [],[],s,n,_=>by
  funext q
  simp only [yP,Ga,N4]
 | x :: a,y :: b,s,n,h=>by
  have ih:=QR a b s n (by simpa using h)
  funext q
  rw [yU,yU,Ga,ih,N4,N4,Ga]
  cases dec (q=s) with
  | true=>rfl
  | false=>rfl
 | [],y :: b,_,_,h=>by simp at h
 | x :: a,[],_,_,h=>by simp at h
noncomputable def C8:List ByteArray→ByteArray→Int
 | [],_=>-1
 | a :: r,s=>bif dec (0≤C8 r s) then C8 r s+1 else bif dec (a=s) then 0 else -1
theorem Jw:∀ (l:List ByteArray) (s:ByteArray),-1≤C8 l s∧C8 l s<l.length
 | [],s=>by rw [C8]; simp
 | a :: r,s=>by
  have ih:=Jw r s
  rw [C8,zM]
  cases h:dec (0≤C8 r s) with
  | true=>rw [cond_true]; omega
  | false =>
   rw [cond_false]
   cases dec (a=s) with
   | true=>rw [cond_true]; omega
   | false=>rw [cond_false]; omega
theorem QS:∀ (a b:List ByteArray) (s:ByteArray),a.length=b.length→Ga a b s=bif dec (0≤C8 a s) then b[(C8 a s).toNat]? else none
 | [],[],s,_=>by rw [Ga,C8,Aj (by omega)]; rfl
 | x :: a,y :: b,s,h=>by
  have ih:=QS a b s (by simpa using h)
  have hr:=Jw a s
  have hl:a.length=b.length:=by simpa using h
  rw [Ga,ih,C8]
  by_cases h0:0≤C8 a s
  ·rw [Ar h0,cond_true,cond_true,Ar (show 0≤C8 a s+1 by omega),cond_true]
   have e:(C8 a s+1).toNat=(C8 a s).toNat+1:=by omega
   have hlt:(C8 a s).toNat<b.length:=by omega
   rw [e,yQ,zS hlt]
  ·rw [Aj h0,cond_false,cond_false]
   have e:(s=x)=(x=s):=propext ⟨Eq.symm,Eq.symm⟩
   simp only [e]
   cases dec (x=s) with
   | true=>simp only [cond_true]; rw [Ar (by omega)]; rfl
   | false=>simp only [cond_false]; rw [Aj (by omega)]; rfl
 | [],y :: b,_,h=>by simp at h
 | x :: a,[],_,h=>by simp at h
def OnV (e:SEnv):Prop:=∀ s,e s≠none→AS s=true
theorem OnV.none:OnV fun _=>Option.none:=fun s h=>absurd rfl h
theorem OnV.put {e:SEnv} (h:OnV e) {s:ByteArray} (hs:AS s=true) (n:ByteArray):OnV (N4 e s n):=fun q hq=>by
 unfold N4 at hq
 by_cases he:q=s
 ·rw [he]; exact hs
 ·rw [Aj he,cond_false] at hq; exact h q hq
noncomputable def Qbw (s:Sb) (x:Tm):Bool:=s.ok&&(x.expr&&(x.ap s.look).small)
noncomputable def Ka (s:Sb) (x:Tm):Tm:=if Qbw s x then x.ap s.look else .mk ⟨#[]⟩ []
def M7 (x y:Bd):Bool:=!strLt y.var x.var
def Ee:List Bd→Bd→List Bd
 | [],b=>[b]
 | x :: xs,b=>bif strLt x.var b.var then x :: Ee xs b else b :: x :: xs
theorem Ii (b:Bd):∀ xs:List Bd,(Ee xs b).Perm (b :: xs)
 | []=>.refl _
 | x :: xs=>by
  rw [Ee]
  cases strLt x.var b.var with
  | true=>exact ((Ii b xs).cons x).trans (.swap b x xs)
  | false=>exact .refl _
theorem Vv {a b c:Bd} (h:M7 a b=true) (k:M7 b c=true):M7 a c=true:=by
 unfold M7 at *
 cases hq:strLt c.var a.var with
 | false=>rfl
 | true =>
  cases hb:strLt b.var a.var with
  | true=>rw [hb] at h; cases h
  | false =>
   cases hc:strLt c.var b.var with
   | true=>rw [hc] at k; cases k
   | false =>
    cases hab:strLt a.var b.var with
    | true=>rw [Nl hq hab] at hc; cases hc
    | false =>
     have:=Ht hab hb
     rw [this] at hq; rw [hq] at hc; cases hc
theorem Nn (b:Bd):∀ xs:List Bd,xs.Pairwise (fun x y=>M7 x y=true)→(Ee xs b).Pairwise fun x y=>M7 x y=true
 | [],_=>by simp [Ee]
 | x :: xs,h=>by
  rw [Ee]
  rw [zV] at h
  cases hq:strLt x.var b.var with
  | true =>
   rw [cond_true,zV]
   refine ⟨fun y hy=>?_,Nn b xs h.2⟩
   rcases zH.1 ((Ii b xs).mem_iff.1 hy) with rfl | hy
   ·unfold M7; rw [Jv hq]; rfl
   ·exact h.1 y hy
  | false =>
   have hb:M7 b x=true:=by unfold M7; rw [hq]; rfl
   rw [cond_false,zV,zV]
   refine ⟨fun y hy=>?_,h⟩
   rcases zH.1 hy with rfl | hy
   ·exact hb
   ·exact Vv hb (h.1 y hy)
theorem T7 (b:Bd):∀ xs:List Bd,Ee xs b=xs.take (Cf xs b.var)++b :: xs.drop (Cf xs b.var)
 | []=>by simp [Ee,Cf]
 | x :: xs=>by
  rw [Ee,Cf]
  cases h:strLt x.var b.var with
  | true=>rw [cond_true,T7 b xs]; simp
  | false=>simp
noncomputable def Qbx (u:Sb) (b:Bd):Option Bd:=bif dec ((b.term.ap u.look).name=b.var) then none else some ⟨b.var,b.term.ap u.look⟩
noncomputable def Qcc (s u:Sb):List Bd:=s.binds.filterMap (Qbx u)
noncomputable def Qcd (s u:Sb):List Bd:=u.binds.filter fun b=>!IC s.binds b.var
noncomputable def Qby (s u:Sb):List Bd:=Qcc s u++Qcd s u
noncomputable def Qce (s u:Sb):Sb:=⟨(Qby s u).mergeSort M7⟩
theorem Pg:∀ {xs:List Bd},OZ xs→(xs.map Bd.var).Nodup:=by
 intro xs h
 unfold List.Nodup
 rw [List.pairwise_iff_getElem]
 intro i j hi hj hij e
 rw [zR] at hj
 have:=h i j hij hj
 simp only [zY] at e
 rw [e,I7] at this
 cases this
theorem Zb {xs:List Bd} (hs:OZ xs) (n:ByteArray):IC xs n=xs.any fun b=>dec (b.var=n):=by
 rw [←Lz,T0 hs]
 cases IC xs n with
 | true=>rw [if_pos rfl]; exact (Ar (by omega)).symm
 | false=>rw [if_neg (by simp)]; exact (Aj (by omega)).symm
noncomputable def Qcf (s u:Sb):Bool:=(Qce s u).ok
end Go.Proofs.YtkmenhhapfombaaGreatDoor
