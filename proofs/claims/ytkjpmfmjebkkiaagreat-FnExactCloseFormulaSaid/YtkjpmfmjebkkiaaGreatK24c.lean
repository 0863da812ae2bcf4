/-
  Texts of this claim, one behind the other, each built on those ahead of it. No condition.
-/
import Derived.Test.YtkjpmfmjebkkiaaGreatK24a
import Derived.Test.YtkjpmfmjebkkiaaGreatK24b
import Derived.Shelf.Lays2
import Derived.Test.YtkjpmfmjebkkiaaGreatChecked
import Derived.Shelf.Slices.Clone
import Derived.Shelf.Sort.Plain
import Derived.Sort.EncStr
import Derived.Shelf.Lays
import Derived.Shelf.Slices.In.SortNone
import Derived.RangeFuncBox
import Derived.RangeFuncLeaves
import Derived.RangeFuncKeeps
import Derived.Shelf.Abstract
import Derived.WalkKit
import Derived.OwnWalkIn
import Derived.TacticsInMore
import Derived.LoopNIn
import Derived.LoopIn
import Derived.RangeFuncFrom
import Derived.RangeFuncCalls
import Derived.RegionIn
import Derived.Shelf.RegionOpen
import Derived.Lib.BufferMore
import Derived.Laws.Rows
import Derived.RangeFuncOwn
set_option maxHeartbeats 16000000
open Bool renaming and_eq_true → zB, false_and → zC, and_self → zD, and_true → zG, true_and → zH, or_eq_true → yC, and_false → yJ, eq_false_iff → y5
open List renaming map_cons → zE, drop_eq_getElem_cons → zF, drop_eq_nil_of_le → zI, eq_nil_of_length_eq_zero → zK, length_cons → zM, getElem_mem → zN, drop_zero → zO, mem_cons → zP, getElem?_eq_getElem → zS, length_map → zT, length_nil → zW, getElem_map → zX, getElem_cons_zero → zY, all_eq_true → zZ, foldl_cons → z8, getElem_cons_succ → yA, pairwise_cons → yB, size_toArray → yE, getD_eq_getElem?_getD → yF, cons_append → yL, append_toArray → yN, nil_append → yO, length_append → yQ, map_map → yR, push_toArray → yS, map_nil → yT, map_append → yX, getElem_of_mem → yY, foldl_append → y4, any_cons → y6, all_cons → xA
open Option.some renaming inj → zJ, injEq → zQ
open Nat renaming lt_or_ge → zL, zero_le → zR, lt_of_lt_of_le → z6, eq_zero_or_pos → yP, reduceAdd → yU, reduceSub → yV, le_refl → yW, zero_add → yZ, add_zero → y7, mul_one → y9
open Prod.mk renaming injEq → zU, inj → yI
open Array renaming getElem?_eq_some_iff → zV, getD_eq_getD_getElem? → yD, replicate_succ → yG, replicate_zero → yH, getElem?_eq_getElem → yM
open List.cons renaming injEq → z7
open Option renaming getD_some → yK
open Int renaming lt_or_le → y8
set_option maxRecDepth 100000
namespace Go.Proofs.YtkjpmfmjebkkiaaGreat
open Go.Shelf
def so_CloneS_ren:Go.Shelf.Ren:=⟨fun | 16=>203 | n=>n,fun | 24=>95 | 9=>9 | 4=>4 | n=>n,fun | n=>n⟩
theorem IM:Go.Proofs.Lays2.n16 Tryz.prog so_CloneS_ren:={
 mixed:=by kernel_rfl,
 f16:=Tryz.func203.trans (congrArg some (by kernel_rfl)),
 t4:=Tryz.underlying4,
 a4:=Tryz.isAgg4,
 z4:=Tryz.sizeOf4,
 v4:=Tryz.zeroValue4,
 t9:=Tryz.underlying9,
 a9:=Tryz.isAgg9,
 z9:=Tryz.sizeOf9,
 v9:=Tryz.zeroValue9,
 t24:=Tryz.underlying95,
 a24:=Tryz.isAgg95,
 z24:=Tryz.sizeOf95,
 v24:=Tryz.zeroValue95,
 i9:=by kernel_rfl }
end Go.Proofs.YtkjpmfmjebkkiaaGreat
set_option maxRecDepth 100000
set_option linter.unusedSimpArgs false
set_option linter.unusedVariables false
set_option linter.unusedSectionVars false
namespace Go.Proofs.YtkjpmfmjebkkiaaGreat
open Go.RowKit
theorem FW {w w':World} {I:Nat→Prop} {V:Nat→Option Value} {B:Nat→Nat→Prop} (hwf:Wf w I V B (Am [])) (hbel:Below w.heap.size w w') {v:Value} {t:TypeId} {os:List OT} {vals:List Value} (hl:vals.length=os.length)
  (hown:w'.ownsRow w.heap.size t 1 v os.length vals) (hv:∀ i (h:i<os.length),ORep w' I (fun _=>False) os[i] (vals.getD i undef)) :
  ∃ V' B',RepV w' I V' (.ref 0) v∧FunPost w I V B [] [.row t 1 (os.map fun o=>[o])] w' I V' B':=by
 have hV0:V 0=none:=hwf.fr 0 rfl
 have hn:=hbel.size
 have gS:∀ (e:List (List OT)) (g:Nat),Am [Ob.row t 1 e] (g+1)=.free:=fun _ _=>rfl
 obtain ⟨hx,hform⟩:=hown
 let B':Nat→Nat→Prop:=fun g b=>g=0∧w.heap.size≤b∧b<w'.heap.size∧∃ o n c,v=.slice (some ⟨b,o,none⟩) n c
 have hform2:∃ a n c,v=.slice a n c:=by
  rcases hform with ⟨rfl,_⟩ | ⟨g,cap,cur,rfl,_⟩
  ·exact ⟨_,_,_,rfl⟩
  ·exact ⟨_,_,_,rfl⟩
 have hrow:RowR w' I (B' 0) t 1 (os.map fun o=>[o]) v:=by
  rcases hform with ⟨rfl,h0⟩ | ⟨g,cap,cur,rfl,hg,hb,h1,h2,h3,h4⟩
  ·left
   have:os=[]:=zK h0
   subst this
   exact ⟨rfl,rfl⟩
  ·right
   have hlt:=(zV.1 hb).1
   refine ⟨g,cap,cur,fun _ _ _=>False,by rw [zT],⟨rfl,hg,hlt,_,_,_,rfl⟩,hb,by rw [zT]; exact h1,by unfold maxLen at h2; omega,h3,fun i hi=>by simp,fun _ _ _ h=>h.elim,fun _ _ _ _ _ h=>h.elim,fun i j hi hj=>?_⟩
   have hi':i<os.length:=by simpa using hi
   have hj0:j=0:=by simpa using hj
   subst hj0
   have e:cur.getD (i*1+0) undef=vals.getD i undef:=by
    have hc:i<cur.size:=by omega
    rw [←h4,y9,y7,yD,yF,List.getElem?_take]
    simp only [y9,hi',if_true,Array.getElem?_toList]
   rw [e]
   have:=hv i hi'
   simpa using this
 refine ⟨fun g=>if g=0 then some v else V g,B',?_,?_⟩
 ·simp only [RepV]
  exact ⟨by simp,by obtain ⟨a,n,c,e⟩:=hform2; rw [e]; rfl⟩
 ·refine ⟨⟨hbel.os,⟨hbel.tape,fun h=>False.elim h⟩,hbel.output,hn,fun x hx _=>hbel.block x hx⟩,fun x hx=>hx,fun x hx=>.inl hx,fun g u hu=>?_,⟨fun x hx=>z6 (hwf.ilt x hx) hn,fun g hl=>?_,fun g b hl hb=>hb.2.2.1,fun g b hl hb hI=>?_,fun g g' b hl hl' hb hb'=>?_,fun g hg=>?_,hwf.gl.keep ⟨hn,fun x _ hlt=>hbel.block x hlt⟩ fun _ h=>h⟩,fun g b hl hb=>.inr hb.2.1⟩
  ·by_cases h0:g=0
   ·subst h0; rw [hV0] at hu; cases hu
   ·simp only [if_neg h0]; exact hu
  ·cases g with
   | zero=>exact ⟨v,by simp,hrow⟩
   | succ g=>rw [gS] at hl; exact hl.elim
  ·have:=hwf.ilt b hI
   have:=hb.2.1
   omega
  ·rw [hb.1,hb'.1]
  ·cases g with
   | zero=>cases hg
   | succ g=>simp only [Nat.add_eq_zero_iff,Nat.succ_ne_self,and_false,if_false]; exact hwf.fr (g+1) rfl
theorem PG {w:World} {I:Nat→Prop} {es:List (List D)} {v:Value} (h:DRep false w I (.arr es) v) (hsz:∀ e∈es,e.length=1) :
  (es=[]∧∃ a c,v=.slice a 0 c)∨∃ b off cap,v=.slice (some ⟨b,off,none⟩) es.length cap∧∀ i (hi:i<es.length),∃ u,w.cell? ⟨b,off+i,none⟩=some u∧∃ S,DRep false w S (es[i].headD (.int 0)) u:=by
 cases h with
 | arr S sz es a cap f Sub h1 h2 h3 h4 h5 h6 h7 =>
  rcases h3 with h3 | ⟨b,off,rfl,hS,hb,hc,_⟩
  ·left
   have he:es=[]:=zK h3
   subst he
   exact ⟨rfl,_,_,rfl⟩
  ·rcases yP es.length with h0 | h0
   ·left
    have he:es=[]:=zK h0
    subst he
    exact ⟨rfl,_,_,rfl⟩
   ·right
    have hs1:sz=1:=by rw [←h4 0 h0]; exact hsz _ (zN h0)
    subst hs1
    refine ⟨b,off,cap,rfl,fun i hi=>⟨f i 0,by have:=hc i 0 hi (by omega); simpa using this,Sub i 0,?_⟩⟩
    have hl:=hsz _ (zN hi)
    have:=h7 i 0 hi (by omega)
    have key:∀ (l:List D) (h:0<l.length),l.headD (.int 0)=l[0]:=fun l h=>by
     cases l with
     | nil=>cases h
     | cons d r=>rfl
    have e:=key es[i] (by omega)
    rw [e]
    exact this
def unS:List D→ByteArray
 | D.str s :: _=>s
 | _=>⟨#[]⟩
noncomputable def IN (xs:List SV) (ob:List Ob):Option (SV × List Ob) :=
 match xs,ob with
 | [.arr es],[]=>bif dec ((∀ e∈es,∃ s,e=[D.str s])∧es.length≤1048576) then some (.ref 0,[.row 9 1 (es.map fun e=>[OT.str (unS e)])]) else none
 | _,_=>none
theorem O5 {xs:List SV} {ob:List Ob} {r:SV} {ob':List Ob} (h:IN xs ob=some (r,ob')):Fun Tryz.prog 203 xs ob r ob':=by
 unfold IN at h
 split at h
 ·rename_i es
  obtain ⟨h1,h2⟩:=Ao h
  obtain ⟨k1,k2⟩:=Ap.1 h1
  simp only [zQ,zU] at h2
  obtain ⟨rfl,rfl⟩:=h2
  intro w I V B vs hwf hvs
  obtain ⟨v,q,rfl,hv,hvs⟩:=C6 hvs
  obtain rfl:=J1 hvs
  simp only [RepV] at hv
  have hsz:∀ e∈es,e.length=1:=fun e he=>by obtain ⟨s,rfl⟩:=k1 e he; rfl
  have hmap:(es.map fun e=>[OT.str (unS e)])=((es.map fun e=>OT.str (unS e)).map fun o=>[o]):=by rw [yR]; rfl
  rcases PG hv hsz with ⟨rfl,a,c,rfl⟩ | ⟨b,off,cap,rfl,hcell⟩
  ·cases a with
   | none =>
    have hcon:=Any.slices_Clone_string_nil IM 0 c w
    change Calls Tryz.prog 203 _ _ _ at hcon
    refine hcon.mono ?_
    rintro e w' ⟨rfl,rfl⟩
    obtain ⟨V',B',h3,h4⟩:=FW (t:=9) (os:=[]) (vals:=[]) hwf (Below.refl _ _) rfl ⟨rfl,.inl ⟨rfl,rfl⟩⟩ (fun i h=>absurd h (by simp))
    exact ⟨_,I,V',B',rfl,h3,h4⟩
   | some a =>
    have hcon:=Any.slices_Clone_string_zero IM a c w
    change Calls Tryz.prog 203 _ _ _ at hcon
    refine hcon.mono ?_
    rintro e w' ⟨v',rfl,hown,_,hbel⟩
    obtain ⟨V',B',h3,h4⟩:=FW (t:=9) (os:=[]) (vals:=[]) hwf hbel rfl hown (fun i h=>absurd h (by simp))
    exact ⟨_,I,V',B',rfl,h3,h4⟩
  ·obtain ⟨zs,hzs⟩:∃ zs,zs=es.map unS:=⟨_,rfl⟩
   have hzl:zs.length=es.length:=by rw [hzs,zT]
   have hcz:∀ j (hj:j<es.length),w.cell? ⟨b,off+j,none⟩=some (Value.string (unS es[j]))∧(unS es[j]).size≤9223372036854775807:=fun j hj=>by
    obtain ⟨u,hu,S,hd⟩:=hcell j hj
    obtain ⟨s,he⟩:=k1 es[j] (zN hj)
    rw [he] at hd ⊢
    simp only [List.headD_cons] at hd
    cases hd
    exact ⟨hu,by assumption⟩
   have hcon:=Any.slices_Clone_string IM b off es.length cap zs w (by omega) (by omega) (fun j hj=>by
    have hj':j<es.length:=by omega
    rw [(hcz j hj').1]
    rw [yF,zS hj]
    simp [hzs])
   change Calls Tryz.prog 203 _ _ _ at hcon
   refine hcon.mono ?_
   rintro e w' ⟨v',rfl,hown,_,hbel⟩
   have ht:zs.take es.length=zs:=List.take_of_length_le (by omega)
   rw [ht] at hown
   have hown2:w'.ownsRow w.heap.size 9 1 v' (es.map fun e=>OT.str (unS e)).length (zs.map Value.string):=by rw [zT]; exact hown
   obtain ⟨V',B',h3,h4⟩:=FW (t:=9) (os:=es.map fun e=>OT.str (unS e)) (vals:=zs.map Value.string) hwf hbel (by simp [hzl]) hown2 (fun i hi=>by
    have hi':i<es.length:=by simpa using hi
    have e:(zs.map Value.string).getD i undef=Value.string (unS es[i]):=by
     rw [yF,List.getElem?_map,zS (by omega)]
     simp [hzs]
    rw [e,zX]
    exact .str _ _ (hcz i hi').2)
   rw [hmap]
   exact ⟨_,I,V',B',rfl,h3,h4⟩
 ·cases h
end Go.Proofs.YtkjpmfmjebkkiaaGreat
set_option maxRecDepth 100000
set_option linter.unusedSimpArgs false
set_option linter.unusedVariables false
set_option linter.unusedSectionVars false
namespace Go.Proofs.YtkjpmfmjebkkiaaGreat
open Go.RowKit Go.Shelf Go.Lib Go.Sort
theorem Ui {w w':World} {I:Nat→Prop} {V:Nat→Option Value} {B:Nat→Nat→Prop} {t:TypeId} {sz:Nat} {es es':List (List OT)} {b cap:Nat} {cur cur':Array Value} (Sub:Nat→Nat→Nat→Prop)
  (hwf:Wf w I V B (Am [.row t sz es])) (hv:V 0=some (.slice (some ⟨b,0,none⟩) es.length cap)) (hn:es'.length=es.length) (hs:B 0 b) (hb:w.heap[b]?=some (.cells cur t (0,0)))
  (h1:es.length≤cap) (h2:cap≤9223372036854775807) (h3:cur.size=cap*sz) (h4:∀ i (h:i<es'.length),es'[i].length=sz) (h5:∀ i j x,Sub i j x→B 0 x∧x≠b)
  (h6:∀ i j i' j' x,Sub i j x→Sub i' j' x→i=i'∧j=j')
  (hos:w'.os=w.os) (htape:TapeOk w w') (hout:w'.output=w.output) (hsz:w.heap.size≤w'.heap.size) (hblk:∀ x,x<w.heap.size→x≠b→w'.heap[x]?=w.heap[x]?)
  (hb':w'.heap[b]?=some (.cells cur' t (0,0))) (hcs:cur'.size=cur.size)
  (h7:∀ i j (h:i<es'.length) (h':j<es'[i].length),ORep w' I (Sub i j) (es'[i][j]) (cur'.getD (i*sz+j) undef)) :
  FunPost w I V B [.row t sz es] [.row t sz es'] w' I V B:=by
 have g0:∀ (e:List (List OT)),Am [Ob.row t sz e] 0=.row t sz e:=fun _=>rfl
 have gS:∀ (e:List (List OT)) (g:Nat),Am [Ob.row t sz e] (g+1)=.free:=fun _ _=>rfl
 have lv:∀ (e e':List (List OT)) (g:Nat),(Am [Ob.row t sz e] g).live→(Am [Ob.row t sz e'] g).live:=fun e e' g h=>by
  cases g with
  | zero=>trivial
  | succ g=>rw [gS] at h; exact h.elim
 have hbS:∀ x,B 0 x→HB B [Ob.row t sz es] x:=fun x hx=>⟨0,trivial,hx⟩
 refine ⟨⟨hos,htape,hout,hsz,fun x hx hn=>hblk x hx fun e=>hn (hbS x (e▸hs))⟩,fun _ h=>h,fun _ h=>.inl h,VLe.refl _,?_,fun g x hl hx=>.inl ⟨g,lv _ _ g hl,hx⟩⟩
 refine ⟨fun x hx=>z6 (hwf.ilt x hx) hsz,fun g hl=>?_,fun g x hl hx=>z6 (hwf.lt g x (lv _ _ g hl) hx) hsz,fun g x hl hx=>hwf.dI g x (lv _ _ g hl) hx,fun g g' x hl hl' hx hx'=>hwf.dO g g' x (lv _ _ g hl) (lv _ _ g' hl') hx hx',fun g hf=>?_,hwf.gl.keep ⟨hsz,fun x hx hlt=>hblk x hlt fun e=>hwf.dI 0 x trivial (e▸hs) hx⟩ fun _ h=>h⟩
 ·cases g with
  | zero =>
   refine ⟨_,hv,.inr ⟨b,cap,cur',Sub,by rw [hn],hs,hb',by rw [hn]; exact h1,h2,by rw [hcs]; exact h3,h4,h5,h6,h7⟩⟩
  | succ g=>rw [gS] at hl; exact hl.elim
 ·cases g with
  | zero=>cases hf
  | succ g=>exact hwf.fr (g+1) rfl
theorem S6 {w:World} {I:Nat→Prop} {V:Nat→Option Value} {B:Nat→Nat→Prop} {ob:List Ob} (hwf:Wf w I V B (Am ob)):FunPost w I V B ob ob w I V B :=
 ⟨⟨rfl,TapeOk.mk' rfl rfl,rfl,yW _,fun _ _ _=>rfl⟩,fun _ h=>h,fun _ h=>.inl h,VLe.refl _,hwf,fun g b hl hb=>.inl ⟨g,hl,hb⟩⟩
def PH:List OT→ByteArray
 | .str s :: _=>s
 | _=>⟨#[]⟩
end Go.Proofs.YtkjpmfmjebkkiaaGreat
set_option maxRecDepth 100000
namespace Go.Proofs.YtkjpmfmjebkkiaaGreat
open Go.Shelf
def so_SortS_ren:Go.Shelf.Ren:=⟨fun | 190=>160 | 125=>205 | 258=>204 | 128=>232 | 129=>233 | 302=>223 | 303=>224 | 304=>225 | 305=>226 | 306=>227 | 307=>228 | 308=>229 | 309=>230 | 310=>231 | 333=>239 | 329=>240 | 330=>241 | 334=>242 | 335=>243 | 336=>235 | 344=>247 | n=>n,fun | 31=>95 | 9=>9 | 3=>3 | 46=>219 | 0=>0 | 51=>240 | 53=>242 | 4=>4 | 183=>233 | 182=>232 | 131=>120 | 5=>5 | 218=>246 | 222=>250 | 228=>255 | 229=>256 | n=>n,fun | n=>n⟩
theorem O6:Go.Proofs.Lays.n190 Tryz.prog so_SortS_ren:={
 mixed:=by kernel_rfl,
 f125:=Tryz.func205.trans (congrArg some (by kernel_rfl)),
 f128:=Tryz.func232.trans (congrArg some (by kernel_rfl)),
 f129:=Tryz.func233.trans (congrArg some (by kernel_rfl)),
 f190:=Tryz.func160.trans (congrArg some (by kernel_rfl)),
 f258:=Tryz.func204.trans (congrArg some (by kernel_rfl)),
 f302:=Tryz.func223.trans (congrArg some (by kernel_rfl)),
 f303:=Tryz.func224.trans (congrArg some (by kernel_rfl)),
 f304:=Tryz.func225.trans (congrArg some (by kernel_rfl)),
 f305:=Tryz.func226.trans (congrArg some (by kernel_rfl)),
 f306:=Tryz.func227.trans (congrArg some (by kernel_rfl)),
 f307:=Tryz.func228.trans (congrArg some (by kernel_rfl)),
 f308:=Tryz.func229.trans (congrArg some (by kernel_rfl)),
 f309:=Tryz.func230.trans (congrArg some (by kernel_rfl)),
 f310:=Tryz.func231.trans (congrArg some (by kernel_rfl)),
 f329:=Tryz.func240.trans (congrArg some (by kernel_rfl)),
 f330:=Tryz.func241.trans (congrArg some (by kernel_rfl)),
 f333:=Tryz.func239.trans (congrArg some (by kernel_rfl)),
 f334:=Tryz.func242.trans (congrArg some (by kernel_rfl)),
 f335:=Tryz.func243.trans (congrArg some (by kernel_rfl)),
 f336:=Tryz.func235.trans (congrArg some (by kernel_rfl)),
 f344:=Tryz.func247.trans (congrArg some (by kernel_rfl)),
 t0:=Tryz.underlying0,
 a0:=Tryz.isAgg0,
 z0:=Tryz.sizeOf0,
 v0:=Tryz.zeroValue0,
 t3:=Tryz.underlying3,
 a3:=Tryz.isAgg3,
 z3:=Tryz.sizeOf3,
 v3:=Tryz.zeroValue3,
 t4:=Tryz.underlying4,
 a4:=Tryz.isAgg4,
 z4:=Tryz.sizeOf4,
 v4:=Tryz.zeroValue4,
 t5:=Tryz.underlying5,
 a5:=Tryz.isAgg5,
 z5:=Tryz.sizeOf5,
 v5:=Tryz.zeroValue5,
 t9:=Tryz.underlying9,
 a9:=Tryz.isAgg9,
 z9:=Tryz.sizeOf9,
 v9:=Tryz.zeroValue9,
 t31:=Tryz.underlying95,
 a31:=Tryz.isAgg95,
 z31:=Tryz.sizeOf95,
 v31:=Tryz.zeroValue95,
 t46:=Tryz.underlying219,
 a46:=Tryz.isAgg219,
 z46:=Tryz.sizeOf219,
 v46:=Tryz.zeroValue219,
 t51:=Tryz.underlying240,
 a51:=Tryz.isAgg240,
 z51:=Tryz.sizeOf240,
 v51:=Tryz.zeroValue240,
 t53:=Tryz.underlying242,
 a53:=Tryz.isAgg242,
 z53:=Tryz.sizeOf242,
 v53:=Tryz.zeroValue242,
 t131:=Tryz.underlying120,
 a131:=Tryz.isAgg120,
 z131:=Tryz.sizeOf120,
 v131:=Tryz.zeroValue120,
 t182:=Tryz.underlying232,
 a182:=Tryz.isAgg232,
 z182:=Tryz.sizeOf232,
 v182:=Tryz.zeroValue232,
 t183:=Tryz.underlying233,
 a183:=Tryz.isAgg233,
 z183:=Tryz.sizeOf233,
 v183:=Tryz.zeroValue233,
 t218:=Tryz.underlying246,
 a218:=Tryz.isAgg246,
 z218:=Tryz.sizeOf246,
 v218:=Tryz.zeroValue246,
 t222:=Tryz.underlying250,
 a222:=Tryz.isAgg250,
 z222:=Tryz.sizeOf250,
 v222:=Tryz.zeroValue250,
 t228:=Tryz.underlying255,
 a228:=Tryz.isAgg255,
 z228:=Tryz.sizeOf255,
 v228:=Tryz.zeroValue255,
 t229:=Tryz.underlying256,
 a229:=Tryz.isAgg256,
 z229:=Tryz.sizeOf256,
 v229:=Tryz.zeroValue256 }
end Go.Proofs.YtkjpmfmjebkkiaaGreat
set_option maxRecDepth 100000
set_option linter.unusedSimpArgs false
set_option linter.unusedVariables false
set_option linter.unusedSectionVars false
namespace Go.Proofs.YtkjpmfmjebkkiaaGreat
open Go.RowKit Go.Shelf Go.Lib Go.Sort
theorem M3 (w:World) (b m:Nat) (ss:List (List UInt8)) (os:Array Obj) (x:Nat) (hx:x<w.heap.size) :
  (Sort.grow (putRow encStr (Sort.ahead w m) b 0 ss.toArray) os).heap[x]?=if b=x then (w.heap[x]?).map (onCells (putCells encStr 0 ss.toArray)) else w.heap[x]?:=by
 unfold Sort.grow putRow mapBlock Sort.ahead
 have hx':x<(w.heap.modify b (onCells (putCells encStr 0 ss.toArray))).size:=by simpa using hx
 simp only [Array.getElem?_append,Array.size_modify,hx,if_true,Array.getElem?_modify]
def srt (ss:List (List UInt8)):List (List UInt8):=ss.mergeSort fun x y=>decide (x≤y)
def Q9 (l:List UInt8):List OT:=[.str ⟨l.toArray⟩]
noncomputable def sortStr (xs:List SV) (ob:List Ob):Option (SV × List Ob) :=
 match xs,ob with
 | [.ref 0],[.row t sz es]=>bif dec (sz=1∧(∀ e∈es,∃ s,e=[.str s])∧es.length≤1099511627776) then some (.tup [],[.row t sz ((srt (es.map fun e=>(PH e).toList)).map Q9)]) else none
 | _,_=>none
theorem ORep.VW {w:World} {I S:Nat→Prop} {s:ByteArray} {v:Value} (h:ORep w I S (.str s) v):v=.string s∧s.size≤9223372036854775807:=by
 cases h with
 | str _ _ hz=>exact ⟨rfl,hz⟩
theorem H2 (s:ByteArray):(⟨s.toList.toArray⟩:ByteArray)=s:=IF (by rw [ByteArray.toList_eq])
theorem Nt {xs:List SV} {ob:List Ob} {r:SV} {ob':List Ob} (h:sortStr xs ob=some (r,ob')):Fun Tryz.prog 160 xs ob r ob':=by
 unfold sortStr at h
 split at h
 ·rename_i t sz es
  obtain ⟨h1,h2⟩:=Ao h
  obtain ⟨rfl,hk1,hk3⟩:=Ap.1 h1
  simp only [zQ,zU] at h2
  obtain ⟨rfl,rfl⟩:=h2
  intro w I V B vs hwf hvs
  obtain ⟨v,q,rfl,hv,hvs⟩:=C6 hvs
  obtain rfl:=J1 hvs
  simp only [RepV] at hv
  obtain ⟨val,hval,hrow⟩:=hwf.obj 0 trivial
  rw [hv.1] at hval
  obtain rfl:=zJ hval
  have hv0:=hv.1
  have hrow:RowR w I (B 0) t 1 es v:=hrow
  rcases yP es.length with h0 | h0
  ·have he:es=[]:=zK h0
   subst he
   obtain ⟨a,c,rfl,_⟩:=hrow.form
   have hcon:=Any.slices_Sort_string_none O6 a c w
   change Calls Tryz.prog 160 _ _ _ at hcon
   refine hcon.mono ?_
   rintro e w' ⟨rfl,rfl⟩
   have e0:(srt ([].map fun e:List OT=>(PH e).toList)).map Q9=[]:=by simp [srt]
   rw [e0]
   exact ⟨_,I,V,B,rfl,by simp only [RepV,RepVs]; exact ⟨[],rfl,rfl⟩,S6 hwf⟩
  ·rcases hrow with ⟨he,_⟩ | ⟨b,cap,cur,Sub,rfl,hs,hb,g1,g2,g3,g4,g5,g6,g7⟩
   ·subst he; simp at h0
   have hblt:=(zV.1 hb).1
   obtain ⟨ss,hss⟩:∃ ss,ss=es.map fun e=>(PH e).toList:=⟨_,rfl⟩
   have hsl:ss.length=es.length:=by rw [hss]; simp
   rw [←hss]
   have cellv:∀ i (hi:i<es.length),cur[i]?=some (.string (PH es[i]))∧(PH es[i]).size≤9223372036854775807:=fun i hi=>by
    obtain ⟨s,he⟩:=hk1 es[i] (zN hi)
    have hlt:i<cur.size:=by rw [g3]; omega
    have l0:=g7 i 0 hi (by rw [g4 i hi]; omega)
    simp only [he,zY,y9,y7,yD,yM hlt,yK] at l0
    rw [yM hlt,he]
    obtain ⟨z1,z2⟩:=ORep.VW l0
    exact ⟨by rw [z1]; rfl,z2⟩
   have hH:Holds encStr w b 0 ss.toArray:=by
    intro j hj
    have hj1:j<ss.length:=by simpa using hj
    have hj':j<es.length:=by rw [←hsl]; exact hj1
    refine ⟨?_,?_⟩
    ·rw [yZ,cell_of_row w b _ _ _ _ hb,(cellv j hj').1,getElem!_pos ss.toArray j hj]
     simp only [List.getElem_toArray,hss,zX,encStr,H2]
    ·unfold World.frozen?
     rw [hb]
     simp
   have hcon:=Any.slices_Sort_string O6 b 0 cap ss w hH hblt (by rw [hsl]; omega)
   change Calls Tryz.prog 160 _ _ _ at hcon
   rw [hsl] at hcon
   refine hcon.mono ?_
   rintro e w' ⟨rfl,m,os,rfl⟩
   refine ⟨_,I,V,B,rfl,by simp only [RepV,RepVs]; exact ⟨[],rfl,rfl⟩,?_⟩
   have hper:(srt ss).Perm ss:=List.mergeSort_perm _ _
   have hsl2:(srt ss).length=es.length:=by rw [hper.length_eq,hsl]
   have hgrow:∀ x,x<w.heap.size→x≠b→(Sort.grow (putRow encStr (Sort.ahead w m) b 0 (srt ss).toArray) os).heap[x]?=w.heap[x]?:=fun x hx hne=>by
    rw [M3 w b m _ os x hx,if_neg (fun e=>hne e.symm)]
   have hbl:(Sort.grow (putRow encStr (Sort.ahead w m) b 0 (srt ss).toArray) os).heap[b]?=some (.cells (putCells encStr 0 (srt ss).toArray cur) t (0,0)):=by
    rw [M3 w b m _ os b hblt,if_pos rfl,hb]; rfl
   have hsz:w.heap.size≤(Sort.grow (putRow encStr (Sort.ahead w m) b 0 (srt ss).toArray) os).heap.size:=by
    unfold Sort.grow
    simp [putRow,mapBlock,Sort.ahead]
   have hmem:∀ l∈ss,∃ e∈es,(PH e).toList=l:=by
    rw [hss]
    intro l h
    exact List.mem_map.1 h
   have hstr:∀ i (hi:i<(srt ss).length),(⟨(srt ss)[i].toArray⟩:ByteArray).size≤9223372036854775807:=fun i hi=>by
    obtain ⟨e,he,heq⟩:=hmem _ (hper.mem_iff.1 (zN hi))
    obtain ⟨k,hk,rfl⟩:=yY he
    have:=(cellv k hk).2
    rw [←heq,H2]
    exact this
   refine Ui (fun _ _ _=>False) hwf hv0 (by rw [zT,hsl2]) hs hb g1 g2 g3 (fun i hi=>by rw [zX]; rfl) (fun i j x h=>h.elim) (fun i j i' j' x h h'=>h.elim) rfl ⟨rfl,fun h=>False.elim h⟩ rfl hsz hgrow hbl (by simp [putCells]) (fun i j hi hj=>?_)
   have hi':i<(srt ss).length:=by simpa using hi
   have hj':j<1:=by simpa [Q9] using hj
   obtain rfl:j=0:=by omega
   have hlt:i<cur.size:=by rw [g3]; omega
   have hc:(putCells encStr 0 (srt ss).toArray cur).getD (i*1+0) undef=.string ⟨(srt ss)[i].toArray⟩:=by
    simp only [y9,y7,putCells,yD,Array.getElem?_mapIdx,yM hlt,Option.map_some,yK,zR,true_and,yZ,yE,hi',if_true,Nat.sub_zero]
    rw [getElem!_pos (srt ss).toArray i (by simpa using hi')]
    rfl
   rw [hc]
   simp only [zX,Q9,zY]
   exact .str _ _ (hstr i hi')
 ·cases h
end Go.Proofs.YtkjpmfmjebkkiaaGreat
set_option maxRecDepth 100000
set_option linter.unusedSimpArgs false
set_option linter.unusedVariables false
set_option linter.unusedSectionVars false
namespace Go.Proofs.YtkjpmfmjebkkiaaGreat
open Go.RowKit Go.Shelf
attribute [local go_sem] Oper.semAt_some
def Uj (l:List ByteArray) (k:Nat):Int × ByteArray:=(((l.length-1-k:Nat):Int),l[l.length-1-k]?.getD ⟨#[]⟩)
def H3 (l:List ByteArray) (k:Nat):List (Int × ByteArray):=(List.range k).map (Uj l)
theorem M4 (l:List ByteArray) (k:Nat):H3 l (k+1)=H3 l k++[Uj l k]:=by simp [H3,List.range_succ]
theorem KO (l:List ByteArray) (k:Nat):(H3 l k).length=k:=by simp [H3]
def Du (s:ByteArray):ByteArray:=if s.size≤9223372036854775807 then s else ⟨#[]⟩
theorem M5 (s:ByteArray):(Du s).size≤9223372036854775807:=by
 unfold Du
 split
 ·assumption
 ·exact zR _
theorem Uk {s:ByteArray} (h:s.size≤9223372036854775807):Du s=s:=if_pos h
def Ul (x:Int × ByteArray):Array Value:=#[.int .i64 x.1,.string (Du x.2)]
def KB (p q:Nat) (A B:World):Prop:=B.heap[p]?=A.heap[p]?∧B.heap[q]?=A.heap[q]?
theorem KB.refl (p q:Nat) (A:World):KB p q A A:=⟨rfl,rfl⟩
theorem KB.trans {p q:Nat} {A B C:World} (h:KB p q A B) (k:KB p q B C):KB p q A C:=⟨k.1.trans h.1,k.2.trans h.2⟩
theorem M6 {A B:World} {x o:Nat} (h:B.heap[x]?=A.heap[x]?):B.cell? ⟨x,o,none⟩=A.cell? ⟨x,o,none⟩:=by
 unfold World.cell?
 simp only [h]
theorem S7 (F:Fence) (n:Nat) (h1:F.fn 158) (hro:F.round=none) (hn:1≤n) (lb Bs b off cap:Nat) (l:List ByteArray) (hreach:l.length*16≤140737488351232) (hls:∀ s∈l,Du s=s) (J Jx:List (Int × ByteArray)→World→Prop)
  (hY:∀ pre x W,J pre W→pre.length<l.length→YieldAt F (n-1) Tryz.prog lb (Ul x) W fun e W' =>
   (e=.returned (.bool true)∧J (pre++[x]) W'∧KB Bs b W W')∨(e=.returned (.bool false)∧Jx (pre++[x]) W'))
  (W:World) (hBs:W.cell? ⟨Bs,0,none⟩=some (.slice (some ⟨b,off,none⟩) l.length cap)) (hc:∀ j,j<l.length→W.cell? ⟨b,off+j,none⟩=some (.string (l[j]?.getD ⟨#[]⟩))) (h0:J [] W) :
  CallsIn F n Tryz.prog 158 #[.func (.yield lb) #[] #[],.pointer (some ⟨Bs,0,none⟩)] W fun e W'=>(∃ v,e=.returned v) ∧
   ((∃ ys,ys=H3 l l.length∧J ys W')∨(∃ pre,(∃ k,k≤l.length∧pre=H3 l k)∧Jx pre W')):=by
 refine callsIn_of_wp Tryz.func158 rfl h1 ?_ hro
 simp only [Tryz.ntmps158,yE,zM,zW,yU,yV,yG,yH,yS,yN,yO,yL]
 gi_wp2
 gi_loopw [3] (fun i wr=>∃ k:Nat,k≤l.length∧i=.int .i64 ((l.length:Int)-1-k)∧J (H3 l k) wr∧KB Bs b W wr)
  (fun i _=>(intOf i+1).toNat)
 case atStart=>exact ⟨0,zR _,by simp,h0,KB.refl _ _ _⟩
 case round =>
  obtain ⟨k,hk,rfl,hJs,hnx⟩:=hrel
  by_cases hlt:k<l.length
  ·have hj:l.length-1-k<l.length:=by omega
   have hbk:wr.cell? ⟨Bs,0,none⟩=some (.slice (some ⟨b,off,none⟩) l.length cap):=(M6 hnx.1).trans hBs
   have hcx:=(M6 (o:=off+(l.length-1-k)) hnx.2).trans (hc _ hj)
   have hji:(l.length:Int)-1-k=((l.length-1-k:Nat):Int):=by omega
   obtain ⟨fn,tmps,assign,body,hy,hR⟩:=hY _ (Uj l k) wr hJs (by rw [KO]; exact hlt)
   dsimp only [Uj,Ul] at hy
   rw [zS hj] at hcx
   simp only [zS hj,yK] at hy hcx
   rw [hls _ (zN _)] at hy
   rw [hji]
   gi_wp2
   refine hR.mono ?_
   rintro e W3 (⟨rfl,hJ3,hk3⟩ | ⟨rfl,hJx3⟩)
   ·gi_wp2
    go_roundw
    case rel=>exact ⟨k+1,by omega,by congr 1; omega,by rw [M4]; exact hJ3,hnx.trans hk3⟩
    case measure=>simp [intOf] <;> omega
   ·gi_wp2
    refine bodyPost_ret (results_none rfl _ _ _) rfl ?_
    exact ⟨⟨_,rfl⟩,.inr ⟨_,⟨k+1,by omega,(M4 _ _).symm⟩,hJx3⟩⟩
  ·obtain rfl:k=l.length:=by omega
   gi_wp2
   go_end0
   exact ⟨⟨_,rfl⟩,.inl ⟨_,rfl,hJs⟩⟩
theorem Rn (F:Fence) (n:Nat) (h1:F.fn 158) (hro:F.round=none) (lb Bs:Nat) (a:Option Addr) (cap:Nat) (J:List (Int × ByteArray)→World→Prop) (W:World) (hBs:W.cell? ⟨Bs,0,none⟩=some (.slice a 0 cap)) (h0:J [] W) :
  CallsIn F n Tryz.prog 158 #[.func (.yield lb) #[] #[],.pointer (some ⟨Bs,0,none⟩)] W fun e W'=>(∃ v,e=.returned v)∧J [] W':=by
 refine callsIn_of_wp Tryz.func158 rfl h1 ?_ hro
 simp only [Tryz.ntmps158,yE,zM,zW,yU,yV,yG,yH,yS,yN,yO,yL]
 gi_wp2
 gi_loopw [3] (fun i wr=>i=.int .i64 (-1)∧J [] wr) (fun _ _=>0)
 case atStart=>exact ⟨by rfl,h0⟩
 case round =>
  obtain ⟨rfl,hJs⟩:=hrel
  gi_wp2
  go_end0
  exact ⟨⟨_,rfl⟩,hJs⟩
theorem Um (F:Fence) (n:Nat) (h5:F.fn 100) (hro:F.round=none) (a:Option Addr) (len cap:Nat) (w:World) :
  CallsIn F n Tryz.prog 100 #[.slice a len cap] w fun e w'=>e=.returned (.func (.func 158) #[] #[.pointer (some ⟨w.heap.size,0,none⟩)])∧w'=w.alloc (.cells #[.slice a len cap] 95):=by
 refine callsIn_of_wp Tryz.func100 rfl h5 ?_ hro
 simp only [Tryz.ntmps100,yE,zM,zW,yU,yV,yG,yH,yS,yN,yO,yL]
 gi_wp2
 go_ret
 exact ⟨rfl,rfl⟩
def Nu (W:World) (sv:Value) (l:List ByteArray) (b:Nat):Prop :=
 (l=[]∧∃ a cap,sv=.slice a 0 cap)∨∃ off cap,sv=.slice (some ⟨b,off,none⟩) l.length cap∧∀ j,j<l.length→W.cell? ⟨b,off+j,none⟩=some (.string (l[j]?.getD ⟨#[]⟩))
theorem PI (F:Fence) (n:Nat) (h1:F.fn 158) (hro:F.round=none) (hn:1≤n) (Bs b:Nat) (sv:Value) (l:List ByteArray) (hreach:l.length*16≤140737488351232) (hls:∀ s∈l,Du s=s) (w:World) (hBs:Bs<w.heap.size) (hb:b<w.heap.size)
  (hc:w.cell? ⟨Bs,0,none⟩=some sv) (hI:Nu w sv l b) :
  SeqStopsK F n Tryz.prog 158 #[.pointer (some ⟨Bs,0,none⟩)] Ul (KB Bs b) (fun ys=>ys=H3 l l.length) (fun _=>True) l.length w:=fun lb J Jx W hW _ _ hY h0=>by
 have hc':=(hW.cell (p:=⟨Bs,0,none⟩) hBs).trans hc
 rcases hI with ⟨rfl,a,cap,rfl⟩ | ⟨off,cap,rfl,hcs⟩
 ·exact (Rn F n h1 hro lb Bs a cap J W hc' h0).mono fun e W' ⟨he,hj⟩=>⟨he,.inl ⟨_,rfl,hj⟩⟩
 ·refine (S7 F n h1 hro hn lb Bs b off cap l hreach hls J Jx hY W hc' (fun j hj=>(hW.cell (p:=⟨b,off+j,none⟩) hb).trans (hcs j hj)) h0).mono ?_
  rintro e W' ⟨he,⟨ys,rfl,hj⟩ | ⟨pre,⟨k,hk,rfl⟩,hj⟩⟩
  ·exact ⟨he,.inl ⟨_,rfl,hj⟩⟩
  ·exact ⟨he,.inr ⟨_,trivial,hj⟩⟩
end Go.Proofs.YtkjpmfmjebkkiaaGreat
set_option maxRecDepth 100000
set_option linter.unusedSimpArgs false
set_option linter.unusedVariables false
set_option linter.unusedSectionVars false
namespace Go.Proofs.YtkjpmfmjebkkiaaGreat
open Go.RowKit Go.Shelf
attribute [local go_sem] Oper.semAt_some
noncomputable def S8:Code→Code
 | .seq _ (.seq _ (.seq (.seq _ (.block _ (.rangeFunc _ _ _ b))) _))=>b
 | c=>c
noncomputable def PJ:Code:=S8 (Tryz.f43.body.getD .skip)
def E3 (W:World) (c:Nat) (z0:Int) (z1:ByteArray) (v2:Value) (z3:ByteArray) (v4:Value):World :=
 ((((W.setCell ⟨c,0,none⟩ (.int .i64 z0)).setCell ⟨c,1,none⟩ (.string z1)).setCell ⟨c,2,none⟩ v2).setCell ⟨c,3,none⟩ (.string z3)).setCell ⟨c,4,none⟩ v4
theorem S9 (lb:Nat) (n:Nat) (hn:1≤n) (c:Nat) (s:ByteArray) (v0 v1 v2 v3 v4:Value) (t0 t1 t2 t4 t6 t7 t8 t9 t10:Value) (W:World)
  (h0:W.cell? ⟨c,0,none⟩=some v0) (h1:W.cell? ⟨c,1,none⟩=some v1) (h2:W.cell? ⟨c,2,none⟩=some v2) (h3:W.cell? ⟨c,3,none⟩=some v3) (h4:W.cell? ⟨c,4,none⟩=some v4)
  (R:World→Int→ByteArray→Option Addr→Nat→Nat→ByteArray→Option Addr→Nat→Nat→Prop)
  (hq:Calls Tryz.prog 102 #[.int .i64 8,.string s,.agg #[v0,v1,v2,v3,v4]] W fun e W'=>∃ z0 z1 a2 n2 c2 z3 a4 n4 c4,e=.returned (.agg #[.int .i64 z0,.string z1,.slice a2 n2 c2,.string z3,.slice a4 n4 c4])∧R W' z0 z1 a2 n2 c2 z3 a4 n4 c4)
  (hR:∀ W' z0 z1 a2 n2 c2 z3 a4 n4 c4,R W' z0 z1 a2 n2 c2 z3 a4 n4 c4→W'.cell? ⟨c,0,none⟩=some v0∧W'.cell? ⟨c,1,none⟩=some v1∧W'.cell? ⟨c,2,none⟩=some v2∧W'.cell? ⟨c,3,none⟩=some v3∧W'.cell? ⟨c,4,none⟩=some v4∧(∀ i,i<5→W'.frozen? ⟨c,i,none⟩=false))
  (Q:Exit→Act→World→Prop) (t11 t12:Value)
  (hfin:∀ a W' z0 z1 a2 n2 c2 z3 a4 n4 c4,R W' z0 z1 a2 n2 c2 z3 a4 n4 c4→Q .normal a (E3 W' c z0 z1 (.slice a2 n2 c2) z3 (.slice a4 n4 c4))) :
  PJ.wpIn (Fence.wide.inRound lb) n Tryz.prog Q { tmps:=#[t0,t1,t2,.pointer (some ⟨c,0,none⟩),t4,.string s,t6,t7,t8,t9,t10,t11,t12,undef,undef,undef,undef],defers:=[] } W:=by
 have hmx:Tryz.prog.follows .mixedOrders=true:=by kernel_rfl
 unfold PJ S8
 simp only [Tryz.f43,yK]
 gi_wp2
 refine ⟨trivial,(CallsIn.inRound lb (callsIn_wide.2 hq)).mono ?_⟩
 rintro e w' ⟨z0,z1,a2,n2,c2,z3,a4,n4,c4,rfl,hr⟩
 obtain ⟨k0,k1,k2,k3,k4,kf⟩:=hR _ _ _ _ _ _ _ _ _ _ hr
 have f0:=kf 0 (by omega)
 have f1:=kf 1 (by omega)
 have f2:=kf 2 (by omega)
 have f3:=kf 3 (by omega)
 have f4:=kf 4 (by omega)
 rename_i hK
 refine hK _ _ ?_
 gi_wp2
 first | exact hfin _ _ _ _ _ _ _ _ _ _ _ hr | assumption
def z5:Array Value:=#[.int .i64 0,.string ⟨#[]⟩,.slice none 0 0,.string ⟨#[]⟩,.slice none 0 0]
def wA (w:World) (v0 v1 v2 v3 v4:Value):World:=(w.alloc (.cells #[v0,v1,v2,v3,v4] 34)).alloc (.cells z5 34)
def wB (W:World) (z0:Int) (z1:ByteArray) (v2:Value) (z3:ByteArray) (v4:Value):World:=W.alloc (.cells #[.int .i64 z0,.string z1,v2,.string z3,v4] 34)
end Go.Proofs.YtkjpmfmjebkkiaaGreat
set_option maxRecDepth 100000
set_option linter.unusedSimpArgs false
set_option linter.unusedVariables false
set_option linter.unusedSectionVars false
namespace Go.Proofs.YtkjpmfmjebkkiaaGreat
open Go.RowKit Go.Shelf
attribute [local go_sem] Oper.semAt_some
theorem IO {W:World} {c k:Nat} (z0:Int) {z1:ByteArray} {v2:Value} {z3:ByteArray} {v4:Value} (h:k≠c):(E3 W c z0 z1 v2 z3 v4).heap[k]?=W.heap[k]?:=by
 unfold E3
 rw [Below.heap_setCell _ _ _ _ h,Below.heap_setCell _ _ _ _ h,Below.heap_setCell _ _ _ _ h,Below.heap_setCell _ _ _ _ h,Below.heap_setCell _ _ _ _ h]
theorem SA {W:World} {c:Nat} {T:TypeId} {fr:Nat × Nat} {y0:Int} {y1:ByteArray} {v2:Value} {y3:ByteArray} {v4:Value} (h:W.heap[c]?=some (.cells z5 T fr)):(E3 W c y0 y1 v2 y3 v4).heap[c]?=some (.cells #[.int .i64 y0,.string y1,v2,.string y3,v4] T fr):=by
 unfold E3
 have h1:=Lib.heap_setCell_same (i:=0) h (.int .i64 y0)
 have h2:=Lib.heap_setCell_same (i:=1) h1 (.string y1)
 have h3:=Lib.heap_setCell_same (i:=2) h2 v2
 have h4:=Lib.heap_setCell_same (i:=3) h3 (.string y3)
 have h5:=Lib.heap_setCell_same (i:=4) h4 v4
 exact h5
theorem O7 (w:World) (v0 v1 v2 v3 v4:Value) (Q:Ending→World→Prop)
  (PA:World→Int→ByteArray→Value→ByteArray→Value→Prop)
  (hA:Calls Tryz.prog 68 #[.agg #[v0,v1,v2,v3,v4]] (wA w v0 v1 v2 v3 v4) fun e W'=>∃ (z0:Int) (z1:ByteArray) (a2:Option Addr) (n2 c2:Nat) (z3:ByteArray) (a4:Option Addr) (n4 c4:Nat),e=.returned (.agg #[.int .i64 z0,.string z1,.slice a2 n2 c2,.string z3,.slice a4 n4 c4])∧PA W' z0 z1 (.slice a2 n2 c2) z3 (.slice a4 n4 c4))
  (hAf:∀ W z0 z1 s2 z3 s4,PA W z0 z1 s2 z3 s4→(wB W z0 z1 s2 z3 s4).cell? ⟨w.heap.size,0,none⟩=some v0∧(wB W z0 z1 s2 z3 s4).cell? ⟨w.heap.size,1,none⟩=some v1∧(wB W z0 z1 s2 z3 s4).cell? ⟨w.heap.size,2,none⟩=some v2∧(wB W z0 z1 s2 z3 s4).cell? ⟨w.heap.size,3,none⟩=some v3∧(wB W z0 z1 s2 z3 s4).cell? ⟨w.heap.size,4,none⟩=some v4)
  (PB:World→Nat→Option Addr→Nat→Nat→Prop)
  (hB:∀ W z0 z1 s2 z3 s4,PA W z0 z1 s2 z3 s4→Calls Tryz.prog 101 #[.agg #[v0,v1,v2,v3,v4]] (wB W z0 z1 s2 z3 s4) fun e W'=>∃ a n c,e=.returned (.slice a n c)∧PB W' W.heap.size a n c)
  (names:List ByteArray) (hreach:names.length*16≤140737488351232) (hls:∀ s∈names,Du s=s) (IV:Nat→Nat→Nat→List (Int × ByteArray)→World→Prop)
  (hPB:∀ W cB a n c,PB W cB a n c→w.heap.size+2≤W.heap.size∧∃ b,b<(W.alloc (.cells #[.slice a n c] 95)).heap.size∧Nu (W.alloc (.cells #[.slice a n c] 95)) (.slice a n c) names b ∧
   OwnFrom (W.alloc (.cells #[.slice a n c] 95)).heap.size (IV cB W.heap.size b)∧IV cB W.heap.size b [] (W.alloc (.cells #[.slice a n c] 95)) ∧
   (∀ (lb:Nat) (t0 t1 t2 t4 t6 t7 t8 t9 t10 t11 t12:Value) (pre:List (Int × ByteArray)) (x:Int × ByteArray) (W':World),IV cB W.heap.size b pre W'→pre.length<names.length →
    PJ.wpIn (Fence.wide.inRound lb) 3 Tryz.prog (ownPostK (KB W.heap.size b) (IV cB W.heap.size b) (fun _ _ _=>False) (pre++[x]) W') { tmps:=#[t0,t1,t2,.pointer (some ⟨cB,0,none⟩),t4,.string (Du x.2),t6,t7,t8,t9,t10,t11,t12,undef,undef,undef,undef],defers:=[] } W'))
  (hDone:∀ cB Bs b W,IV cB Bs b (H3 names names.length) W→∃ (y0:Int) (y1:ByteArray) (p2:Option Addr) (m2 d2:Nat) (y3:ByteArray) (p4:Option Addr) (m4 d4:Nat),
   (W.cell? ⟨cB,0,none⟩=some (.int .i64 y0)∧W.cell? ⟨cB,1,none⟩=some (.string y1)∧W.cell? ⟨cB,2,none⟩=some (.slice p2 m2 d2)∧W.cell? ⟨cB,3,none⟩=some (.string y3)∧W.cell? ⟨cB,4,none⟩=some (.slice p4 m4 d4)) ∧
   W.heap[w.heap.size+1]?=some (.cells z5 34 (0,0)) ∧
   ∀ D,w.heap.size+1<D→W.heap[D]?=some (.deferred (some []))→Q (.returned (.agg #[.int .i64 y0,.string y1,.slice p2 m2 d2,.string y3,.slice p4 m4 d4])) ((E3 W (w.heap.size+1) y0 y1 (.slice p2 m2 d2) y3 (.slice p4 m4 d4)).putObj D (.deferred none)))
  : Calls Tryz.prog 43 #[.agg #[v0,v1,v2,v3,v4]] w Q:=by
 have hmx:Tryz.prog.follows .mixedOrders=true:=by kernel_rfl
 refine (callsIn_wide (n:=5)).1 ?_
 refine callsIn_of_wp_marks Tryz.func43 rfl trivial ?_ rfl
 simp only [Tryz.ntmps43,yE,zM,zW,yU,yV,yG,yH,yS,yN,yO,yL]
 gi_wp2
 refine ⟨trivial,(callsIn_wide.2 hA).mono ?_⟩
 rintro e W1 ⟨z0,z1,a2,n2,c2,z3,a4,n4,c4,rfl,hP⟩
 obtain ⟨f0,f1,f2,f3,f4⟩:=hAf _ _ _ _ _ _ hP
 have hfree:=hB _ _ _ _ _ _ hP
 rename_i K1 hK1 K2 hK
 refine hK _ _ ?_
 obtain ⟨Wb,hWb⟩:∃ Wb,Wb=wB W1 z0 z1 (.slice a2 n2 c2) z3 (.slice a4 n4 c4):=⟨_,rfl⟩
 rw [←hWb] at f0 f1 f2 f3 f4 hfree
 generalize hQQ:(Exit.then _ _:Exit→Act→World→Prop)=QQ
 gi_wp2
 subst hQQ
 unfold wB at hWb
 rw [←hWb]
 refine hK1 _ _ ?_
 clear hK1 hK hWb
 gi_wp2
 refine ⟨trivial,(callsIn_wide.2 hfree).mono ?_⟩
 rintro e W2 ⟨a,n,c,rfl,hPB'⟩
 rename_i K3 hK3 K4 hK4
 refine hK4 _ _ ?_
 gi_wp2
 refine ⟨trivial,(Um Fence.wide _ trivial rfl a n c W2).mono ?_⟩
 rintro e W3 ⟨rfl,rfl⟩
 rename_i K5 hK5
 refine hK5 _ _ ?_
 clear hK4 hK5
 gi_wp2
 obtain ⟨hge,b,hb,hN,hO,hI0,hbody⟩:=hPB _ _ _ _ _ hPB'
 refine wpIn_rangeFunc_ownF rfl (by omega) (gf:=158) (lb:=#[.pointer (some ⟨W2.heap.size,0,none⟩)]) rfl trivial (enters_of Tryz.func158 (by kernel_rfl) rfl)
  (PI Fence.wide _ trivial rfl (by omega) W2.heap.size b (.slice a n c) names hreach hls _ (by simp) hb (by simp) hN)
  (fun h k=>h.trans k) ?kb (Below.refl _ _) (fun x=>rfl) (IV W1.heap.size W2.heap.size b) (fun _ _ _=>False) hO (fun _ _ _ _ _ h _ _=>h) hI0
  (fun x=>{ tmps:=#[.agg #[v0,v1,v2,v3,v4],.pointer (some ⟨w.heap.size,0,none⟩),.pointer (some ⟨w.heap.size+1,0,none⟩),.pointer (some ⟨W1.heap.size,0,none⟩),undef,.string (Du x.2),.agg #[v0,v1,v2,v3,v4],.agg #[.int .i64 z0,.string z1,.slice a2 n2 c2,.string z3,.slice a4 n4 c4],.agg #[v0,v1,v2,v3,v4],.slice a n c,.func (.func 158) #[] #[.pointer (some ⟨W2.heap.size,0,none⟩)],.int .i64 x.1,.string (Du x.2),undef,undef,undef,undef],defers:=[] }) ?assign ?body ?done ?stop
 case assign =>
  intro l x W K hK
  unfold Ul
  gi_wp2
  exact hK
 case stop =>
  rintro D c pre W _ _ h _
  exact h.elim
 case body =>
  rintro l pre x W hi hlen
  exact hbody l _ _ _ _ _ _ _ _ _ _ _ pre x W hi hlen
 case kb =>
  intro W l o o' hl _ _ _
  have hs:(W2.alloc (.cells #[.slice a n c] 95)).heap.size=W2.heap.size+1:=by simp
  exact ⟨World.putObj_heap_other (by omega),World.putObj_heap_other (by omega)⟩
 case done =>
  rintro D xs W hD rfl hi hK
  obtain ⟨y0,y1,p2,m2,d2,y3,p4,m4,d4,⟨k0,k1,k2,k3,k4⟩,hz,hQ⟩:=hDone _ _ _ _ hi
  have hs:(W2.alloc (.cells #[.slice a n c] 95)).heap.size=W2.heap.size+1:=by simp
  have hDne:D≠w.heap.size+1:=by omega
  have hQ:=hQ D (by omega) hK
  have r0:W.cell? ⟨w.heap.size+1,0,none⟩=some (.int .i64 0):=by simp [World.cell?,hz,z5]
  have r1:W.cell? ⟨w.heap.size+1,1,none⟩=some (.string ⟨#[]⟩):=by simp [World.cell?,hz,z5]
  have r2:W.cell? ⟨w.heap.size+1,2,none⟩=some (.slice none 0 0):=by simp [World.cell?,hz,z5]
  have r3:W.cell? ⟨w.heap.size+1,3,none⟩=some (.string ⟨#[]⟩):=by simp [World.cell?,hz,z5]
  have r4:W.cell? ⟨w.heap.size+1,4,none⟩=some (.slice none 0 0):=by simp [World.cell?,hz,z5]
  have q0:W.frozen? ⟨w.heap.size+1,0,none⟩=false:=by simp [World.frozen?,hz]
  have q1:W.frozen? ⟨w.heap.size+1,1,none⟩=false:=by simp [World.frozen?,hz]
  have q2:W.frozen? ⟨w.heap.size+1,2,none⟩=false:=by simp [World.frozen?,hz]
  have q3:W.frozen? ⟨w.heap.size+1,3,none⟩=false:=by simp [World.frozen?,hz]
  have q4:W.frozen? ⟨w.heap.size+1,4,none⟩=false:=by simp [World.frozen?,hz]
  gi_wp2
  refine ⟨by simp,.inl ⟨_,_,rfl,run_takeDeferred (ds:=[]) ?_,?_⟩⟩
  ·exact (IO _ hDne).trans hK
  ·have hf:((E3 W (w.heap.size+1) y0 y1 (.slice p2 m2 d2) y3 (.slice p4 m4 d4)).putObj D (.deferred none)).heap[w.heap.size+1]?=some (.cells #[.int .i64 y0,.string y1,.slice p2 m2 d2,.string y3,.slice p4 m4 d4] 34 (0,0)):=by
    rw [World.putObj_heap_other (by omega)]
    exact SA hz
   exact ⟨_,results_cell_row rfl _ _ _ _ _ _ _ rfl hf Tryz.underlying34 rfl (by kernel_rfl),hQ⟩
end Go.Proofs.YtkjpmfmjebkkiaaGreat
set_option maxRecDepth 100000
set_option linter.unusedSimpArgs false
set_option linter.unusedVariables false
set_option linter.unusedSectionVars false
namespace Go.Proofs.YtkjpmfmjebkkiaaGreat
open Go.RowKit
variable [Flag]
def CellsAt (w:World) (x:Nat):Prop:=∃ u:Obj,w.heap[x]?=some u∧u.isCells=true
theorem ORep.cells {w:World} {I S:Nat→Prop} {o:OT} {v:Value} (h:ORep w I S o v):ORep w I (fun x=>S x∧CellsAt w x) o v:=by
 induction h with
 | int S n=>exact .int _ n
 | byte S n=>exact .byte _ n
 | bool S b=>exact .bool _ b
 | str S s h=>exact .str _ s h
 | sh S es v h=>exact .sh _ es v h
 | nil S=>exact .nil _
 | hole S v h=>exact .hole _ v h
 | row S t sz es b cap cur Sub hS hb h1 h2 h3 h4 h5 h6 h7 ih =>
  exact .row _ t sz es b cap cur (fun i j x=>Sub i j x∧CellsAt w x) ⟨hS,_,hb,rfl⟩ hb h1 h2 h3 h4 (fun i j x h=>⟨⟨(h5 i j x h.1).1,h.2⟩,(h5 i j x h.1).2⟩) (fun i j i' j' x h h'=>h6 i j i' j' x h.1 h'.1) ih
theorem RowR.cells {w:World} {I S:Nat→Prop} {t:TypeId} {sz:Nat} {es:List (List OT)} {v:Value} (h:RowR w I S t sz es v):RowR w I (fun x=>S x∧CellsAt w x) t sz es v:=by
 rcases h with h | ⟨b,cap,cur,Sub,e,hS,hb,h1,h2,h3,h4,h5,h6,h7⟩
 ·exact .inl h
 ·exact .inr ⟨b,cap,cur,fun i j x=>Sub i j x∧CellsAt w x,e,⟨hS,_,hb,rfl⟩,hb,h1,h2,h3,h4,fun i j x h=>⟨⟨(h5 i j x h.1).1,h.2⟩,(h5 i j x h.1).2⟩,fun i j i' j' x h h'=>h6 i j i' j' x h.1 h'.1,fun i j hi hj=>(h7 i j hi hj).cells⟩
theorem Wf.next {w:World} {I I':Nat→Prop} {V':Nat→Option Value} {B':Nat→Nat→Prop} {t t2:TypeId} {sz sz2:Nat} {es es2:List (List OT)}
  (h:Wf w I' V' B' (Am [.gone,.gone,.row t sz es,.row t2 sz2 es2])) (hI:∀ b,I b→I' b) (hn:OT.AE es=true) (hn2:OT.AE es2=true) (hgl:GL w I) :
  Wf w I (fun g=>V' (g+2)) (fun g x=>B' (g+2) x∧CellsAt w x) (Am [.row t sz es,.row t2 sz2 es2]):=by
 have hlv:∀ g,(Am [Ob.row t sz es,.row t2 sz2 es2] g).live→g=0∨g=1:=fun g h=>by
  match g with
  | 0=>exact .inl rfl
  | 1=>exact .inr rfl
  | g+2=>exact h.elim
 have hl:∀ g,(Am [Ob.row t sz es,.row t2 sz2 es2] g).live→(Am [Ob.gone,.gone,.row t sz es,.row t2 sz2 es2] (g+2)).live:=fun g h=>h
 refine ⟨fun b hb=>h.ilt b (hI b hb),fun g hg=>?_,fun g b hg hb=>h.lt (g+2) b (hl g hg) hb.1,fun g b hg hb hi=>h.dI (g+2) b (hl g hg) hb.1 (hI b hi),fun g g' b hg hg' hb hb'=>by have:=h.dO (g+2) (g'+2) b (hl g hg) (hl g' hg') hb.1 hb'.1; omega,fun g hf=>h.fr (g+2) hf,hgl⟩
 obtain ⟨val,hv,hr⟩:=h.obj (g+2) (hl g hg)
 rcases hlv g hg with rfl | rfl
 ·have hr:RowR w I' (B' 2) t sz es val:=hr
  exact ⟨val,hv,(hr.noSh hn).cells⟩
 ·have hr:RowR w I' (B' 3) t2 sz2 es2 val:=hr
  exact ⟨val,hv,(hr.noSh hn2).cells⟩
end Go.Proofs.YtkjpmfmjebkkiaaGreat
set_option maxRecDepth 100000
set_option linter.unusedSimpArgs false
set_option linter.unusedVariables false
set_option linter.unusedSectionVars false
namespace Go.Proofs.YtkjpmfmjebkkiaaGreat
open Go.RowKit
abbrev Tm.sv (x:Tm):SV:=.agg [.str x.name,.arr (x.args.map Tm.d)]
mutual
def Tm.o:Tm→List OT
 | .mk name args=>[.str name,.ow (Tm.os args)]
def Tm.os:List Tm→List (List OT)
 | []=>[]
 | x :: xs=>Tm.o x :: Tm.os xs
end
theorem Tm.os_eq:∀ xs:List Tm,Tm.os xs=xs.map Tm.o
 | []=>rfl
 | x :: xs=>by rw [Tm.os,Tm.os_eq xs]; rfl
theorem Tm.o_eq (x:Tm):Tm.o x=[.str x.name,.ow (x.args.map Tm.o)]:=by
 obtain ⟨name,args⟩:=x
 rw [Tm.o,Tm.os_eq]; rfl
theorem Tm.ers_of:∀ xs:List Tm,(∀ x∈xs,OT.ers (Tm.o x)=Tm.d x)→OT.erss (xs.map Tm.o)=xs.map Tm.d
 | [],_=>rfl
 | x :: xs,h=>by
  simp only [zE,OT.erss]
  rw [h x (by simp),Tm.ers_of xs fun y hy=>h y (by simp [hy])]
theorem Tm.er (x:Tm):OT.ers (Tm.o x)=Tm.d x:=by
 have h:=Tm.ers_of x.args fun y hy=>Tm.er y
 rw [Tm.o_eq,Tm.d_eq]
 simp only [OT.ers,OT.er,h]
termination_by SizeOf.sizeOf x
decreasing_by exact Tm.lt_of_mem hy
theorem Tm.erss (xs:List Tm):OT.erss (xs.map Tm.o)=xs.map Tm.d:=Tm.ers_of xs fun x _=>Tm.er x
theorem Tm.nos_of:∀ xs:List Tm,(∀ x∈xs,OT.Bx (Tm.o x)=true)→OT.AE (xs.map Tm.o)=true
 | [],_=>rfl
 | x :: xs,h=>by
  simp only [zE,OT.AE]
  rw [h x (by simp),Tm.nos_of xs fun y hy=>h y (by simp [hy])]; rfl
theorem Tm.no (x:Tm):OT.Bx (Tm.o x)=true:=by
 have h:=Tm.nos_of x.args fun y hy=>Tm.no y
 rw [Tm.o_eq]
 simp only [OT.Bx,OT.noSh,h,zD,zG]
termination_by SizeOf.sizeOf x
decreasing_by exact Tm.lt_of_mem hy
theorem Tm.noss (xs:List Tm):OT.AE (xs.map Tm.o)=true:=Tm.nos_of xs fun x _=>Tm.no x
abbrev Tm.osv (x:Tm):SV:=.agg [.str x.name,.ref 0]
abbrev Tm.obs (x:Tm):List Ob:=[.row 31 2 (x.args.map Tm.o)]
abbrev Fm.sv (x:Fm):SV:=.agg [.int .i64 x.op,.str x.atom.name,.arr (x.atom.args.map Tm.d),.str x.var,.arr (x.parts.map Fm.d)]
mutual
def Fm.o:Fm→List OT
 | .mk op atom var parts=>[.int op,.str atom.name,.ow (atom.args.map Tm.o),.str var,.ow (Fm.os parts)]
def Fm.os:List Fm→List (List OT)
 | []=>[]
 | x :: xs=>Fm.o x :: Fm.os xs
end
theorem Fm.os_eq:∀ xs:List Fm,Fm.os xs=xs.map Fm.o
 | []=>rfl
 | x :: xs=>by rw [Fm.os,Fm.os_eq xs]; rfl
theorem Fm.o_eq (x:Fm):Fm.o x=[.int x.op,.str x.atom.name,.ow (x.atom.args.map Tm.o),.str x.var,.ow (x.parts.map Fm.o)]:=by
 obtain ⟨op,atom,var,parts⟩:=x
 rw [Fm.o,Fm.os_eq]; rfl
theorem Fm.ers_of:∀ xs:List Fm,(∀ x∈xs,OT.ers (Fm.o x)=Fm.d x)→OT.erss (xs.map Fm.o)=xs.map Fm.d
 | [],_=>rfl
 | x :: xs,h=>by
  simp only [zE,OT.erss]
  rw [h x (by simp),Fm.ers_of xs fun y hy=>h y (by simp [hy])]
theorem Fm.er (x:Fm):OT.ers (Fm.o x)=Fm.d x:=by
 have h:=Fm.ers_of x.parts fun y hy=>Fm.er y
 rw [Fm.o_eq,Fm.d_eq]
 simp only [OT.ers,OT.er,h,Tm.erss]
termination_by SizeOf.sizeOf x
decreasing_by exact Fm.lt_of_mem hy
theorem Fm.erss (xs:List Fm):OT.erss (xs.map Fm.o)=xs.map Fm.d:=Fm.ers_of xs fun x _=>Fm.er x
theorem Fm.nos_of:∀ xs:List Fm,(∀ x∈xs,OT.Bx (Fm.o x)=true)→OT.AE (xs.map Fm.o)=true
 | [],_=>rfl
 | x :: xs,h=>by
  simp only [zE,OT.AE]
  rw [h x (by simp),Fm.nos_of xs fun y hy=>h y (by simp [hy])]; rfl
theorem Fm.no (x:Fm):OT.Bx (Fm.o x)=true:=by
 have h:=Fm.nos_of x.parts fun y hy=>Fm.no y
 rw [Fm.o_eq]
 simp only [OT.Bx,OT.noSh,h,Tm.noss,zD,zG]
termination_by SizeOf.sizeOf x
decreasing_by exact Fm.lt_of_mem hy
theorem Fm.noss (xs:List Fm):OT.AE (xs.map Fm.o)=true:=Fm.nos_of xs fun x _=>Fm.no x
abbrev Fm.osv (x:Fm):SV:=.agg [.int .i64 x.op,.str x.atom.name,.ref 0,.str x.var,.ref 1]
abbrev Fm.obs (x:Fm):List Ob:=[.row 31 2 (x.atom.args.map Tm.o),.row 34 5 (x.parts.map Fm.o)]
def Lt.o (x:Lt):List OT:=[.bool x.pos,.str x.atom.name,.ow (x.atom.args.map Tm.o)]
theorem Lt.er (x:Lt):OT.ers (Lt.o x)=Lt.d x:=by
 simp only [Lt.o,Lt.d,OT.ers,OT.er,Tm.erss]
theorem Lt.erss:∀ xs:List Lt,OT.erss (xs.map Lt.o)=xs.map Lt.d
 | []=>rfl
 | x :: xs=>by simp only [zE,OT.erss,Lt.er,Lt.erss xs]
theorem Lt.no (x:Lt):OT.Bx (Lt.o x)=true:=by
 simp only [Lt.o,OT.Bx,OT.noSh,Tm.noss,zD,zG]
theorem Lt.noss:∀ xs:List Lt,OT.AE (xs.map Lt.o)=true
 | []=>rfl
 | x :: xs=>by simp only [zE,OT.AE,Lt.no,Lt.noss xs,zD]
def Cl.o (x:Cl):List OT:=[.ow (x.lits.map Lt.o)]
theorem Cl.er (x:Cl):OT.ers (Cl.o x)=Cl.d x:=by
 simp only [Cl.o,Cl.d,OT.ers,OT.er,Lt.erss]
theorem Cl.erss:∀ xs:List Cl,OT.erss (xs.map Cl.o)=xs.map Cl.d
 | []=>rfl
 | x :: xs=>by simp only [zE,OT.erss,Cl.er,Cl.erss xs]
theorem Cl.no (x:Cl):OT.Bx (Cl.o x)=true:=by
 simp only [Cl.o,OT.Bx,OT.noSh,Lt.noss,zD,zG]
theorem Cl.noss:∀ xs:List Cl,OT.AE (xs.map Cl.o)=true
 | []=>rfl
 | x :: xs=>by simp only [zE,OT.AE,Cl.no,Cl.noss xs,zD]
def Ag.o (x:Ag):List OT:=[.str x.var,.int x.elem]
theorem Ag.er (x:Ag):OT.ers (Ag.o x)=Ag.d x:=by
 simp only [Ag.o,Ag.d,OT.ers,OT.er]
theorem Ag.erss:∀ xs:List Ag,OT.erss (xs.map Ag.o)=xs.map Ag.d
 | []=>rfl
 | x :: xs=>by simp only [zE,OT.erss,Ag.er,Ag.erss xs]
theorem Ag.no (x:Ag):OT.Bx (Ag.o x)=true:=by
 simp only [Ag.o,OT.Bx,OT.noSh,zD,zG]
theorem Ag.noss:∀ xs:List Ag,OT.AE (xs.map Ag.o)=true
 | []=>rfl
 | x :: xs=>by simp only [zE,OT.AE,Ag.no,Ag.noss xs,zD]
def Bd.o (x:Bd):List OT:=[.str x.var,.str x.term.name,.ow (x.term.args.map Tm.o)]
theorem Bd.er (x:Bd):OT.ers (Bd.o x)=Bd.d x:=by
 simp only [Bd.o,Bd.d,OT.ers,OT.er,Tm.erss]
theorem Bd.erss:∀ xs:List Bd,OT.erss (xs.map Bd.o)=xs.map Bd.d
 | []=>rfl
 | x :: xs=>by simp only [zE,OT.erss,Bd.er,Bd.erss xs]
theorem Bd.no (x:Bd):OT.Bx (Bd.o x)=true:=by
 simp only [Bd.o,OT.Bx,OT.noSh,Tm.noss,zD,zG]
theorem Bd.noss:∀ xs:List Bd,OT.AE (xs.map Bd.o)=true
 | []=>rfl
 | x :: xs=>by simp only [zE,OT.AE,Bd.no,Bd.noss xs,zD]
def Sb.o (x:Sb):List OT:=[.ow (x.binds.map Bd.o)]
theorem Sb.er (x:Sb):OT.ers (Sb.o x)=Sb.d x:=by
 simp only [Sb.o,Sb.d,OT.ers,OT.er,Bd.erss]
theorem Sb.erss:∀ xs:List Sb,OT.erss (xs.map Sb.o)=xs.map Sb.d
 | []=>rfl
 | x :: xs=>by simp only [zE,OT.erss,Sb.er,Sb.erss xs]
theorem Sb.no (x:Sb):OT.Bx (Sb.o x)=true:=by
 simp only [Sb.o,OT.Bx,OT.noSh,Bd.noss,zD,zG]
theorem Sb.noss:∀ xs:List Sb,OT.AE (xs.map Sb.o)=true
 | []=>rfl
 | x :: xs=>by simp only [zE,OT.AE,Sb.no,Sb.noss xs,zD]
def Df.o (x:Df):List OT:=[.str x.name,.ow (x.vars.map fun s=>[OT.str s]),.int x.form.op,.str x.form.atom.name,.ow (x.form.atom.args.map Tm.o),.str x.form.var,.ow (x.form.parts.map Fm.o)]
theorem Df.er (x:Df):OT.ers (Df.o x)=Df.d x:=by
 simp only [Df.o,Df.d,OT.ers,OT.er,Kb,Tm.erss,Fm.erss]
theorem Df.erss:∀ xs:List Df,OT.erss (xs.map Df.o)=xs.map Df.d
 | []=>rfl
 | x :: xs=>by simp only [zE,OT.erss,Df.er,Df.erss xs]
theorem Df.no (x:Df):OT.Bx (Df.o x)=true:=by
 simp only [Df.o,OT.Bx,OT.noSh,Q6,Tm.noss,Fm.noss,zD,zG]
theorem Df.noss:∀ xs:List Df,OT.AE (xs.map Df.o)=true
 | []=>rfl
 | x :: xs=>by simp only [zE,OT.AE,Df.no,Df.noss xs,zD]
def Tl.o (x:Tl):List OT:=[.str x.name,.int x.arity,.bool x.pred,.ow (x.vals.map fun n=>[OT.int n])]
theorem Tl.er (x:Tl):OT.ers (Tl.o x)=Tl.d x:=by
 simp only [Tl.o,Tl.d,OT.ers,OT.er,Q5]
theorem Tl.erss:∀ xs:List Tl,OT.erss (xs.map Tl.o)=xs.map Tl.d
 | []=>rfl
 | x :: xs=>by simp only [zE,OT.erss,Tl.er,Tl.erss xs]
theorem Tl.no (x:Tl):OT.Bx (Tl.o x)=true:=by
 simp only [Tl.o,OT.Bx,OT.noSh,Q7,zD,zG]
theorem Tl.noss:∀ xs:List Tl,OT.AE (xs.map Tl.o)=true
 | []=>rfl
 | x :: xs=>by simp only [zE,OT.AE,Tl.no,Tl.noss xs,zD]
def Ip.o (x:Ip):List OT:=[.int x.size,.ow (x.tables.map Tl.o)]
theorem Ip.er (x:Ip):OT.ers (Ip.o x)=Ip.d x:=by
 simp only [Ip.o,Ip.d,OT.ers,OT.er,Tl.erss]
theorem Ip.erss:∀ xs:List Ip,OT.erss (xs.map Ip.o)=xs.map Ip.d
 | []=>rfl
 | x :: xs=>by simp only [zE,OT.erss,Ip.er,Ip.erss xs]
theorem Ip.no (x:Ip):OT.Bx (Ip.o x)=true:=by
 simp only [Ip.o,OT.Bx,OT.noSh,Tl.noss,zD,zG]
theorem Ip.noss:∀ xs:List Ip,OT.AE (xs.map Ip.o)=true
 | []=>rfl
 | x :: xs=>by simp only [zE,OT.AE,Ip.no,Ip.noss xs,zD]
noncomputable def CH:List ByteArray→ByteArray→List ByteArray
 | [],n=>[n]
 | x :: xs,n=>bif strLt x n then x :: CH xs n else bif dec (x=n) then x :: xs else n :: x :: xs
noncomputable def BG:List ByteArray→ByteArray→Nat
 | [],_=>0
 | x :: xs,n=>bif strLt x n then BG xs n+1 else 0
mutual
noncomputable def Tm.vs:Tm→List ByteArray
 | .mk name args=>bif Bk name then [name] else Tm.vsL args
noncomputable def Tm.vsL:List Tm→List ByteArray
 | []=>[]
 | x :: xs=>Tm.vs x++Tm.vsL xs
end
noncomputable def BL (l ns:List ByteArray):List ByteArray:=ns.foldl CH l
noncomputable def qB (op:Int):Bool:=dec (op=8) || dec (op=9)
mutual
noncomputable def Fm.fv:Fm→List ByteArray→List ByteArray
 | .mk op atom var parts,b=>bif dec (op=3) then (BL [] atom.vs).filter (fun n=>!dec (n∈b)) else Fm.fvL parts (bif qB op then b++[var] else b)
noncomputable def Fm.fvL:List Fm→List ByteArray→List ByteArray
 | [],_=>[]
 | x :: xs,b=>Fm.fv x b++Fm.fvL xs b
end
noncomputable def Fm.free (x:Fm):List ByteArray:=BL [] (x.fv [])
def Fm.all (n:ByteArray) (y:Fm):Fm:=.mk 8 (.mk ⟨#[]⟩ []) n [y]
def Fm.cls (ns:List ByteArray) (x:Fm):Fm:=ns.foldr Fm.all x
end Go.Proofs.YtkjpmfmjebkkiaaGreat
set_option maxRecDepth 100000
set_option linter.unusedSimpArgs false
set_option linter.unusedVariables false
set_option linter.unusedSectionVars false
namespace Go.Proofs.YtkjpmfmjebkkiaaGreat
open Go.RowKit Go.Shelf
def GF (pre:List (Int × ByteArray)) (x:Fm):Fm:=pre.foldl (fun y p=>Fm.all (Du p.2) y) x
theorem Ro (pre:List (Int × ByteArray)) (p:Int × ByteArray) (x:Fm):GF (pre++[p]) x=Fm.all (Du p.2) (GF pre x):=by unfold GF; rw [y4]; rfl
theorem PK (l:List ByteArray):(H3 l l.length).map (·.2)=l.reverse:=by
 apply List.ext_getElem
 ·rw [zT,KO,List.length_reverse]
 ·intro i h1 h2
  rw [zT,KO] at h1
  rw [zX,List.getElem_reverse]
  unfold H3
  rw [zX,List.getElem_range]
  show l[l.length-1-i]?.getD ⟨#[]⟩=_
  rw [zS (by omega)]; rfl
theorem SB (l:List ByteArray) (hl:∀ s∈l,Du s=s) (x:Fm):GF (H3 l l.length) x=Fm.cls l x:=by
 have h:GF (H3 l l.length) x=((H3 l l.length).map (·.2)).foldl (fun y n=>Fm.all (Du n) y) x:=by
  unfold GF
  rw [List.foldl_map]
 rw [h,PK,List.foldl_reverse]
 unfold Fm.cls
 clear h
 induction l with
 | nil=>rfl
 | cons a r ih=>rw [List.foldr_cons,List.foldr_cons,ih fun s hs=>hl s (by simp [hs]),hl a (by simp)]
theorem Wf.bare {w w':World} {I:Nat→Prop} {V:Nat→Option Value} {B:Nat→Nat→Prop} (h:Wf w I V B (Am [])) (hk:KeepS I w w'):Wf w' I V B (Am []):=by
 have hn:∀ g,Am ([]:List Ob) g=.free:=fun g=>by cases g <;> rfl
 have hl:∀ g,¬ (Am ([]:List Ob) g).live:=fun g h=>by rw [hn] at h; exact h
 exact ⟨fun b hb=>z6 (h.ilt b hb) hk.size,fun g k=>(hl g k).elim,fun g b k=>(hl g k).elim,fun g b k=>(hl g k).elim,fun g g' b k=>(hl g k).elim,h.fr,h.gl.keep hk fun _ k=>k⟩
theorem KP {B:Nat→Nat→Prop} {b:Nat}:¬ HB B ([]:List Ob) b:=fun ⟨g,hl,_⟩=>by
 have hn:Am ([]:List Ob) g=.free:=by cases g <;> rfl
 rw [hn] at hl; exact hl
structure IVc (w:World) (I:Nat→Prop) (x:Fm) (cB Bs b:Nat) (pre:List (Int × ByteArray)) (W:World):Prop where
 fr:Fr w (fun _=>False) W
 z:W.heap[w.heap.size+1]?=some (.cells z5 34 (0,0))
 lt:w.heap.size+2≤cB∧cB<Bs∧Bs<W.heap.size∧b<W.heap.size∧b≠cB∧b≠Bs
 ob:∃ (V':Nat→Option Value) (B':Nat→Nat→Prop) (a2:Option Addr) (n2 c2:Nat) (a4:Option Addr) (n4 c4:Nat),
  W.heap[cB]?=some (.cells #[.int .i64 (GF pre x).op,.string (GF pre x).atom.name,.slice a2 n2 c2,.string (GF pre x).var,.slice a4 n4 c4] 34 (0,0)) ∧
  RepV W I V' (GF pre x).osv (.agg #[.int .i64 (GF pre x).op,.string (GF pre x).atom.name,.slice a2 n2 c2,.string (GF pre x).var,.slice a4 n4 c4]) ∧
  Wf W I V' B' (Am (GF pre x).obs)∧∀ g u,(Am (GF pre x).obs g).live→B' g u→(w.heap.size+2≤u∧u≠cB∧u≠Bs∧u≠b)∧CellsAt W u
theorem AC {w:World} {b:Nat} {cs:Array Value} {t:TypeId} {f:Nat × Nat} (h:w.heap[b]?=some (.cells cs t f)) (i:Nat):w.cell? ⟨b,i,none⟩=cs[i]?:=by
 simp [World.cell?,h]
theorem M7 {w:World} {I:Nat→Prop} {V:Nat→Option Value} {y:Fm} {v:Value} (h:RepV w I V y.osv v):∃ s2 s4,v=.agg #[.int .i64 y.op,.string y.atom.name,s2,.string y.var,s4]∧V 0=some s2∧V 1=some s4∧y.atom.name.size≤9223372036854775807∧y.var.size≤9223372036854775807:=by
 simp only [RepV,RepVs] at h
 obtain ⟨vs,rfl,v0,q0,rfl,rfl,v1,q1,rfl,⟨rfl,h1⟩,v2,q2,rfl,⟨h2,_⟩,v3,q3,rfl,⟨rfl,h3⟩,v4,q4,rfl,⟨h4,_⟩,rfl⟩:=h
 exact ⟨v2,v4,rfl,h2,h4,h1,h3⟩
theorem PL {w:World} {I:Nat→Prop} {V:Nat→Option Value} {B:Nat→Nat→Prop} {y:Fm} {v:Value} (h:RepV w I V y.osv v) (hw:Wf w I V B (Am y.obs)):∃ a2 n2 c2 a4 n4 c4,v=.agg #[.int .i64 y.op,.string y.atom.name,.slice a2 n2 c2,.string y.var,.slice a4 n4 c4]:=by
 obtain ⟨s2,s4,rfl,e2,e4,_⟩:=M7 h
 obtain ⟨u2,k2,r2⟩:=hw.obj 0 trivial
 obtain ⟨u4,k4,r4⟩:=hw.obj 1 trivial
 rw [e2] at k2
 rw [e4] at k4
 obtain rfl:=zJ k2
 obtain rfl:=zJ k4
 have r2:RowR w I (B 0) 31 2 (y.atom.args.map Tm.o) s2:=r2
 have r4:RowR w I (B 1) 34 5 (y.parts.map Fm.o) s4:=r4
 obtain ⟨a2,c2,rfl,_⟩:=r2.form
 obtain ⟨a4,c4,rfl,_⟩:=r4.form
 exact ⟨_,_,_,_,_,_,rfl⟩
theorem Wf.kept {w w':World} {I:Nat→Prop} {V:Nat→Option Value} {B:Nat→Nat→Prop} {ob:Nat→Ob} (h:Wf w I V B ob) (hk:KeepS I w w') (hB:∀ g b,(ob g).live→B g b→w'.heap[b]?=w.heap[b]?):Wf w' I V B ob :=
 ⟨fun b hb=>z6 (h.ilt b hb) hk.size,fun g hl=>let ⟨val,hv,hr⟩:=h.obj g hl; ⟨val,hv,hr.keep hk (fun _ h=>h) (fun _ _ h=>h) fun b hb _=>hB g b hl hb⟩,fun g b hl hb=>z6 (h.lt g b hl hb) hk.size,h.dI,h.dO,h.fr,h.gl.keep hk fun _ h=>h⟩
theorem Wf.own {w:World} {I I':Nat→Prop} {V':Nat→Option Value} {B':Nat→Nat→Prop} {y:Fm} (h:Wf w I' V' B' (Am y.obs)) (hI:∀ b,I b→I' b) (hgl:GL w I) :
  Wf w I V' (fun g x=>B' g x∧CellsAt w x) (Am y.obs):=by
 have hlv:∀ g,(Am y.obs g).live→g=0∨g=1:=fun g h=>by
  match g with
  | 0=>exact .inl rfl
  | 1=>exact .inr rfl
  | g+2=>exact h.elim
 refine ⟨fun b hb=>h.ilt b (hI b hb),fun g hg=>?_,fun g b hg hb=>h.lt g b hg hb.1,fun g b hg hb hi=>h.dI g b hg hb.1 (hI b hi),fun g g' b hg hg' hb hb'=>h.dO g g' b hg hg' hb.1 hb'.1,fun g hf=>h.fr g hf,hgl⟩
 obtain ⟨val,hv,hr⟩:=h.obj g hg
 rcases hlv g hg with rfl | rfl
 ·have hr:RowR w I' (B' 0) 31 2 (y.atom.args.map Tm.o) val:=hr
  exact ⟨val,hv,(hr.noSh (Tm.noss _)).cells⟩
 ·have hr:RowR w I' (B' 1) 34 5 (y.parts.map Fm.o) val:=hr
  exact ⟨val,hv,(hr.noSh (Fm.noss _)).cells⟩
theorem DRep.strs {w:World} {I:Nat→Prop} {ns:List ByteArray} {a:Option Addr} {n c:Nat} (h:DRep false w I (.arr (ns.map fun s=>[D.str s])) (.slice a n c)) :
  n=ns.length∧(0<ns.length→∃ b off,a=some ⟨b,off,none⟩∧I b∧b<w.heap.size∧∀ j (h:j<ns.length),w.cell? ⟨b,off+j,none⟩=some (.string ns[j])):=by
 have hI:∀ b off,a=some ⟨b,off,none⟩→0<ns.length→I b:=fun b off ha hp=>by
  cases h with
  | arr S sz es a cap f Sub h1 h2 h3 h4 h5 h6 h7 =>
   rcases h3 with h3 | ⟨b',off',e,hS,_⟩
   ·rw [zT] at h3; omega
   ·rw [e] at ha
    injection ha with ha; injection ha with e1 e2
    rw [←e1]; exact hS
 obtain ⟨a',c',e,_,_,h0⟩:=h.slice_form
 injection e with e1 e2 e3
 subst e1 e2 e3
 rw [zT] at *
 refine ⟨rfl,fun hp=>?_⟩
 obtain ⟨b,off,rfl⟩:=h0 hp
 have hc:∀ j (hj:j<ns.length),w.cell? ⟨b,off+j,none⟩=some (.string ns[j]):=fun j hj=>by
  obtain ⟨v,h1,h2⟩:=h.leaf (k:=j) (j:=0) (by rw [zT]; exact hj) (by rw [zX]; exact Nat.zero_lt_one)
  simp only [zX,zM,zW,zY] at h1 h2
  have hz:off+j*(0+1)+0=off+j:=by omega
  rw [hz] at h1
  cases h2
  exact h1
 refine ⟨b,off,rfl,hI b off rfl hp,?_,hc⟩
 ·obtain ⟨o,ho,_⟩:=cells_of_cell (hc 0 hp)
  exact (zV.1 ho).1
theorem RepVs.Nv {w:World} {I:Nat→Prop} {V:Nat→Option Value} {x:SV} {xs:List SV} {v:Value} {vs:List Value} (h:RepV w I V x v) (h2:RepVs w I V xs vs):RepVs w I V (x :: xs) (v :: vs):=by
 simp only [RepVs]
 exact ⟨v,vs,rfl,h,h2⟩
theorem RepVs.UY {w:World} {I:Nat→Prop} {V:Nat→Option Value}:RepVs w I V [] []:=by simp only [RepVs]
theorem Rp {W:World} {c:Nat} {T:TypeId} {fr:Nat × Nat} {u0 u1 u2 u3 u4:Value} {y0:Int} {y1:ByteArray} {v2:Value} {y3:ByteArray} {v4:Value} (h:W.heap[c]?=some (.cells #[u0,u1,u2,u3,u4] T fr)):(E3 W c y0 y1 v2 y3 v4).heap[c]?=some (.cells #[.int .i64 y0,.string y1,v2,.string y3,v4] T fr):=by
 unfold E3
 have h1:=Lib.heap_setCell_same (i:=0) h (.int .i64 y0)
 have h2:=Lib.heap_setCell_same (i:=1) h1 (.string y1)
 have h3:=Lib.heap_setCell_same (i:=2) h2 v2
 have h4:=Lib.heap_setCell_same (i:=3) h3 (.string y3)
 have h5:=Lib.heap_setCell_same (i:=4) h4 v4
 exact h5
theorem M8 (W:World) (c:Nat) (y0:Int) (y1:ByteArray) (v2:Value) (y3:ByteArray) (v4:Value):(E3 W c y0 y1 v2 y3 v4).heap.size=W.heap.size:=by unfold E3; simp
theorem QA (W:World) (c:Nat) (y0:Int) (y1:ByteArray) (v2:Value) (y3:ByteArray) (v4:Value):(E3 W c y0 y1 v2 y3 v4).os=W.os:=by unfold E3; rfl
theorem M9 (W:World) (c:Nat) (y0:Int) (y1:ByteArray) (v2:Value) (y3:ByteArray) (v4:Value):(E3 W c y0 y1 v2 y3 v4).tape=W.tape:=by unfold E3; rfl
theorem O8 (W:World) (c:Nat) (y0:Int) (y1:ByteArray) (v2:Value) (y3:ByteArray) (v4:Value):(E3 W c y0 y1 v2 y3 v4).output=W.output:=by unfold E3; rfl
theorem FX (W:World) (l:Nat) (o:Obj):(W.putObj l o).os=W.os∧(W.putObj l o).tape=W.tape∧(W.putObj l o).output=W.output:=⟨rfl,rfl,rfl⟩
theorem CellsAt.keep {w w':World} {x:Nat} (h:CellsAt w x) (hk:w'.heap[x]?=w.heap[x]?):CellsAt w' x:=by
 obtain ⟨u,h1,h2⟩:=h
 exact ⟨u,by rw [hk]; exact h1,h2⟩
def PAc (w:World) (I:Nat→Prop) (V:Nat→Option Value) (B:Nat→Nat→Prop) (x:Fm) (v0 v1 v2 v3 v4:Value) (W:World) (z0:Int) (z1:ByteArray) (s2:Value) (z3:ByteArray) (s4:Value):Prop :=
 z0=x.op∧z1=x.atom.name∧z3=x.var∧(∃ a n c,s2=.slice a n c)∧(∃ a n c,s4=.slice a n c)∧∃ I' V' B',RepV W I' V' x.osv (.agg #[.int .i64 z0,.string z1,s2,.string z3,s4])∧FunPost (wA w v0 v1 v2 v3 v4) I V B [] x.obs W I' V' B'
def PBc (w:World) (I:Nat→Prop) (V:Nat→Option Value) (B:Nat→Nat→Prop) (x:Fm) (ns:List ByteArray) (v0 v1 v2 v3 v4:Value) (W:World) (cB:Nat) (a:Option Addr) (n c:Nat):Prop :=
 ∃ W1 z0 z1 s2 z3 s4,PAc w I V B x v0 v1 v2 v3 v4 W1 z0 z1 s2 z3 s4∧cB=W1.heap.size∧∃ I2:Nat→Prop,(∀ b,I2 b→I b∨W1.heap.size+1≤b)∧(∀ b,I2 b→b<W.heap.size)∧DRep false W I2 (.arr (ns.map fun s=>[D.str s])) (.slice a n c)∧Fr (wB W1 z0 z1 s2 z3 s4) (fun _=>False) W
theorem IVc.own {w:World} {I:Nat→Prop} (hI:∀ b,I b→b<w.heap.size) {x:Fm} {cB Bs b B0:Nat} (h1:Bs<B0) (h2:b<B0) (h3:w.heap.size+2≤B0):OwnFrom B0 (IVc w I x cB Bs b):=by
 intro pre W W' row hs hg hrow
 obtain ⟨fr,z,lt,V',B',a2,n2,c2,a4,n4,c4,hbx,hrp,hwf,hB'⟩:=hs
 have kl:∀ k,k<B0→k<W.heap.size→W'.heap[k]?=W.heap[k]?:=fun k hk hl=>hg.block k hl fun e=>by have:=(hrow k e.symm).1; omega
 have kc:∀ u,CellsAt W u→W'.heap[u]?=W.heap[u]?:=fun u ⟨o,ho,hc⟩=>grownBy_keeps_cells hg (fun r e=>(hrow r e).2) ho hc
 have hsz:=fr.size
 have hkI:KeepS I W W':=⟨hg.size,fun k hk hl=>kl k (by have:=hI k hk; omega) hl⟩
 have hzl:=(zV.1 z).1
 refine ⟨⟨hg.os.trans fr.os,TapeOk.trans ⟨hg.tape,fun d=>d.elim⟩ fr.tape,hg.output.trans fr.output,Nat.le_trans hsz hg.size,fun k hk hn=>(kl k (by omega) (by omega)).trans (fr.block k hk hn)⟩,by rw [kl _ (by omega) hzl]; exact z,?_,V',B',a2,n2,c2,a4,n4,c4,?_,RepV.mono hkI (fun _ h=>h) (fun _ _ h=>h) _ _ hrp,hwf.kept hkI fun g u hl hu=>kc u (hB' g u hl hu).2,fun g u hl hu=>⟨(hB' g u hl hu).1,(hB' g u hl hu).2.keep (kc u (hB' g u hl hu).2)⟩⟩
 ·have:=hg.size; omega
 ·rw [kl _ (by omega) (by omega)]; exact hbx
theorem PM (x:Fm) (ns:List ByteArray) (hns:ns.length≤1048576) (hls:∀ s∈ns,Du s=s)
  (hC:Fun Tryz.prog 68 [x.sv] [] x.osv x.obs)
  (hF:Fun Tryz.prog 101 [x.sv] [] (.arr (ns.map fun s=>[D.str s])) [])
  (hQ:∀ (n:ByteArray) (y:Fm),Fun Tryz.prog 102 [.int .i64 8,.str n,y.osv] y.obs (.agg [.int .i64 8,.str ⟨#[]⟩,.ref 2,.str n,.ref 3]) [.gone,.gone,.row 31 2 [],.row 34 5 [y.o]]) :
  Fun Tryz.prog 43 [x.sv] [] (Fm.cls ns x).osv (Fm.cls ns x).obs:=by
 intro w I V B vs hwf hvs
 have hvs0:=hvs
 obtain ⟨v,q,rfl,hv,hq⟩:=C6 hvs
 obtain rfl:=J1 hq
 simp only [RepV,RepVs] at hv
 obtain ⟨us,rfl,v0,q0,rfl,e0,v1,q1,rfl,e1,v2,q2,rfl,e2,v3,q3,rfl,e3,v4,q4,rfl,e4,rfl⟩:=hv
 clear e0 e1 e2 e3 e4 hq hvs
 have hIlt:=hwf.ilt
 have sA:(wA w v0 v1 v2 v3 v4).heap.size=w.heap.size+2:=by unfold wA; simp
 have kA:∀ b,b<w.heap.size→(wA w v0 v1 v2 v3 v4).heap[b]?=w.heap[b]?:=fun b hb=>by
  unfold wA
  rw [Below.heap_alloc _ _ _ (by simp; omega),Below.heap_alloc _ _ _ hb]
 have hkA:KeepS I w (wA w v0 v1 v2 v3 v4):=⟨by omega,fun b _ hl=>kA b hl⟩
 have pA:(wA w v0 v1 v2 v3 v4).heap[w.heap.size]?=some (.cells #[v0,v1,v2,v3,v4] 34 (0,0)):=by
  unfold wA
  rw [Below.heap_alloc _ _ _ (by simp)]
  exact World.alloc_heap_new w _
 have zA:(wA w v0 v1 v2 v3 v4).heap[w.heap.size+1]?=some (.cells z5 34 (0,0)):=by
  unfold wA
  have:=World.alloc_heap_new (w.alloc (.cells #[v0,v1,v2,v3,v4] 34)) (.cells z5 34)
  rwa [World.size_alloc] at this
 have frA:Fr w (fun _=>False) (wA w v0 v1 v2 v3 v4):=⟨rfl,TapeOk.mk' rfl rfl,rfl,by omega,fun b hb _=>kA b hb⟩
 have aF:∀ W z0 z1 s2 z3 s4,PAc w I V B x v0 v1 v2 v3 v4 W z0 z1 s2 z3 s4→w.heap.size+2≤W.heap.size∧(∀ b,b<w.heap.size+2→W.heap[b]?=(wA w v0 v1 v2 v3 v4).heap[b]?)∧Fr w (fun _=>False) W:=by
  rintro W z0 z1 s2 z3 s4 ⟨_,_,_,_,_,I',V',B',hr,hp⟩
  have h1:=hp.fr.size
  refine ⟨by omega,fun b hb=>hp.fr.block b (by omega) KP,⟨hp.fr.os.trans frA.os,TapeOk.trans hp.fr.tape frA.tape,hp.fr.output.trans frA.output,by omega,fun b hb _=>(hp.fr.block b (by omega) KP).trans (kA b hb)⟩⟩
 have bS:∀ (W:World) z0 z1 s2 z3 s4,(wB W z0 z1 s2 z3 s4).heap.size=W.heap.size+1:=fun W z0 z1 s2 z3 s4=>by unfold wB; simp
 have bK:∀ (W:World) z0 z1 s2 z3 s4 b,b<W.heap.size→(wB W z0 z1 s2 z3 s4).heap[b]?=W.heap[b]?:=fun W z0 z1 s2 z3 s4 b hb=>by unfold wB; exact Below.heap_alloc _ _ _ hb
 have bN:∀ (W:World) z0 z1 s2 z3 s4,(wB W z0 z1 s2 z3 s4).heap[W.heap.size]?=some (.cells #[.int .i64 z0,.string z1,s2,.string z3,s4] 34 (0,0)):=fun W z0 z1 s2 z3 s4=>by unfold wB; exact World.alloc_heap_new W _
 refine O7 w v0 v1 v2 v3 v4 _ (PAc w I V B x v0 v1 v2 v3 v4) ?hA ?hAf (PBc w I V B x ns v0 v1 v2 v3 v4) ?hB ns (by omega) hls (IVc w I x) ?hPB ?hDone
 case hA =>
  refine (hC _ I V B _ (hwf.bare hkA) (RepVs.mono hkA (fun _ h=>h) (fun _ _ h=>h) _ _ hvs0)).mono ?_
  rintro e W' ⟨rv,I',V',B',rfl,hr,hp⟩
  obtain ⟨a2,n2,c2,a4,n4,c4,rfl⟩:=PL hr hp.wf
  exact ⟨_,_,_,_,_,_,_,_,_,rfl,rfl,rfl,rfl,⟨_,_,_,rfl⟩,⟨_,_,_,rfl⟩,I',V',B',hr,hp⟩
 case hAf =>
  intro W z0 z1 s2 z3 s4 hP
  obtain ⟨h1,h2,_⟩:=aF _ _ _ _ _ _ hP
  have hb:(wB W z0 z1 s2 z3 s4).heap[w.heap.size]?=some (.cells #[v0,v1,v2,v3,v4] 34 (0,0)):=by
   rw [bK _ _ _ _ _ _ _ (by omega),h2 _ (by omega)]; exact pA
  exact ⟨AC hb 0,AC hb 1,AC hb 2,AC hb 3,AC hb 4⟩
 case hB =>
  intro W z0 z1 s2 z3 s4 hP
  obtain ⟨h1,h2,h3⟩:=aF _ _ _ _ _ _ hP
  have hs:=bS W z0 z1 s2 z3 s4
  have hk:KeepS I w (wB W z0 z1 s2 z3 s4):=⟨by omega,fun b _ hl=>by rw [bK _ _ _ _ _ _ _ (by omega)]; exact h3.block b hl id⟩
  refine (hF _ I V B _ (hwf.bare hk) (RepVs.mono hk (fun _ h=>h) (fun _ _ h=>h) _ _ hvs0)).mono ?_
  rintro e W' ⟨rv,I2,V2,B2,rfl,hr,hp⟩
  simp only [RepV] at hr
  obtain ⟨a,c,rfl,_⟩:=hr.slice_form
  refine ⟨a,_,c,rfl,W,z0,z1,s2,z3,s4,hP,rfl,I2,fun b hb=>?_,hp.wf.ilt,hr,⟨hp.fr.os,hp.fr.tape,hp.fr.output,hp.fr.size,fun b hb _=>hp.fr.block b hb KP⟩⟩
  rcases hp.i1 b hb with h | h | h
  ·exact .inl h
  ·exact .inr (by omega)
  ·exact (KP h).elim
 case hPB =>
  rintro W cB a n c ⟨W1,z0,z1,s2,z3,s4,hP,rfl,I2,hI2,hI2l,hD,hfr⟩
  obtain ⟨h1,h2,h3⟩:=aF _ _ _ _ _ _ hP
  have hs:=bS W1 z0 z1 s2 z3 s4
  have hs2:=hfr.size
  obtain ⟨W3,hW3⟩:∃ W3,W3=W.alloc (.cells #[.slice a n c] 95):=⟨_,rfl⟩
  have s3:W3.heap.size=W.heap.size+1:=by rw [hW3]; simp
  have k3:∀ b,b<W.heap.size→W3.heap[b]?=W.heap[b]?:=fun b hb=>by rw [hW3]; exact Below.heap_alloc _ _ _ hb
  rw [←hW3]
  obtain ⟨hn,hD2⟩:=hD.strs
  have hbb:∃ b,(b<w.heap.size+2∨W1.heap.size<b)∧b<W.heap.size∧Nu W3 (.slice a n c) ns b:=by
   rcases yP ns.length with h0 | h0
   ·exact ⟨w.heap.size,.inl (by omega),by omega,.inl ⟨zK h0,a,c,by rw [hn,h0]⟩⟩
   ·obtain ⟨b,off,rfl,hb1,hb2,hb3⟩:=hD2 h0
    refine ⟨b,?_,hb2,.inr ⟨off,c,by rw [hn],fun j hj=>?_⟩⟩
    ·rcases hI2 b hb1 with h | h
     ·have:=hIlt b h; exact .inl (by omega)
     ·exact .inr (by omega)
    ·rw [World.cell?_of_block (w:=W) (w':=W3) (a:=⟨b,off+j,none⟩) (k3 b hb2),zS hj]
     exact hb3 j hj
  obtain ⟨b,hb1,hb2,hN⟩:=hbb
  refine ⟨by omega,b,by omega,hN,IVc.own hIlt (by omega) (by omega) (by omega),?_,?_⟩
  ·
   obtain ⟨rfl,rfl,rfl,⟨a2,n2,c2,rfl⟩,⟨a4,n4,c4,rfl⟩,I',V',B',hr,hp⟩:=hP
   have kW:∀ k,k<W1.heap.size→W3.heap[k]?=W1.heap[k]?:=fun k hk=>by
    rw [k3 k (by omega),hfr.block k (by omega) id,bK _ _ _ _ _ _ _ hk]
   have hkI:KeepS I W1 W3:=⟨by omega,fun k hk hl=>kW k hl⟩
   have hgl:GL W1 I:=hwf.gl.keep ⟨h3.size,fun k _ hl=>h3.block k hl id⟩ fun _ h=>h
   have hown:=Wf.own hp.wf hp.i0 hgl
   have hbx:W3.heap[W1.heap.size]?=some (.cells #[.int .i64 x.op,.string x.atom.name,.slice a2 n2 c2,.string x.var,.slice a4 n4 c4] 34 (0,0)):=by
    rw [k3 _ (by omega),hfr.block _ (by omega) id]
    exact bN _ _ _ _ _ _
   obtain ⟨s2,s4,he,e2,e4,g1,g3⟩:=M7 hr
   injection he with he
   injection he with he
   simp only [z7,and_true,true_and] at he
   obtain ⟨rfl,rfl⟩:=he
   refine ⟨⟨?_,?_,?_,?_,?_⟩,?_,by omega,V',fun g u=>B' g u∧CellsAt W1 u,a2,n2,c2,a4,n4,c4,hbx,?_,hown.kept hkI fun g u hl hu=>kW u (hp.wf.lt g u hl hu.1),fun g u hl hu=>?_⟩
   ·rw [hW3]; exact hfr.os.trans h3.os
   ·rw [hW3]; exact TapeOk.trans (b:=wB W1 _ _ _ _ _) ⟨hfr.tape.1,fun d=>d.elim⟩ ⟨h3.tape.1,fun d=>d.elim⟩
   ·rw [hW3]; exact hfr.output.trans h3.output
   ·omega
   ·intro k hk hn'
    rw [kW k (by omega)]
    exact h3.block k hk id
   ·rw [kW _ (by omega),h2 _ (by omega)]; exact zA
   ·show RepV W3 I V' (.agg [.int .i64 x.op,.str x.atom.name,.ref 0,.str x.var,.ref 1]) _
    simp only [RepV,RepVs]
    exact ⟨_,rfl,_,_,rfl,rfl,_,_,rfl,⟨rfl,g1⟩,_,_,rfl,⟨e2,rfl⟩,_,_,rfl,⟨rfl,g3⟩,_,_,rfl,⟨e4,rfl⟩,rfl⟩
   ·have hlt:=hp.wf.lt g u hl hu.1
    have hge:w.heap.size+2≤u:=by
     rcases hp.bh g u hl hu.1 with h | h
     ·exact (KP h).elim
     ·omega
    exact ⟨by omega,hu.2.keep (kW u hlt)⟩
  ·
   intro lb t0 t1 t2 t4 t6 t7 t8 t9 t10 t11 t12 pre xx W' hIV hlen
   obtain ⟨fr,z,lt,V',B',a2,n2,c2,a4,n4,c4,hbx,hrp,hwf',hB'⟩:=hIV
   have hcl:=Ro pre xx x
   obtain ⟨y,hy⟩:∃ y,y=GF pre x:=⟨_,rfl⟩
   rw [←hy] at hbx hrp hwf' hB' hcl
   have nHB:∀ k,HB B' y.obs k→(w.heap.size+2≤k∧k≠W1.heap.size∧k≠W.heap.size∧k≠b)∧CellsAt W' k:=fun k ⟨g,hl,hu⟩=>hB' g k hl hu
   refine S9 lb 3 (by omega) W1.heap.size (Du xx.2) _ _ _ _ _ t0 t1 t2 t4 t6 t7 t8 t9 t10 W' (AC hbx 0) (AC hbx 1) (AC hbx 2) (AC hbx 3) (AC hbx 4)
    (fun W'' y0 y1 p2 m2 d2 y3 p4 m4 d4=>y0=8∧y1=⟨#[]⟩∧y3=Du xx.2∧∃ I'' V'' B'',V'' 2=some (.slice p2 m2 d2)∧V'' 3=some (.slice p4 m4 d4)∧FunPost W' I V' B' y.obs [.gone,.gone,.row 31 2 [],.row 34 5 [y.o]] W'' I'' V'' B'') ?_ ?_ _ t11 t12 ?_
   ·refine (hQ (Du xx.2) y W' I V' B' [.int .i64 8,.string (Du xx.2),_] hwf' (RepVs.Nv (by simp only [RepV]) (RepVs.Nv (by simp only [RepV,true_and]; exact M5 _) (RepVs.Nv hrp RepVs.UY)))).mono ?_
    rintro e W'' ⟨rv,I'',V'',B'',rfl,hr,hp⟩
    simp only [RepV,RepVs] at hr
    obtain ⟨us,rfl,_,_,rfl,rfl,_,_,rfl,⟨rfl,_⟩,s2',_,rfl,⟨k2,_⟩,_,_,rfl,⟨rfl,_⟩,s4',_,rfl,⟨k4,_⟩,rfl⟩:=hr
    obtain ⟨u2,e2,r2⟩:=hp.wf.obj 2 trivial
    obtain ⟨u4,e4,r4⟩:=hp.wf.obj 3 trivial
    rw [k2] at e2
    rw [k4] at e4
    obtain rfl:=zJ e2
    obtain rfl:=zJ e4
    have r2:RowR W'' I'' (B'' 2) 31 2 [] s2':=r2
    have r4:RowR W'' I'' (B'' 3) 34 5 [y.o] s4':=r4
    obtain ⟨p2,d2,rfl,_⟩:=r2.form
    obtain ⟨p4,d4,rfl,_⟩:=r4.form
    exact ⟨_,_,_,_,_,_,_,_,_,rfl,rfl,rfl,rfl,I'',V'',B'',k2,k4,hp⟩
   ·rintro W'' y0 y1 p2 m2 d2 y3 p4 m4 d4 ⟨_,_,_,I'',V'',B'',_,_,hp⟩
    have hb:W''.heap[W1.heap.size]?=W'.heap[W1.heap.size]?:=hp.fr.block _ (by omega) fun h=>(nHB _ h).1.2.1 rfl
    rw [hbx] at hb
    exact ⟨AC hb 0,AC hb 1,AC hb 2,AC hb 3,AC hb 4,fun i _=>by simp [World.frozen?,hb]⟩
   ·rintro act W'' y0 y1 p2 m2 d2 y3 p4 m4 d4 ⟨rfl,rfl,rfl,I'',V'',B'',k2,k4,hp⟩
    have hb:W''.heap[W1.heap.size]?=W'.heap[W1.heap.size]?:=hp.fr.block _ (by omega) fun h=>(nHB _ h).1.2.1 rfl
    rw [hbx] at hb
    have sz5:=M8 W'' W1.heap.size 8 ⟨#[]⟩ (.slice p2 m2 d2) (Du xx.2) (.slice p4 m4 d4)
    have hsz:=hp.fr.size
    have k5:∀ k,k≠W1.heap.size→(E3 W'' W1.heap.size 8 ⟨#[]⟩ (.slice p2 m2 d2) (Du xx.2) (.slice p4 m4 d4)).heap[k]?=W''.heap[k]?:=fun k hk=>IO _ hk
    have kk:∀ k,k<W'.heap.size→¬ HB B' y.obs k→k≠W1.heap.size→(E3 W'' W1.heap.size 8 ⟨#[]⟩ (.slice p2 m2 d2) (Du xx.2) (.slice p4 m4 d4)).heap[k]?=W'.heap[k]?:=fun k hk hn hc=>(k5 k hc).trans (hp.fr.block k hk hn)
    have hgl:GL W'' I:=hwf'.gl.keep ⟨hsz,fun k hk hl=>hp.fr.block k hl fun h=>by have:=(nHB k h).1.1; have:=hIlt k hk; omega⟩ fun _ h=>h
    have hnx:=Wf.next hp.wf hp.i0 rfl (by simp only [OT.AE,Fm.no,zD]) hgl
    have hbh:∀ g u,(Am [Ob.row 31 2 [],.row 34 5 [y.o]] g).live→B'' (g+2) u→w.heap.size+2≤u∧u≠W1.heap.size∧u≠W.heap.size∧u≠b:=fun g u hl hu=>by
     rcases hp.bh (g+2) u hl hu with h | h
     ·exact (nHB u h).1
     ·have:=lt; omega
    have hkI:KeepS I W'' (E3 W'' W1.heap.size 8 ⟨#[]⟩ (.slice p2 m2 d2) (Du xx.2) (.slice p4 m4 d4)):=⟨by omega,fun k hk hl=>k5 k (by have:=hIlt k hk; omega)⟩
    refine ⟨⟨by omega,fun k o hk ho=>?_⟩,⟨?_,?_⟩,?_⟩
    ·rw [kk k (zV.1 hk).1 (fun h=>?_) (fun h=>?_)]
     ·exact hk
     ·obtain ⟨u,hu1,hu2⟩:=(nHB k h).2
      rw [hk] at hu1
      obtain rfl:=zJ hu1
      rw [ho] at hu2; cases hu2
     ·rw [h,hbx] at hk
      obtain rfl:=zJ hk
      cases ho
    ·exact kk _ (by omega) (fun h=>(nHB _ h).1.2.2.1 rfl) (by omega)
    ·exact kk _ (by omega) (fun h=>(nHB _ h).1.2.2.2 rfl) (by omega)
    ·refine ⟨⟨?_,?_,?_,?_,?_⟩,?_,by omega,fun g=>V'' (g+2),fun g u=>B'' (g+2) u∧CellsAt W'' u,p2,m2,d2,p4,m4,d4,?_,?_,?_,?_⟩
     ·exact (QA W'' _ _ _ _ _ _).trans (hp.fr.os.trans fr.os)
     ·exact ⟨(M9 W'' _ _ _ _ _ _).trans (hp.fr.tape.1.trans fr.tape.1),fun d=>d.elim⟩
     ·exact (O8 W'' _ _ _ _ _ _).trans (hp.fr.output.trans fr.output)
     ·have:=fr.size; omega
     ·intro k hk hn'
      have:=fr.size
      rw [kk k (by omega) (fun h=>by have:=(nHB k h).1.1; omega) (by omega)]
      exact fr.block k hk hn'
     ·rw [kk _ (by omega) (fun h=>by have:=(nHB _ h).1.1; omega) (by omega)]; exact z
     ·rw [hcl]
      exact Rp hb
     ·rw [hcl]
      show RepV _ I _ (.agg [.int .i64 8,.str ⟨#[]⟩,.ref 0,.str (Du xx.2),.ref 1]) _
      simp only [RepV,RepVs]
      exact ⟨_,rfl,_,_,rfl,rfl,_,_,rfl,⟨rfl,zR _⟩,_,_,rfl,⟨k2,rfl⟩,_,_,rfl,⟨rfl,M5 _⟩,_,_,rfl,⟨k4,rfl⟩,rfl⟩
     ·rw [hcl]
      exact hnx.kept hkI fun g u hl hu=>k5 u (hbh g u hl hu.1).2.1
     ·rw [hcl]
      intro g u hl hu
      exact ⟨hbh g u hl hu.1,hu.2.keep (k5 u (hbh g u hl hu.1).2.1)⟩
 case hDone =>
  rintro cB Bs b W ⟨fr,z,lt,V',B',a2,n2,c2,a4,n4,c4,hbx,hrp,hwf',hB'⟩
  rw [SB ns hls x] at hbx hrp hwf' hB'
  refine ⟨_,_,a2,n2,c2,_,a4,n4,c4,⟨AC hbx 0,AC hbx 1,AC hbx 2,AC hbx 3,AC hbx 4⟩,z,fun D hD hK=>?_⟩
  have sz5:=M8 W (w.heap.size+1) (Fm.cls ns x).op (Fm.cls ns x).atom.name (.slice a2 n2 c2) (Fm.cls ns x).var (.slice a4 n4 c4)
  obtain ⟨W5,hW5⟩:∃ W5,W5=(E3 W (w.heap.size+1) (Fm.cls ns x).op (Fm.cls ns x).atom.name (.slice a2 n2 c2) (Fm.cls ns x).var (.slice a4 n4 c4)).putObj D (.deferred none):=⟨_,rfl⟩
  rw [←hW5]
  have s5:W5.heap.size=W.heap.size:=by rw [hW5,← sz5]; simp
  have k5:∀ k,k≠w.heap.size+1→k≠D→W5.heap[k]?=W.heap[k]?:=fun k h1 h2=>by
   rw [hW5,World.putObj_heap_other (by omega)]
   exact IO _ h1
  have o5:W5.os=W.os:=by rw [hW5,(FX _ _ _).1,QA]
  have t5:W5.tape=W.tape:=by rw [hW5,(FX _ _ _).2.1,M9]
  have u5:W5.output=W.output:=by rw [hW5,(FX _ _ _).2.2,O8]
  clear hW5
  have hsz:=fr.size
  have hkI:KeepS I W W5:=⟨by omega,fun k hk hl=>k5 k (by have:=hIlt k hk; omega) (by have:=hIlt k hk; omega)⟩
  have hVn:∀ g,V g=none:=fun g=>hwf.fr g (by cases g <;> rfl)
  refine ⟨_,I,V',B',rfl,RepV.mono hkI (fun _ h=>h) (fun _ _ h=>h) _ _ hrp,⟨⟨?_,?_,?_,by omega,fun k hk _=>?_⟩,fun _ h=>h,fun _ h=>.inl h,fun g u hu=>?_,hwf'.kept hkI fun g u hl hu=>k5 u ?_ ?_,fun g u hl hu=>?_⟩⟩
  ·exact o5.trans fr.os
  ·exact ⟨t5.trans fr.tape.1,fun d=>d.elim⟩
  ·exact u5.trans fr.output
  ·rw [k5 k (by omega) (by omega)]; exact fr.block k hk id
  ·rw [hVn] at hu; cases hu
  ·have:=(hB' g u hl hu).1.1; omega
  ·intro e
   obtain ⟨o,ho,hc⟩:=(hB' g u hl hu).2
   rw [e,hK] at ho
   obtain rfl:=zJ ho
   cases hc
  ·have:=(hB' g u hl hu).1.1
   exact .inr (by omega)
mutual
theorem Tm.d_inj:∀ x y:Tm,Tm.d x=Tm.d y→x=y
 | .mk n xs,.mk m ys,h=>by
  rw [Tm.d_eq,Tm.d_eq] at h
  simp only [z7,D.str.injEq,D.arr.injEq,and_true] at h
  have h1:n=m:=h.1
  rw [h1,Tm.ds_inj xs ys h.2]
theorem Tm.ds_inj:∀ xs ys:List Tm,xs.map Tm.d=ys.map Tm.d→xs=ys
 | [],[],_=>rfl
 | [],y :: ys,h=>by simp at h
 | x :: xs,[],h=>by simp at h
 | x :: xs,y :: ys,h=>by
  simp only [zE,z7] at h
  rw [Tm.d_inj x y h.1,Tm.ds_inj xs ys h.2]
end
mutual
theorem Fm.d_inj:∀ x y:Fm,Fm.d x=Fm.d y→x=y
 | .mk op at_ var xs,.mk op' at' var' ys,h=>by
  rw [Fm.d_eq,Fm.d_eq] at h
  simp only [z7,D.int.injEq,D.str.injEq,D.arr.injEq,and_true] at h
  obtain ⟨h1,h2,h3,h4,h5⟩:=h
  have h1:op=op':=h1
  have h4:var=var':=h4
  have ha:at_=at':=Tm.d_inj at_ at' (by
   have h2:at_.name=at'.name:=h2
   have h3:at_.args.map Tm.d=at'.args.map Tm.d:=h3
   rw [Tm.d_eq,Tm.d_eq,h2,h3])
  rw [h1,h4,ha,Fm.ds_inj xs ys h5]
theorem Fm.ds_inj:∀ xs ys:List Fm,xs.map Fm.d=ys.map Fm.d→xs=ys
 | [],[],_=>rfl
 | [],y :: ys,h=>by simp at h
 | x :: xs,[],h=>by simp at h
 | x :: xs,y :: ys,h=>by
  simp only [zE,z7] at h
  rw [Fm.d_inj x y h.1,Fm.ds_inj xs ys h.2]
end
theorem Fm.UZ {x y:Fm} (h:x.sv=y.sv):x=y:=by
 refine Fm.d_inj x y ?_
 rw [Fm.d_eq,Fm.d_eq]
 have h:SV.agg [.int .i64 x.op,.str x.atom.name,.arr (x.atom.args.map Tm.d),.str x.var,.arr (x.parts.map Fm.d)]=SV.agg [.int .i64 y.op,.str y.atom.name,.arr (y.atom.args.map Tm.d),.str y.var,.arr (y.parts.map Fm.d)]:=h
 simp only [SV.agg.injEq,z7,SV.int.injEq,SV.str.injEq,SV.arr.injEq,true_and,and_true] at h
 obtain ⟨h1,h2,h3,h4,h5⟩:=h
 rw [h1,h2,h3,h4,h5]
def KQ (x:Fm):Prop :=
 x.free.length≤1048576∧(∀ s∈x.free,Du s=s)∧Fun Tryz.prog 68 [x.sv] [] x.osv x.obs∧Fun Tryz.prog 101 [x.sv] [] (.arr (x.free.map fun s=>[D.str s])) [] ∧
   ∀ (n:ByteArray) (y:Fm),Fun Tryz.prog 102 [.int .i64 8,.str n,y.osv] y.obs (.agg [.int .i64 8,.str ⟨#[]⟩,.ref 2,.str n,.ref 3]) [.gone,.gone,.row 31 2 [],.row 34 5 [y.o]]
noncomputable def Fv (xs:List SV) (ob:List Ob):Option (SV × List Ob) :=
 match ob with
 | []=>open Classical in if h:∃ x:Fm,xs=[x.sv]∧KQ x then some ((Fm.cls h.choose.free h.choose).osv,(Fm.cls h.choose.free h.choose).obs) else none
 | _=>none
theorem PN (x:Fm) (h:KQ x):Fv [x.sv] []=some ((Fm.cls x.free x).osv,(Fm.cls x.free x).obs):=by
 have h0:∃ y:Fm,[x.sv]=[y.sv]∧KQ y:=⟨x,rfl,h⟩
 have e:x=h0.choose:=Fm.UZ (List.cons.inj h0.choose_spec.1).1
 unfold Fv
 simp only
 rw [dif_pos h0,← e]
theorem Nw {xs:List SV} {ob:List Ob} {r:SV} {ob':List Ob} (h:Fv xs ob=some (r,ob')):Fun Tryz.prog 43 xs ob r ob':=by
 unfold Fv at h
 split at h
 ·split at h
  ·rename_i h0
   have hs:=h0.choose_spec
   generalize h0.choose=y at hs h
   obtain ⟨h1,h2,h3,h4,h5,h6⟩:=hs
   simp only [zQ,zU] at h
   obtain ⟨rfl,rfl⟩:=h
   rw [h1]
   exact PM _ _ h2 h3 h4 h5 h6
  ·cases h
 ·cases h
end Go.Proofs.YtkjpmfmjebkkiaaGreat
set_option maxRecDepth 100000
set_option linter.unusedSimpArgs false
set_option linter.unusedVariables false
set_option linter.unusedSectionVars false
namespace Go.Proofs.YtkjpmfmjebkkiaaGreat
open Go.RowKit
def QB:List (Nat × FM)→Nat→FM
 | [],_=>⟨[],.asis,none,false⟩
 | (f,m) :: r,g=>bif f == g then m else QB r g
theorem Rq {l:List (Nat × FM)} {f:Nat} {g:List SV→List Ob→Option (SV × List Ob)} (h:(QB l f).ext=some g):∃ m,(f,m)∈l∧m.ext=some g:=by
 induction l with
 | nil=>cases h
 | cons x r ih =>
  obtain ⟨f',m⟩:=x
  simp only [QB] at h
  cases e:f' == f with
  | true =>
   rw [e] at h
   obtain rfl:f'=f:=by simpa using e
   exact ⟨m,by simp,h⟩
  | false =>
   rw [e] at h
   obtain ⟨m',h1,h2⟩:=ih h
   exact ⟨m',by simp [h1],h2⟩
noncomputable def MA:List SV→Option SV
 | [.int .i64 k]=>bif dec (1≤k)&&dec (k≤1099511627776) then some (.str (CK k)) else none
 | _=>none
theorem PO {xs:List SV} {r:SV} (h:MA xs=some r):Fun Tryz.prog 72 xs [] r []:=by
 unfold MA at h
 split at h
 ·rename_i k
  obtain ⟨h1,h2⟩:=Ao h
  rw [zB,Ap,Ap] at h1
  obtain rfl:=zJ h2
  obtain ⟨n,rfl⟩:∃ n:Nat,k=n:=⟨k.toNat,by omega⟩
  refine Fun.PC (rv:=.string (CK n)) (fun w I V=>by simp only [RepV,true_and]; exact PD (by omega) (by omega)) fun w I V vs h=>?_
  obtain ⟨v,r,rfl,h3,h⟩:=C6 h
  obtain rfl:=J1 h
  obtain rfl:=Uf h3
  exact No n w (by omega) (by omega)
 ·cases h
def SD:List SV→Option SV
 | [.str s]=>some (.bool (Bk s))
 | _=>none
theorem Rr {xs:List SV} {r:SV} (h:SD xs=some r):Fun Tryz.prog 127 xs [] r []:=by
 unfold SD at h
 split at h
 ·rename_i s
  obtain rfl:=zJ h
  refine Fun.of_same (rv:=.bool (Bk s)) (fun w I V=>by simp only [RepV]) fun w I V vs h=>?_
  obtain ⟨v,r,rfl,h3,h⟩:=C6 h
  obtain rfl:=J1 h
  obtain ⟨rfl,h4⟩:=Ka h3
  exact KN s w h4
 ·cases h
def SE:List SV→Option SV
 | [.str s]=>some (.bool (Bk s))
 | _=>none
theorem Rs {xs:List SV} {r:SV} (h:SE xs=some r):Fun Tryz.prog 118 xs [] r []:=by
 unfold SE at h
 split at h
 ·rename_i s
  obtain rfl:=zJ h
  refine Fun.of_same (rv:=.bool (Bk s)) (fun w I V=>by simp only [RepV]) fun w I V vs h=>?_
  obtain ⟨v,r,rfl,h3,h⟩:=C6 h
  obtain rfl:=J1 h
  obtain ⟨rfl,h4⟩:=Ka h3
  exact Rm s w h4
 ·cases h
def SF:List SV→Option SV
 | [.str s]=>some (.bool (CW s))
 | _=>none
theorem Rt {xs:List SV} {r:SV} (h:SF xs=some r):Fun Tryz.prog 128 xs [] r []:=by
 unfold SF at h
 split at h
 ·rename_i s
  obtain rfl:=zJ h
  refine Fun.PC (rv:=.bool (CW s)) (fun w I V=>by simp only [RepV]) fun w I V vs h=>?_
  obtain ⟨v,r,rfl,h3,h⟩:=C6 h
  obtain rfl:=J1 h
  obtain ⟨rfl,h4⟩:=Ka h3
  exact Nr s w h4
 ·cases h
def SG:List SV→Option SV
 | [.str s]=>some (.bool (CW s))
 | _=>none
theorem Ru {xs:List SV} {r:SV} (h:SG xs=some r):Fun Tryz.prog 119 xs [] r []:=by
 unfold SG at h
 split at h
 ·rename_i s
  obtain rfl:=zJ h
  refine Fun.of_same (rv:=.bool (CW s)) (fun w I V=>by simp only [RepV]) fun w I V vs h=>?_
  obtain ⟨v,r,rfl,h3,h⟩:=C6 h
  obtain rfl:=J1 h
  obtain ⟨rfl,h4⟩:=Ka h3
  exact Ns s w h4
 ·cases h
noncomputable def modes:FuncId→FM:=QB [(72,⟨[],.asis,some (Ia MA),false⟩),(127,⟨[],.asis,some (Ia SD),false⟩),(118,⟨[],.asis,some (Ia SE),false⟩),(128,⟨[],.asis,some (Ia SF),false⟩),(119,⟨[],.asis,some (Ia SG),false⟩),(160,⟨[true],.asis,some sortStr,false⟩),(43,⟨[],.asis,some Fv,false⟩),(203,⟨[],.asis,some IN,false⟩),(74,⟨[true],.asis,none,true⟩),(46,⟨[true],.asis,none,false⟩),(47,⟨[true],.asis,none,true⟩),(12,⟨[true],.asis,none,false⟩),(212,⟨[],.own [some (31,2)],none,false⟩),(108,⟨[],.frz,none,false⟩),(198,⟨[],.frz,none,false⟩),(196,⟨[],.frz,none,false⟩),(191,⟨[true],.asis,none,false⟩),(129,⟨[],.own [none,none,some (31,2),none,some (34,5)],none,false⟩),(68,⟨[],.own [none,none,some (31,2),none,some (34,5)],none,false⟩),(102,⟨[false,false,true],.own [none,none,some (31,2),none,some (34,5)],none,false⟩),(42,⟨[true],.own [none,none,some (31,2),none,some (34,5),none],none,false⟩),(10,⟨[],.own [none,none,some (31,2),none,some (34,5),none],none,false⟩),(61,⟨[],.frz,none,false⟩),(38,⟨[],.frz,none,false⟩),(8,⟨[],.frz,none,false⟩),(159,⟨[true],.asis,none,false⟩),(101,⟨[],.frz,none,false⟩)]
theorem noExt {l:List (Nat × FM)} (h:(l.all fun p=>p.2.ext.isNone)=true) {f:Nat} {m:FM} {g:List SV→List Ob→Option (SV × List Ob)} (h1:(f,m)∈l) (h2:m.ext=some g):False:=by
 have h3:=zZ.1 h _ h1
 rw [h2] at h3
 cases h3
theorem PP:JZ Tryz.prog modes:=by
 intro f g xs ob r ob' hg hx
 obtain ⟨m,h1,h2⟩:=Rq hg
 rcases zP.1 h1 with h1 | h1
 ·obtain ⟨rfl,rfl⟩:=yI h1
  obtain rfl:=zJ h2
  exact EV PO hx
 rcases zP.1 h1 with h1 | h1
 ·obtain ⟨rfl,rfl⟩:=yI h1
  obtain rfl:=zJ h2
  exact EV Rr hx
 rcases zP.1 h1 with h1 | h1
 ·obtain ⟨rfl,rfl⟩:=yI h1
  obtain rfl:=zJ h2
  exact EV Rs hx
 rcases zP.1 h1 with h1 | h1
 ·obtain ⟨rfl,rfl⟩:=yI h1
  obtain rfl:=zJ h2
  exact EV Rt hx
 rcases zP.1 h1 with h1 | h1
 ·obtain ⟨rfl,rfl⟩:=yI h1
  obtain rfl:=zJ h2
  exact EV Ru hx
 rcases zP.1 h1 with h1 | h1
 ·obtain ⟨rfl,rfl⟩:=yI h1
  obtain rfl:=zJ h2
  exact Nt hx
 rcases zP.1 h1 with h1 | h1
 ·obtain ⟨rfl,rfl⟩:=yI h1
  obtain rfl:=zJ h2
  exact Nw hx
 rcases zP.1 h1 with h1 | h1
 ·obtain ⟨rfl,rfl⟩:=yI h1
  obtain rfl:=zJ h2
  exact O5 hx
 exact (noExt rfl h1 h2).elim
noncomputable def E:FEnv:=ev Tryz.prog modes
noncomputable def calls:CallF:=BH modes E
theorem Nx {f:FuncId} {xs:List SV} {ob:List Ob} {r:SV} {ob':List Ob} (h:E f xs ob=some (r,ob')):Fun Tryz.prog f xs ob r ob':=Ue UU PP f xs ob r ob' h
noncomputable def run (n0:Nat):SC→St→Option (X × St):=fr Tryz.prog calls (H0 n0)
def go (n0:Nat) (sc:SC) (st:St) (K:X→St→Prop):Prop:=∃ x st',run n0 sc st=some (x,st')∧K x st'
def Un (n0:Nat) (b:SC) (K:X→St→Prop):X→St→Prop
 | .normal,st=>go n0 b st K
 | .exit i,st=>K (.exit i) st
 | .ret,st=>K .ret st
def blk (id:Nat) (K:X→St→Prop):X→St→Prop
 | .normal,st=>K .normal st
 | .exit i,st=>if i=id then K .normal st else K (.exit i) st
 | .ret,st=>K .ret st
def SH (r:Option St) (k:X→St→Prop):Prop :=
 match r with
 | some st=>k .normal st
 | none=>False
def SI (anc:List (List Nat)) (r:Option (List Ent × St)) (k:X→St→Prop):Prop :=
 match r with
 | some (es,st)=>obB anc [] (Hp es) 0=true∧k .normal st
 | none=>False
def KR (v:SV) (a b:Unit→Prop):Prop :=
 match v with
 | .bool true=>a ()
 | .bool false=>b ()
 | _=>False
noncomputable def PQ (ops:List SOper) (st:St):Option St:=K7 Tryz.prog calls ops st
noncomputable def PR (ops:List SOper) (acc:List Ent) (st:St):Option (List Ent × St):=EP Tryz.prog calls ops acc st
section
variable {n0:Nat} {st:St} {K:X→St→Prop}
theorem go_skip:go n0 .skip st K=K .normal st:=by
 refine propext ⟨fun ⟨x,st',h,k⟩=>?_,fun k=>⟨_,_,rfl,k⟩⟩
 obtain ⟨rfl,rfl⟩:X.normal=x∧st=st':=by simpa [run,fr] using h
 exact k
theorem Uo {i:Nat}:go n0 (.exit i) st K=K (.exit i) st:=by
 refine propext ⟨fun ⟨x,st',h,k⟩=>?_,fun k=>⟨_,_,rfl,k⟩⟩
 obtain ⟨rfl,rfl⟩:X.exit i=x∧st=st':=by simpa [run,fr] using h
 exact k
theorem go_ret:go n0 .ret st K=K .ret st:=by
 refine propext ⟨fun ⟨x,st',h,k⟩=>?_,fun k=>⟨_,_,rfl,k⟩⟩
 obtain ⟨rfl,rfl⟩:X.ret=x∧st=st':=by simpa [run,fr] using h
 exact k
theorem Va {ops:List SOper}:go n0 (.reg ops) st K=SH (PQ ops st) K:=by
 unfold SH PQ
 refine propext ⟨fun ⟨x,st',h,k⟩=>?_,fun k=>?_⟩
 ·simp only [run,fr] at h
  split at h
  ·rename_i s hs
   simp only [zQ,zU] at h
   obtain ⟨rfl,rfl⟩:=h
   first | exact k | (simp only [hs]; exact k)
  ·cases h
 ·split at k
  ·rename_i s hs
   exact ⟨.normal,s,by simp only [run,fr,hs],k⟩
  ·exact k.elim
theorem Up {anc:List (List Nat)} {ops:List SOper}:go n0 (.dreg anc ops) st K=SI anc (PR ops [] st) K:=by
 unfold SI PR
 refine propext ⟨fun ⟨x,st',h,k⟩=>?_,fun k=>?_⟩
 ·simp only [run,fr] at h
  split at h
  ·rename_i es s hs
   obtain ⟨h1,h2⟩:=Ao h
   simp only [zQ,zU] at h2
   obtain ⟨rfl,rfl⟩:=h2
   first | exact ⟨h1,k⟩ | (simp only [hs]; exact ⟨h1,k⟩)
  ·cases h
 ·split at k
  ·rename_i es s hs
   exact ⟨.normal,s,by simp only [run,fr,hs,k.1,cond_true],k.2⟩
  ·exact k.elim
theorem Vb {a b:SC}:go n0 (.seq a b) st K=go n0 a st (Un n0 b K):=by
 refine propext ⟨fun ⟨x,st',h,k⟩=>?_,fun ⟨x,st',h,k⟩=>?_⟩
 ·simp only [run,fr,B7] at h
  split at h
  ·rename_i s hs
   exact ⟨.normal,s,hs,x,st',h,k⟩
  ·rename_i i s hs
   simp only [zQ,zU] at h
   obtain ⟨rfl,rfl⟩:=h
   exact ⟨_,_,hs,k⟩
  ·rename_i s hs
   simp only [zQ,zU] at h
   obtain ⟨rfl,rfl⟩:=h
   exact ⟨_,_,hs,k⟩
  ·cases h
 ·simp only [run] at h
  cases x with
  | normal =>
   obtain ⟨x2,st2,h2,k2⟩:=k
   exact ⟨x2,st2,by simp only [run,fr,B7,h]; exact h2,k2⟩
  | exit i=>exact ⟨_,st',by simp only [run,fr,B7,h],k⟩
  | ret=>exact ⟨_,st',by simp only [run,fr,B7,h],k⟩
theorem SJ {id:Nat} {b:SC}:go n0 (.block id b) st K=go n0 b st (blk id K):=by
 refine propext ⟨fun ⟨x,st',h,k⟩=>?_,fun ⟨x,st',h,k⟩=>?_⟩
 ·simp only [run,fr,Fp] at h
  split at h
  ·rename_i s hs
   simp only [zQ,zU] at h
   obtain ⟨rfl,rfl⟩:=h
   exact ⟨.normal,s,hs,k⟩
  ·rename_i i s hs
   refine ⟨.exit i,s,hs,?_⟩
   simp only [blk]
   by_cases hi:i=id
   ·simp only [if_pos hi,zQ,zU] at h ⊢
    obtain ⟨rfl,rfl⟩:=h
    exact k
   ·simp only [if_neg hi,zQ,zU] at h ⊢
    obtain ⟨rfl,rfl⟩:=h
    exact k
  ·rename_i s hs
   simp only [zQ,zU] at h
   obtain ⟨rfl,rfl⟩:=h
   exact ⟨_,s,hs,k⟩
  ·cases h
 ·simp only [run] at h
  cases x with
  | normal=>exact ⟨_,st',by simp only [run,fr,Fp,h],k⟩
  | exit i =>
   simp only [blk] at k
   by_cases hi:i=id
   ·simp only [if_pos hi] at k
    exact ⟨.normal,st',by simp only [run,fr,Fp,h,if_pos hi],k⟩
   ·simp only [if_neg hi] at k
    exact ⟨.exit i,st',by simp only [run,fr,Fp,h,if_neg hi],k⟩
  | ret=>exact ⟨_,st',by simp only [run,fr,Fp,h],k⟩
theorem Ac {q:SX} {a b:SC}:go n0 (.cond q a b) st K=KR (At (gets st.sl) q) (fun _=>go n0 a st K) (fun _=>go n0 b st K):=by
 unfold KR
 refine propext ⟨fun ⟨x,st',h,k⟩=>?_,fun k=>?_⟩
 ·simp only [run,fr] at h
  split at h
  ·rename_i t ht
   simp only [ht]
   cases t with
   | true=>exact ⟨x,st',h,k⟩
   | false=>exact ⟨x,st',h,k⟩
  ·cases h
 ·split at k
  ·rename_i ht
   obtain ⟨x,st',h,k⟩:=k
   exact ⟨x,st',by simp only [run,fr,ht,cond_true]; exact h,k⟩
  ·rename_i ht
   obtain ⟨x,st',h,k⟩:=k
   exact ⟨x,st',by simp only [run,fr,ht,cond_false]; exact h,k⟩
  ·exact k.elim
theorem Uq {a b:Unit→Prop}:KR (.bool true) a b=a ():=rfl
theorem Ur {a b:Unit→Prop}:KR (.bool false) a b=b ():=rfl
theorem Us {t:Bool} {a b:Unit→Prop}:KR (.bool (!t)) a b=KR (.bool t) b a:=by cases t <;> rfl
theorem Ax {q:SX} {a b:SC} (h:At (gets st.sl) q=.bool true) (k:go n0 a st K):go n0 (.cond q a b) st K:=by rw [Ac,h]; exact k
theorem Ay {q:SX} {a b:SC} (h:At (gets st.sl) q=.bool false) (k:go n0 b st K):go n0 (.cond q a b) st K:=by rw [Ac,h]; exact k
theorem Cb {t:Bool} {a b:Unit→Prop} (h1:t=true→a ()) (h2:t=false→b ()):KR (.bool t) a b:=by
 cases t with
 | true=>exact h1 rfl
 | false=>exact h2 rfl
theorem Vd {b:SC}:Un n0 b K .normal st=go n0 b st K:=rfl
theorem Ve {b:SC} {i:Nat}:Un n0 b K (.exit i) st=K (.exit i) st:=rfl
theorem Vf {b:SC}:Un n0 b K .ret st=K .ret st:=rfl
theorem VN {id:Nat}:blk id K .normal st=K .normal st:=rfl
theorem VO {id i:Nat}:blk id K (.exit i) st=if i=id then K .normal st else K (.exit i) st:=rfl
theorem VP {id:Nat}:blk id K .ret st=K .ret st:=rfl
theorem Ut:SH (some st) K=K .normal st:=rfl
def quiet:List Ent→Bool
 | []=>true
 | ⟨_,_,[],_⟩ :: r=>quiet r
 | ⟨_,_,_ :: _,_⟩ :: _=>false
theorem KS {anc:List (List Nat)} {rd:List Nat} {j:Nat}:∀ {l:List Ent} {i:Nat},quiet l=true→Pl anc rd [] j (Hp l) i=true
 | [],i,_=>rfl
 | ⟨_,_,[],rdi⟩ :: r,i,h=>by
  have:=KS (anc:=anc) (rd:=rd) (j:=j) (l:=r) (i:=i+1) h
  simp only [Hp,zE,yT] at this ⊢
  simp only [Pl,this,zG]
  have e1:meets [] (rd++[])=false:=rfl
  have e2:meets rdi []=false:=by cases rdi <;> simp [meets]
  rw [e1,e2]; rfl
theorem Rv {l l':List Ent} (h:quiet l=true) (h':quiet l'=true):quiet (l++l')=true:=by
 induction l with
 | nil=>exact h'
 | cons x r ih =>
  obtain ⟨a,b,c,d⟩:=x
  cases c with
  | nil=>exact ih h
  | cons _ _=>cases h
theorem MB {anc:List (List Nat)}:∀ {l pre:List Ent} {j:Nat},quiet pre=true→quiet l=true→obB anc (Hp pre) (Hp l) j=true
 | [],pre,j,_,_=>rfl
 | ⟨a,b,[],rd⟩ :: r,pre,j,hp,h=>by
  have e:=MB (anc:=anc) (l:=r) (pre:=pre++[⟨a,b,[],rd⟩]) (j:=j+1) (Rv hp rfl) h
  have e2:=KS (anc:=anc) (rd:=rd) (j:=j) (i:=0) hp
  simp only [Hp,yX,zE,yT] at e e2 ⊢
  simp only [obB,e2,e,zD]
theorem Uu {anc:List (List Nat)} {es:List Ent}:SI anc (some (es,st)) K=match quiet es with
  | true=>K .normal st
  | false=>obB anc [] (Hp es) 0=true∧K .normal st:=by
 show (obB anc [] (Hp es) 0=true∧K .normal st)=_
 cases h:quiet es with
 | true=>exact propext ⟨fun h=>h.2,fun h'=>⟨MB (pre:=[]) rfl h,h'⟩⟩
 | false=>rfl
noncomputable def Vg (r:List SOper) (e:Option (Ent × St)):Option St :=
 match e with
 | some (_,st)=>PQ r st
 | none=>none
noncomputable def Vh (r:List SOper) (acc:List Ent) (e:Option (Ent × St)):Option (List Ent × St) :=
 match e with
 | some (x,st)=>PR r (acc++[x]) st
 | none=>none
noncomputable def opF (so:SOp) (sl:List SV) (ob:List Ob):Option R3:=fOp Tryz.prog calls so sl ob
theorem SK:PQ [] st=some st:=rfl
theorem Rw {d:Option Tmp} {so:SOp} {r:List SOper} {sl:List SV} {ob:List Ob}:PQ (⟨d,none,so⟩ :: r) ⟨sl,ob⟩=Vg r (GE d ⟨sl,ob⟩ (opF so sl ob)):=rfl
noncomputable def gdF (d:Option Tmp) (so:SOp) (want:Bool) (sl:List SV) (ob:List Ob) (v:SV):Option (Ent × St) :=
 match v with
 | .bool b=>bif Px b want then GE d ⟨sl,ob⟩ (opF so sl ob) else some (⟨false,.tup [],[],[]⟩,⟨DG sl d (.tup []),ob⟩)
 | .tup []=>some (⟨false,.tup [],[],[]⟩,⟨DG sl d (.tup []),ob⟩)
 | _=>none
theorem Uv {d:Option Tmp} {k:Nat} {want:Bool} {so:SOp} {r:List SOper} {sl:List SV} {ob:List Ob}:PQ (⟨d,some (k,want),so⟩ :: r) ⟨sl,ob⟩=Vg r (gdF d so want sl ob (gets sl k)):=rfl
theorem SL {acc:List Ent}:PR [] acc st=some (acc,st):=rfl
theorem Rx {d:Option Tmp} {so:SOp} {r:List SOper} {acc:List Ent} {sl:List SV} {ob:List Ob}:PR (⟨d,none,so⟩ :: r) acc ⟨sl,ob⟩=Vh r acc (GE d ⟨sl,ob⟩ (opF so sl ob)):=rfl
theorem Uw {d:Option Tmp} {k:Nat} {want:Bool} {so:SOp} {r:List SOper} {acc:List Ent} {sl:List SV} {ob:List Ob}:PR (⟨d,some (k,want),so⟩ :: r) acc ⟨sl,ob⟩=Vh r acc (gdF d so want sl ob (gets sl k)):=rfl
theorem Vi {r:List SOper} {e:Ent}:Vg r (some (e,st))=PQ r st:=rfl
theorem Vj {r:List SOper} {acc:List Ent} {e:Ent}:Vh r acc (some (e,st))=PR r (acc++[e]) st:=rfl
theorem VQ {d:Option Tmp} {so:SOp} {sl:List SV} {ob:List Ob}:gdF d so true sl ob (.bool true)=GE d ⟨sl,ob⟩ (opF so sl ob):=rfl
theorem Vk {d:Option Tmp} {so:SOp} {sl:List SV} {ob:List Ob}:gdF d so false sl ob (.bool false)=GE d ⟨sl,ob⟩ (opF so sl ob):=rfl
theorem Vl {d:Option Tmp} {so:SOp} {sl:List SV} {ob:List Ob}:gdF d so true sl ob (.bool false)=some (⟨false,.tup [],[],[]⟩,⟨DG sl d (.tup []),ob⟩):=rfl
theorem Vm {d:Option Tmp} {so:SOp} {sl:List SV} {ob:List Ob}:gdF d so false sl ob (.bool true)=some (⟨false,.tup [],[],[]⟩,⟨DG sl d (.tup []),ob⟩):=rfl
theorem VR {d:Option Tmp} {so:SOp} {want:Bool} {sl:List SV} {ob:List Ob}:gdF d so want sl ob (.tup [])=some (⟨false,.tup [],[],[]⟩,⟨DG sl d (.tup []),ob⟩):=rfl
theorem Vn {d:Option Tmp} {x:SV} {rd:List Nat}:GE d st (some (x,[],rd))=some (⟨true,x,[],rd⟩,⟨DG st.sl d x,st.ob⟩):=rfl
theorem Vo {d:Option Tmp} {x:SV} {q:Nat × Ob} {u:List (Nat × Ob)} {rd:List Nat}:GE d st (some (x,q :: u,rd))=bif Rd (Ca st.ob (q :: u)).length (q :: u) then some (⟨true,x,q :: u,rd⟩,⟨DG st.sl d x,Ca st.ob (q :: u)⟩) else none:=rfl
def O9 (ob:List Ob) (xs:List SV) (sel:List Nat) (r:Option (SV × List Ob)) (n:Nat):Option R3 :=
 match r with
 | some (r,fob')=>bif decide (n≤fob'.length) then some (Ee sel (AH sel xs) ob.length r fob') else none
 | none=>none
def Vp (hd:List Bool) (f:FuncId) (xs:List SV) (ob:List Ob) (sel:List Nat) (e:List SV→List Ob→Option (SV × List Ob)) (b:Option (List Ob)):Option R3 :=
 match b with
 | some fob=>bif nodupB sel&&Hx ob.length sel&&Fk fob.length fob then O9 ob xs sel (e (Ed hd (Am ob) sel xs) fob) fob.length else none
 | none=>none
def SM (hd:List Bool) (f:FuncId) (xs:List SV) (ob:List Ob) (sel:List Nat) (e:List SV→List Ob→Option (SV × List Ob)):Option R3:=Vp hd f xs ob sel e (D2 sel ob sel)
theorem SN {f:FuncId} {xs:List SV} {ob:List Ob}:calls f xs ob=Ef (modes f).res (SM (modes f).hand f xs ob (reach ob 64 (ET (modes f).hand xs) []) (E f)):=rfl
theorem Vq {r:Option R3}:Ef .asis r=r:=rfl
theorem Vr {r:Option R3}:Ef .frz r=r:=rfl
theorem Vs {l:List (Option (Nat × Nat))} {r:Option R3}:Ef (.own l) r=r:=rfl
theorem Vt {l:List (Option (Nat × Nat))} {r:Option R3}:Ef (.half l) r=r:=rfl
theorem Vu {l:List (Option (Nat × Nat))} {r:Option R3}:Ef (.tr l) r=r:=rfl
theorem Vv {l:List Nat} {r:Option R3}:Ef (.frl l) r=r:=rfl
theorem Vw {r:R3}:Ef .late (some r)=Oo r:=rfl
theorem H4:∀ u:List (Nat × Ob),Cm [] u=u
 | []=>rfl
 | (g,o) :: u=>by rw [Cm,H4 u]; rfl
theorem Vx {m:RM} {b:Bool} {u:List (Nat × Ob)} {rd:List Nat}:Ef m (some (.bool b,u,rd))=some (.bool b,u,rd):=by
 cases m <;> first | rfl | (show some (SV.bool b,Cm [] u,rd)=_; rw [H4])
theorem Vy {m:RM} {k:IntKind} {n:Int} {u:List (Nat × Ob)} {rd:List Nat}:Ef m (some (.int k n,u,rd))=some (.int k n,u,rd):=by
 cases m <;> first | rfl | (show some (SV.int k n,Cm [] u,rd)=_; rw [H4])
theorem Ry {hd:List Bool} {f:FuncId} {xs:List SV} {ob:List Ob} {e:List SV→List Ob→Option (SV × List Ob)}:SM hd f xs ob [] e=O9 ob xs [] (e (Ed hd (Am ob) [] xs) []) 0:=rfl
theorem PS {hd:List Bool} {f:FuncId} {xs:List SV} {ob:List Ob} {g:Nat} {r:List Nat} {e:List SV→List Ob→Option (SV × List Ob)}:SM hd f xs ob (g :: r) e=Vp hd f xs ob (g :: r) e (D2 (g :: r) ob (g :: r)):=rfl
theorem Ux {ob:List Ob} {xs:List SV} {r:SV} {fob':List Ob}:O9 ob xs [] (some (r,fob')) 0=some (Ee [] (AH [] xs) ob.length r fob'):=rfl
theorem Uy {ob:List Ob} {xs:List SV} {sel:List Nat} {r:SV} {fob':List Ob} {n:Nat}:O9 ob xs sel (some (r,fob')) n=bif decide (n≤fob'.length) then some (Ee sel (AH sel xs) ob.length r fob') else none:=rfl
theorem Vz {hd:List Bool} {f:FuncId} {xs:List SV} {ob:List Ob} {sel:List Nat} {fob:List Ob} {e:List SV→List Ob→Option (SV × List Ob)}:Vp hd f xs ob sel e (some fob)=bif nodupB sel&&Hx ob.length sel&&Fk fob.length fob then O9 ob xs sel (e (Ed hd (Am ob) sel xs) fob) fob.length else none:=rfl
theorem Rz {p:Nat} {r:SV}:Ee [] [] p r []=(r.ren (sgp [] p),[],[]):=rfl
def Ny {α:Type} (n0:Nat) (keep:List Nat) (H:α→St) (R:α→Prop) (μ:α→Nat) (a:α) (K:X→St→Prop):X→St→Prop
 | .normal,st'=>∃ y,R y∧μ y < μ a∧canon n0 keep st'=H y
 | .exit i,st'=>K (.exit i) st'
 | .ret,st'=>K .ret st'
theorem SO {α:Type} {keep:List Nat} {H:α→St} {R:α→Prop} {μ:α→Nat} {a:α} {st':St}:Ny n0 keep H R μ a K .normal st'=∃ y,R y∧μ y < μ a∧canon n0 keep st'=H y:=rfl
theorem SP {α:Type} {keep:List Nat} {H:α→St} {R:α→Prop} {μ:α→Nat} {a:α} {i:Nat} {st':St}:Ny n0 keep H R μ a K (.exit i) st'=K (.exit i) st':=rfl
theorem SQ {α:Type} {keep:List Nat} {H:α→St} {R:α→Prop} {μ:α→Nat} {a:α} {st':St}:Ny n0 keep H R μ a K .ret st'=K .ret st':=rfl
theorem go_loop {α:Type} {keep:List Nat} {b:SC} (H:α→St) (R:α→Prop) (μ:α→Nat) (a0:α) (hR:R a0) (h0:canon n0 keep st=H a0) (round:∀ a,R a→go n0 b (H a) (Ny n0 keep H R μ a K)):go n0 (.loop keep b) st K:=by
 have key:∀ (n:Nat) (a:α) (st:St),μ a≤n→R a→canon n0 keep st=H a→∃ x st',My n0 keep (run n0 b) st=some (x,st')∧K x st':=by
  intro n
  induction n with
  | zero =>
   intro a st hn hR hc
   obtain ⟨x,st',h,k⟩:=round a hR
   cases x with
   | normal =>
    obtain ⟨y,_,h2,_⟩:=k
    omega
   | exit i=>exact ⟨_,st',by rw [FS,hc,h]; rfl,k⟩
   | ret=>exact ⟨_,st',by rw [FS,hc,h]; rfl,k⟩
  | succ n ih =>
   intro a st hn hR hc
   obtain ⟨x,st',h,k⟩:=round a hR
   cases x with
   | normal =>
    obtain ⟨y,h1,h2,h3⟩:=k
    obtain ⟨x2,st2,h4,k2⟩:=ih y st' (by omega) h1 h3
    exact ⟨x2,st2,by rw [FS,hc,h]; exact h4,k2⟩
   | exit i=>exact ⟨_,st',by rw [FS,hc,h]; rfl,k⟩
   | ret=>exact ⟨_,st',by rw [FS,hc,h]; rfl,k⟩
 exact key (μ a0) a0 st (yW _) hR h0
def Nz (n0:Nat) (keep keepO:List Nat) (H:EL→St) (F:X × St) (p:EL):X→St→Prop
 | .normal,st'=>canon n0 keep st'=H p
 | .exit i,st'=>F=(.exit i,canon n0 keepO st')
 | .ret,st'=>F=(.ret,canon n0 keepO st')
def UH (n0:Nat) (keepO:List Nat) (F:X × St):X→St→Prop
 | .normal,_=>False
 | .exit i,st'=>F=(.exit i,canon n0 keepO st')
 | .ret,st'=>F=(.ret,canon n0 keepO st')
theorem R0 {keep keepO:List Nat} {H:EL→St} {F:X × St} {p:EL} {st':St}:Nz n0 keep keepO H F p .normal st'=(canon n0 keep st'=H p):=rfl
theorem R1 {keep keepO:List Nat} {H:EL→St} {F:X × St} {p:EL} {i:Nat} {st':St}:Nz n0 keep keepO H F p (.exit i) st'=(F=(.exit i,canon n0 keepO st')):=rfl
theorem R2 {keep keepO:List Nat} {H:EL→St} {F:X × St} {p:EL} {st':St}:Nz n0 keep keepO H F p .ret st'=(F=(.ret,canon n0 keepO st')):=rfl
theorem Uz {keepO:List Nat} {F:X × St} {i:Nat} {st':St}:UH n0 keepO F (.exit i) st'=(F=(.exit i,canon n0 keepO st')):=rfl
theorem U0 {keepO:List Nat} {F:X × St} {st':St}:UH n0 keepO F .ret st'=(F=(.ret,canon n0 keepO st')):=rfl
end
def slots:Nat→Nat→List (Nat × SV)→List SV
 | 0,_,_=>[]
 | n+1,k,[]=>.any :: slots n (k+1) []
 | n+1,k,(j,x) :: r=>bif j == k then x :: slots n (k+1) r else .any :: slots n (k+1) ((j,x) :: r)
def U1 (res:RM) (n0:Nat) (rs:List RX) (out:SV × List Ob) (x:X) (st:St):Prop:=fin res n0 rs x st=some out
def V3 (res:RM) (n0:Nat) (r:Option (SV × List Ob)):Option (SV × List Ob) :=
 match r with
 | some (r,ob)=>order res n0 r ob
 | none=>none
def OA (res:RM) (n0:Nat) (ob:List Ob) (r:Option SV):Option (SV × List Ob) :=
 match r with
 | some r0=>V3 res n0 (gc n0 r0 ob)
 | none=>none
theorem V4 {res:RM} {n0:Nat} {rs:List RX} {out:SV × List Ob} {sl:List SV} {ob:List Ob}:U1 res n0 rs out .ret ⟨sl,ob⟩=(OA res n0 ob (LA ⟨sl,ob⟩ rs)=some out):=rfl
theorem V5 {res:RM} {n0:Nat} {rs:List RX} {out:SV × List Ob} {sl:List SV} {ob:List Ob}:U1 res n0 rs out .normal ⟨sl,ob⟩=(OA res n0 ob (LA ⟨sl,ob⟩ rs)=some out):=rfl
theorem U2 {res:RM} {n0:Nat} {ob:List Ob} {r:SV}:OA res n0 ob (some r)=V3 res n0 (gc n0 r ob):=rfl
theorem V6 {n0:Nat} {r:SV} {ob:List Ob} {res:RM}:V3 res n0 (some (r,ob))=order res n0 r ob:=rfl
theorem Al {f:FuncId} {fc:FC} {hand:List Bool} {res:RM} {tr:Bool} {xs:List SV} {ob:List Ob} {out:SV × List Ob} (hc:codeOf Tryz.prog f=some fc) (hr:modes f=⟨hand,res,none,tr⟩) (hn:xs.length≤fc.nt) (h:go ob.length (EU res fc.sc) ⟨xs++IE (fc.nt-xs.length),entry tr ob⟩ (U1 res ob.length fc.rs out)):E f xs ob=some out:=by
 obtain ⟨x,st',h1,h2⟩:=h
 unfold E
 rw [UG]
 unfold Eg
 rw [hc,hr]
 simp only
 rw [decide_eq_true hn,cond_true]
 have h1:fr Tryz.prog (BH modes (ev Tryz.prog modes)) (H0 ob.length) (EU res fc.sc) ⟨xs++IE (fc.nt-xs.length),entry tr ob⟩=some (x,st'):=h1
 rw [h1]
 exact h2
theorem N0 {f:FuncId} {g:List SV→List Ob→Option (SV × List Ob)} {xs:List SV} {ob:List Ob} (hg:(modes f).ext=some g):E f xs ob=g xs ob:=by
 unfold E
 rw [UG]
 unfold Eg
 rw [hg]
theorem OB {f:FuncId} {g:List SV→Option SV} {xs:List SV} {r:SV} (hg:(modes f).ext=some (Ia g)) (h:g xs=some r):E f xs []=some (r,[]):=by
 rw [N0 hg]
 simp only [Ia,h]
theorem C1:modes 72=⟨[],.asis,some (Ia MA),false⟩:=by unfold modes; rfl
theorem CX {k:Int} (h1:1≤k) (h2:k≤1099511627776):E 72 [.int .i64 k] []=some (.str (CK k),[]):=by
 refine OB (g:=MA) (by unfold modes; rfl) ?_
 simp only [MA,A3 h1,A3 h2,zD,cond_true]
theorem Ae:modes 127=⟨[],.asis,some (Ia SD),false⟩:=by unfold modes; rfl
theorem BM (s:ByteArray):E 127 [.str s] []=some (.bool (Bk s),[]):=OB (g:=SD) (congrArg FM.ext Ae) rfl
theorem Ak:modes 118=⟨[],.asis,some (Ia SE),false⟩:=by unfold modes; rfl
theorem Eh (s:ByteArray):E 118 [.str s] []=some (.bool (Bk s),[]):=OB (g:=SE) (congrArg FM.ext Ak) rfl
theorem AK:modes 128=⟨[],.asis,some (Ia SF),false⟩:=by unfold modes; rfl
theorem KT (s:ByteArray):E 128 [.str s] []=some (.bool (CW s),[]):=OB (g:=SF) (congrArg FM.ext AK) rfl
theorem AL:modes 119=⟨[],.asis,some (Ia SG),false⟩:=by unfold modes; rfl
theorem KU (s:ByteArray):E 119 [.str s] []=some (.bool (CW s),[]):=OB (g:=SG) (congrArg FM.ext AL) rfl
theorem U3 {n:Int} (h1:-9223372036854775808≤n) (h2:n≤9223372036854775807):dec (inK .i64 n)=true:=A3 (TQ.2 ⟨h1,h2⟩)
theorem get_at {α β:Type} (f:α→β) {xs:List α} {k:Nat} (h:k<xs.length):(xs.map f)[k]?=some (f xs[k]):=by rw [List.getElem?_map,zS h]; rfl
theorem Ba (left:Int) (n:Nat):((n:Int)≤left∧szR left n=left-n)∨(left<n∧szR left n=-1):=by
 unfold szR; split <;> omega
mutual
def D.fit:D→Prop
 | .int _=>True
 | .byte _=>True
 | .bool _=>True
 | .str s=>s.size≤9223372036854775807
 | .arr es=>es.length≤9223372036854775807∧D.OC es
def D.fits:List D→Prop
 | []=>True
 | x :: r=>D.fit x∧D.fits r
def D.OC:List (List D)→Prop
 | []=>True
 | x :: r=>D.fits x∧D.OC r
end
theorem D.QC:∀ {l:List D},(∀ (j:Nat) (h:j<l.length),D.fit l[j])→D.fits l
 | [],_=>trivial
 | x :: r,h=>⟨h 0 (by simp),D.QC fun j hj=>h (j+1) (by simpa using hj)⟩
theorem D.OD:∀ {es:List (List D)},(∀ (i:Nat) (h:i<es.length),D.fits es[i])→D.OC es
 | [],_=>trivial
 | x :: r,h=>⟨h 0 (by simp),D.OD fun j hj=>h (j+1) (by simpa using hj)⟩
theorem D.IP {α:Type} {f:α→List D}:∀ {xs:List α},D.OC (xs.map f)→∀ x∈xs,D.fits (f x)
 | [],_,x,h=>by cases h
 | y :: r,h,x,hx=>by
  simp only [zE,D.OC] at h
  rcases zP.1 hx with rfl | hx
  ·exact h.1
  ·exact D.IP h.2 x hx
theorem DRep.fit {own:Bool} {w:World} {S:Nat→Prop} {d:D} {v:Value} (h:DRep own w S d v):D.fit d:=by
 induction h with
 | int=>trivial
 | byte=>trivial
 | bool=>trivial
 | str S s h=>exact h
 | arr S sz es a cap f Sub h1 h2 h3 h4 h5 h6 h7 ih=>exact ⟨Nat.le_trans h1 h2,D.OD fun i hi=>D.QC fun j hj=>ih i j hi hj⟩
theorem VS:dec True=true:=A3 trivial
theorem VT:dec False=false:=An fun h=>h
attribute [go_sem] pfx Dy GO OT.Fo OT.Ou OT.half Vt Ub Ed Of SV.isNil Ob.idsB SV.idsB SV.Jt List.getElem?_cons_zero List.getElem?_cons_succ OT.A1 OT.Bf OT.full entry toTree Q3 Ov Q2 D3 ES CN So Ma Sy OT.erss OT.ers OT.er OT.AE OT.Bx OT.noSh quiet obB Pl Hp meets FD go_skip Uo go_ret Va Up Vb SJ Uq Ur Us Vd Ve Vf VN VO VP Ut Uu SK Rw Uv SL Rx Uw Vi Vj VQ Vk Vl Vm VR Vn Vo SN Vq Vr Vs Vu Vv Vw Vx Vy Oo On Cm seen Ry PS Ux Uy Vz Rz Ee SO SP SQ V4 V5 U2 V6 order opF fOp Dq Qy TR Qw Qx Sn FK eqK At gets Am L9 DG Ca HR Ku A4 Rd SV.cellsN SV.one GJ splice Cs NQ GI HP Ch AV Bg AU EG Fy Pn eOp.mkEs eOp.addS D.sv OT.sv D.ot EN nodupB reach SV.refs SV.Mm SV.ptrs SV.Mn Ob.refs Ob.liveB ET D2 SV.back SV.Ju Ob.back EK Fz Bz AH AI Hx Fk SV.ren SV.HV Ob.ren mkU sgp gc Jz names HY TU TV TW KE Sz TX TY TZ Ua Uc Ud SC.mark Mr DJ slots LA Pv rxV IE Om SV.noSh SV.Jq Ob.noSh SV.own SV.Nl DI cond_true cond_false zM zW zE yT List.drop_succ_cons zO List.drop_nil List.take_succ_cons List.take_zero List.take_nil List.append_nil yO yL xA List.all_nil List.getD_cons_zero List.getD_cons_succ y6 List.any_nil List.contains_cons List.contains_nil List.isEmpty_nil List.isEmpty_cons List.flatten_cons List.flatten_nil List.replicate_succ List.replicate_zero List.set_cons_zero List.set_cons_succ y7 yZ yW zR zG zH zD Bool.or_false Bool.false_or Bool.true_or Bool.or_true Bool.not_true Bool.not_false zC yJ decide_true decide_false beq_self_eq_true if_true if_false Option.map_some Option.map_none zQ yK Option.getD_none Int.toNat_natCast true_and and_true and_self eq_self_iff_true zT Bool.false_eq_true Bool.true_eq_false zU SV.int.injEq SV.bool.injEq SV.str.injEq SV.agg.injEq SV.tup.injEq SV.arr.injEq z7 St.mk.injEq Int.zero_add VS VT U3 A3 An VH svK svD RR svM MV.sv Ql Sp Sq Sr E1 St.app Ox MK.sv R0 R1 R2 Uz U0
attribute [go_sem_proc] yU yV Nat.reduceLT Nat.reduceLeDiff Nat.reduceEqDiff Nat.reduceBEq Nat.reduceBneDiff Nat.reduceMul Int.reduceToNat Int.reduceNeg Int.reduceAdd reduceCtorEq
attribute [go_sem_proc ↓] reduceIte
theorem Ib:∀ xs:List ByteArray,OT.A1 (xs.map fun s=>[OT.str s])=true
 | []=>rfl
 | x :: xs=>by simp only [zE,OT.A1,OT.Bf,OT.full,Ib xs,zD]
theorem N1:∀ xs:List Int,OT.A1 (xs.map fun n=>[OT.int n])=true
 | []=>rfl
 | x :: xs=>by simp only [zE,OT.A1,OT.Bf,OT.full,N1 xs,zD]
theorem Tm.fu_of:∀ xs:List Tm,(∀ x∈xs,OT.Bf (Tm.o x)=true)→OT.A1 (xs.map Tm.o)=true
 | [],_=>rfl
 | x :: xs,h=>by
  simp only [zE,OT.A1]
  rw [h x (by simp),Tm.fu_of xs fun y hy=>h y (by simp [hy])]; rfl
theorem Tm.fu (x:Tm):OT.Bf (Tm.o x)=true:=by
 have h:=Tm.fu_of x.args fun y hy=>Tm.fu y
 rw [Tm.o_eq]
 simp only [OT.Bf,OT.full,h,zD,zG]
termination_by SizeOf.sizeOf x
decreasing_by exact Tm.lt_of_mem hy
theorem Tm.fus (xs:List Tm):OT.A1 (xs.map Tm.o)=true:=Tm.fu_of xs fun x _=>Tm.fu x
theorem Fm.fu_of:∀ xs:List Fm,(∀ x∈xs,OT.Bf (Fm.o x)=true)→OT.A1 (xs.map Fm.o)=true
 | [],_=>rfl
 | x :: xs,h=>by
  simp only [zE,OT.A1]
  rw [h x (by simp),Fm.fu_of xs fun y hy=>h y (by simp [hy])]; rfl
theorem Fm.fu (x:Fm):OT.Bf (Fm.o x)=true:=by
 have h:=Fm.fu_of x.parts fun y hy=>Fm.fu y
 rw [Fm.o_eq]
 simp only [OT.Bf,OT.full,h,Tm.fus,zD,zG]
termination_by SizeOf.sizeOf x
decreasing_by exact Fm.lt_of_mem hy
theorem Fm.fus (xs:List Fm):OT.A1 (xs.map Fm.o)=true:=Fm.fu_of xs fun x _=>Fm.fu x
theorem Lt.fu (x:Lt):OT.Bf (Lt.o x)=true:=by
 simp only [Lt.o,OT.Bf,OT.full,Tm.fus,zD,zG]
theorem Lt.fus:∀ xs:List Lt,OT.A1 (xs.map Lt.o)=true
 | []=>rfl
 | x :: xs=>by simp only [zE,OT.A1,Lt.fu,Lt.fus xs,zD]
theorem Cl.fu (x:Cl):OT.Bf (Cl.o x)=true:=by
 simp only [Cl.o,OT.Bf,OT.full,Lt.fus,zD,zG]
theorem Cl.fus:∀ xs:List Cl,OT.A1 (xs.map Cl.o)=true
 | []=>rfl
 | x :: xs=>by simp only [zE,OT.A1,Cl.fu,Cl.fus xs,zD]
theorem Ag.fu (x:Ag):OT.Bf (Ag.o x)=true:=by
 simp only [Ag.o,OT.Bf,OT.full,zD,zG]
theorem Ag.fus:∀ xs:List Ag,OT.A1 (xs.map Ag.o)=true
 | []=>rfl
 | x :: xs=>by simp only [zE,OT.A1,Ag.fu,Ag.fus xs,zD]
theorem Bd.fu (x:Bd):OT.Bf (Bd.o x)=true:=by
 simp only [Bd.o,OT.Bf,OT.full,Tm.fus,zD,zG]
theorem Bd.fus:∀ xs:List Bd,OT.A1 (xs.map Bd.o)=true
 | []=>rfl
 | x :: xs=>by simp only [zE,OT.A1,Bd.fu,Bd.fus xs,zD]
theorem Sb.fu (x:Sb):OT.Bf (Sb.o x)=true:=by
 simp only [Sb.o,OT.Bf,OT.full,Bd.fus,zD,zG]
theorem Sb.fus:∀ xs:List Sb,OT.A1 (xs.map Sb.o)=true
 | []=>rfl
 | x :: xs=>by simp only [zE,OT.A1,Sb.fu,Sb.fus xs,zD]
theorem Df.fu (x:Df):OT.Bf (Df.o x)=true:=by
 simp only [Df.o,OT.Bf,OT.full,Fm.fus,Tm.fus,Ib,zD,zG]
theorem Df.fus:∀ xs:List Df,OT.A1 (xs.map Df.o)=true
 | []=>rfl
 | x :: xs=>by simp only [zE,OT.A1,Df.fu,Df.fus xs,zD]
theorem Tl.fu (x:Tl):OT.Bf (Tl.o x)=true:=by
 simp only [Tl.o,OT.Bf,OT.full,N1,zD,zG]
theorem Tl.fus:∀ xs:List Tl,OT.A1 (xs.map Tl.o)=true
 | []=>rfl
 | x :: xs=>by simp only [zE,OT.A1,Tl.fu,Tl.fus xs,zD]
theorem Ip.fu (x:Ip):OT.Bf (Ip.o x)=true:=by
 simp only [Ip.o,OT.Bf,OT.full,Tl.fus,zD,zG]
theorem Ip.fus:∀ xs:List Ip,OT.A1 (xs.map Ip.o)=true
 | []=>rfl
 | x :: xs=>by simp only [zE,OT.A1,Ip.fu,Ip.fus xs,zD]
attribute [go_sem] Ib N1 Kb Q5 Q6 Q7 Tm.fus Tm.erss Tm.noss Fm.fus Fm.erss Fm.noss Lt.fus Lt.erss Lt.noss Cl.fus Cl.erss Cl.noss Ag.fus Ag.erss Ag.noss Bd.fus Bd.erss Bd.noss Sb.fus Sb.erss Sb.noss Df.fus Df.erss Df.noss Tl.fus Tl.erss Tl.noss Ip.fus Ip.erss Ip.noss
theorem J5 {α β:Type} (f:α→β) (dn rest:List α) (x y:α) {k:Nat} (h:dn.length=k):((dn++x :: rest).map f).set k (f y)=((dn++[y])++rest).map f:=by
 subst h
 rw [yX,List.set_append_right _ _ (by simp)]
 simp
theorem C8 {α:Type} (a:α):dec (a=a)=true:=A3 rfl
def Ei {α β:Type} (f:α→β) (z:β) (xs:List α) (k:Nat):List β:=(xs.take k).map f++List.replicate (xs.length-k) z
section
variable {α β:Type} (f:α→β) (z:β) {xs:List α} {k:Nat}
theorem H5:Ei f z xs 0=List.replicate xs.length z:=by simp [Ei]
theorem IQ:(Ei f z xs k).length=xs.length:=by simp [Ei]; omega
theorem IR:Ei f z xs xs.length=xs.map f:=by simp [Ei]
theorem IS (h:k<xs.length):(Ei f z xs k)[k]?=some z:=by
 have hl:((xs.take k).map f).length=k:=by simp; omega
 unfold Ei
 rw [List.getElem?_append_right (by omega),hl,Nat.sub_self,List.getElem?_replicate]
 simp; omega
theorem IT (h:k<xs.length):(Ei f z xs k).set k (f xs[k])=Ei f z xs (k+1):=by
 have hl:((xs.take k).map f).length=k:=by simp; omega
 have e:List.take (k+1) xs=List.take k xs++[xs[k]]:=List.take_succ_eq_append_getElem h
 unfold Ei
 rw [List.set_append_right _ _ (by omega),hl,Nat.sub_self,e,yX,List.append_assoc]
 congr 1
 rw [show xs.length-k=(xs.length-(k+1))+1 by omega,List.replicate_succ,List.set_cons_zero]
 rfl
end
theorem U4 (a b:Int):(bif dec (a<b) then b else a)=max a b:=by
 by_cases h:a<b
 ·rw [A3 h,cond_true,Int.max_eq_right (by omega)]
 ·rw [An h,cond_false,Int.max_eq_left (by omega)]
def E4 {α:Type} (p:α→Bool):List α→Int→Int
 | [],_=>-1
 | x :: xs,i=>if p x then i else E4 p xs (i+1)
theorem KV {α:Type} (p:α→Bool):∀ (xs:List α),dec (0≤E4 p xs 0)=xs.any p:=by
 have key:∀ (xs:List α) (i:Int),0≤i→(0≤E4 p xs i ↔ xs.any p=true):=by
  intro xs
  induction xs with
  | nil=>intro i h; simp [E4]
  | cons x xs ih =>
   intro i h
   simp only [E4,y6,yC]
   by_cases hp:p x=true
   ·simp [hp,h]
   ·rw [if_neg hp,ih (i+1) (by omega)]; simp [hp]
 intro xs
 cases h:xs.any p with
 | true=>exact A3 ((key xs 0 (by omega)).2 h)
 | false=>exact An fun h'=>by rw [(key xs 0 (by omega)).1 h'] at h; cases h
theorem V7 {p q:Prop} (h:p ↔ q):dec p=dec q:=by rw [propext h]
mutual
def Tm.nodes:Tm→Nat
 | .mk _ args=>1+Tm.nodeS args
def Tm.nodeS:List Tm→Nat
 | []=>0
 | x :: xs=>Tm.nodes x+Tm.nodeS xs
end
theorem Tm.nodes_eq (x:Tm):x.nodes=1+Tm.nodeS x.args:=by
 obtain ⟨name,args⟩:=x
 rw [Tm.nodes]; rfl
theorem Tm.nodes_pos (x:Tm):1≤x.nodes:=by rw [Tm.nodes_eq]; omega
theorem Tm.nodes_le:∀ (xs:List Tm) (k:Nat) (h:k<xs.length),xs[k].nodes≤Tm.nodeS xs
 | [],k,h=>absurd h (by simp)
 | x :: xs,0,_=>by rw [Tm.nodeS]; simp
 | x :: xs,k+1,h=>by
  have:=Tm.nodes_le xs k (by simpa using h)
  rw [Tm.nodeS]; simp only [yA]; omega
mutual
def Tm.deep:Tm→Nat
 | .mk _ args=>Tm.Ej args+1
def Tm.Ej:List Tm→Nat
 | []=>0
 | x :: xs=>max (Tm.deep x) (Tm.Ej xs)
end
theorem Tm.N2 (x:Tm):x.deep=Tm.Ej x.args+1:=by
 obtain ⟨name,args⟩:=x
 rw [Tm.deep]; rfl
theorem Tm.FY:∀ xs:List Tm,(∀ y∈xs,y.deep≤y.nodes)→Tm.Ej xs≤Tm.nodeS xs
 | [],_=>by simp [Tm.Ej]
 | x :: xs,h=>by
  have h1:=h x (by simp)
  have h2:=Tm.FY xs fun y hy=>h y (by simp [hy])
  rw [Tm.Ej,Tm.nodeS]; omega
theorem Tm.E5 (x:Tm):x.deep≤x.nodes:=by
 rw [Tm.N2,Tm.nodes_eq]
 have:=Tm.FY x.args fun y hy=>Tm.E5 y
 omega
termination_by SizeOf.sizeOf x
decreasing_by exact Tm.lt_of_mem hy
mutual
def Tm.names:Tm→Bool
 | .mk name args=>if Bk name then args.length == 0 else CW name&&decide (args.length≤4)&&Tm.DP args
def Tm.DP:List Tm→Bool
 | []=>true
 | x :: xs=>Tm.names x&&Tm.DP xs
end
theorem Tm.FZ (x:Tm):x.names=if Bk x.name then x.args.length == 0 else CW x.name&&decide (x.args.length≤4)&&Tm.DP x.args:=by
 obtain ⟨name,args⟩:=x
 rw [Tm.names]; rfl
theorem Tm.G8:∀ xs:List Tm,Tm.DP xs=xs.all Tm.names
 | []=>rfl
 | x :: xs=>by rw [Tm.DP,Tm.G8 xs]; rfl
theorem Tm.length_le:∀ xs:List Tm,xs.length≤Tm.nodeS xs
 | []=>yW _
 | x :: xs=>by
  have:=Tm.length_le xs
  have:=Tm.nodes_pos x
  rw [Tm.nodeS]; simp only [zM]; omega
theorem Tm.nodes_mem {xs:List Tm} {y:Tm} (h:y∈xs):y.nodes≤Tm.nodeS xs:=by
 obtain ⟨k,hk,rfl⟩:=yY h
 exact Tm.nodes_le xs k hk
def Tm.small (x:Tm):Bool:=decide (x.nodes≤30)&&decide (x.deep≤8)
def Tm.valid (x:Tm):Bool:=x.small&&x.names
noncomputable def Tm.eqn (x:Tm):Bool:=dec (x.name=⟨#[61]⟩)
noncomputable def Tm.atom (x:Tm):Bool:=if x.eqn then x.args.length == 2&&x.small&&Tm.DP x.args else CW x.name&&x.valid
theorem MC {xs:List Tm} (h:xs.length=2):Tm.DP xs=((xs[0]'(by omega)).names&&(xs[1]'(by omega)).names):=by
 match xs,h with
 | [a,b],_=>simp [Tm.DP]
mutual
def Tm.cap:Tm→Int
 | .mk _ xs=>Tm.capL xs 1
def Tm.capL:List Tm→Int→Int
 | [],n=>n
 | x :: xs,n=>if 30 < n then n else Tm.capL xs (n+Tm.cap x)
end
theorem Tm.cap_eq (x:Tm):x.cap=Tm.capL x.args 1:=by
 obtain ⟨n,xs⟩:=x
 rw [Tm.cap]; rfl
theorem Tm.capL_spec:∀ (xs:List Tm) (n:Int),(∀ x∈xs,1≤x.cap∧x.cap≤x.nodes∧(x.cap≤30→x.cap=x.nodes))→1≤n→n≤Tm.capL xs n∧Tm.capL xs n≤n+Tm.nodeS xs∧(Tm.capL xs n≤30→Tm.capL xs n=n+Tm.nodeS xs)
 | [],n,_,h=>by simp [Tm.capL,Tm.nodeS]
 | x :: xs,n,hx,h=>by
  rw [Tm.capL,Tm.nodeS]
  have h1:=hx x (by simp)
  split
  ·omega
  ·have:=Tm.capL_spec xs (n+x.cap) (fun y hy=>hx y (by simp [hy])) (by omega)
   omega
theorem Tm.cap_spec (x:Tm):1≤x.cap∧x.cap≤x.nodes∧(x.cap≤30→x.cap=x.nodes):=by
 rw [Tm.cap_eq,Tm.nodes_eq]
 have:=Tm.capL_spec x.args 1 (fun y hy=>Tm.cap_spec y) (by omega)
 omega
termination_by SizeOf.sizeOf x
decreasing_by exact Tm.lt_of_mem hy
mutual
def Tm.many:Tm→Int→Int
 | .mk _ xs,m=>Tm.manyL xs m 1
def Tm.manyL:List Tm→Int→Int→Int
 | [],_,n=>n
 | x :: xs,m,n=>if n≤m then Tm.manyL xs m (n+Tm.many x (m-n)) else n
end
theorem Tm.many_eq (x:Tm) (m:Int):x.many m=Tm.manyL x.args m 1:=by
 obtain ⟨n,xs⟩:=x
 rw [Tm.many]; rfl
theorem Tm.manyL_spec (m:Int):∀ (xs:List Tm) (n:Int),(∀ x∈xs,∀ m,0≤m→1≤x.many m∧x.many m≤x.nodes∧(x.many m≤m→x.many m=x.nodes))→1≤n→n≤Tm.manyL xs m n∧Tm.manyL xs m n≤n+Tm.nodeS xs∧(Tm.manyL xs m n≤m→Tm.manyL xs m n=n+Tm.nodeS xs)
 | [],n,_,h=>by simp [Tm.manyL,Tm.nodeS]
 | x :: xs,n,hx,h=>by
  rw [Tm.manyL,Tm.nodeS]
  split
  ·have h1:=hx x (by simp) (m-n) (by omega)
   have:=Tm.manyL_spec m xs (n+x.many (m-n)) (fun y hy=>hx y (by simp [hy])) (by omega)
   omega
  ·omega
theorem Tm.many_spec (x:Tm) (m:Int):1≤x.many m∧x.many m≤x.nodes∧(x.many m≤m→x.many m=x.nodes):=by
 rw [Tm.many_eq,Tm.nodes_eq]
 have:=Tm.manyL_spec m x.args 1 (fun y hy m _=>Tm.many_spec y m) (by omega)
 omega
termination_by SizeOf.sizeOf x
decreasing_by exact Tm.lt_of_mem hy
theorem Tm.MD {x:Tm} (h:x.names=true) (hv:Bk x.name=true):x.args=[]:=by
 rw [Tm.FZ,if_pos hv] at h
 exact zK (by simpa using h)
theorem Tm.IU {x:Tm} (h:x.names=true) {y:Tm} (hy:y∈x.args):y.names=true:=by
 rw [Tm.FZ] at h
 split at h
 ·have:x.args=[]:=zK (by simpa using h)
  rw [this] at hy; cases hy
 ·rw [zB,Tm.G8,zZ] at h
  exact h.2 y hy
def J6:SC:=(.seq (.reg [⟨some 1,none,.boxv 31 2 (.t 0)⟩,⟨some 2,none,.mv (.c (.int .i64 0))⟩]) (.seq (.reg [⟨some 3,none,.mv (.c (.int .i64 1))⟩]) (.seq (.seq (.reg [⟨some 6,none,.faddr 1 (.t 1)⟩,⟨some 7,none,.load false 1 (.t 6)⟩,⟨some 8,none,.len false (.t 7)⟩,⟨some 9,none,.mv (.c (.int .i64 0))⟩]) (.block 0 (.loop [0,0,0,1,0,0,0,1,1,1,0,0,0,0,0,0,0,0,0,0,0,0] (.seq (.reg [⟨some 10,none,.bin .lss false (.t 9) (.t 8)⟩]) (.seq (.cond (.t 10) .skip (.exit 0)) (.seq (.block 1 (.seq (.reg [⟨some 11,none,.iaddr 2 (.t 7) (.t 9)⟩,⟨some 12,none,.load true 2 (.t 11)⟩,⟨(some 5),none,(.alloc 31 [(.str ⟨#[]⟩),.nil])⟩,⟨none,none,(.store 2 (.t 5) (.t 12))⟩]) (.seq (.seq (.reg [⟨some 13,none,.mv (.t 3)⟩,⟨some 14,none,.bin .gtr false (.t 13) (.c (.int .i64 30))⟩]) (.cond (.t 14) (.seq (.reg [⟨some 15,none,.mv (.t 3)⟩,⟨some 2,none,.mv (.t 15)⟩]) .ret) .skip)) (.reg [⟨some 16,none,.mv (.t 3)⟩,⟨some 17,none,.load true 2 (.t 5)⟩,⟨some 18,none,.call 219 [(.t 17)]⟩,⟨some 19,none,.bin .add false (.t 16) (.t 18)⟩,⟨some 3,none,.mv (.t 19)⟩])))) (.reg [⟨some 20,none,.bin .add false (.t 9) (.c (.int .i64 1))⟩,⟨some 9,none,.mv (.t 20)⟩]))))))) (.seq (.reg [⟨some 21,none,.mv (.t 3)⟩,⟨some 2,none,.mv (.t 21)⟩]) .ret))))
theorem OE:codeOf Tryz.prog 219=some ⟨22,J6,[(.tmp 2)]⟩:=by kernel_rfl
theorem Dr:modes 219=⟨[],.asis,none,false⟩:=by unfold modes; rfl
theorem U5 (x:Tm) (hn:x.nodes≤1099511627776) (ih:∀ y∈x.args,E 219 [y.sv] []=some (.int .i64 y.cap,[])):E 219 [x.sv] []=some (.int .i64 x.cap,[]):=by
 have hl:=Tm.length_le x.args
 have hx:=Tm.nodes_eq x
 rw [Tm.cap_eq]
 refine Al OE Dr (of_decide_eq_true rfl) ?_
 simp (disch:=omega) only [J6,go_sem,Ac]
 refine go_loop (α:=Int × Int) (fun a=>⟨slots 22 0 [(3,.int .i64 a.2),(7,.arr (x.args.map Tm.d)),(8,.int .i64 x.args.length),(9,.int .i64 a.1)],[]⟩) (fun a=>∃ k:Nat,a.1=k∧k≤x.args.length∧1≤a.2∧a.2+Tm.nodeS (x.args.drop k)≤x.nodes∧Tm.capL (x.args.drop k) a.2=Tm.capL x.args 1) (fun a=>x.args.length-a.1.toNat) (0,1) ⟨0,rfl,zR _,by dsimp only; omega,by rw [zO]; dsimp only; omega,rfl⟩ (by simp (disch:=omega) only [go_sem,Ac]) ?_
 rintro ⟨i,n⟩ ⟨k,hi,hk,hn0,hn1,hs⟩
 dsimp only at hi hn0 hn1 hs
 have hni:i.toNat=k:=by omega
 rcases zL k x.args.length with hlt | hge
 ·have hg:=get_at Tm.d hlt
  rw [Tm.d_eq] at hg
  have hd:x.args.drop k=x.args[k] :: x.args.drop (k+1):=zF hlt
  have hc:=ih x.args[k] (zN hlt)
  have hp:=Tm.cap_spec x.args[k]
  rw [hd,Tm.capL] at hs
  rw [hd,Tm.nodeS] at hn1
  rcases y8 30 n with h30 | h30
  ·rw [if_pos h30] at hs
   simp (disch:=omega) only [go_sem,Ac,hni,hg,hc,Dr]
   exact hs
  ·rw [if_neg (by omega)] at hs
   simp (disch:=omega) only [go_sem,Ac,hni,hg,hc,Dr]
   refine ⟨(i+1,n+x.args[k].cap),⟨k+1,by dsimp only; omega,hlt,by dsimp only; omega,by dsimp only; omega,hs⟩,by dsimp only; omega,?_⟩
   simp only [and_self]
 ·have hd:x.args.drop k=[]:=zI hge
  rw [hd,Tm.capL] at hs
  simp (disch:=omega) only [go_sem,Ac,hni]
  exact hs
theorem SR (x:Tm) (hn:x.nodes≤1099511627776):E 219 [x.sv] []=some (.int .i64 x.cap,[]) :=
 U5 x hn fun y hy=>SR y (by have:=Tm.nodes_mem hy; have:=Tm.nodes_eq x; omega)
termination_by SizeOf.sizeOf x
decreasing_by exact Tm.lt_of_mem hy
def GQ:SC:=(.seq (.reg [⟨some 2,none,.boxv 31 2 (.t 0)⟩,⟨some 4,none,.mv (.c (.int .i64 0))⟩]) (.seq (.reg [⟨some 5,none,.mv (.c (.int .i64 1))⟩]) (.seq (.seq (.reg [⟨some 6,none,.mv (.c (.int .i64 0))⟩]) (.block 0 (.loop [0,1,1,0,0,1,1,0,0,0,0,0,0,0,0,0,0,0,0,0,0,0,0,0,0,0,0,0,0,0,0] (.seq (.seq (.reg [⟨some 7,none,.mv (.t 6)⟩,⟨some 8,none,.faddr 1 (.t 2)⟩,⟨some 9,none,.load false 1 (.t 8)⟩,⟨some 10,none,.len false (.t 9)⟩,⟨some 11,none,.bin .lss false (.t 7) (.t 10)⟩,⟨some 12,none,.mv (.t 11)⟩,⟨(some 13),(some (12,true)),(.mv (.t 5))⟩,⟨(some 14),(some (12,true)),(.mv (.t 1))⟩,⟨(some 15),(some (12,true)),(.bin .leq false (.t 13) (.t 14))⟩,⟨some 16,none,.pick (.t 12) (.t 15) (.c (.bool false))⟩]) (.cond (.t 16) .skip (.exit 0))) (.seq (.block 1 (.reg [⟨some 19,none,.mv (.t 5)⟩,⟨some 20,none,.faddr 1 (.t 2)⟩,⟨some 21,none,.load false 1 (.t 20)⟩,⟨some 22,none,.mv (.t 6)⟩,⟨some 23,none,.iaddr 2 (.t 21) (.t 22)⟩,⟨some 24,none,.load true 2 (.t 23)⟩,⟨some 25,none,.mv (.t 1)⟩,⟨some 26,none,.mv (.t 5)⟩,⟨some 27,none,.bin .sub false (.t 25) (.t 26)⟩,⟨some 28,none,.call 206 [(.t 24),(.t 27)]⟩,⟨some 29,none,.bin .add false (.t 19) (.t 28)⟩,⟨some 5,none,.mv (.t 29)⟩])) (.reg [⟨some 17,none,.mv (.t 6)⟩,⟨some 18,none,.bin .add false (.t 17) (.c (.int .i64 1))⟩,⟨some 6,none,.mv (.t 18)⟩])))))) (.seq (.reg [⟨some 30,none,.mv (.t 5)⟩,⟨some 4,none,.mv (.t 30)⟩]) .ret))))
theorem LF:codeOf Tryz.prog 206=some ⟨31,GQ,[(.tmp 4)]⟩:=by kernel_rfl
theorem Cu:modes 206=⟨[],.asis,none,false⟩:=by unfold modes; rfl
theorem U6 (x:Tm) (m:Int) (hm:0≤m) (hm1:m≤1099511627776) (hn:x.nodes≤1099511627776) (ih:∀ y∈x.args,∀ m:Int,0≤m→m≤1099511627776→E 206 [y.sv,.int .i64 m] []=some (.int .i64 (y.many m),[])):E 206 [x.sv,.int .i64 m] []=some (.int .i64 (x.many m),[]):=by
 have hl:=Tm.length_le x.args
 have hx:=Tm.nodes_eq x
 rw [Tm.many_eq]
 refine Al LF Cu (of_decide_eq_true rfl) ?_
 simp (disch:=omega) only [GQ,go_sem,Ac]
 refine go_loop (α:=Int × Int) (fun a=>⟨slots 31 0 [(1,.int .i64 m),(2,.ptr 0 0),(5,.int .i64 a.2),(6,.int .i64 a.1)],[.box 31 [.str x.name,.arr (x.args.map Tm.d)]]⟩) (fun a=>∃ k:Nat,a.1=k∧k≤x.args.length∧1≤a.2∧a.2+Tm.nodeS (x.args.drop k)≤x.nodes∧Tm.manyL (x.args.drop k) m a.2=Tm.manyL x.args m 1) (fun a=>x.args.length-a.1.toNat) (0,1) ⟨0,rfl,zR _,by dsimp only; omega,by rw [zO]; dsimp only; omega,rfl⟩ (by simp (disch:=omega) only [go_sem,Ac]) ?_
 rintro ⟨i,n⟩ ⟨k,hi,hk,hn0,hn1,hs⟩
 dsimp only at hi hn0 hn1 hs
 have hni:i.toNat=k:=by omega
 rcases zL k x.args.length with hlt | hge
 ·have hg:=get_at Tm.d hlt
  rw [Tm.d_eq] at hg
  have hd:x.args.drop k=x.args[k] :: x.args.drop (k+1):=zF hlt
  rw [hd,Tm.manyL] at hs
  rw [hd,Tm.nodeS] at hn1
  rcases y8 m n with h30 | h30
  ·rw [if_neg (by omega)] at hs
   simp (disch:=omega) only [go_sem,Ac,hni,hg,Cu]
   exact hs
  ·rw [if_pos h30] at hs
   have hc:=ih x.args[k] (zN hlt) (m-n) (by omega) (by omega)
   have hp:=Tm.many_spec x.args[k] (m-n)
   simp (disch:=omega) only [go_sem,Ac,hni,hg,hc,Cu]
   refine ⟨(i+1,n+x.args[k].many (m-n)),⟨k+1,by dsimp only; omega,hlt,by dsimp only; omega,by dsimp only; omega,hs⟩,by dsimp only; omega,?_⟩
   simp only [and_self]
 ·have hd:x.args.drop k=[]:=zI hge
  rw [hd,Tm.manyL] at hs
  simp (disch:=omega) only [go_sem,Ac,hni]
  exact hs
theorem SS (x:Tm) (m:Int) (hm:0≤m) (hm1:m≤1099511627776) (hn:x.nodes≤1099511627776):E 206 [x.sv,.int .i64 m] []=some (.int .i64 (x.many m),[]) :=
 U6 x m hm hm1 hn fun y hy m hm hm1=>SS y m hm hm1 (by have:=Tm.nodes_mem hy; have:=Tm.nodes_eq x; omega)
termination_by SizeOf.sizeOf x
decreasing_by exact Tm.lt_of_mem hy
def Ic:SC:=(.seq (.reg [⟨some 1,none,.boxv 31 2 (.t 0)⟩,⟨some 2,none,.mv (.c (.int .i64 0))⟩]) (.seq (.reg [⟨some 3,none,.mv (.c (.int .i64 0))⟩]) (.seq (.seq (.reg [⟨some 6,none,.faddr 1 (.t 1)⟩,⟨some 7,none,.load false 1 (.t 6)⟩,⟨some 8,none,.len false (.t 7)⟩,⟨some 9,none,.mv (.c (.int .i64 0))⟩]) (.block 0 (.loop [0,0,0,1,0,0,0,1,1,1,0,0,0,0,0,0,0,0,0,0] (.seq (.reg [⟨some 10,none,.bin .lss false (.t 9) (.t 8)⟩]) (.seq (.cond (.t 10) .skip (.exit 0)) (.seq (.block 1 (.seq (.reg [⟨some 11,none,.iaddr 2 (.t 7) (.t 9)⟩,⟨some 12,none,.load true 2 (.t 11)⟩,⟨(some 5),none,(.alloc 31 [(.str ⟨#[]⟩),.nil])⟩,⟨none,none,(.store 2 (.t 5) (.t 12))⟩]) (.reg [⟨some 13,none,.mv (.t 3)⟩,⟨some 14,none,.load true 2 (.t 5)⟩,⟨some 15,none,.call 220 [(.t 14)]⟩,⟨some 16,none,.minmax true (.t 13) (.t 15)⟩,⟨some 3,none,.mv (.t 16)⟩]))) (.reg [⟨some 17,none,.bin .add false (.t 9) (.c (.int .i64 1))⟩,⟨some 9,none,.mv (.t 17)⟩]))))))) (.seq (.reg [⟨some 18,none,.mv (.t 3)⟩,⟨some 19,none,.bin .add false (.t 18) (.c (.int .i64 1))⟩,⟨some 2,none,.mv (.t 19)⟩]) .ret))))
theorem N3:codeOf Tryz.prog 220=some ⟨20,Ic,[(.tmp 2)]⟩:=by kernel_rfl
theorem D5:modes 220=⟨[],.asis,none,false⟩:=by unfold modes; rfl
def GR:SC:=(.seq (.reg [⟨some 4,none,.mv (.c (.int .i64 0))⟩]) (.seq (.seq (.reg [⟨some 5,none,.mv (.t 0)⟩,⟨some 6,none,.mv (.t 1)⟩,⟨some 7,none,.bin .gtr false (.t 5) (.t 6)⟩]) (.cond (.t 7) (.seq (.reg [⟨some 8,none,.mv (.t 0)⟩,⟨some 4,none,.mv (.t 8)⟩]) .ret) .skip)) (.seq (.reg [⟨some 9,none,.mv (.t 1)⟩,⟨some 4,none,.mv (.t 9)⟩]) .ret)))
theorem LG:codeOf Tryz.prog 234=some ⟨10,GR,[(.tmp 4)]⟩:=by kernel_rfl
theorem GS:modes 234=⟨[],.asis,none,false⟩:=by unfold modes; rfl
def Ga:SC:=(.seq (.reg [⟨some 1,none,.boxv 31 2 (.t 0)⟩,⟨some 2,none,.mv (.c (.int .i64 0))⟩]) (.seq (.reg [⟨some 3,none,.mv (.c (.int .i64 0))⟩]) (.seq (.seq (.reg [⟨some 4,none,.mv (.c (.int .i64 0))⟩]) (.block 0 (.loop [0,1,0,1,1,0,0,0,0,0,0,0,0,0,0,0,0,0,0,0,0,0] (.seq (.seq (.reg [⟨some 5,none,.mv (.t 4)⟩,⟨some 6,none,.faddr 1 (.t 1)⟩,⟨some 7,none,.load false 1 (.t 6)⟩,⟨some 8,none,.len false (.t 7)⟩,⟨some 9,none,.bin .lss false (.t 5) (.t 8)⟩]) (.cond (.t 9) .skip (.exit 0))) (.seq (.block 1 (.reg [⟨some 12,none,.mv (.t 3)⟩,⟨some 13,none,.faddr 1 (.t 1)⟩,⟨some 14,none,.load false 1 (.t 13)⟩,⟨some 15,none,.mv (.t 4)⟩,⟨some 16,none,.iaddr 2 (.t 14) (.t 15)⟩,⟨some 17,none,.load true 2 (.t 16)⟩,⟨some 18,none,.call 207 [(.t 17)]⟩,⟨some 19,none,.call 234 [(.t 12),(.t 18)]⟩,⟨some 3,none,.mv (.t 19)⟩])) (.reg [⟨some 10,none,.mv (.t 4)⟩,⟨some 11,none,.bin .add false (.t 10) (.c (.int .i64 1))⟩,⟨some 4,none,.mv (.t 11)⟩])))))) (.seq (.reg [⟨some 20,none,.mv (.t 3)⟩,⟨some 21,none,.bin .add false (.t 20) (.c (.int .i64 1))⟩,⟨some 2,none,.mv (.t 21)⟩]) .ret))))
theorem KW:codeOf Tryz.prog 207=some ⟨22,Ga,[(.tmp 2)]⟩:=by kernel_rfl
theorem C9:modes 207=⟨[],.asis,none,false⟩:=by unfold modes; rfl
theorem ST (a b:Int):E 234 [.int .i64 a,.int .i64 b] []=some (.int .i64 (max a b),[]):=by
 refine Al LG GS (of_decide_eq_true rfl) ?_
 simp (disch:=omega) only [GR,go_sem,Ac]
 repeat' (refine Cb (fun hq=>?_) (fun hq=>?_) <;> (first | replace hq:=Ap.1 hq | replace hq:=B9.1 hq) <;> (try simp (disch:=omega) only [go_sem,Ac]))
 all_goals omega
theorem SU (x:Tm) (hn:x.nodes≤1099511627776) (ih:∀ y∈x.args,E 220 [y.sv] []=some (.int .i64 y.deep,[])):E 220 [x.sv] []=some (.int .i64 x.deep,[]):=by
 have hl:=Tm.length_le x.args
 have hx:=Tm.nodes_eq x
 have hd1:=Tm.N2 x
 have hd2:=Tm.E5 x
 refine Al N3 D5 (of_decide_eq_true rfl) ?_
 simp (disch:=omega) only [Ic,go_sem,Ac]
 refine go_loop (α:=Int × (Int)) (fun a=>⟨slots 20 0 [(3,.int .i64 (a.2)),(7,.arr (x.args.map Tm.d)),(8,.int .i64 x.args.length),(9,.int .i64 (a.1))],[]⟩) (fun a=>∃ k:Nat,a.1=k∧k≤(x.args).length∧0≤(a.2)∧max (a.2) (Tm.Ej (x.args.drop k):Nat)=(Tm.Ej x.args:Nat)) (fun a=>(x.args).length-(a.1).toNat) (0,0) ⟨0,rfl,zR _,by dsimp only; omega,by rw [zO]; dsimp only; omega⟩ (by simp (disch:=omega) only [go_sem,Ac]) ?_
 rintro ⟨i,n⟩ ⟨k,hi,hk,hR⟩
 dsimp only at hi hR
 have hni:i.toNat=k:=by omega
 have hni1:(i+1).toNat=k+1:=by omega
 rcases zL k (x.args).length with hlt | hge
 ·have hg:=get_at Tm.d hlt
  rw [Tm.d_eq] at hg
  have hc:=ih x.args[k] (zN hlt)
  rw [zF hlt,Tm.Ej] at hR
  simp (disch:=omega) only [go_sem,Ac,hni,hg,hc,D5,U4]
  refine ⟨(i+1,max n (x.args[k].deep:Int)),⟨k+1,by dsimp only; omega,hlt,by dsimp only; omega⟩,by dsimp only; omega,?_⟩
  simp only [and_self]
 ·rw [zI hge,Tm.Ej] at hR
  simp (disch:=omega) only [go_sem,Ac,hni]
  omega
theorem QD (x:Tm) (hn:x.nodes≤1099511627776):E 220 [x.sv] []=some (.int .i64 x.deep,[]) :=
 SU x hn fun y hy=>QD y (by have:=Tm.nodes_mem hy; have:=Tm.nodes_eq x; omega)
termination_by SizeOf.sizeOf x
decreasing_by exact Tm.lt_of_mem hy
theorem PT (x:Tm) (hn:x.nodes≤1099511627776) (ih:∀ y∈x.args,E 207 [y.sv] []=some (.int .i64 y.deep,[])):E 207 [x.sv] []=some (.int .i64 x.deep,[]):=by
 have hl:=Tm.length_le x.args
 have hx:=Tm.nodes_eq x
 have hd1:=Tm.N2 x
 have hd2:=Tm.E5 x
 refine Al KW C9 (of_decide_eq_true rfl) ?_
 simp (disch:=omega) only [Ga,go_sem,Ac]
 refine go_loop (α:=Int × (Int)) (fun a=>⟨slots 22 0 [(1,.ptr 0 0),(3,.int .i64 (a.2)),(4,.int .i64 (a.1))],[.box 31 [.str x.name,.arr (x.args.map Tm.d)]]⟩) (fun a=>∃ k:Nat,a.1=k∧k≤(x.args).length∧0≤(a.2)∧max (a.2) (Tm.Ej (x.args.drop k):Nat)=(Tm.Ej x.args:Nat)) (fun a=>(x.args).length-(a.1).toNat) (0,0) ⟨0,rfl,zR _,by dsimp only; omega,by rw [zO]; dsimp only; omega⟩ (by simp (disch:=omega) only [go_sem,Ac]) ?_
 rintro ⟨i,n⟩ ⟨k,hi,hk,hR⟩
 dsimp only at hi hR
 have hni:i.toNat=k:=by omega
 have hni1:(i+1).toNat=k+1:=by omega
 rcases zL k (x.args).length with hlt | hge
 ·have hg:=get_at Tm.d hlt
  rw [Tm.d_eq] at hg
  have hc:=ih x.args[k] (zN hlt)
  rw [zF hlt,Tm.Ej] at hR
  simp (disch:=omega) only [go_sem,Ac,hni,hg,hc,C9,ST,GS]
  refine ⟨(i+1,max n (x.args[k].deep:Int)),⟨k+1,by dsimp only; omega,hlt,by dsimp only; omega⟩,by dsimp only; omega,?_⟩
  simp only [and_self]
 ·rw [zI hge,Tm.Ej] at hR
  simp (disch:=omega) only [go_sem,Ac,hni]
  omega
theorem ME (x:Tm) (hn:x.nodes≤1099511627776):E 207 [x.sv] []=some (.int .i64 x.deep,[]) :=
 PT x hn fun y hy=>ME y (by have:=Tm.nodes_mem hy; have:=Tm.nodes_eq x; omega)
termination_by SizeOf.sizeOf x
decreasing_by exact Tm.lt_of_mem hy
def Bh:SC:=(.seq (.reg [⟨some 4,none,.mv (.c (.int .i64 0))⟩]) (.seq (.seq (.reg [⟨some 6,none,.mv (.t 0)⟩,⟨some 7,none,.len false (.t 6)⟩,⟨some 8,none,.mv (.c (.int .i64 0))⟩]) (.block 0 (.loop [1,1,0,0,0,0,0,1,1,0,0,0,0,0,0,0,0,0,0] (.seq (.reg [⟨some 9,none,.bin .lss false (.t 8) (.t 7)⟩]) (.seq (.cond (.t 9) .skip (.exit 0)) (.seq (.block 1 (.seq (.reg [⟨some 10,none,.mv (.t 8)⟩,⟨some 5,none,.mv (.t 10)⟩]) (.seq (.reg [⟨some 11,none,.mv (.t 1)⟩,⟨some 12,none,.mv (.t 0)⟩,⟨some 13,none,.mv (.t 5)⟩,⟨some 14,none,.iaddr 2 (.t 12) (.t 13)⟩,⟨some 15,none,.load true 2 (.t 14)⟩,⟨some 16,none,.callv (.t 11) [(.t 15)]⟩]) (.cond (.t 16) (.seq (.reg [⟨some 17,none,.mv (.t 5)⟩,⟨some 4,none,.mv (.t 17)⟩]) .ret) .skip)))) (.reg [⟨some 18,none,.bin .add false (.t 8) (.c (.int .i64 1))⟩,⟨some 8,none,.mv (.t 18)⟩]))))))) (.seq (.reg [⟨some 4,none,.mv (.c (.int .i64 (-(0+1))))⟩]) .ret)))
theorem Cc:codeOf Tryz.prog 238=some ⟨19,Bh,[(.tmp 4)]⟩:=by kernel_rfl
theorem Bi:modes 238=⟨[],.asis,none,false⟩:=by unfold modes; rfl
def AY:SC:=(.seq (.reg [⟨some 4,none,.mv (.c (.bool false))⟩]) (.seq (.reg [⟨some 5,none,.mv (.t 0)⟩,⟨some 6,none,.mv (.t 1)⟩,⟨some 7,none,.call 238 [(.t 5),(.t 6)]⟩,⟨some 8,none,.bin .geq false (.t 7) (.c (.int .i64 0))⟩,⟨some 4,none,.mv (.t 8)⟩]) .ret))
theorem BQ:codeOf Tryz.prog 221=some ⟨9,AY,[(.tmp 4)]⟩:=by kernel_rfl
theorem AZ:modes 221=⟨[],.asis,none,false⟩:=by unfold modes; rfl
theorem JL (fid:Nat) (p:Tm→Bool) (xs:List Tm) (hl:xs.length≤1099511627776) (hg:HO Tryz.prog fid=true) (hm:(modes fid).hand=[]) (hE:∀ x∈xs,E fid [x.sv] []=some (.bool (p x),[])):E 238 [.arr (xs.map Tm.d),.fn fid []] []=some (.int .i64 (E4 p xs 0),[]):=by
 refine Al Cc Bi (of_decide_eq_true rfl) ?_
 simp (disch:=omega) only [Bh,go_sem,Ac]
 refine go_loop (α:=Int) (fun a=>⟨slots 19 0 [(0,.arr (xs.map Tm.d)),(1,.fn fid []),(7,.int .i64 xs.length),(8,.int .i64 a)],[]⟩) (fun a=>∃ k:Nat,a=k∧k≤(xs).length∧E4 p (xs.drop k) a=E4 p xs 0) (fun a=>(xs).length-(a).toNat) 0 ⟨0,rfl,zR _,by rw [zO]⟩ (by simp (disch:=omega) only [go_sem,Ac]) ?_
 rintro i ⟨k,hi,hk,hR⟩
 have hni:i.toNat=k:=by omega
 have hni1:(i+1).toNat=k+1:=by omega
 rcases zL k (xs).length with hlt | hge
 ·have hg':=get_at Tm.d hlt
  rw [Tm.d_eq] at hg'
  have hc:=hE xs[k] (zN hlt)
  rw [zF hlt,E4] at hR
  cases hp:p xs[k] with
  | true =>
   rw [hp] at hc hR
   simp (disch:=omega) only [go_sem,Ac,hni,hg',hc,hg,hm]
   simpa using hR
  | false =>
   rw [hp] at hc hR
   simp (disch:=omega) only [go_sem,Ac,hni,hg',hc,hg,hm]
   exact ⟨i+1,⟨k+1,by omega,hlt,by simpa using hR⟩,by omega,by first | trivial | rfl⟩
 ·rw [zI hge,E4] at hR
  simp (disch:=omega) only [go_sem,Ac,hni]
  exact hR
theorem H6 (fid:Nat) (p:Tm→Bool) (xs:List Tm) (hl:xs.length≤1099511627776) (hg:HO Tryz.prog fid=true) (hm:(modes fid).hand=[]) (hE:∀ x∈xs,E fid [x.sv] []=some (.bool (p x),[])):E 221 [.arr (xs.map Tm.d),.fn fid []] []=some (.bool (xs.any p),[]):=by
 have h:=JL fid p xs hl hg hm hE
 refine Al BQ AZ (of_decide_eq_true rfl) ?_
 simp (disch:=omega) only [AY,go_sem,Ac,h,Bi]
 rw [KV]
def BR:SC:=(.seq (.reg [⟨some 1,none,.boxv 31 2 (.t 0)⟩,⟨some 2,none,.mv (.c (.bool false))⟩]) (.seq (.seq (.reg [⟨some 3,none,.faddr 0 (.t 1)⟩,⟨some 4,none,.load false 1 (.t 3)⟩,⟨some 5,none,.call 127 [(.t 4)]⟩]) (.cond (.t 5) (.seq (.reg [⟨some 6,none,.faddr 1 (.t 1)⟩,⟨some 7,none,.load false 1 (.t 6)⟩,⟨some 8,none,.len false (.t 7)⟩,⟨some 9,none,.bin .eql false (.t 8) (.c (.int .i64 0))⟩,⟨some 2,none,.mv (.t 9)⟩]) .ret) .skip)) (.seq (.reg [⟨some 10,none,.faddr 0 (.t 1)⟩,⟨some 11,none,.load false 1 (.t 10)⟩,⟨some 12,none,.call 128 [(.t 11)]⟩,⟨some 13,none,.mv (.t 12)⟩,⟨(some 14),(some (13,true)),(.faddr 1 (.t 1))⟩,⟨(some 15),(some (13,true)),(.load false 1 (.t 14))⟩,⟨(some 16),(some (13,true)),(.len false (.t 15))⟩,⟨(some 17),(some (13,true)),(.bin .leq false (.t 16) (.c (.int .i64 4)))⟩,⟨some 18,none,.pick (.t 13) (.t 17) (.c (.bool false))⟩,⟨some 19,none,.mv (.t 18)⟩,⟨(some 20),(some (19,true)),(.faddr 1 (.t 1))⟩,⟨(some 21),(some (19,true)),(.load false 1 (.t 20))⟩,⟨(some 22),(some (19,true)),(.call 221 [(.t 21),(.c (.fn 222 []))])⟩,⟨(some 23),(some (19,true)),(.un .not (.t 22))⟩,⟨some 24,none,.pick (.t 19) (.t 23) (.c (.bool false))⟩,⟨some 2,none,.mv (.t 24)⟩]) .ret)))
theorem C2:codeOf Tryz.prog 200=some ⟨25,BR,[(.tmp 2)]⟩:=by kernel_rfl
theorem A8:modes 200=⟨[],.asis,none,false⟩:=by unfold modes; rfl
def Ek:SC:=(.seq (.reg [⟨some 1,none,.boxv 31 2 (.t 0)⟩,⟨some 2,none,.mv (.c (.bool false))⟩]) (.seq (.reg [⟨some 3,none,.load true 2 (.t 1)⟩,⟨some 4,none,.call 200 [(.t 3)]⟩,⟨some 5,none,.un .not (.t 4)⟩,⟨some 2,none,.mv (.t 5)⟩]) .ret))
theorem Id:codeOf Tryz.prog 222=some ⟨6,Ek,[(.tmp 2)]⟩:=by kernel_rfl
theorem El:modes 222=⟨[],.asis,none,false⟩:=by unfold modes; rfl
theorem Ie:HO Tryz.prog 222=true:=by kernel_rfl
theorem Tm.any_not (xs:List Tm):(!xs.any fun y=>!y.names)=Tm.DP xs:=by
 rw [Tm.G8]
 induction xs with
 | nil=>rfl
 | cons x xs ih=>simp only [y6,xA,Bool.not_or,Bool.not_not,ih]
theorem OF (x:Tm) (hn:x.nodes≤1099511627776) (ih:∀ y∈x.args,E 200 [y.sv] []=some (.bool y.names,[])):E 200 [x.sv] []=some (.bool x.names,[]):=by
 have hl:=Tm.length_le x.args
 have hx:=Tm.nodes_eq x
 have h1:∀ y∈x.args,E 222 [y.sv] []=some (.bool (!y.names),[]):=fun y hy=>by
  have h:=ih y hy
  refine Al Id El (of_decide_eq_true rfl) ?_
  simp (disch:=omega) only [Ek,go_sem,Ac,h,A8]
 have h2:=H6 222 (fun y=>!y.names) x.args (by omega) Ie (by rw [El]) h1
 rw [Tm.FZ,← Tm.any_not]
 cases hv:Bk x.name with
 | true =>
  have h3:=BM x.name
  rw [hv] at h3
  refine Al C2 A8 (of_decide_eq_true rfl) ?_
  simp (disch:=omega) only [BR,go_sem,Ac,h3,Ae]
  rw [Hw]; cases x.args <;> simp <;> omega
 | false =>
  have h3:=BM x.name
  rw [hv] at h3
  have h4:=KT x.name
  cases hs:CW x.name with
  | false =>
   rw [hs] at h4
   refine Al C2 A8 (of_decide_eq_true rfl) ?_
   simp (disch:=omega) only [BR,go_sem,Ac,h2,h3,h4,Ae,AK]
  | true =>
   rw [hs] at h4
   rcases zL 4 x.args.length with h5 | h5
   ·refine Al C2 A8 (of_decide_eq_true rfl) ?_
    simp (disch:=omega) only [BR,go_sem,Ac,h2,h3,h4,Ae,AK]
    simp; omega
   ·refine Al C2 A8 (of_decide_eq_true rfl) ?_
    simp (disch:=omega) only [BR,go_sem,Ac,h2,h3,h4,Ae,AK,AZ]
    simp [h5]
theorem Fw (x:Tm) (hn:x.nodes≤1099511627776):E 200 [x.sv] []=some (.bool x.names,[]) :=
 OF x hn fun y hy=>Fw y (by have:=Tm.nodes_mem hy; have:=Tm.nodes_eq x; omega)
termination_by SizeOf.sizeOf x
decreasing_by exact Tm.lt_of_mem hy
def Cd:SC:=(.seq (.reg [⟨some 1,none,.boxv 31 2 (.t 0)⟩,⟨some 2,none,.mv (.c (.bool false))⟩]) (.seq (.seq (.reg [⟨some 4,none,.faddr 0 (.t 1)⟩,⟨some 5,none,.load false 1 (.t 4)⟩,⟨some 6,none,.call 118 [(.t 5)]⟩]) (.cond (.t 6) (.seq (.reg [⟨some 7,none,.faddr 1 (.t 1)⟩,⟨some 8,none,.load false 1 (.t 7)⟩,⟨some 9,none,.len false (.t 8)⟩,⟨some 10,none,.bin .eql false (.t 9) (.c (.int .i64 0))⟩,⟨some 2,none,.mv (.t 10)⟩]) .ret) .skip)) (.seq (.seq (.reg [⟨some 11,none,.faddr 0 (.t 1)⟩,⟨some 12,none,.load false 1 (.t 11)⟩,⟨some 13,none,.call 119 [(.t 12)]⟩,⟨some 14,none,.un .not (.t 13)⟩,⟨some 15,none,.mv (.t 14)⟩,⟨(some 16),(some (15,false)),(.faddr 1 (.t 1))⟩,⟨(some 17),(some (15,false)),(.load false 1 (.t 16))⟩,⟨(some 18),(some (15,false)),(.len false (.t 17))⟩,⟨(some 19),(some (15,false)),(.bin .gtr false (.t 18) (.c (.int .i64 4)))⟩,⟨some 20,none,.pick (.t 15) (.c (.bool true)) (.t 19)⟩]) (.cond (.t 20) (.seq (.reg [⟨some 2,none,.mv (.c (.bool false))⟩]) .ret) .skip)) (.seq (.seq (.reg [⟨some 3,none,.mv (.c (.int .i64 0))⟩]) (.block 0 (.loop [0,1,0,1,0,0,0,0,0,0,0,0,0,0,0,0,0,0,0,0,0,0,0,0,0,0,0,0,0,0,0,0,0,0,0] (.seq (.seq (.reg [⟨some 21,none,.mv (.t 3)⟩,⟨some 22,none,.faddr 1 (.t 1)⟩,⟨some 23,none,.load false 1 (.t 22)⟩,⟨some 24,none,.len false (.t 23)⟩,⟨some 25,none,.bin .lss false (.t 21) (.t 24)⟩]) (.cond (.t 25) .skip (.exit 0))) (.seq (.block 1 (.seq (.reg [⟨some 28,none,.faddr 1 (.t 1)⟩,⟨some 29,none,.load false 1 (.t 28)⟩,⟨some 30,none,.mv (.t 3)⟩,⟨some 31,none,.iaddr 2 (.t 29) (.t 30)⟩,⟨some 32,none,.load true 2 (.t 31)⟩,⟨some 33,none,.call 162 [(.t 32)]⟩,⟨some 34,none,.un .not (.t 33)⟩]) (.cond (.t 34) (.seq (.reg [⟨some 2,none,.mv (.c (.bool false))⟩]) .ret) .skip))) (.reg [⟨some 26,none,.mv (.t 3)⟩,⟨some 27,none,.bin .add false (.t 26) (.c (.int .i64 1))⟩,⟨some 3,none,.mv (.t 27)⟩])))))) (.seq (.reg [⟨some 2,none,.mv (.c (.bool true))⟩]) .ret)))))
theorem CA:codeOf Tryz.prog 162=some ⟨35,Cd,[(.tmp 2)]⟩:=by kernel_rfl
theorem A9:modes 162=⟨[],.asis,none,false⟩:=by unfold modes; rfl
theorem PU (x:Tm) (hn:x.nodes≤1099511627776) (ih:∀ y∈x.args,E 162 [y.sv] []=some (.bool y.names,[])):E 162 [x.sv] []=some (.bool x.names,[]):=by
 have hl:=Tm.length_le x.args
 have hx:=Tm.nodes_eq x
 have h3:=Eh x.name
 have h4:=KU x.name
 rw [Tm.FZ]
 cases hv:Bk x.name with
 | true =>
  rw [hv] at h3
  refine Al CA A9 (of_decide_eq_true rfl) ?_
  simp (disch:=omega) only [Cd,go_sem,Ac,h3,Ak]
  rw [Hw]; cases x.args <;> simp <;> omega
 | false =>
  rw [hv] at h3
  cases hs:CW x.name with
  | false =>
   rw [hs] at h4
   refine Al CA A9 (of_decide_eq_true rfl) ?_
   simp (disch:=omega) only [Cd,go_sem,Ac,h3,h4,Ak,AL]
  | true =>
   rw [hs] at h4
   rcases zL 4 x.args.length with h5 | h5
   ·refine Al CA A9 (of_decide_eq_true rfl) ?_
    simp (disch:=omega) only [Cd,go_sem,Ac,h3,h4,Ak,AL]
    simp; omega
   ·refine Al CA A9 (of_decide_eq_true rfl) ?_
    simp (disch:=omega) only [Cd,go_sem,Ac,h3,h4,Ak,AL]
    refine go_loop (α:=Int) (fun a=>⟨slots 35 0 [(1,.ptr 0 0),(3,.int .i64 a)],[.box 31 [.str x.name,.arr (x.args.map Tm.d)]]⟩) (fun a=>∃ k:Nat,a=k∧k≤(x.args).length∧Tm.DP (x.args.drop k)=Tm.DP x.args) (fun a=>(x.args).length-(a).toNat) 0 ⟨0,rfl,zR _,by rw [zO]⟩ (by simp (disch:=omega) only [go_sem,Ac]) ?_
    rintro i ⟨k,hi,hk,hR⟩
    have hni:i.toNat=k:=by omega
    have hni1:(i+1).toNat=k+1:=by omega
    rcases zL k (x.args).length with hlt | hge
    ·have hg:=get_at Tm.d hlt
     rw [Tm.d_eq] at hg
     have hc:=ih x.args[k] (zN hlt)
     rw [zF hlt,Tm.DP] at hR
     cases hp:x.args[k].names with
     | true =>
      rw [hp] at hc hR
      simp (disch:=omega) only [go_sem,Ac,hni,hg,hc,A9]
      exact ⟨i+1,⟨k+1,by omega,hlt,by simpa using hR⟩,by omega,by first | trivial | rfl⟩
     | false =>
      rw [hp] at hc hR
      simp (disch:=omega) only [go_sem,Ac,hni,hg,hc,A9]
      simp at hR ⊢; exact fun _=>hR
    ·rw [zI hge,Tm.DP] at hR
     simp (disch:=omega) only [go_sem,Ac,hni]
     simp [h5,← hR]
theorem G9 (x:Tm) (hn:x.nodes≤1099511627776):E 162 [x.sv] []=some (.bool x.names,[]) :=
 PU x hn fun y hy=>G9 y (by have:=Tm.nodes_mem hy; have:=Tm.nodes_eq x; omega)
termination_by SizeOf.sizeOf x
decreasing_by exact Tm.lt_of_mem hy
def DQ:SC:=(.seq (.reg [⟨some 1,none,.boxv 31 2 (.t 0)⟩,⟨some 2,none,.mv (.c (.bool false))⟩]) (.seq (.reg [⟨some 3,none,.load true 2 (.t 1)⟩,⟨some 4,none,.call 219 [(.t 3)]⟩,⟨some 5,none,.bin .leq false (.t 4) (.c (.int .i64 30))⟩,⟨some 6,none,.mv (.t 5)⟩,⟨(some 7),(some (6,true)),(.load true 2 (.t 1))⟩,⟨(some 8),(some (6,true)),(.call 220 [(.t 7)])⟩,⟨(some 9),(some (6,true)),(.bin .leq false (.t 8) (.c (.int .i64 8)))⟩,⟨some 10,none,.pick (.t 6) (.t 9) (.c (.bool false))⟩,⟨some 2,none,.mv (.t 10)⟩]) .ret))
theorem Gb:codeOf Tryz.prog 199=some ⟨11,DQ,[(.tmp 2)]⟩:=by kernel_rfl
theorem AP:modes 199=⟨[],.asis,none,false⟩:=by unfold modes; rfl
def E6:SC:=(.seq (.reg [⟨some 1,none,.boxv 31 2 (.t 0)⟩,⟨some 2,none,.mv (.c (.bool false))⟩]) (.seq (.reg [⟨some 3,none,.load true 2 (.t 1)⟩,⟨some 4,none,.call 206 [(.t 3),(.c (.int .i64 30))]⟩,⟨some 5,none,.bin .leq false (.t 4) (.c (.int .i64 30))⟩,⟨some 6,none,.mv (.t 5)⟩,⟨(some 7),(some (6,true)),(.load true 2 (.t 1))⟩,⟨(some 8),(some (6,true)),(.call 207 [(.t 7)])⟩,⟨(some 9),(some (6,true)),(.bin .leq false (.t 8) (.c (.int .i64 8)))⟩,⟨some 10,none,.pick (.t 6) (.t 9) (.c (.bool false))⟩,⟨some 2,none,.mv (.t 10)⟩]) .ret))
theorem GT:codeOf Tryz.prog 161=some ⟨11,E6,[(.tmp 2)]⟩:=by kernel_rfl
theorem AW:modes 161=⟨[],.asis,none,false⟩:=by unfold modes; rfl
def C4:SC:=(.seq (.reg [⟨some 1,none,.boxv 31 2 (.t 0)⟩,⟨some 2,none,.mv (.c (.bool false))⟩]) (.seq (.reg [⟨some 3,none,.load true 2 (.t 1)⟩,⟨some 4,none,.call 199 [(.t 3)]⟩,⟨some 5,none,.mv (.t 4)⟩,⟨(some 6),(some (5,true)),(.load true 2 (.t 1))⟩,⟨(some 7),(some (5,true)),(.call 200 [(.t 6)])⟩,⟨some 8,none,.pick (.t 5) (.t 7) (.c (.bool false))⟩,⟨some 2,none,.mv (.t 8)⟩]) .ret))
theorem DR:codeOf Tryz.prog 201=some ⟨9,C4,[(.tmp 2)]⟩:=by kernel_rfl
theorem AJ:modes 201=⟨[],.asis,none,false⟩:=by unfold modes; rfl
def E7:SC:=(.seq (.reg [⟨some 1,none,.boxv 31 2 (.t 0)⟩,⟨some 2,none,.mv (.c (.bool false))⟩]) (.seq (.reg [⟨some 3,none,.load true 2 (.t 1)⟩,⟨some 4,none,.call 161 [(.t 3)]⟩,⟨some 5,none,.mv (.t 4)⟩,⟨(some 6),(some (5,true)),(.load true 2 (.t 1))⟩,⟨(some 7),(some (5,true)),(.call 162 [(.t 6)])⟩,⟨some 8,none,.pick (.t 5) (.t 7) (.c (.bool false))⟩,⟨some 2,none,.mv (.t 8)⟩]) .ret))
theorem GU:codeOf Tryz.prog 163=some ⟨9,E7,[(.tmp 2)]⟩:=by kernel_rfl
theorem Bl:modes 163=⟨[],.asis,none,false⟩:=by unfold modes; rfl
def Em:SC:=(.seq (.reg [⟨some 1,none,.boxv 31 2 (.t 0)⟩,⟨some 2,none,.mv (.c (.bool false))⟩]) (.seq (.reg [⟨some 3,none,.faddr 0 (.t 1)⟩,⟨some 4,none,.load false 1 (.t 3)⟩,⟨(some 5),none,(.bin .eql false (.t 4) (.c (.str ⟨#[61]⟩)))⟩,⟨some 2,none,.mv (.t 5)⟩]) .ret))
theorem If:codeOf Tryz.prog 186=some ⟨6,Em,[(.tmp 2)]⟩:=by kernel_rfl
theorem AX:modes 186=⟨[],.asis,none,false⟩:=by unfold modes; rfl
def AQ:SC:=(.seq (.reg [⟨some 1,none,.boxv 31 2 (.t 0)⟩,⟨some 2,none,.mv (.c (.bool false))⟩]) (.seq (.seq (.reg [⟨some 3,none,.load true 2 (.t 1)⟩,⟨some 4,none,.call 186 [(.t 3)]⟩]) (.cond (.t 4) (.seq (.reg [⟨some 5,none,.faddr 1 (.t 1)⟩,⟨some 6,none,.load false 1 (.t 5)⟩,⟨some 7,none,.len false (.t 6)⟩,⟨some 8,none,.bin .eql false (.t 7) (.c (.int .i64 2))⟩,⟨some 9,none,.mv (.t 8)⟩,⟨(some 10),(some (9,true)),(.load true 2 (.t 1))⟩,⟨(some 11),(some (9,true)),(.call 199 [(.t 10)])⟩,⟨some 12,none,.pick (.t 9) (.t 11) (.c (.bool false))⟩,⟨some 13,none,.mv (.t 12)⟩,⟨(some 14),(some (13,true)),(.faddr 1 (.t 1))⟩,⟨(some 15),(some (13,true)),(.load false 1 (.t 14))⟩,⟨(some 16),(some (13,true)),(.iaddr 2 (.t 15) (.c (.int .i64 0)))⟩,⟨(some 17),(some (13,true)),(.load true 2 (.t 16))⟩,⟨(some 18),(some (13,true)),(.call 200 [(.t 17)])⟩,⟨some 19,none,.pick (.t 13) (.t 18) (.c (.bool false))⟩,⟨some 20,none,.mv (.t 19)⟩,⟨(some 21),(some (20,true)),(.faddr 1 (.t 1))⟩,⟨(some 22),(some (20,true)),(.load false 1 (.t 21))⟩,⟨(some 23),(some (20,true)),(.iaddr 2 (.t 22) (.c (.int .i64 1)))⟩,⟨(some 24),(some (20,true)),(.load true 2 (.t 23))⟩,⟨(some 25),(some (20,true)),(.call 200 [(.t 24)])⟩,⟨some 26,none,.pick (.t 20) (.t 25) (.c (.bool false))⟩,⟨some 2,none,.mv (.t 26)⟩]) .ret) .skip)) (.seq (.reg [⟨some 27,none,.faddr 0 (.t 1)⟩,⟨some 28,none,.load false 1 (.t 27)⟩,⟨some 29,none,.call 128 [(.t 28)]⟩,⟨some 30,none,.mv (.t 29)⟩,⟨(some 31),(some (30,true)),(.load true 2 (.t 1))⟩,⟨(some 32),(some (30,true)),(.call 201 [(.t 31)])⟩,⟨some 33,none,.pick (.t 30) (.t 32) (.c (.bool false))⟩,⟨some 2,none,.mv (.t 33)⟩]) .ret)))
theorem Bb:codeOf Tryz.prog 155=some ⟨34,AQ,[(.tmp 2)]⟩:=by kernel_rfl
theorem Ad:modes 155=⟨[],.asis,none,false⟩:=by unfold modes; rfl
def B5:SC:=(.seq (.reg [⟨some 1,none,.boxv 31 2 (.t 0)⟩,⟨some 2,none,.mv (.c (.bool false))⟩]) (.seq (.seq (.reg [⟨some 3,none,.faddr 0 (.t 1)⟩,⟨some 4,none,.load false 1 (.t 3)⟩,⟨(some 5),none,(.bin .eql false (.t 4) (.c (.str ⟨#[61]⟩)))⟩]) (.cond (.t 5) (.seq (.reg [⟨some 6,none,.faddr 1 (.t 1)⟩,⟨some 7,none,.load false 1 (.t 6)⟩,⟨some 8,none,.len false (.t 7)⟩,⟨some 9,none,.bin .eql false (.t 8) (.c (.int .i64 2))⟩,⟨some 10,none,.mv (.t 9)⟩,⟨(some 11),(some (10,true)),(.load true 2 (.t 1))⟩,⟨(some 12),(some (10,true)),(.call 161 [(.t 11)])⟩,⟨some 13,none,.pick (.t 10) (.t 12) (.c (.bool false))⟩,⟨some 14,none,.mv (.t 13)⟩,⟨(some 15),(some (14,true)),(.faddr 1 (.t 1))⟩,⟨(some 16),(some (14,true)),(.load false 1 (.t 15))⟩,⟨(some 17),(some (14,true)),(.iaddr 2 (.t 16) (.c (.int .i64 0)))⟩,⟨(some 18),(some (14,true)),(.load true 2 (.t 17))⟩,⟨(some 19),(some (14,true)),(.call 162 [(.t 18)])⟩,⟨some 20,none,.pick (.t 14) (.t 19) (.c (.bool false))⟩,⟨some 21,none,.mv (.t 20)⟩,⟨(some 22),(some (21,true)),(.faddr 1 (.t 1))⟩,⟨(some 23),(some (21,true)),(.load false 1 (.t 22))⟩,⟨(some 24),(some (21,true)),(.iaddr 2 (.t 23) (.c (.int .i64 1)))⟩,⟨(some 25),(some (21,true)),(.load true 2 (.t 24))⟩,⟨(some 26),(some (21,true)),(.call 162 [(.t 25)])⟩,⟨some 27,none,.pick (.t 21) (.t 26) (.c (.bool false))⟩,⟨some 2,none,.mv (.t 27)⟩]) .ret) .skip)) (.seq (.reg [⟨some 28,none,.faddr 0 (.t 1)⟩,⟨some 29,none,.load false 1 (.t 28)⟩,⟨some 30,none,.call 119 [(.t 29)]⟩,⟨some 31,none,.mv (.t 30)⟩,⟨(some 32),(some (31,true)),(.load true 2 (.t 1))⟩,⟨(some 33),(some (31,true)),(.call 163 [(.t 32)])⟩,⟨some 34,none,.pick (.t 31) (.t 33) (.c (.bool false))⟩,⟨some 2,none,.mv (.t 34)⟩]) .ret)))
theorem BU:codeOf Tryz.prog 106=some ⟨35,B5,[(.tmp 2)]⟩:=by kernel_rfl
theorem Ai:modes 106=⟨[],.asis,none,false⟩:=by unfold modes; rfl
theorem MG (x:Tm) (hn:x.nodes≤1099511627776):E 199 [x.sv] []=some (.bool x.small,[]):=by
 have h1:=SR x hn
 have h2:=QD x hn
 have h3:=Tm.cap_spec x
 have h4:=Tm.many_spec x 30
 unfold Tm.small
 rcases zL 30 x.nodes with h5 | h5
 ·rw [decide_eq_false (by omega),zC]
  refine Al Gb AP (of_decide_eq_true rfl) ?_
  simp (disch:=omega) only [DQ,go_sem,Ac,h1,h2,Dr,D5]
 ·rw [decide_eq_true h5,zH]
  refine Al Gb AP (of_decide_eq_true rfl) ?_
  simp (disch:=omega) only [DQ,go_sem,Ac,h1,h2,Dr,D5]
  rcases zL 8 x.deep with h6 | h6
  ·rw [decide_eq_false (by omega),An (by omega)]
  ·rw [decide_eq_true h6,A3 (by omega)]
theorem OG (x:Tm) (hn:x.nodes≤1099511627776):E 161 [x.sv] []=some (.bool x.small,[]):=by
 have h1:=SS x 30 (by omega) (by omega) hn
 have h2:=ME x hn
 have h3:=Tm.cap_spec x
 have h4:=Tm.many_spec x 30
 unfold Tm.small
 rcases zL 30 x.nodes with h5 | h5
 ·rw [decide_eq_false (by omega),zC]
  refine Al GT AW (of_decide_eq_true rfl) ?_
  simp (disch:=omega) only [E6,go_sem,Ac,h1,h2,Cu,C9]
 ·rw [decide_eq_true h5,zH]
  refine Al GT AW (of_decide_eq_true rfl) ?_
  simp (disch:=omega) only [E6,go_sem,Ac,h1,h2,Cu,C9]
  rcases zL 8 x.deep with h6 | h6
  ·rw [decide_eq_false (by omega),An (by omega)]
  ·rw [decide_eq_true h6,A3 (by omega)]
theorem LH (x:Tm) (hn:x.nodes≤1099511627776):E 201 [x.sv] []=some (.bool x.valid,[]):=by
 have h1:=MG x hn
 have h2:=Fw x hn
 unfold Tm.valid
 cases h3:x.small <;> rw [h3] at h1
 ·refine Al DR AJ (of_decide_eq_true rfl) ?_
  simp (disch:=omega) only [C4,go_sem,Ac,h1,h2,AP,A8]
 ·refine Al DR AJ (of_decide_eq_true rfl) ?_
  simp (disch:=omega) only [C4,go_sem,Ac,h1,h2,AP,A8]
theorem SW (x:Tm) (hn:x.nodes≤1099511627776):E 163 [x.sv] []=some (.bool x.valid,[]):=by
 have h1:=OG x hn
 have h2:=G9 x hn
 unfold Tm.valid
 cases h3:x.small <;> rw [h3] at h1
 ·refine Al GU Bl (of_decide_eq_true rfl) ?_
  simp (disch:=omega) only [E7,go_sem,Ac,h1,h2,AW,A9]
 ·refine Al GU Bl (of_decide_eq_true rfl) ?_
  simp (disch:=omega) only [E7,go_sem,Ac,h1,h2,AW,A9]
theorem Ig (x:Tm):E 186 [x.sv] []=some (.bool x.eqn,[]):=by
 unfold Tm.eqn
 refine Al If AX (of_decide_eq_true rfl) ?_
 simp (disch:=omega) only [Em,go_sem,Ac]
theorem LI (x:Tm) (hn:x.nodes≤1099511627776):E 155 [x.sv] []=some (.bool x.atom,[]):=by
 have hl:=Tm.length_le x.args
 have hx:=Tm.nodes_eq x
 have h0:=Ig x
 have h1:=MG x hn
 have h2:=KT x.name
 have h3:=LH x hn
 have hE:dec (x.name=⟨#[61]⟩)=x.eqn:=rfl
 unfold Tm.atom
 cases he:x.eqn <;> rw [he] at h0 hE
 ·rw [if_neg (by simp)]
  cases hs:CW x.name <;> rw [hs] at h2
  ·refine Al Bb Ad (of_decide_eq_true rfl) ?_
   simp (disch:=omega) only [AQ,go_sem,Ac,h0,h1,h2,h3,hE,AP,A8,AK,AJ,AX]
  ·refine Al Bb Ad (of_decide_eq_true rfl) ?_
   simp (disch:=omega) only [AQ,go_sem,Ac,h0,h1,h2,h3,hE,AP,A8,AK,AJ,AX]
 ·rw [if_pos rfl]
  by_cases hc:x.args.length=2
  ·have hlt0:0<x.args.length:=by omega
   have hlt1:1<x.args.length:=by omega
   have hg0:=get_at Tm.d hlt0
   have hg1:=get_at Tm.d hlt1
   rw [Tm.d_eq] at hg0 hg1
   have hb0:=Tm.nodes_le x.args 0 hlt0
   have hb1:=Tm.nodes_le x.args 1 hlt1
   have hn0:=Fw x.args[0] (by omega)
   have hn1:=Fw x.args[1] (by omega)
   rw [MC hc,show (x.args.length == 2)=true by simpa using hc]
   cases hs:x.small <;> rw [hs] at h1
   ·refine Al Bb Ad (of_decide_eq_true rfl) ?_
    simp (disch:=omega) only [AQ,go_sem,Ac,h0,h1,h2,h3,hE,hg0,hg1,hn0,hn1,hc,AP,A8,AK,AJ,AX]
    try simp
   ·cases hq:(x.args[0]'hlt0).names <;> rw [hq] at hn0
    ·refine Al Bb Ad (of_decide_eq_true rfl) ?_
     simp (disch:=omega) only [AQ,go_sem,Ac,h0,h1,h2,h3,hE,hg0,hg1,hn0,hn1,hc,AP,A8,AK,AJ,AX]
     try simp
    ·refine Al Bb Ad (of_decide_eq_true rfl) ?_
     simp (disch:=omega) only [AQ,go_sem,Ac,h0,h1,h2,h3,hE,hg0,hg1,hn0,hn1,hc,AP,A8,AK,AJ,AX]
     try simp
  ·refine Al Bb Ad (of_decide_eq_true rfl) ?_
   simp (disch:=omega) only [AQ,go_sem,Ac,h0,h1,h2,h3,hE,AP,A8,AK,AJ,AX]
   rw [show (x.args.length == 2)=false by simpa using hc]
   try simp
theorem SY (x:Tm) (hn:x.nodes≤1099511627776):E 106 [x.sv] []=some (.bool x.atom,[]):=by
 have hl:=Tm.length_le x.args
 have hx:=Tm.nodes_eq x
 have h0:=Ig x
 have h1:=OG x hn
 have h2:=KU x.name
 have h3:=SW x hn
 have hE:dec (x.name=⟨#[61]⟩)=x.eqn:=rfl
 unfold Tm.atom
 cases he:x.eqn <;> rw [he] at h0 hE
 ·rw [if_neg (by simp)]
  cases hs:CW x.name <;> rw [hs] at h2
  ·refine Al BU Ai (of_decide_eq_true rfl) ?_
   simp (disch:=omega) only [B5,go_sem,Ac,h0,h1,h2,h3,hE,AW,A9,AL,Bl]
  ·refine Al BU Ai (of_decide_eq_true rfl) ?_
   simp (disch:=omega) only [B5,go_sem,Ac,h0,h1,h2,h3,hE,AW,A9,AL,Bl]
 ·rw [if_pos rfl]
  by_cases hc:x.args.length=2
  ·have hlt0:0<x.args.length:=by omega
   have hlt1:1<x.args.length:=by omega
   have hg0:=get_at Tm.d hlt0
   have hg1:=get_at Tm.d hlt1
   rw [Tm.d_eq] at hg0 hg1
   have hb0:=Tm.nodes_le x.args 0 hlt0
   have hb1:=Tm.nodes_le x.args 1 hlt1
   have hn0:=G9 x.args[0] (by omega)
   have hn1:=G9 x.args[1] (by omega)
   rw [MC hc,show (x.args.length == 2)=true by simpa using hc]
   cases hs:x.small <;> rw [hs] at h1
   ·refine Al BU Ai (of_decide_eq_true rfl) ?_
    simp (disch:=omega) only [B5,go_sem,Ac,h0,h1,h2,h3,hE,hg0,hg1,hn0,hn1,hc,AW,A9,AL,Bl]
    try simp
   ·cases hq:(x.args[0]'hlt0).names <;> rw [hq] at hn0
    ·refine Al BU Ai (of_decide_eq_true rfl) ?_
     simp (disch:=omega) only [B5,go_sem,Ac,h0,h1,h2,h3,hE,hg0,hg1,hn0,hn1,hc,AW,A9,AL,Bl]
     try simp
    ·refine Al BU Ai (of_decide_eq_true rfl) ?_
     simp (disch:=omega) only [B5,go_sem,Ac,h0,h1,h2,h3,hE,hg0,hg1,hn0,hn1,hc,AW,A9,AL,Bl]
     try simp
  ·refine Al BU Ai (of_decide_eq_true rfl) ?_
   simp (disch:=omega) only [B5,go_sem,Ac,h0,h1,h2,h3,hE,AW,A9,AL,Bl]
   rw [show (x.args.length == 2)=false by simpa using hc]
   try simp
noncomputable def Tm.expr (x:Tm):Bool:=x.valid || x.atom
theorem Tm.PV {x:Tm} (h:x.expr=true):x.small=true:=by
 unfold Tm.expr Tm.atom Tm.valid at h
 cases hs:x.small with
 | true=>rfl
 | false =>
  rw [hs] at h
  split at h <;> simp at h
theorem Tm.PW {x:Tm} (h:x.expr=true):x.nodes≤30:=by
 have:=Tm.PV h
 unfold Tm.small at this
 rw [zB,decide_eq_true_eq] at this
 exact this.1
theorem Tm.KX:∀ xs:List Tm,(∀ x∈xs,x.nodes≤1+x.bulk)→Tm.nodeS xs≤xs.length+Tm.sumB xs
 | [],_=>by simp [Tm.nodeS]
 | x :: xs,h=>by
  have h1:=h x (by simp)
  have h2:=Tm.KX xs fun y hy=>h y (by simp [hy])
  rw [Tm.nodeS,Tm.sumB]; simp only [zM]; omega
theorem Tm.KY (x:Tm):x.nodes≤1+x.bulk:=by
 rw [Tm.nodes_eq,Tm.bulk_eq]
 have:=Tm.KX x.args fun y hy=>Tm.KY y
 omega
termination_by SizeOf.sizeOf x
decreasing_by exact Tm.lt_of_mem hy
theorem MH {s:ByteArray} (h:Bk s=true):s.size≤6:=by
 unfold Bk inB at h
 simp at h
 omega
theorem MJ {s:ByteArray} (h:CW s=true):s.size≤6:=by
 unfold CW inB at h
 simp at h
 omega
theorem Tm.H7:∀ xs:List Tm,(∀ x∈xs,x.bulk+1≤8*x.nodes)→xs.length+Tm.sumB xs≤8*Tm.nodeS xs
 | [],_=>by simp [Tm.nodeS,Tm.sumB]
 | x :: xs,h=>by
  have h1:=h x (by simp)
  have h2:=Tm.H7 xs fun y hy=>h y (by simp [hy])
  rw [Tm.nodeS,Tm.sumB]; simp only [zM]; omega
theorem Tm.KZ (x:Tm) (h:x.names=true):x.bulk+1≤8*x.nodes:=by
 have h1:=Tm.H7 x.args fun y hy=>Tm.KZ y (Tm.IU h hy)
 have h2:x.name.size≤6:=by
  rw [Tm.FZ] at h
  split at h
  ·rename_i hv; exact MH hv
  ·rw [zB,zB] at h; exact MJ h.1.1
 rw [Tm.nodes_eq,Tm.bulk_eq]
 omega
termination_by SizeOf.sizeOf x
decreasing_by exact Tm.lt_of_mem hy
mutual
def Fm.nodes:Fm→Nat
 | .mk _ _ _ args=>1+Fm.nodeS args
def Fm.nodeS:List Fm→Nat
 | []=>0
 | x :: xs=>Fm.nodes x+Fm.nodeS xs
end
theorem Fm.nodes_eq (x:Fm):x.nodes=1+Fm.nodeS x.parts:=by
 obtain ⟨op,atom,var,parts⟩:=x
 rw [Fm.nodes]; rfl
theorem Fm.nodes_pos (x:Fm):1≤x.nodes:=by rw [Fm.nodes_eq]; omega
theorem Fm.nodes_le:∀ (xs:List Fm) (k:Nat) (h:k<xs.length),xs[k].nodes≤Fm.nodeS xs
 | [],k,h=>absurd h (by simp)
 | x :: xs,0,_=>by rw [Fm.nodeS]; simp
 | x :: xs,k+1,h=>by
  have:=Fm.nodes_le xs k (by simpa using h)
  rw [Fm.nodeS]; simp only [yA]; omega
theorem Fm.nodes_mem {xs:List Fm} {y:Fm} (h:y∈xs):y.nodes≤Fm.nodeS xs:=by
 obtain ⟨k,hk,rfl⟩:=yY h
 exact Fm.nodes_le xs k hk
mutual
def Fm.cap:Fm→Int
 | .mk _ _ _ xs=>Fm.capL xs 1
def Fm.capL:List Fm→Int→Int
 | [],n=>n
 | x :: xs,n=>if 40 < n then n else Fm.capL xs (n+Fm.cap x)
end
theorem Fm.cap_eq (x:Fm):x.cap=Fm.capL x.parts 1:=by
 obtain ⟨op,atom,var,xs⟩:=x
 rw [Fm.cap]; rfl
theorem Fm.capL_spec:∀ (xs:List Fm) (n:Int),(∀ x∈xs,1≤x.cap∧x.cap≤x.nodes∧(x.cap≤40→x.cap=x.nodes))→1≤n→n≤Fm.capL xs n∧Fm.capL xs n≤n+Fm.nodeS xs∧(Fm.capL xs n≤40→Fm.capL xs n=n+Fm.nodeS xs)
 | [],n,_,h=>by simp [Fm.capL,Fm.nodeS]
 | x :: xs,n,hx,h=>by
  rw [Fm.capL,Fm.nodeS]
  have h1:=hx x (by simp)
  split
  ·omega
  ·have:=Fm.capL_spec xs (n+x.cap) (fun y hy=>hx y (by simp [hy])) (by omega)
   omega
theorem Fm.cap_spec (x:Fm):1≤x.cap∧x.cap≤x.nodes∧(x.cap≤40→x.cap=x.nodes):=by
 rw [Fm.cap_eq,Fm.nodes_eq]
 have:=Fm.capL_spec x.parts 1 (fun y hy=>Fm.cap_spec y) (by omega)
 omega
termination_by SizeOf.sizeOf x
decreasing_by exact Fm.lt_of_mem hy
mutual
def Fm.many:Fm→Int→Int
 | .mk _ _ _ xs,m=>Fm.manyL xs m 1
def Fm.manyL:List Fm→Int→Int→Int
 | [],_,n=>n
 | x :: xs,m,n=>if n≤m then Fm.manyL xs m (n+Fm.many x (m-n)) else n
end
theorem Fm.many_eq (x:Fm) (m:Int):x.many m=Fm.manyL x.parts m 1:=by
 obtain ⟨op,atom,var,xs⟩:=x
 rw [Fm.many]; rfl
theorem Fm.manyL_spec (m:Int):∀ (xs:List Fm) (n:Int),(∀ x∈xs,∀ m,0≤m→1≤x.many m∧x.many m≤x.nodes∧(x.many m≤m→x.many m=x.nodes))→1≤n→n≤Fm.manyL xs m n∧Fm.manyL xs m n≤n+Fm.nodeS xs∧(Fm.manyL xs m n≤m→Fm.manyL xs m n=n+Fm.nodeS xs)
 | [],n,_,h=>by simp [Fm.manyL,Fm.nodeS]
 | x :: xs,n,hx,h=>by
  rw [Fm.manyL,Fm.nodeS]
  split
  ·have h1:=hx x (by simp) (m-n) (by omega)
   have:=Fm.manyL_spec m xs (n+x.many (m-n)) (fun y hy=>hx y (by simp [hy])) (by omega)
   omega
  ·omega
theorem Fm.many_spec (x:Fm) (m:Int):1≤x.many m∧x.many m≤x.nodes∧(x.many m≤m→x.many m=x.nodes):=by
 rw [Fm.many_eq,Fm.nodes_eq]
 have:=Fm.manyL_spec m x.parts 1 (fun y hy m _=>Fm.many_spec y m) (by omega)
 omega
termination_by SizeOf.sizeOf x
decreasing_by exact Fm.lt_of_mem hy
noncomputable def Tm.isZ (x:Tm):Bool:=dec (x.name=⟨#[]⟩)&&x.args.length == 0
noncomputable def Fm.form (x:Fm):Bool :=
 if x.op=1∨x.op=2 then x.parts.length == 0&&x.atom.isZ&&dec (x.var=⟨#[]⟩)
 else if x.op=3 then x.parts.length == 0&&x.atom.atom&&dec (x.var=⟨#[]⟩)
 else if x.op=4 then x.parts.length == 1&&x.atom.isZ&&dec (x.var=⟨#[]⟩)
 else if x.op=5∨x.op=6∨x.op=7 then x.parts.length == 2&&x.atom.isZ&&dec (x.var=⟨#[]⟩)
 else if x.op=8∨x.op=9 then x.parts.length == 1&&x.atom.isZ&&Bk x.var
 else false
theorem OH (n:Int):n=1∨n=2∨n=3∨n=4∨n=5∨n=6∨n=7∨n=8∨n=9∨(n≠1∧n≠2∧n≠3∧n≠4∧n≠5∧n≠6∧n≠7∧n≠8∧n≠9):=by omega
mutual
noncomputable def Fm.forms:Fm→Bool
 | .mk op atom var parts=>Fm.form (.mk op atom var parts)&&Fm.GV parts
noncomputable def Fm.GV:List Fm→Bool
 | []=>true
 | x :: xs=>Fm.forms x&&Fm.GV xs
end
theorem Fm.CB (x:Fm):x.forms=(x.form&&Fm.GV x.parts):=by
 obtain ⟨op,atom,var,parts⟩:=x
 rw [Fm.forms]; rfl
theorem Fm.IW:∀ xs:List Fm,Fm.GV xs=xs.all Fm.forms
 | []=>rfl
 | x :: xs=>by rw [Fm.GV,Fm.IW xs]; rfl
theorem Fm.any_not (xs:List Fm):(!xs.any fun y=>!y.forms)=Fm.GV xs:=by
 rw [Fm.IW]
 induction xs with
 | nil=>rfl
 | cons x xs ih=>simp only [y6,xA,Bool.not_or,Bool.not_not,ih]
noncomputable def Fm.valid (x:Fm):Bool:=decide (x.nodes≤40)&&x.forms
theorem Fm.length_le:∀ xs:List Fm,xs.length≤Fm.nodeS xs
 | []=>by simp
 | x :: xs=>by
  have h:=Fm.length_le xs
  have h1:=Fm.nodes_pos x
  rw [Fm.nodeS,zM]; omega
mutual
def Fm.tame:Fm→Prop
 | .mk _ atom _ parts=>atom.nodes≤1099511627776∧Fm.En parts
def Fm.En:List Fm→Prop
 | []=>True
 | x :: xs=>Fm.tame x∧Fm.En xs
end
theorem Fm.Ih (x:Fm):x.tame=(x.atom.nodes≤1099511627776∧Fm.En x.parts):=by
 obtain ⟨op,atom,var,parts⟩:=x
 rw [Fm.tame]; rfl
theorem Fm.ML:∀ {xs:List Fm},Fm.En xs→∀ y∈xs,y.tame
 | [],_,y,hy=>by cases hy
 | x :: xs,h,y,hy=>by
  rw [Fm.En] at h
  rcases zP.1 hy with rfl | hy
  ·exact h.1
  ·exact Fm.ML h.2 y hy
theorem Fm.Kc {x:Fm} (h:x.tame):x.atom.nodes≤1099511627776:=by rw [Fm.Ih] at h; exact h.1
theorem Fm.GA {x y:Fm} (h:x.tame) (hy:y∈x.parts):y.tame:=by rw [Fm.Ih] at h; exact Fm.ML h.2 y hy
theorem J7 {x:Fm} (h:x.valid=true):x.nodes≤40∧x.forms=true:=by
 unfold Fm.valid at h
 rw [zB,decide_eq_true_eq] at h
 exact h
def GW:SC:=(.seq (.reg [⟨some 1,none,.boxv 34 5 (.t 0)⟩,⟨some 2,none,.mv (.c (.int .i64 0))⟩]) (.seq (.reg [⟨some 3,none,.mv (.c (.int .i64 1))⟩]) (.seq (.seq (.reg [⟨some 6,none,.faddr 4 (.t 1)⟩,⟨some 7,none,.load false 1 (.t 6)⟩,⟨some 8,none,.len false (.t 7)⟩,⟨some 9,none,.mv (.c (.int .i64 0))⟩]) (.block 0 (.loop [0,0,0,1,0,0,0,1,1,1,0,0,0,0,0,0,0,0,0,0,0,0] (.seq (.reg [⟨some 10,none,.bin .lss false (.t 9) (.t 8)⟩]) (.seq (.cond (.t 10) .skip (.exit 0)) (.seq (.block 1 (.seq (.reg [⟨some 11,none,.iaddr 5 (.t 7) (.t 9)⟩,⟨some 12,none,.load true 5 (.t 11)⟩,⟨(some 5),none,(.alloc 34 [(.int .i64 0),(.str ⟨#[]⟩),.nil,(.str ⟨#[]⟩),.nil])⟩,⟨none,none,(.store 5 (.t 5) (.t 12))⟩]) (.seq (.seq (.reg [⟨some 13,none,.mv (.t 3)⟩,⟨some 14,none,.bin .gtr false (.t 13) (.c (.int .i64 40))⟩]) (.cond (.t 14) (.seq (.reg [⟨some 15,none,.mv (.t 3)⟩,⟨some 2,none,.mv (.t 15)⟩]) .ret) .skip)) (.reg [⟨some 16,none,.mv (.t 3)⟩,⟨some 17,none,.load true 5 (.t 5)⟩,⟨some 18,none,.call 98 [(.t 17)]⟩,⟨some 19,none,.bin .add false (.t 16) (.t 18)⟩,⟨some 3,none,.mv (.t 19)⟩])))) (.reg [⟨some 20,none,.bin .add false (.t 9) (.c (.int .i64 1))⟩,⟨some 9,none,.mv (.t 20)⟩]))))))) (.seq (.reg [⟨some 21,none,.mv (.t 3)⟩,⟨some 2,none,.mv (.t 21)⟩]) .ret))))
theorem LJ:codeOf Tryz.prog 98=some ⟨22,GW,[(.tmp 2)]⟩:=by kernel_rfl
theorem Cv:modes 98=⟨[],.asis,none,false⟩:=by unfold modes; rfl
theorem SZ (x:Fm) (hn:x.nodes≤1099511627776) (ih:∀ y∈x.parts,E 98 [y.sv] []=some (.int .i64 y.cap,[])):E 98 [x.sv] []=some (.int .i64 x.cap,[]):=by
 have hl:=Fm.length_le x.parts
 have hx:=Fm.nodes_eq x
 rw [Fm.cap_eq]
 refine Al LJ Cv (of_decide_eq_true rfl) ?_
 simp (disch:=omega) only [GW,go_sem,Ac]
 refine go_loop (α:=Int × Int) (fun a=>⟨slots 22 0 [(3,.int .i64 a.2),(7,.arr (x.parts.map Fm.d)),(8,.int .i64 x.parts.length),(9,.int .i64 a.1)],[]⟩) (fun a=>∃ k:Nat,a.1=k∧k≤x.parts.length∧1≤a.2∧a.2+Fm.nodeS (x.parts.drop k)≤x.nodes∧Fm.capL (x.parts.drop k) a.2=Fm.capL x.parts 1) (fun a=>x.parts.length-a.1.toNat) (0,1) ⟨0,rfl,zR _,by dsimp only; omega,by rw [zO]; dsimp only; omega,rfl⟩ (by simp (disch:=omega) only [go_sem,Ac]) ?_
 rintro ⟨i,n⟩ ⟨k,hi,hk,hn0,hn1,hs⟩
 dsimp only at hi hn0 hn1 hs
 have hni:i.toNat=k:=by omega
 rcases zL k x.parts.length with hlt | hge
 ·have hg:=get_at Fm.d hlt
  rw [Fm.d_eq] at hg
  have hd:x.parts.drop k=x.parts[k] :: x.parts.drop (k+1):=zF hlt
  have hc:=ih x.parts[k] (zN hlt)
  have hp:=Fm.cap_spec x.parts[k]
  rw [hd,Fm.capL] at hs
  rw [hd,Fm.nodeS] at hn1
  rcases y8 40 n with h30 | h30
  ·rw [if_pos h30] at hs
   simp (disch:=omega) only [go_sem,Ac,hni,hg,hc,Cv]
   exact hs
  ·rw [if_neg (by omega)] at hs
   simp (disch:=omega) only [go_sem,Ac,hni,hg,hc,Cv]
   refine ⟨(i+1,n+x.parts[k].cap),⟨k+1,by dsimp only; omega,hlt,by dsimp only; omega,by dsimp only; omega,hs⟩,by dsimp only; omega,?_⟩
   simp only [and_self]
 ·have hd:x.parts.drop k=[]:=zI hge
  rw [hd,Fm.capL] at hs
  simp (disch:=omega) only [go_sem,Ac,hni]
  exact hs
theorem QE (x:Fm) (hn:x.nodes≤1099511627776):E 98 [x.sv] []=some (.int .i64 x.cap,[]) :=
 SZ x hn fun y hy=>QE y (by have:=Fm.nodes_mem hy; have:=Fm.nodes_eq x; omega)
termination_by SizeOf.sizeOf x
decreasing_by exact Fm.lt_of_mem hy
def GX:SC:=(.seq (.reg [⟨some 2,none,.boxv 34 5 (.t 0)⟩,⟨some 4,none,.mv (.c (.int .i64 0))⟩]) (.seq (.reg [⟨some 5,none,.mv (.c (.int .i64 1))⟩]) (.seq (.seq (.reg [⟨some 6,none,.mv (.c (.int .i64 0))⟩]) (.block 0 (.loop [0,1,1,0,0,1,1,0,0,0,0,0,0,0,0,0,0,0,0,0,0,0,0,0,0,0,0,0,0,0,0] (.seq (.seq (.reg [⟨some 7,none,.mv (.t 6)⟩,⟨some 8,none,.faddr 4 (.t 2)⟩,⟨some 9,none,.load false 1 (.t 8)⟩,⟨some 10,none,.len false (.t 9)⟩,⟨some 11,none,.bin .lss false (.t 7) (.t 10)⟩,⟨some 12,none,.mv (.t 11)⟩,⟨(some 13),(some (12,true)),(.mv (.t 5))⟩,⟨(some 14),(some (12,true)),(.mv (.t 1))⟩,⟨(some 15),(some (12,true)),(.bin .leq false (.t 13) (.t 14))⟩,⟨some 16,none,.pick (.t 12) (.t 15) (.c (.bool false))⟩]) (.cond (.t 16) .skip (.exit 0))) (.seq (.block 1 (.reg [⟨some 19,none,.mv (.t 5)⟩,⟨some 20,none,.faddr 4 (.t 2)⟩,⟨some 21,none,.load false 1 (.t 20)⟩,⟨some 22,none,.mv (.t 6)⟩,⟨some 23,none,.iaddr 5 (.t 21) (.t 22)⟩,⟨some 24,none,.load true 5 (.t 23)⟩,⟨some 25,none,.mv (.t 1)⟩,⟨some 26,none,.mv (.t 5)⟩,⟨some 27,none,.bin .sub false (.t 25) (.t 26)⟩,⟨some 28,none,.call 94 [(.t 24),(.t 27)]⟩,⟨some 29,none,.bin .add false (.t 19) (.t 28)⟩,⟨some 5,none,.mv (.t 29)⟩])) (.reg [⟨some 17,none,.mv (.t 6)⟩,⟨some 18,none,.bin .add false (.t 17) (.c (.int .i64 1))⟩,⟨some 6,none,.mv (.t 18)⟩])))))) (.seq (.reg [⟨some 30,none,.mv (.t 5)⟩,⟨some 4,none,.mv (.t 30)⟩]) .ret))))
theorem LK:codeOf Tryz.prog 94=some ⟨31,GX,[(.tmp 4)]⟩:=by kernel_rfl
theorem Cw:modes 94=⟨[],.asis,none,false⟩:=by unfold modes; rfl
theorem Ta (x:Fm) (m:Int) (hm:0≤m) (hm1:m≤1099511627776) (hn:x.nodes≤1099511627776) (ih:∀ y∈x.parts,∀ m:Int,0≤m→m≤1099511627776→E 94 [y.sv,.int .i64 m] []=some (.int .i64 (y.many m),[])):E 94 [x.sv,.int .i64 m] []=some (.int .i64 (x.many m),[]):=by
 have hl:=Fm.length_le x.parts
 have hx:=Fm.nodes_eq x
 rw [Fm.many_eq]
 refine Al LK Cw (of_decide_eq_true rfl) ?_
 simp (disch:=omega) only [GX,go_sem,Ac]
 refine go_loop (α:=Int × Int) (fun a=>⟨slots 31 0 [(1,.int .i64 m),(2,.ptr 0 0),(5,.int .i64 a.2),(6,.int .i64 a.1)],[.box 34 [.int .i64 x.op,.str x.atom.name,.arr (x.atom.args.map Tm.d),.str x.var,.arr (x.parts.map Fm.d)]]⟩) (fun a=>∃ k:Nat,a.1=k∧k≤x.parts.length∧1≤a.2∧a.2+Fm.nodeS (x.parts.drop k)≤x.nodes∧Fm.manyL (x.parts.drop k) m a.2=Fm.manyL x.parts m 1) (fun a=>x.parts.length-a.1.toNat) (0,1) ⟨0,rfl,zR _,by dsimp only; omega,by rw [zO]; dsimp only; omega,rfl⟩ (by simp (disch:=omega) only [go_sem,Ac]) ?_
 rintro ⟨i,n⟩ ⟨k,hi,hk,hn0,hn1,hs⟩
 dsimp only at hi hn0 hn1 hs
 have hni:i.toNat=k:=by omega
 rcases zL k x.parts.length with hlt | hge
 ·have hg:=get_at Fm.d hlt
  rw [Fm.d_eq] at hg
  have hd:x.parts.drop k=x.parts[k] :: x.parts.drop (k+1):=zF hlt
  rw [hd,Fm.manyL] at hs
  rw [hd,Fm.nodeS] at hn1
  rcases y8 m n with h30 | h30
  ·rw [if_neg (by omega)] at hs
   simp (disch:=omega) only [go_sem,Ac,hni,hg,Cw]
   exact hs
  ·rw [if_pos h30] at hs
   have hc:=ih x.parts[k] (zN hlt) (m-n) (by omega) (by omega)
   have hp:=Fm.many_spec x.parts[k] (m-n)
   simp (disch:=omega) only [go_sem,Ac,hni,hg,hc,Cw]
   refine ⟨(i+1,n+x.parts[k].many (m-n)),⟨k+1,by dsimp only; omega,hlt,by dsimp only; omega,by dsimp only; omega,hs⟩,by dsimp only; omega,?_⟩
   simp only [and_self]
 ·have hd:x.parts.drop k=[]:=zI hge
  rw [hd,Fm.manyL] at hs
  simp (disch:=omega) only [go_sem,Ac,hni]
  exact hs
theorem QF (x:Fm) (m:Int) (hm:0≤m) (hm1:m≤1099511627776) (hn:x.nodes≤1099511627776):E 94 [x.sv,.int .i64 m] []=some (.int .i64 (x.many m),[]) :=
 Ta x m hm hm1 hn fun y hy m hm hm1=>QF y m hm hm1 (by have:=Fm.nodes_mem hy; have:=Fm.nodes_eq x; omega)
termination_by SizeOf.sizeOf x
decreasing_by exact Fm.lt_of_mem hy
def Cn:SC:=(.seq (.reg [⟨some 2,none,.mv (.c (.bool false))⟩]) (.seq (.reg [⟨some 3,none,.mv (.t 0)⟩,⟨some 4,none,.bin .eql false (.t 3) (.c (.int .i64 8))⟩,⟨some 5,none,.mv (.t 4)⟩,⟨(some 6),(some (5,false)),(.mv (.t 0))⟩,⟨(some 7),(some (5,false)),(.bin .eql false (.t 6) (.c (.int .i64 9)))⟩,⟨some 8,none,.pick (.t 5) (.c (.bool true)) (.t 7)⟩,⟨some 2,none,.mv (.t 8)⟩]) .ret))
theorem Dz:codeOf Tryz.prog 153=some ⟨9,Cn,[(.tmp 2)]⟩:=by kernel_rfl
theorem Ab:modes 153=⟨[],.asis,none,false⟩:=by unfold modes; rfl
def F1:SC:=(.seq (.reg [⟨some 2,none,.mv (.c (.bool false))⟩]) (.seq (.reg [⟨some 3,none,.mv (.t 0)⟩,⟨some 4,none,.bin .eql false (.t 3) (.c (.int .i64 5))⟩,⟨some 5,none,.mv (.t 4)⟩,⟨(some 6),(some (5,false)),(.mv (.t 0))⟩,⟨(some 7),(some (5,false)),(.bin .eql false (.t 6) (.c (.int .i64 6)))⟩,⟨some 8,none,.pick (.t 5) (.c (.bool true)) (.t 7)⟩,⟨some 9,none,.mv (.t 8)⟩,⟨(some 10),(some (9,false)),(.mv (.t 0))⟩,⟨(some 11),(some (9,false)),(.bin .eql false (.t 10) (.c (.int .i64 7)))⟩,⟨some 12,none,.pick (.t 9) (.c (.bool true)) (.t 11)⟩,⟨some 2,none,.mv (.t 12)⟩]) .ret))
theorem JM:codeOf Tryz.prog 154=some ⟨13,F1,[(.tmp 2)]⟩:=by kernel_rfl
theorem Ah:modes 154=⟨[],.asis,none,false⟩:=by unfold modes; rfl
def CC:SC:=(.seq (.reg [⟨some 1,none,.boxv 31 2 (.t 0)⟩,⟨some 2,none,.mv (.c (.bool false))⟩]) (.seq (.reg [⟨some 3,none,.faddr 0 (.t 1)⟩,⟨some 4,none,.load false 1 (.t 3)⟩,⟨(some 5),none,(.bin .eql false (.t 4) (.c (.str ⟨#[]⟩)))⟩,⟨some 6,none,.mv (.t 5)⟩,⟨(some 7),(some (6,true)),(.faddr 1 (.t 1))⟩,⟨(some 8),(some (6,true)),(.load false 1 (.t 7))⟩,⟨(some 9),(some (6,true)),(.len false (.t 8))⟩,⟨(some 10),(some (6,true)),(.bin .eql false (.t 9) (.c (.int .i64 0)))⟩,⟨some 11,none,.pick (.t 6) (.t 10) (.c (.bool false))⟩,⟨some 2,none,.mv (.t 11)⟩]) .ret))
theorem Eo:codeOf Tryz.prog 156=some ⟨12,CC,[(.tmp 2)]⟩:=by kernel_rfl
theorem Af:modes 156=⟨[],.asis,none,false⟩:=by unfold modes; rfl
def E8:SC:=(.seq (.reg [⟨some 1,none,.boxv 31 2 (.t 0)⟩,⟨some 2,none,.mv (.c (.bool false))⟩]) (.seq (.reg [⟨some 3,none,.faddr 0 (.t 1)⟩,⟨some 4,none,.load false 1 (.t 3)⟩,⟨(some 5),none,(.bin .eql false (.t 4) (.c (.str ⟨#[]⟩)))⟩,⟨some 6,none,.mv (.t 5)⟩,⟨(some 7),(some (6,true)),(.faddr 1 (.t 1))⟩,⟨(some 8),(some (6,true)),(.load false 1 (.t 7))⟩,⟨(some 9),(some (6,true)),(.len false (.t 8))⟩,⟨(some 10),(some (6,true)),(.bin .eql false (.t 9) (.c (.int .i64 0)))⟩,⟨some 11,none,.pick (.t 6) (.t 10) (.c (.bool false))⟩,⟨some 2,none,.mv (.t 11)⟩]) .ret))
theorem GY:codeOf Tryz.prog 195=some ⟨12,E8,[(.tmp 2)]⟩:=by kernel_rfl
theorem Aj:modes 195=⟨[],.asis,none,false⟩:=by unfold modes; rfl
def AS:SC:=(.seq (.reg [⟨some 4,none,.mv (.c (.int .i64 0))⟩]) (.seq (.seq (.reg [⟨some 6,none,.mv (.t 0)⟩,⟨some 7,none,.len false (.t 6)⟩,⟨some 8,none,.mv (.c (.int .i64 0))⟩]) (.block 0 (.loop [1,1,0,0,0,0,0,1,1,0,0,0,0,0,0,0,0,0,0] (.seq (.reg [⟨some 9,none,.bin .lss false (.t 8) (.t 7)⟩]) (.seq (.cond (.t 9) .skip (.exit 0)) (.seq (.block 1 (.seq (.reg [⟨some 10,none,.mv (.t 8)⟩,⟨some 5,none,.mv (.t 10)⟩]) (.seq (.reg [⟨some 11,none,.mv (.t 1)⟩,⟨some 12,none,.mv (.t 0)⟩,⟨some 13,none,.mv (.t 5)⟩,⟨some 14,none,.iaddr 5 (.t 12) (.t 13)⟩,⟨some 15,none,.load true 5 (.t 14)⟩,⟨some 16,none,.callv (.t 11) [(.t 15)]⟩]) (.cond (.t 16) (.seq (.reg [⟨some 17,none,.mv (.t 5)⟩,⟨some 4,none,.mv (.t 17)⟩]) .ret) .skip)))) (.reg [⟨some 18,none,.bin .add false (.t 8) (.c (.int .i64 1))⟩,⟨some 8,none,.mv (.t 18)⟩]))))))) (.seq (.reg [⟨some 4,none,.mv (.c (.int .i64 (-(0+1))))⟩]) .ret)))
theorem BD:codeOf Tryz.prog 176=some ⟨19,AS,[(.tmp 4)]⟩:=by kernel_rfl
theorem AT:modes 176=⟨[],.asis,none,false⟩:=by unfold modes; rfl
def AO:SC:=(.seq (.reg [⟨some 4,none,.mv (.c (.bool false))⟩]) (.seq (.reg [⟨some 5,none,.mv (.t 0)⟩,⟨some 6,none,.mv (.t 1)⟩,⟨some 7,none,.call 176 [(.t 5),(.t 6)]⟩,⟨some 8,none,.bin .geq false (.t 7) (.c (.int .i64 0))⟩,⟨some 4,none,.mv (.t 8)⟩]) .ret))
theorem B3:codeOf Tryz.prog 124=some ⟨9,AO,[(.tmp 4)]⟩:=by kernel_rfl
theorem Aa:modes 124=⟨[],.asis,none,false⟩:=by unfold modes; rfl
theorem JN (fid:Nat) (p:Fm→Bool) (xs:List Fm) (hl:xs.length≤1099511627776) (hg:HO Tryz.prog fid=true) (hm:(modes fid).hand=[]) (hE:∀ x∈xs,E fid [x.sv] []=some (.bool (p x),[])):E 176 [.arr (xs.map Fm.d),.fn fid []] []=some (.int .i64 (E4 p xs 0),[]):=by
 refine Al BD AT (of_decide_eq_true rfl) ?_
 simp (disch:=omega) only [AS,go_sem,Ac]
 refine go_loop (α:=Int) (fun a=>⟨slots 19 0 [(0,.arr (xs.map Fm.d)),(1,.fn fid []),(7,.int .i64 xs.length),(8,.int .i64 a)],[]⟩) (fun a=>∃ k:Nat,a=k∧k≤(xs).length∧E4 p (xs.drop k) a=E4 p xs 0) (fun a=>(xs).length-(a).toNat) 0 ⟨0,rfl,zR _,by rw [zO]⟩ (by simp (disch:=omega) only [go_sem,Ac]) ?_
 rintro i ⟨k,hi,hk,hR⟩
 have hni:i.toNat=k:=by omega
 have hni1:(i+1).toNat=k+1:=by omega
 rcases zL k (xs).length with hlt | hge
 ·have hg':=get_at Fm.d hlt
  rw [Fm.d_eq] at hg'
  have hc:=hE xs[k] (zN hlt)
  rw [zF hlt,E4] at hR
  cases hp:p xs[k] with
  | true =>
   rw [hp] at hc hR
   simp (disch:=omega) only [go_sem,Ac,hni,hg',hc,hg,hm]
   simpa using hR
  | false =>
   rw [hp] at hc hR
   simp (disch:=omega) only [go_sem,Ac,hni,hg',hc,hg,hm]
   exact ⟨i+1,⟨k+1,by omega,hlt,by simpa using hR⟩,by omega,by first | trivial | rfl⟩
 ·rw [zI hge,E4] at hR
  simp (disch:=omega) only [go_sem,Ac,hni]
  exact hR
theorem H8 (fid:Nat) (p:Fm→Bool) (xs:List Fm) (hl:xs.length≤1099511627776) (hg:HO Tryz.prog fid=true) (hm:(modes fid).hand=[]) (hE:∀ x∈xs,E fid [x.sv] []=some (.bool (p x),[])):E 124 [.arr (xs.map Fm.d),.fn fid []] []=some (.bool (xs.any p),[]):=by
 have h:=JN fid p xs hl hg hm hE
 refine Al B3 Aa (of_decide_eq_true rfl) ?_
 simp (disch:=omega) only [AO,go_sem,Ac,h,AT]
 rw [KV]
def Au:SC:=(.seq (.reg [⟨some 1,none,.boxv 34 5 (.t 0)⟩,⟨some 2,none,.mv (.c (.bool false))⟩]) (.seq (.reg [⟨some 3,none,.mv (.c (.int .i64 0))⟩]) (.seq (.block 0 (.seq (.seq (.reg [⟨some 5,none,.faddr 0 (.t 1)⟩,⟨some 6,none,.load false 1 (.t 5)⟩,⟨some 7,none,.bin .eql false (.t 6) (.c (.int .i64 1))⟩,⟨some 4,none,.mv (.t 7)⟩]) (.cond (.t 4) .skip (.seq (.reg [⟨some 8,none,.faddr 0 (.t 1)⟩,⟨some 9,none,.load false 1 (.t 8)⟩,⟨some 10,none,.bin .eql false (.t 9) (.c (.int .i64 2))⟩,⟨some 4,none,.mv (.t 10)⟩]) (.cond (.t 4) .skip (.reg [⟨some 11,none,.faddr 0 (.t 1)⟩,⟨some 12,none,.load false 1 (.t 11)⟩,⟨some 13,none,.bin .eql false (.t 12) (.c (.int .i64 3))⟩,⟨some 4,none,.mv (.t 13)⟩]))))) (.cond (.t 4) .skip (.seq (.seq (.reg [⟨some 15,none,.faddr 0 (.t 1)⟩,⟨some 16,none,.load false 1 (.t 15)⟩,⟨some 17,none,.bin .eql false (.t 16) (.c (.int .i64 4))⟩,⟨some 14,none,.mv (.t 17)⟩]) (.cond (.t 14) .skip (.reg [⟨some 18,none,.faddr 0 (.t 1)⟩,⟨some 19,none,.load false 1 (.t 18)⟩,⟨some 20,none,.call 153 [(.t 19)]⟩,⟨some 14,none,.mv (.t 20)⟩]))) (.cond (.t 14) (.reg [⟨some 3,none,.mv (.c (.int .i64 1))⟩]) (.seq (.reg [⟨some 22,none,.faddr 0 (.t 1)⟩,⟨some 23,none,.load false 1 (.t 22)⟩,⟨some 24,none,.call 154 [(.t 23)]⟩,⟨some 21,none,.mv (.t 24)⟩]) (.cond (.t 21) (.reg [⟨some 3,none,.mv (.c (.int .i64 2))⟩]) (.seq (.reg [⟨some 2,none,.mv (.c (.bool false))⟩]) .ret)))))))) (.seq (.seq (.reg [⟨some 25,none,.faddr 4 (.t 1)⟩,⟨some 26,none,.load false 1 (.t 25)⟩,⟨some 27,none,.len false (.t 26)⟩,⟨some 28,none,.mv (.t 3)⟩,⟨some 29,none,.bin .neq false (.t 27) (.t 28)⟩,⟨some 30,none,.mv (.t 29)⟩,⟨(some 31),(some (30,false)),(.faddr 0 (.t 1))⟩,⟨(some 32),(some (30,false)),(.load false 1 (.t 31))⟩,⟨(some 33),(some (30,false)),(.call 153 [(.t 32)])⟩,⟨(some 34),(some (30,false)),(.mv (.t 33))⟩,⟨(some 35),(some (34,true)),(.faddr 3 (.t 1))⟩,⟨(some 36),(some (34,true)),(.load false 1 (.t 35))⟩,⟨(some 37),(some (34,true)),(.call 127 [(.t 36)])⟩,⟨(some 38),(some (34,true)),(.un .not (.t 37))⟩,⟨(some 39),(some (30,false)),(.pick (.t 34) (.t 38) (.c (.bool false)))⟩,⟨some 40,none,.pick (.t 30) (.c (.bool true)) (.t 39)⟩,⟨some 41,none,.mv (.t 40)⟩,⟨(some 42),(some (41,false)),(.faddr 0 (.t 1))⟩,⟨(some 43),(some (41,false)),(.load false 1 (.t 42))⟩,⟨(some 44),(some (41,false)),(.call 153 [(.t 43)])⟩,⟨(some 45),(some (41,false)),(.un .not (.t 44))⟩,⟨(some 46),(some (41,false)),(.mv (.t 45))⟩,⟨(some 47),(some (46,true)),(.faddr 3 (.t 1))⟩,⟨(some 48),(some (46,true)),(.load false 1 (.t 47))⟩,⟨(some 49),(some (46,true)),(.bin .neq false (.t 48) (.c (.str ⟨#[]⟩)))⟩,⟨(some 50),(some (41,false)),(.pick (.t 46) (.t 49) (.c (.bool false)))⟩,⟨some 51,none,.pick (.t 41) (.c (.bool true)) (.t 50)⟩]) (.cond (.t 51) (.seq (.reg [⟨some 2,none,.mv (.c (.bool false))⟩]) .ret) .skip)) (.seq (.seq (.reg [⟨some 52,none,.faddr 0 (.t 1)⟩,⟨some 53,none,.load false 1 (.t 52)⟩,⟨some 54,none,.bin .eql false (.t 53) (.c (.int .i64 3))⟩,⟨some 55,none,.mv (.t 54)⟩,⟨(some 56),(some (55,true)),(.faddr 1 (.t 1))⟩,⟨(some 57),(some (55,true)),(.load true 2 (.t 56))⟩,⟨(some 58),(some (55,true)),(.call 155 [(.t 57)])⟩,⟨(some 59),(some (55,true)),(.un .not (.t 58))⟩,⟨some 60,none,.pick (.t 55) (.t 59) (.c (.bool false))⟩,⟨some 61,none,.mv (.t 60)⟩,⟨(some 62),(some (61,false)),(.faddr 0 (.t 1))⟩,⟨(some 63),(some (61,false)),(.load false 1 (.t 62))⟩,⟨(some 64),(some (61,false)),(.bin .neq false (.t 63) (.c (.int .i64 3)))⟩,⟨(some 65),(some (61,false)),(.mv (.t 64))⟩,⟨(some 66),(some (65,true)),(.faddr 1 (.t 1))⟩,⟨(some 67),(some (65,true)),(.load true 2 (.t 66))⟩,⟨(some 68),(some (65,true)),(.call 156 [(.t 67)])⟩,⟨(some 69),(some (65,true)),(.un .not (.t 68))⟩,⟨(some 70),(some (61,false)),(.pick (.t 65) (.t 69) (.c (.bool false)))⟩,⟨some 71,none,.pick (.t 61) (.c (.bool true)) (.t 70)⟩]) (.cond (.t 71) (.seq (.reg [⟨some 2,none,.mv (.c (.bool false))⟩]) .ret) .skip)) (.seq (.reg [⟨some 72,none,.faddr 4 (.t 1)⟩,⟨some 73,none,.load false 1 (.t 72)⟩,⟨some 74,none,.call 124 [(.t 73),(.c (.fn 157 []))]⟩,⟨some 75,none,.un .not (.t 74)⟩,⟨some 2,none,.mv (.t 75)⟩]) .ret))))))
theorem Aw:codeOf Tryz.prog 99=some ⟨76,Au,[(.tmp 2)]⟩:=by kernel_rfl
theorem As:modes 99=⟨[],.asis,none,false⟩:=by unfold modes; rfl
def EX:SC:=(.seq (.reg [⟨some 1,none,.boxv 34 5 (.t 0)⟩,⟨some 2,none,.mv (.c (.bool false))⟩]) (.seq (.reg [⟨some 3,none,.load true 5 (.t 1)⟩,⟨some 4,none,.call 99 [(.t 3)]⟩,⟨some 5,none,.un .not (.t 4)⟩,⟨some 2,none,.mv (.t 5)⟩]) .ret))
theorem IX:codeOf Tryz.prog 157=some ⟨6,EX,[(.tmp 2)]⟩:=by kernel_rfl
theorem EY:modes 157=⟨[],.asis,none,false⟩:=by unfold modes; rfl
theorem IY:HO Tryz.prog 157=true:=by kernel_rfl
def A6:SC:=(.seq (.reg [⟨some 1,none,.boxv 34 5 (.t 0)⟩,⟨some 2,none,.mv (.c (.bool false))⟩]) (.seq (.reg [⟨some 4,none,.faddr 4 (.t 1)⟩,⟨some 5,none,.load false 1 (.t 4)⟩,⟨some 6,none,.len false (.t 5)⟩,⟨some 3,none,.mv (.t 6)⟩]) (.seq (.seq (.reg [⟨some 7,none,.faddr 0 (.t 1)⟩,⟨some 8,none,.load false 1 (.t 7)⟩]) (.block 0 (.seq (.seq (.reg [⟨some 10,none,.bin .eql false (.t 8) (.c (.int .i64 1))⟩,⟨some 9,none,.mv (.t 10)⟩]) (.cond (.t 9) .skip (.reg [⟨some 11,none,.bin .eql false (.t 8) (.c (.int .i64 2))⟩,⟨some 9,none,.mv (.t 11)⟩]))) (.cond (.t 9) (.seq (.reg [⟨some 12,none,.mv (.t 3)⟩,⟨some 13,none,.bin .eql false (.t 12) (.c (.int .i64 0))⟩,⟨some 14,none,.mv (.t 13)⟩,⟨(some 15),(some (14,true)),(.faddr 1 (.t 1))⟩,⟨(some 16),(some (14,true)),(.load true 2 (.t 15))⟩,⟨(some 17),(some (14,true)),(.call 195 [(.t 16)])⟩,⟨some 18,none,.pick (.t 14) (.t 17) (.c (.bool false))⟩,⟨some 19,none,.mv (.t 18)⟩,⟨(some 20),(some (19,true)),(.faddr 3 (.t 1))⟩,⟨(some 21),(some (19,true)),(.load false 1 (.t 20))⟩,⟨(some 22),(some (19,true)),(.bin .eql false (.t 21) (.c (.str ⟨#[]⟩)))⟩,⟨some 23,none,.pick (.t 19) (.t 22) (.c (.bool false))⟩,⟨some 2,none,.mv (.t 23)⟩]) .ret) (.seq (.reg [⟨some 25,none,.bin .eql false (.t 8) (.c (.int .i64 3))⟩,⟨some 24,none,.mv (.t 25)⟩]) (.cond (.t 24) (.seq (.reg [⟨some 26,none,.mv (.t 3)⟩,⟨some 27,none,.bin .eql false (.t 26) (.c (.int .i64 0))⟩,⟨some 28,none,.mv (.t 27)⟩,⟨(some 29),(some (28,true)),(.faddr 1 (.t 1))⟩,⟨(some 30),(some (28,true)),(.load true 2 (.t 29))⟩,⟨(some 31),(some (28,true)),(.call 106 [(.t 30)])⟩,⟨some 32,none,.pick (.t 28) (.t 31) (.c (.bool false))⟩,⟨some 33,none,.mv (.t 32)⟩,⟨(some 34),(some (33,true)),(.faddr 3 (.t 1))⟩,⟨(some 35),(some (33,true)),(.load false 1 (.t 34))⟩,⟨(some 36),(some (33,true)),(.bin .eql false (.t 35) (.c (.str ⟨#[]⟩)))⟩,⟨some 37,none,.pick (.t 33) (.t 36) (.c (.bool false))⟩,⟨some 2,none,.mv (.t 37)⟩]) .ret) (.seq (.reg [⟨some 39,none,.bin .eql false (.t 8) (.c (.int .i64 4))⟩,⟨some 38,none,.mv (.t 39)⟩]) (.cond (.t 38) (.seq (.reg [⟨some 40,none,.mv (.t 3)⟩,⟨some 41,none,.bin .eql false (.t 40) (.c (.int .i64 1))⟩,⟨some 42,none,.mv (.t 41)⟩,⟨(some 43),(some (42,true)),(.faddr 1 (.t 1))⟩,⟨(some 44),(some (42,true)),(.load true 2 (.t 43))⟩,⟨(some 45),(some (42,true)),(.call 195 [(.t 44)])⟩,⟨some 46,none,.pick (.t 42) (.t 45) (.c (.bool false))⟩,⟨some 47,none,.mv (.t 46)⟩,⟨(some 48),(some (47,true)),(.faddr 3 (.t 1))⟩,⟨(some 49),(some (47,true)),(.load false 1 (.t 48))⟩,⟨(some 50),(some (47,true)),(.bin .eql false (.t 49) (.c (.str ⟨#[]⟩)))⟩,⟨some 51,none,.pick (.t 47) (.t 50) (.c (.bool false))⟩,⟨some 2,none,.mv (.t 51)⟩]) .ret) (.seq (.seq (.reg [⟨some 53,none,.bin .eql false (.t 8) (.c (.int .i64 5))⟩,⟨some 52,none,.mv (.t 53)⟩]) (.cond (.t 52) .skip (.seq (.reg [⟨some 54,none,.bin .eql false (.t 8) (.c (.int .i64 6))⟩,⟨some 52,none,.mv (.t 54)⟩]) (.cond (.t 52) .skip (.reg [⟨some 55,none,.bin .eql false (.t 8) (.c (.int .i64 7))⟩,⟨some 52,none,.mv (.t 55)⟩]))))) (.cond (.t 52) (.seq (.reg [⟨some 56,none,.mv (.t 3)⟩,⟨some 57,none,.bin .eql false (.t 56) (.c (.int .i64 2))⟩,⟨some 58,none,.mv (.t 57)⟩,⟨(some 59),(some (58,true)),(.faddr 1 (.t 1))⟩,⟨(some 60),(some (58,true)),(.load true 2 (.t 59))⟩,⟨(some 61),(some (58,true)),(.call 195 [(.t 60)])⟩,⟨some 62,none,.pick (.t 58) (.t 61) (.c (.bool false))⟩,⟨some 63,none,.mv (.t 62)⟩,⟨(some 64),(some (63,true)),(.faddr 3 (.t 1))⟩,⟨(some 65),(some (63,true)),(.load false 1 (.t 64))⟩,⟨(some 66),(some (63,true)),(.bin .eql false (.t 65) (.c (.str ⟨#[]⟩)))⟩,⟨some 67,none,.pick (.t 63) (.t 66) (.c (.bool false))⟩,⟨some 2,none,.mv (.t 67)⟩]) .ret) (.seq (.seq (.reg [⟨some 69,none,.bin .eql false (.t 8) (.c (.int .i64 8))⟩,⟨some 68,none,.mv (.t 69)⟩]) (.cond (.t 68) .skip (.reg [⟨some 70,none,.bin .eql false (.t 8) (.c (.int .i64 9))⟩,⟨some 68,none,.mv (.t 70)⟩]))) (.cond (.t 68) (.seq (.reg [⟨some 71,none,.mv (.t 3)⟩,⟨some 72,none,.bin .eql false (.t 71) (.c (.int .i64 1))⟩,⟨some 73,none,.mv (.t 72)⟩,⟨(some 74),(some (73,true)),(.faddr 1 (.t 1))⟩,⟨(some 75),(some (73,true)),(.load true 2 (.t 74))⟩,⟨(some 76),(some (73,true)),(.call 195 [(.t 75)])⟩,⟨some 77,none,.pick (.t 73) (.t 76) (.c (.bool false))⟩,⟨some 78,none,.mv (.t 77)⟩,⟨(some 79),(some (78,true)),(.faddr 3 (.t 1))⟩,⟨(some 80),(some (78,true)),(.load false 1 (.t 79))⟩,⟨(some 81),(some (78,true)),(.call 118 [(.t 80)])⟩,⟨some 82,none,.pick (.t 78) (.t 81) (.c (.bool false))⟩,⟨some 2,none,.mv (.t 82)⟩]) .ret) .skip)))))))))))) (.seq (.reg [⟨some 2,none,.mv (.c (.bool false))⟩]) .ret))))
theorem A7:codeOf Tryz.prog 151=some ⟨83,A6,[(.tmp 2)]⟩:=by kernel_rfl
theorem A2:modes 151=⟨[],.asis,none,false⟩:=by unfold modes; rfl
def DS:SC:=(.seq (.reg [⟨some 1,none,.boxv 34 5 (.t 0)⟩,⟨some 2,none,.mv (.c (.bool false))⟩]) (.seq (.seq (.reg [⟨some 4,none,.load true 5 (.t 1)⟩,⟨some 5,none,.call 151 [(.t 4)]⟩,⟨some 6,none,.un .not (.t 5)⟩]) (.cond (.t 6) (.seq (.reg [⟨some 2,none,.mv (.c (.bool false))⟩]) .ret) .skip)) (.seq (.seq (.reg [⟨some 3,none,.mv (.c (.int .i64 0))⟩]) (.block 0 (.loop [0,1,0,1,0,0,0,0,0,0,0,0,0,0,0,0,0,0,0,0,0] (.seq (.seq (.reg [⟨some 7,none,.mv (.t 3)⟩,⟨some 8,none,.faddr 4 (.t 1)⟩,⟨some 9,none,.load false 1 (.t 8)⟩,⟨some 10,none,.len false (.t 9)⟩,⟨some 11,none,.bin .lss false (.t 7) (.t 10)⟩]) (.cond (.t 11) .skip (.exit 0))) (.seq (.block 1 (.seq (.reg [⟨some 14,none,.faddr 4 (.t 1)⟩,⟨some 15,none,.load false 1 (.t 14)⟩,⟨some 16,none,.mv (.t 3)⟩,⟨some 17,none,.iaddr 5 (.t 15) (.t 16)⟩,⟨some 18,none,.load true 5 (.t 17)⟩,⟨some 19,none,.call 95 [(.t 18)]⟩,⟨some 20,none,.un .not (.t 19)⟩]) (.cond (.t 20) (.seq (.reg [⟨some 2,none,.mv (.c (.bool false))⟩]) .ret) .skip))) (.reg [⟨some 12,none,.mv (.t 3)⟩,⟨some 13,none,.bin .add false (.t 12) (.c (.int .i64 1))⟩,⟨some 3,none,.mv (.t 13)⟩])))))) (.seq (.reg [⟨some 2,none,.mv (.c (.bool true))⟩]) .ret))))
theorem Gc:codeOf Tryz.prog 95=some ⟨21,DS,[(.tmp 2)]⟩:=by kernel_rfl
theorem BE:modes 95=⟨[],.asis,none,false⟩:=by unfold modes; rfl
def BX:SC:=(.seq (.reg [⟨some 1,none,.boxv 34 5 (.t 0)⟩,⟨some 2,none,.mv (.c (.bool false))⟩]) (.seq (.reg [⟨some 3,none,.load true 5 (.t 1)⟩,⟨some 4,none,.call 98 [(.t 3)]⟩,⟨some 5,none,.bin .leq false (.t 4) (.c (.int .i64 40))⟩,⟨some 6,none,.mv (.t 5)⟩,⟨(some 7),(some (6,true)),(.load true 5 (.t 1))⟩,⟨(some 8),(some (6,true)),(.call 99 [(.t 7)])⟩,⟨some 9,none,.pick (.t 6) (.t 8) (.c (.bool false))⟩,⟨some 2,none,.mv (.t 9)⟩]) .ret))
theorem CM:codeOf Tryz.prog 41=some ⟨10,BX,[(.tmp 2)]⟩:=by kernel_rfl
theorem AF:modes 41=⟨[],.asis,none,false⟩:=by unfold modes; rfl
def E9:SC:=(.seq (.reg [⟨some 1,none,.boxv 34 5 (.t 0)⟩,⟨some 2,none,.mv (.c (.bool false))⟩]) (.seq (.reg [⟨some 3,none,.load true 5 (.t 1)⟩,⟨some 4,none,.call 94 [(.t 3),(.c (.int .i64 40))]⟩,⟨some 5,none,.bin .leq false (.t 4) (.c (.int .i64 40))⟩,⟨some 6,none,.mv (.t 5)⟩,⟨(some 7),(some (6,true)),(.load true 5 (.t 1))⟩,⟨(some 8),(some (6,true)),(.call 95 [(.t 7)])⟩,⟨some 9,none,.pick (.t 6) (.t 8) (.c (.bool false))⟩,⟨some 2,none,.mv (.t 9)⟩]) .ret))
theorem GZ:codeOf Tryz.prog 37=some ⟨10,E9,[(.tmp 2)]⟩:=by kernel_rfl
theorem Cx:modes 37=⟨[],.asis,none,false⟩:=by unfold modes; rfl
theorem Br (n:Int):E 153 [.int .i64 n] []=some (.bool (dec (n=8) || dec (n=9)),[]):=by
 cases h1:dec (n=8) with
 | true =>
  refine Al Dz Ab (of_decide_eq_true rfl) ?_
  simp (disch:=omega) only [Cn,go_sem,Ac,h1]
 | false =>
  refine Al Dz Ab (of_decide_eq_true rfl) ?_
  simp (disch:=omega) only [Cn,go_sem,Ac,h1]
theorem CY (n:Int):E 154 [.int .i64 n] []=some (.bool (dec (n=5) || dec (n=6) || dec (n=7)),[]):=by
 cases h1:dec (n=5) <;> cases h2:dec (n=6)
 all_goals
  refine Al JM Ah (of_decide_eq_true rfl) ?_
  simp (disch:=omega) only [F1,go_sem,Ac,h1,h2]
theorem D6 (x:Tm):E 156 [x.sv] []=some (.bool x.isZ,[]):=by
 unfold Tm.isZ
 have hl:dec ((x.args.length:Int)=0)=(x.args.length == 0):=by
  rw [Hw]
  cases x.args <;> simp <;> omega
 cases h1:dec (x.name=⟨#[]⟩) with
 | true =>
  refine Al Eo Af (of_decide_eq_true rfl) ?_
  simp (disch:=omega) only [CC,go_sem,Ac,h1]
  try rw [hl]
 | false =>
  refine Al Eo Af (of_decide_eq_true rfl) ?_
  simp (disch:=omega) only [CC,go_sem,Ac,h1]
theorem Ii (x:Tm):E 195 [x.sv] []=some (.bool x.isZ,[]):=by
 unfold Tm.isZ
 have hl:dec ((x.args.length:Int)=0)=(x.args.length == 0):=by
  rw [Hw]
  cases x.args <;> simp <;> omega
 cases h1:dec (x.name=⟨#[]⟩) with
 | true =>
  refine Al GY Aj (of_decide_eq_true rfl) ?_
  simp (disch:=omega) only [E8,go_sem,Ac,h1]
  try rw [hl]
 | false =>
  refine Al GY Aj (of_decide_eq_true rfl) ?_
  simp (disch:=omega) only [E8,go_sem,Ac,h1]
theorem OI (x:Fm) (hn:x.atom.nodes≤1099511627776) (ho:x.op=1∨x.op=2):E 151 [x.sv] []=some (.bool x.form,[]):=by
 have hf:x.form=(x.parts.length == 0&&x.atom.isZ&&dec (x.var=⟨#[]⟩)):=by unfold Fm.form; rcases ho with ho | ho <;> simp [ho]
 rcases ho with ho | ho
 all_goals
  first
   |(have o1:dec (x.op=1)=true:=A3 ho)
   |(have o1:dec (x.op=1)=false:=An (by omega))
  first
   |(have o2:dec (x.op=2)=true:=A3 ho)
   |(have o2:dec (x.op=2)=false:=An (by omega))
  have o3:dec (x.op=3)=false:=An (by omega)
  have o4:dec (x.op=4)=false:=An (by omega)
  have o5:dec (x.op=5)=false:=An (by omega)
  have o6:dec (x.op=6)=false:=An (by omega)
  have o7:dec (x.op=7)=false:=An (by omega)
  have o8:dec (x.op=8)=false:=An (by omega)
  have o9:dec (x.op=9)=false:=An (by omega)
  have ha:=Ii x.atom
  have hv:=Eh x.var
  rw [hf]
  by_cases hl:x.parts.length=0
  ·have hl2:dec ((x.parts.length:Int)=0)=true:=A3 (by omega)
   rw [hl,beq_self_eq_true,zH]
   cases hq:x.atom.isZ with
   | true =>
    rw [hq] at ha
    rw [zH]
    refine Al A7 A2 (of_decide_eq_true rfl) ?_
    simp (disch:=omega) only [A6,go_sem,o1,o2,o3,o4,o5,o6,o7,o8,o9,hl2,ha,hv,Ai,Aj,Ak]
    repeat ((first | (refine Ax ?_ ?_; (focus (simp (disch:=omega) only [go_sem,o1,o2,o3,o4,o5,o6,o7,o8,o9,hl2,ha,hv,Ai,Aj,Ak]; done))) | (refine Ay ?_ ?_; (focus (simp (disch:=omega) only [go_sem,o1,o2,o3,o4,o5,o6,o7,o8,o9,hl2,ha,hv,Ai,Aj,Ak]; done)))); (try simp (disch:=omega) only [go_sem,o1,o2,o3,o4,o5,o6,o7,o8,o9,hl2,ha,hv,Ai,Aj,Ak]))
   | false =>
    rw [hq] at ha
    rw [zC]
    refine Al A7 A2 (of_decide_eq_true rfl) ?_
    simp (disch:=omega) only [A6,go_sem,o1,o2,o3,o4,o5,o6,o7,o8,o9,hl2,ha,hv,Ai,Aj,Ak]
    repeat ((first | (refine Ax ?_ ?_; (focus (simp (disch:=omega) only [go_sem,o1,o2,o3,o4,o5,o6,o7,o8,o9,hl2,ha,hv,Ai,Aj,Ak]; done))) | (refine Ay ?_ ?_; (focus (simp (disch:=omega) only [go_sem,o1,o2,o3,o4,o5,o6,o7,o8,o9,hl2,ha,hv,Ai,Aj,Ak]; done)))); (try simp (disch:=omega) only [go_sem,o1,o2,o3,o4,o5,o6,o7,o8,o9,hl2,ha,hv,Ai,Aj,Ak]))
  ·have hl2:dec ((x.parts.length:Int)=0)=false:=An (by omega)
   have hl3:(x.parts.length == 0)=false:=by simpa using hl
   rw [hl3,zC,zC]
   refine Al A7 A2 (of_decide_eq_true rfl) ?_
   simp (disch:=omega) only [A6,go_sem,o1,o2,o3,o4,o5,o6,o7,o8,o9,hl2,ha,hv,Ai,Aj,Ak]
   repeat ((first | (refine Ax ?_ ?_; (focus (simp (disch:=omega) only [go_sem,o1,o2,o3,o4,o5,o6,o7,o8,o9,hl2,ha,hv,Ai,Aj,Ak]; done))) | (refine Ay ?_ ?_; (focus (simp (disch:=omega) only [go_sem,o1,o2,o3,o4,o5,o6,o7,o8,o9,hl2,ha,hv,Ai,Aj,Ak]; done)))); (try simp (disch:=omega) only [go_sem,o1,o2,o3,o4,o5,o6,o7,o8,o9,hl2,ha,hv,Ai,Aj,Ak]))
theorem Tc (x:Fm) (hn:x.atom.nodes≤1099511627776) (ho:x.op=3):E 151 [x.sv] []=some (.bool x.form,[]):=by
 have hf:x.form=(x.parts.length == 0&&x.atom.atom&&dec (x.var=⟨#[]⟩)):=by unfold Fm.form; rcases ho with ho <;> simp [ho]
 rcases ho with ho
 all_goals
  have o1:dec (x.op=1)=false:=An (by omega)
  have o2:dec (x.op=2)=false:=An (by omega)
  have o3:dec (x.op=3)=true:=A3 ho
  have o4:dec (x.op=4)=false:=An (by omega)
  have o5:dec (x.op=5)=false:=An (by omega)
  have o6:dec (x.op=6)=false:=An (by omega)
  have o7:dec (x.op=7)=false:=An (by omega)
  have o8:dec (x.op=8)=false:=An (by omega)
  have o9:dec (x.op=9)=false:=An (by omega)
  have ha:=SY x.atom (by omega)
  have hv:=Eh x.var
  rw [hf]
  by_cases hl:x.parts.length=0
  ·have hl2:dec ((x.parts.length:Int)=0)=true:=A3 (by omega)
   rw [hl,beq_self_eq_true,zH]
   cases hq:x.atom.atom with
   | true =>
    rw [hq] at ha
    rw [zH]
    refine Al A7 A2 (of_decide_eq_true rfl) ?_
    simp (disch:=omega) only [A6,go_sem,o1,o2,o3,o4,o5,o6,o7,o8,o9,hl2,ha,hv,Ai,Aj,Ak]
    repeat ((first | (refine Ax ?_ ?_; (focus (simp (disch:=omega) only [go_sem,o1,o2,o3,o4,o5,o6,o7,o8,o9,hl2,ha,hv,Ai,Aj,Ak]; done))) | (refine Ay ?_ ?_; (focus (simp (disch:=omega) only [go_sem,o1,o2,o3,o4,o5,o6,o7,o8,o9,hl2,ha,hv,Ai,Aj,Ak]; done)))); (try simp (disch:=omega) only [go_sem,o1,o2,o3,o4,o5,o6,o7,o8,o9,hl2,ha,hv,Ai,Aj,Ak]))
   | false =>
    rw [hq] at ha
    rw [zC]
    refine Al A7 A2 (of_decide_eq_true rfl) ?_
    simp (disch:=omega) only [A6,go_sem,o1,o2,o3,o4,o5,o6,o7,o8,o9,hl2,ha,hv,Ai,Aj,Ak]
    repeat ((first | (refine Ax ?_ ?_; (focus (simp (disch:=omega) only [go_sem,o1,o2,o3,o4,o5,o6,o7,o8,o9,hl2,ha,hv,Ai,Aj,Ak]; done))) | (refine Ay ?_ ?_; (focus (simp (disch:=omega) only [go_sem,o1,o2,o3,o4,o5,o6,o7,o8,o9,hl2,ha,hv,Ai,Aj,Ak]; done)))); (try simp (disch:=omega) only [go_sem,o1,o2,o3,o4,o5,o6,o7,o8,o9,hl2,ha,hv,Ai,Aj,Ak]))
  ·have hl2:dec ((x.parts.length:Int)=0)=false:=An (by omega)
   have hl3:(x.parts.length == 0)=false:=by simpa using hl
   rw [hl3,zC,zC]
   refine Al A7 A2 (of_decide_eq_true rfl) ?_
   simp (disch:=omega) only [A6,go_sem,o1,o2,o3,o4,o5,o6,o7,o8,o9,hl2,ha,hv,Ai,Aj,Ak]
   repeat ((first | (refine Ax ?_ ?_; (focus (simp (disch:=omega) only [go_sem,o1,o2,o3,o4,o5,o6,o7,o8,o9,hl2,ha,hv,Ai,Aj,Ak]; done))) | (refine Ay ?_ ?_; (focus (simp (disch:=omega) only [go_sem,o1,o2,o3,o4,o5,o6,o7,o8,o9,hl2,ha,hv,Ai,Aj,Ak]; done)))); (try simp (disch:=omega) only [go_sem,o1,o2,o3,o4,o5,o6,o7,o8,o9,hl2,ha,hv,Ai,Aj,Ak]))
theorem Td (x:Fm) (hn:x.atom.nodes≤1099511627776) (ho:x.op=4):E 151 [x.sv] []=some (.bool x.form,[]):=by
 have hf:x.form=(x.parts.length == 1&&x.atom.isZ&&dec (x.var=⟨#[]⟩)):=by unfold Fm.form; rcases ho with ho <;> simp [ho]
 rcases ho with ho
 all_goals
  have o1:dec (x.op=1)=false:=An (by omega)
  have o2:dec (x.op=2)=false:=An (by omega)
  have o3:dec (x.op=3)=false:=An (by omega)
  have o4:dec (x.op=4)=true:=A3 ho
  have o5:dec (x.op=5)=false:=An (by omega)
  have o6:dec (x.op=6)=false:=An (by omega)
  have o7:dec (x.op=7)=false:=An (by omega)
  have o8:dec (x.op=8)=false:=An (by omega)
  have o9:dec (x.op=9)=false:=An (by omega)
  have ha:=Ii x.atom
  have hv:=Eh x.var
  rw [hf]
  by_cases hl:x.parts.length=1
  ·have hl2:dec ((x.parts.length:Int)=1)=true:=A3 (by omega)
   rw [hl,beq_self_eq_true,zH]
   cases hq:x.atom.isZ with
   | true =>
    rw [hq] at ha
    rw [zH]
    refine Al A7 A2 (of_decide_eq_true rfl) ?_
    simp (disch:=omega) only [A6,go_sem,o1,o2,o3,o4,o5,o6,o7,o8,o9,hl2,ha,hv,Ai,Aj,Ak]
    repeat ((first | (refine Ax ?_ ?_; (focus (simp (disch:=omega) only [go_sem,o1,o2,o3,o4,o5,o6,o7,o8,o9,hl2,ha,hv,Ai,Aj,Ak]; done))) | (refine Ay ?_ ?_; (focus (simp (disch:=omega) only [go_sem,o1,o2,o3,o4,o5,o6,o7,o8,o9,hl2,ha,hv,Ai,Aj,Ak]; done)))); (try simp (disch:=omega) only [go_sem,o1,o2,o3,o4,o5,o6,o7,o8,o9,hl2,ha,hv,Ai,Aj,Ak]))
   | false =>
    rw [hq] at ha
    rw [zC]
    refine Al A7 A2 (of_decide_eq_true rfl) ?_
    simp (disch:=omega) only [A6,go_sem,o1,o2,o3,o4,o5,o6,o7,o8,o9,hl2,ha,hv,Ai,Aj,Ak]
    repeat ((first | (refine Ax ?_ ?_; (focus (simp (disch:=omega) only [go_sem,o1,o2,o3,o4,o5,o6,o7,o8,o9,hl2,ha,hv,Ai,Aj,Ak]; done))) | (refine Ay ?_ ?_; (focus (simp (disch:=omega) only [go_sem,o1,o2,o3,o4,o5,o6,o7,o8,o9,hl2,ha,hv,Ai,Aj,Ak]; done)))); (try simp (disch:=omega) only [go_sem,o1,o2,o3,o4,o5,o6,o7,o8,o9,hl2,ha,hv,Ai,Aj,Ak]))
  ·have hl2:dec ((x.parts.length:Int)=1)=false:=An (by omega)
   have hl3:(x.parts.length == 1)=false:=by simpa using hl
   rw [hl3,zC,zC]
   refine Al A7 A2 (of_decide_eq_true rfl) ?_
   simp (disch:=omega) only [A6,go_sem,o1,o2,o3,o4,o5,o6,o7,o8,o9,hl2,ha,hv,Ai,Aj,Ak]
   repeat ((first | (refine Ax ?_ ?_; (focus (simp (disch:=omega) only [go_sem,o1,o2,o3,o4,o5,o6,o7,o8,o9,hl2,ha,hv,Ai,Aj,Ak]; done))) | (refine Ay ?_ ?_; (focus (simp (disch:=omega) only [go_sem,o1,o2,o3,o4,o5,o6,o7,o8,o9,hl2,ha,hv,Ai,Aj,Ak]; done)))); (try simp (disch:=omega) only [go_sem,o1,o2,o3,o4,o5,o6,o7,o8,o9,hl2,ha,hv,Ai,Aj,Ak]))
theorem La (x:Fm) (hn:x.atom.nodes≤1099511627776) (ho:x.op=5∨x.op=6∨x.op=7):E 151 [x.sv] []=some (.bool x.form,[]):=by
 have hf:x.form=(x.parts.length == 2&&x.atom.isZ&&dec (x.var=⟨#[]⟩)):=by unfold Fm.form; rcases ho with ho | ho | ho <;> simp [ho]
 rcases ho with ho | ho | ho
 all_goals
  have o1:dec (x.op=1)=false:=An (by omega)
  have o2:dec (x.op=2)=false:=An (by omega)
  have o3:dec (x.op=3)=false:=An (by omega)
  have o4:dec (x.op=4)=false:=An (by omega)
  first
   |(have o5:dec (x.op=5)=true:=A3 ho)
   |(have o5:dec (x.op=5)=false:=An (by omega))
  first
   |(have o6:dec (x.op=6)=true:=A3 ho)
   |(have o6:dec (x.op=6)=false:=An (by omega))
  first
   |(have o7:dec (x.op=7)=true:=A3 ho)
   |(have o7:dec (x.op=7)=false:=An (by omega))
  have o8:dec (x.op=8)=false:=An (by omega)
  have o9:dec (x.op=9)=false:=An (by omega)
  have ha:=Ii x.atom
  have hv:=Eh x.var
  rw [hf]
  by_cases hl:x.parts.length=2
  ·have hl2:dec ((x.parts.length:Int)=2)=true:=A3 (by omega)
   rw [hl,beq_self_eq_true,zH]
   cases hq:x.atom.isZ with
   | true =>
    rw [hq] at ha
    rw [zH]
    refine Al A7 A2 (of_decide_eq_true rfl) ?_
    simp (disch:=omega) only [A6,go_sem,o1,o2,o3,o4,o5,o6,o7,o8,o9,hl2,ha,hv,Ai,Aj,Ak]
    repeat ((first | (refine Ax ?_ ?_; (focus (simp (disch:=omega) only [go_sem,o1,o2,o3,o4,o5,o6,o7,o8,o9,hl2,ha,hv,Ai,Aj,Ak]; done))) | (refine Ay ?_ ?_; (focus (simp (disch:=omega) only [go_sem,o1,o2,o3,o4,o5,o6,o7,o8,o9,hl2,ha,hv,Ai,Aj,Ak]; done)))); (try simp (disch:=omega) only [go_sem,o1,o2,o3,o4,o5,o6,o7,o8,o9,hl2,ha,hv,Ai,Aj,Ak]))
   | false =>
    rw [hq] at ha
    rw [zC]
    refine Al A7 A2 (of_decide_eq_true rfl) ?_
    simp (disch:=omega) only [A6,go_sem,o1,o2,o3,o4,o5,o6,o7,o8,o9,hl2,ha,hv,Ai,Aj,Ak]
    repeat ((first | (refine Ax ?_ ?_; (focus (simp (disch:=omega) only [go_sem,o1,o2,o3,o4,o5,o6,o7,o8,o9,hl2,ha,hv,Ai,Aj,Ak]; done))) | (refine Ay ?_ ?_; (focus (simp (disch:=omega) only [go_sem,o1,o2,o3,o4,o5,o6,o7,o8,o9,hl2,ha,hv,Ai,Aj,Ak]; done)))); (try simp (disch:=omega) only [go_sem,o1,o2,o3,o4,o5,o6,o7,o8,o9,hl2,ha,hv,Ai,Aj,Ak]))
  ·have hl2:dec ((x.parts.length:Int)=2)=false:=An (by omega)
   have hl3:(x.parts.length == 2)=false:=by simpa using hl
   rw [hl3,zC,zC]
   refine Al A7 A2 (of_decide_eq_true rfl) ?_
   simp (disch:=omega) only [A6,go_sem,o1,o2,o3,o4,o5,o6,o7,o8,o9,hl2,ha,hv,Ai,Aj,Ak]
   repeat ((first | (refine Ax ?_ ?_; (focus (simp (disch:=omega) only [go_sem,o1,o2,o3,o4,o5,o6,o7,o8,o9,hl2,ha,hv,Ai,Aj,Ak]; done))) | (refine Ay ?_ ?_; (focus (simp (disch:=omega) only [go_sem,o1,o2,o3,o4,o5,o6,o7,o8,o9,hl2,ha,hv,Ai,Aj,Ak]; done)))); (try simp (disch:=omega) only [go_sem,o1,o2,o3,o4,o5,o6,o7,o8,o9,hl2,ha,hv,Ai,Aj,Ak]))
theorem OJ (x:Fm) (hn:x.atom.nodes≤1099511627776) (ho:x.op=8∨x.op=9):E 151 [x.sv] []=some (.bool x.form,[]):=by
 have hf:x.form=(x.parts.length == 1&&x.atom.isZ&&Bk x.var):=by unfold Fm.form; rcases ho with ho | ho <;> simp [ho]
 rcases ho with ho | ho
 all_goals
  have o1:dec (x.op=1)=false:=An (by omega)
  have o2:dec (x.op=2)=false:=An (by omega)
  have o3:dec (x.op=3)=false:=An (by omega)
  have o4:dec (x.op=4)=false:=An (by omega)
  have o5:dec (x.op=5)=false:=An (by omega)
  have o6:dec (x.op=6)=false:=An (by omega)
  have o7:dec (x.op=7)=false:=An (by omega)
  first
   |(have o8:dec (x.op=8)=true:=A3 ho)
   |(have o8:dec (x.op=8)=false:=An (by omega))
  first
   |(have o9:dec (x.op=9)=true:=A3 ho)
   |(have o9:dec (x.op=9)=false:=An (by omega))
  have ha:=Ii x.atom
  have hv:=Eh x.var
  rw [hf]
  by_cases hl:x.parts.length=1
  ·have hl2:dec ((x.parts.length:Int)=1)=true:=A3 (by omega)
   rw [hl,beq_self_eq_true,zH]
   cases hq:x.atom.isZ with
   | true =>
    rw [hq] at ha
    rw [zH]
    refine Al A7 A2 (of_decide_eq_true rfl) ?_
    simp (disch:=omega) only [A6,go_sem,o1,o2,o3,o4,o5,o6,o7,o8,o9,hl2,ha,hv,Ai,Aj,Ak]
    repeat ((first | (refine Ax ?_ ?_; (focus (simp (disch:=omega) only [go_sem,o1,o2,o3,o4,o5,o6,o7,o8,o9,hl2,ha,hv,Ai,Aj,Ak]; done))) | (refine Ay ?_ ?_; (focus (simp (disch:=omega) only [go_sem,o1,o2,o3,o4,o5,o6,o7,o8,o9,hl2,ha,hv,Ai,Aj,Ak]; done)))); (try simp (disch:=omega) only [go_sem,o1,o2,o3,o4,o5,o6,o7,o8,o9,hl2,ha,hv,Ai,Aj,Ak]))
   | false =>
    rw [hq] at ha
    rw [zC]
    refine Al A7 A2 (of_decide_eq_true rfl) ?_
    simp (disch:=omega) only [A6,go_sem,o1,o2,o3,o4,o5,o6,o7,o8,o9,hl2,ha,hv,Ai,Aj,Ak]
    repeat ((first | (refine Ax ?_ ?_; (focus (simp (disch:=omega) only [go_sem,o1,o2,o3,o4,o5,o6,o7,o8,o9,hl2,ha,hv,Ai,Aj,Ak]; done))) | (refine Ay ?_ ?_; (focus (simp (disch:=omega) only [go_sem,o1,o2,o3,o4,o5,o6,o7,o8,o9,hl2,ha,hv,Ai,Aj,Ak]; done)))); (try simp (disch:=omega) only [go_sem,o1,o2,o3,o4,o5,o6,o7,o8,o9,hl2,ha,hv,Ai,Aj,Ak]))
  ·have hl2:dec ((x.parts.length:Int)=1)=false:=An (by omega)
   have hl3:(x.parts.length == 1)=false:=by simpa using hl
   rw [hl3,zC,zC]
   refine Al A7 A2 (of_decide_eq_true rfl) ?_
   simp (disch:=omega) only [A6,go_sem,o1,o2,o3,o4,o5,o6,o7,o8,o9,hl2,ha,hv,Ai,Aj,Ak]
   repeat ((first | (refine Ax ?_ ?_; (focus (simp (disch:=omega) only [go_sem,o1,o2,o3,o4,o5,o6,o7,o8,o9,hl2,ha,hv,Ai,Aj,Ak]; done))) | (refine Ay ?_ ?_; (focus (simp (disch:=omega) only [go_sem,o1,o2,o3,o4,o5,o6,o7,o8,o9,hl2,ha,hv,Ai,Aj,Ak]; done)))); (try simp (disch:=omega) only [go_sem,o1,o2,o3,o4,o5,o6,o7,o8,o9,hl2,ha,hv,Ai,Aj,Ak]))
theorem Te (x:Fm) (hn:x.atom.nodes≤1099511627776):E 151 [x.sv] []=some (.bool x.form,[]):=by
 rcases OH x.op with h | h | h | h | h | h | h | h | h | h
 ·exact OI x hn (.inl h)
 ·exact OI x hn (.inr h)
 ·exact Tc x hn h
 ·exact Td x hn h
 ·exact La x hn (.inl h)
 ·exact La x hn (.inr (.inl h))
 ·exact La x hn (.inr (.inr h))
 ·exact OJ x hn (.inl h)
 ·exact OJ x hn (.inr h)
 ·obtain ⟨h1,h2,h3,h4,h5,h6,h7,h8,h9⟩:=h
  have hf:x.form=false:=by unfold Fm.form; simp [h1,h2,h3,h4,h5,h6,h7,h8,h9]
  have o1:=An h1
  have o2:=An h2
  have o3:=An h3
  have o4:=An h4
  have o5:=An h5
  have o6:=An h6
  have o7:=An h7
  have o8:=An h8
  have o9:=An h9
  rw [hf]
  refine Al A7 A2 (of_decide_eq_true rfl) ?_
  simp (disch:=omega) only [A6,go_sem,o1,o2,o3,o4,o5,o6,o7,o8,o9]
  repeat ((first | (refine Ax ?_ ?_; (focus (simp (disch:=omega) only [go_sem,o1,o2,o3,o4,o5,o6,o7,o8,o9]; done))) | (refine Ay ?_ ?_; (focus (simp (disch:=omega) only [go_sem,o1,o2,o3,o4,o5,o6,o7,o8,o9]; done)))); (try simp (disch:=omega) only [go_sem,o1,o2,o3,o4,o5,o6,o7,o8,o9]))
theorem PX (x:Fm) (ht:x.tame) (hn:x.nodes≤1099511627776) (ih:∀ y∈x.parts,E 95 [y.sv] []=some (.bool y.forms,[])):E 95 [x.sv] []=some (.bool x.forms,[]):=by
 have hl:=Fm.length_le x.parts
 have hx:=Fm.nodes_eq x
 have hf:=Te x (Fm.Kc ht)
 rw [Fm.CB]
 cases hq:x.form with
 | false =>
  rw [hq] at hf
  rw [zC]
  refine Al Gc BE (of_decide_eq_true rfl) ?_
  simp (disch:=omega) only [DS,go_sem,Ac,hf,A2]
 | true =>
  rw [hq] at hf
  rw [zH]
  refine Al Gc BE (of_decide_eq_true rfl) ?_
  simp (disch:=omega) only [DS,go_sem,Ac,hf,A2]
  refine go_loop (α:=Int) (fun a=>⟨slots 21 0 [(1,.ptr 0 0),(3,.int .i64 a)],[.box 34 [.int .i64 x.op,.str x.atom.name,.arr (x.atom.args.map Tm.d),.str x.var,.arr (x.parts.map Fm.d)]]⟩) (fun a=>∃ k:Nat,a=k∧k≤(x.parts).length∧Fm.GV (x.parts.drop k)=Fm.GV x.parts) (fun a=>(x.parts).length-(a).toNat) 0 ⟨0,rfl,zR _,by rw [zO]⟩ (by simp (disch:=omega) only [go_sem,Ac]) ?_
  rintro i ⟨k,hi,hk,hR⟩
  have hni:i.toNat=k:=by omega
  have hni1:(i+1).toNat=k+1:=by omega
  rcases zL k (x.parts).length with hlt | hge
  ·have hg:=get_at Fm.d hlt
   rw [Fm.d_eq] at hg
   have hc:=ih x.parts[k] (zN hlt)
   rw [zF hlt,Fm.GV] at hR
   cases hp:x.parts[k].forms with
   | true =>
    rw [hp] at hc hR
    rw [zH] at hR
    simp (disch:=omega) only [go_sem,Ac,hni,hg,hc,BE]
    exact ⟨i+1,⟨k+1,by omega,hlt,hR⟩,by omega,by first | trivial | rfl⟩
   | false =>
    rw [hp] at hc hR
    rw [zC] at hR
    simp (disch:=omega) only [go_sem,Ac,hni,hg,hc,BE]
    exact hR
  ·rw [zI hge,Fm.GV] at hR
   simp (disch:=omega) only [go_sem,Ac,hni]
   exact hR
theorem MM (x:Fm) (ht:x.tame) (hn:x.nodes≤1099511627776):E 95 [x.sv] []=some (.bool x.forms,[]) :=
 PX x ht hn fun y hy=>MM y (Fm.GA ht hy) (by have:=Fm.nodes_mem hy; have:=Fm.nodes_eq x; omega)
termination_by SizeOf.sizeOf x
decreasing_by exact Fm.lt_of_mem hy
theorem MN (x:Fm) (hn:x.atom.nodes≤1099511627776) (hl0:x.parts.length≤1099511627776) (ho:x.op=1∨x.op=2) (h2:E 124 [.arr (x.parts.map Fm.d),.fn 157 []] []=some (.bool (x.parts.any fun y=>!y.forms),[])):E 99 [x.sv] []=some (.bool x.forms,[]):=by
 have hf:x.form=(x.parts.length == 0&&x.atom.isZ&&dec (x.var=⟨#[]⟩)):=by unfold Fm.form; rcases ho with ho | ho <;> simp [ho]
 rcases ho with ho | ho
 all_goals
  first
   |(have o1:dec (x.op=1)=true:=A3 ho)
   |(have o1:dec (x.op=1)=false:=An (by omega))
  first
   |(have o2:dec (x.op=2)=true:=A3 ho)
   |(have o2:dec (x.op=2)=false:=An (by omega))
  have o3:dec (x.op=3)=false:=An (by omega)
  have o4:dec (x.op=4)=false:=An (by omega)
  have o5:dec (x.op=5)=false:=An (by omega)
  have o6:dec (x.op=6)=false:=An (by omega)
  have o7:dec (x.op=7)=false:=An (by omega)
  have o8:dec (x.op=8)=false:=An (by omega)
  have o9:dec (x.op=9)=false:=An (by omega)
  have ha:=D6 x.atom
  have hv:=BM x.var
  have hb:=CY x.op
  have hu:=Br x.op
  rw [o5,o6,o7] at hb
  rw [o8,o9] at hu
  rw [Fm.CB,hf,← Fm.any_not]
  by_cases hl:x.parts.length=0
  ·have hl2:dec ((x.parts.length:Int)=0)=true:=A3 (by omega)
   rw [hl,beq_self_eq_true,zH]
   cases hw:dec (x.var=⟨#[]⟩) with
   | false =>
    try rw [hw] at hv
    rw [yJ,zC]
    refine Al Aw As (of_decide_eq_true rfl) ?_
    simp (disch:=omega) only [Au,go_sem,o1,o2,o3,o4,o5,o6,o7,o8,o9,hl2,ha,hv,hb,hu,hw,h2,Ad,Af,Ae,Ab,Ah,Aa]
    repeat ((first | (refine Ax ?_ ?_; (focus (simp (disch:=omega) only [go_sem,o1,o2,o3,o4,o5,o6,o7,o8,o9,hl2,ha,hv,hb,hu,hw,h2,Ad,Af,Ae,Ab,Ah,Aa]; done))) | (refine Ay ?_ ?_; (focus (simp (disch:=omega) only [go_sem,o1,o2,o3,o4,o5,o6,o7,o8,o9,hl2,ha,hv,hb,hu,hw,h2,Ad,Af,Ae,Ab,Ah,Aa]; done)))); (try simp (disch:=omega) only [go_sem,o1,o2,o3,o4,o5,o6,o7,o8,o9,hl2,ha,hv,hb,hu,hw,h2,Ad,Af,Ae,Ab,Ah,Aa]))
   | true =>
    try rw [hw] at hv
    rw [zG]
    cases hq:x.atom.isZ with
    | true =>
     rw [hq] at ha
     rw [zH]
     refine Al Aw As (of_decide_eq_true rfl) ?_
     simp (disch:=omega) only [Au,go_sem,o1,o2,o3,o4,o5,o6,o7,o8,o9,hl2,ha,hv,hb,hu,hw,h2,Ad,Af,Ae,Ab,Ah,Aa]
     repeat ((first | (refine Ax ?_ ?_; (focus (simp (disch:=omega) only [go_sem,o1,o2,o3,o4,o5,o6,o7,o8,o9,hl2,ha,hv,hb,hu,hw,h2,Ad,Af,Ae,Ab,Ah,Aa]; done))) | (refine Ay ?_ ?_; (focus (simp (disch:=omega) only [go_sem,o1,o2,o3,o4,o5,o6,o7,o8,o9,hl2,ha,hv,hb,hu,hw,h2,Ad,Af,Ae,Ab,Ah,Aa]; done)))); (try simp (disch:=omega) only [go_sem,o1,o2,o3,o4,o5,o6,o7,o8,o9,hl2,ha,hv,hb,hu,hw,h2,Ad,Af,Ae,Ab,Ah,Aa]))
    | false =>
     rw [hq] at ha
     rw [zC]
     refine Al Aw As (of_decide_eq_true rfl) ?_
     simp (disch:=omega) only [Au,go_sem,o1,o2,o3,o4,o5,o6,o7,o8,o9,hl2,ha,hv,hb,hu,hw,h2,Ad,Af,Ae,Ab,Ah,Aa]
     repeat ((first | (refine Ax ?_ ?_; (focus (simp (disch:=omega) only [go_sem,o1,o2,o3,o4,o5,o6,o7,o8,o9,hl2,ha,hv,hb,hu,hw,h2,Ad,Af,Ae,Ab,Ah,Aa]; done))) | (refine Ay ?_ ?_; (focus (simp (disch:=omega) only [go_sem,o1,o2,o3,o4,o5,o6,o7,o8,o9,hl2,ha,hv,hb,hu,hw,h2,Ad,Af,Ae,Ab,Ah,Aa]; done)))); (try simp (disch:=omega) only [go_sem,o1,o2,o3,o4,o5,o6,o7,o8,o9,hl2,ha,hv,hb,hu,hw,h2,Ad,Af,Ae,Ab,Ah,Aa]))
  ·have hl2:dec ((x.parts.length:Int)=0)=false:=An (by omega)
   have hl3:(x.parts.length == 0)=false:=by simpa using hl
   rw [hl3,zC,zC,zC]
   refine Al Aw As (of_decide_eq_true rfl) ?_
   simp (disch:=omega) only [Au,go_sem,o1,o2,o3,o4,o5,o6,o7,o8,o9,hl2,ha,hv,hb,hu, h2,Ad,Af,Ae,Ab,Ah,Aa]
   repeat ((first | (refine Ax ?_ ?_; (focus (simp (disch:=omega) only [go_sem,o1,o2,o3,o4,o5,o6,o7,o8,o9,hl2,ha,hv,hb,hu, h2,Ad,Af,Ae,Ab,Ah,Aa]; done))) | (refine Ay ?_ ?_; (focus (simp (disch:=omega) only [go_sem,o1,o2,o3,o4,o5,o6,o7,o8,o9,hl2,ha,hv,hb,hu, h2,Ad,Af,Ae,Ab,Ah,Aa]; done)))); (try simp (disch:=omega) only [go_sem,o1,o2,o3,o4,o5,o6,o7,o8,o9,hl2,ha,hv,hb,hu, h2,Ad,Af,Ae,Ab,Ah,Aa]))
theorem R4 (x:Fm) (hn:x.atom.nodes≤1099511627776) (hl0:x.parts.length≤1099511627776) (ho:x.op=3) (h2:E 124 [.arr (x.parts.map Fm.d),.fn 157 []] []=some (.bool (x.parts.any fun y=>!y.forms),[])):E 99 [x.sv] []=some (.bool x.forms,[]):=by
 have hf:x.form=(x.parts.length == 0&&x.atom.atom&&dec (x.var=⟨#[]⟩)):=by unfold Fm.form; rcases ho with ho <;> simp [ho]
 rcases ho with ho
 all_goals
  have o1:dec (x.op=1)=false:=An (by omega)
  have o2:dec (x.op=2)=false:=An (by omega)
  have o3:dec (x.op=3)=true:=A3 ho
  have o4:dec (x.op=4)=false:=An (by omega)
  have o5:dec (x.op=5)=false:=An (by omega)
  have o6:dec (x.op=6)=false:=An (by omega)
  have o7:dec (x.op=7)=false:=An (by omega)
  have o8:dec (x.op=8)=false:=An (by omega)
  have o9:dec (x.op=9)=false:=An (by omega)
  have ha:=LI x.atom (by omega)
  have hv:=BM x.var
  have hb:=CY x.op
  have hu:=Br x.op
  rw [o5,o6,o7] at hb
  rw [o8,o9] at hu
  rw [Fm.CB,hf,← Fm.any_not]
  by_cases hl:x.parts.length=0
  ·have hl2:dec ((x.parts.length:Int)=0)=true:=A3 (by omega)
   rw [hl,beq_self_eq_true,zH]
   cases hw:dec (x.var=⟨#[]⟩) with
   | false =>
    try rw [hw] at hv
    rw [yJ,zC]
    refine Al Aw As (of_decide_eq_true rfl) ?_
    simp (disch:=omega) only [Au,go_sem,o1,o2,o3,o4,o5,o6,o7,o8,o9,hl2,ha,hv,hb,hu,hw,h2,Ad,Af,Ae,Ab,Ah,Aa]
    repeat ((first | (refine Ax ?_ ?_; (focus (simp (disch:=omega) only [go_sem,o1,o2,o3,o4,o5,o6,o7,o8,o9,hl2,ha,hv,hb,hu,hw,h2,Ad,Af,Ae,Ab,Ah,Aa]; done))) | (refine Ay ?_ ?_; (focus (simp (disch:=omega) only [go_sem,o1,o2,o3,o4,o5,o6,o7,o8,o9,hl2,ha,hv,hb,hu,hw,h2,Ad,Af,Ae,Ab,Ah,Aa]; done)))); (try simp (disch:=omega) only [go_sem,o1,o2,o3,o4,o5,o6,o7,o8,o9,hl2,ha,hv,hb,hu,hw,h2,Ad,Af,Ae,Ab,Ah,Aa]))
   | true =>
    try rw [hw] at hv
    rw [zG]
    cases hq:x.atom.atom with
    | true =>
     rw [hq] at ha
     rw [zH]
     refine Al Aw As (of_decide_eq_true rfl) ?_
     simp (disch:=omega) only [Au,go_sem,o1,o2,o3,o4,o5,o6,o7,o8,o9,hl2,ha,hv,hb,hu,hw,h2,Ad,Af,Ae,Ab,Ah,Aa]
     repeat ((first | (refine Ax ?_ ?_; (focus (simp (disch:=omega) only [go_sem,o1,o2,o3,o4,o5,o6,o7,o8,o9,hl2,ha,hv,hb,hu,hw,h2,Ad,Af,Ae,Ab,Ah,Aa]; done))) | (refine Ay ?_ ?_; (focus (simp (disch:=omega) only [go_sem,o1,o2,o3,o4,o5,o6,o7,o8,o9,hl2,ha,hv,hb,hu,hw,h2,Ad,Af,Ae,Ab,Ah,Aa]; done)))); (try simp (disch:=omega) only [go_sem,o1,o2,o3,o4,o5,o6,o7,o8,o9,hl2,ha,hv,hb,hu,hw,h2,Ad,Af,Ae,Ab,Ah,Aa]))
    | false =>
     rw [hq] at ha
     rw [zC]
     refine Al Aw As (of_decide_eq_true rfl) ?_
     simp (disch:=omega) only [Au,go_sem,o1,o2,o3,o4,o5,o6,o7,o8,o9,hl2,ha,hv,hb,hu,hw,h2,Ad,Af,Ae,Ab,Ah,Aa]
     repeat ((first | (refine Ax ?_ ?_; (focus (simp (disch:=omega) only [go_sem,o1,o2,o3,o4,o5,o6,o7,o8,o9,hl2,ha,hv,hb,hu,hw,h2,Ad,Af,Ae,Ab,Ah,Aa]; done))) | (refine Ay ?_ ?_; (focus (simp (disch:=omega) only [go_sem,o1,o2,o3,o4,o5,o6,o7,o8,o9,hl2,ha,hv,hb,hu,hw,h2,Ad,Af,Ae,Ab,Ah,Aa]; done)))); (try simp (disch:=omega) only [go_sem,o1,o2,o3,o4,o5,o6,o7,o8,o9,hl2,ha,hv,hb,hu,hw,h2,Ad,Af,Ae,Ab,Ah,Aa]))
  ·have hl2:dec ((x.parts.length:Int)=0)=false:=An (by omega)
   have hl3:(x.parts.length == 0)=false:=by simpa using hl
   rw [hl3,zC,zC,zC]
   refine Al Aw As (of_decide_eq_true rfl) ?_
   simp (disch:=omega) only [Au,go_sem,o1,o2,o3,o4,o5,o6,o7,o8,o9,hl2,ha,hv,hb,hu, h2,Ad,Af,Ae,Ab,Ah,Aa]
   repeat ((first | (refine Ax ?_ ?_; (focus (simp (disch:=omega) only [go_sem,o1,o2,o3,o4,o5,o6,o7,o8,o9,hl2,ha,hv,hb,hu, h2,Ad,Af,Ae,Ab,Ah,Aa]; done))) | (refine Ay ?_ ?_; (focus (simp (disch:=omega) only [go_sem,o1,o2,o3,o4,o5,o6,o7,o8,o9,hl2,ha,hv,hb,hu, h2,Ad,Af,Ae,Ab,Ah,Aa]; done)))); (try simp (disch:=omega) only [go_sem,o1,o2,o3,o4,o5,o6,o7,o8,o9,hl2,ha,hv,hb,hu, h2,Ad,Af,Ae,Ab,Ah,Aa]))
theorem R5 (x:Fm) (hn:x.atom.nodes≤1099511627776) (hl0:x.parts.length≤1099511627776) (ho:x.op=4) (h2:E 124 [.arr (x.parts.map Fm.d),.fn 157 []] []=some (.bool (x.parts.any fun y=>!y.forms),[])):E 99 [x.sv] []=some (.bool x.forms,[]):=by
 have hf:x.form=(x.parts.length == 1&&x.atom.isZ&&dec (x.var=⟨#[]⟩)):=by unfold Fm.form; rcases ho with ho <;> simp [ho]
 rcases ho with ho
 all_goals
  have o1:dec (x.op=1)=false:=An (by omega)
  have o2:dec (x.op=2)=false:=An (by omega)
  have o3:dec (x.op=3)=false:=An (by omega)
  have o4:dec (x.op=4)=true:=A3 ho
  have o5:dec (x.op=5)=false:=An (by omega)
  have o6:dec (x.op=6)=false:=An (by omega)
  have o7:dec (x.op=7)=false:=An (by omega)
  have o8:dec (x.op=8)=false:=An (by omega)
  have o9:dec (x.op=9)=false:=An (by omega)
  have ha:=D6 x.atom
  have hv:=BM x.var
  have hb:=CY x.op
  have hu:=Br x.op
  rw [o5,o6,o7] at hb
  rw [o8,o9] at hu
  rw [Fm.CB,hf,← Fm.any_not]
  by_cases hl:x.parts.length=1
  ·have hl2:dec ((x.parts.length:Int)=1)=true:=A3 (by omega)
   rw [hl,beq_self_eq_true,zH]
   cases hw:dec (x.var=⟨#[]⟩) with
   | false =>
    try rw [hw] at hv
    rw [yJ,zC]
    refine Al Aw As (of_decide_eq_true rfl) ?_
    simp (disch:=omega) only [Au,go_sem,o1,o2,o3,o4,o5,o6,o7,o8,o9,hl2,ha,hv,hb,hu,hw,h2,Ad,Af,Ae,Ab,Ah,Aa]
    repeat ((first | (refine Ax ?_ ?_; (focus (simp (disch:=omega) only [go_sem,o1,o2,o3,o4,o5,o6,o7,o8,o9,hl2,ha,hv,hb,hu,hw,h2,Ad,Af,Ae,Ab,Ah,Aa]; done))) | (refine Ay ?_ ?_; (focus (simp (disch:=omega) only [go_sem,o1,o2,o3,o4,o5,o6,o7,o8,o9,hl2,ha,hv,hb,hu,hw,h2,Ad,Af,Ae,Ab,Ah,Aa]; done)))); (try simp (disch:=omega) only [go_sem,o1,o2,o3,o4,o5,o6,o7,o8,o9,hl2,ha,hv,hb,hu,hw,h2,Ad,Af,Ae,Ab,Ah,Aa]))
   | true =>
    try rw [hw] at hv
    rw [zG]
    cases hq:x.atom.isZ with
    | true =>
     rw [hq] at ha
     rw [zH]
     refine Al Aw As (of_decide_eq_true rfl) ?_
     simp (disch:=omega) only [Au,go_sem,o1,o2,o3,o4,o5,o6,o7,o8,o9,hl2,ha,hv,hb,hu,hw,h2,Ad,Af,Ae,Ab,Ah,Aa]
     repeat ((first | (refine Ax ?_ ?_; (focus (simp (disch:=omega) only [go_sem,o1,o2,o3,o4,o5,o6,o7,o8,o9,hl2,ha,hv,hb,hu,hw,h2,Ad,Af,Ae,Ab,Ah,Aa]; done))) | (refine Ay ?_ ?_; (focus (simp (disch:=omega) only [go_sem,o1,o2,o3,o4,o5,o6,o7,o8,o9,hl2,ha,hv,hb,hu,hw,h2,Ad,Af,Ae,Ab,Ah,Aa]; done)))); (try simp (disch:=omega) only [go_sem,o1,o2,o3,o4,o5,o6,o7,o8,o9,hl2,ha,hv,hb,hu,hw,h2,Ad,Af,Ae,Ab,Ah,Aa]))
    | false =>
     rw [hq] at ha
     rw [zC]
     refine Al Aw As (of_decide_eq_true rfl) ?_
     simp (disch:=omega) only [Au,go_sem,o1,o2,o3,o4,o5,o6,o7,o8,o9,hl2,ha,hv,hb,hu,hw,h2,Ad,Af,Ae,Ab,Ah,Aa]
     repeat ((first | (refine Ax ?_ ?_; (focus (simp (disch:=omega) only [go_sem,o1,o2,o3,o4,o5,o6,o7,o8,o9,hl2,ha,hv,hb,hu,hw,h2,Ad,Af,Ae,Ab,Ah,Aa]; done))) | (refine Ay ?_ ?_; (focus (simp (disch:=omega) only [go_sem,o1,o2,o3,o4,o5,o6,o7,o8,o9,hl2,ha,hv,hb,hu,hw,h2,Ad,Af,Ae,Ab,Ah,Aa]; done)))); (try simp (disch:=omega) only [go_sem,o1,o2,o3,o4,o5,o6,o7,o8,o9,hl2,ha,hv,hb,hu,hw,h2,Ad,Af,Ae,Ab,Ah,Aa]))
  ·have hl2:dec ((x.parts.length:Int)=1)=false:=An (by omega)
   have hl3:(x.parts.length == 1)=false:=by simpa using hl
   rw [hl3,zC,zC,zC]
   refine Al Aw As (of_decide_eq_true rfl) ?_
   simp (disch:=omega) only [Au,go_sem,o1,o2,o3,o4,o5,o6,o7,o8,o9,hl2,ha,hv,hb,hu, h2,Ad,Af,Ae,Ab,Ah,Aa]
   repeat ((first | (refine Ax ?_ ?_; (focus (simp (disch:=omega) only [go_sem,o1,o2,o3,o4,o5,o6,o7,o8,o9,hl2,ha,hv,hb,hu, h2,Ad,Af,Ae,Ab,Ah,Aa]; done))) | (refine Ay ?_ ?_; (focus (simp (disch:=omega) only [go_sem,o1,o2,o3,o4,o5,o6,o7,o8,o9,hl2,ha,hv,hb,hu, h2,Ad,Af,Ae,Ab,Ah,Aa]; done)))); (try simp (disch:=omega) only [go_sem,o1,o2,o3,o4,o5,o6,o7,o8,o9,hl2,ha,hv,hb,hu, h2,Ad,Af,Ae,Ab,Ah,Aa]))
theorem IZ (x:Fm) (hn:x.atom.nodes≤1099511627776) (hl0:x.parts.length≤1099511627776) (ho:x.op=5∨x.op=6∨x.op=7) (h2:E 124 [.arr (x.parts.map Fm.d),.fn 157 []] []=some (.bool (x.parts.any fun y=>!y.forms),[])):E 99 [x.sv] []=some (.bool x.forms,[]):=by
 have hf:x.form=(x.parts.length == 2&&x.atom.isZ&&dec (x.var=⟨#[]⟩)):=by unfold Fm.form; rcases ho with ho | ho | ho <;> simp [ho]
 rcases ho with ho | ho | ho
 all_goals
  have o1:dec (x.op=1)=false:=An (by omega)
  have o2:dec (x.op=2)=false:=An (by omega)
  have o3:dec (x.op=3)=false:=An (by omega)
  have o4:dec (x.op=4)=false:=An (by omega)
  first
   |(have o5:dec (x.op=5)=true:=A3 ho)
   |(have o5:dec (x.op=5)=false:=An (by omega))
  first
   |(have o6:dec (x.op=6)=true:=A3 ho)
   |(have o6:dec (x.op=6)=false:=An (by omega))
  first
   |(have o7:dec (x.op=7)=true:=A3 ho)
   |(have o7:dec (x.op=7)=false:=An (by omega))
  have o8:dec (x.op=8)=false:=An (by omega)
  have o9:dec (x.op=9)=false:=An (by omega)
  have ha:=D6 x.atom
  have hv:=BM x.var
  have hb:=CY x.op
  have hu:=Br x.op
  rw [o5,o6,o7] at hb
  rw [o8,o9] at hu
  rw [Fm.CB,hf,← Fm.any_not]
  by_cases hl:x.parts.length=2
  ·have hl2:dec ((x.parts.length:Int)=2)=true:=A3 (by omega)
   rw [hl,beq_self_eq_true,zH]
   cases hw:dec (x.var=⟨#[]⟩) with
   | false =>
    try rw [hw] at hv
    rw [yJ,zC]
    refine Al Aw As (of_decide_eq_true rfl) ?_
    simp (disch:=omega) only [Au,go_sem,o1,o2,o3,o4,o5,o6,o7,o8,o9,hl2,ha,hv,hb,hu,hw,h2,Ad,Af,Ae,Ab,Ah,Aa]
    repeat ((first | (refine Ax ?_ ?_; (focus (simp (disch:=omega) only [go_sem,o1,o2,o3,o4,o5,o6,o7,o8,o9,hl2,ha,hv,hb,hu,hw,h2,Ad,Af,Ae,Ab,Ah,Aa]; done))) | (refine Ay ?_ ?_; (focus (simp (disch:=omega) only [go_sem,o1,o2,o3,o4,o5,o6,o7,o8,o9,hl2,ha,hv,hb,hu,hw,h2,Ad,Af,Ae,Ab,Ah,Aa]; done)))); (try simp (disch:=omega) only [go_sem,o1,o2,o3,o4,o5,o6,o7,o8,o9,hl2,ha,hv,hb,hu,hw,h2,Ad,Af,Ae,Ab,Ah,Aa]))
   | true =>
    try rw [hw] at hv
    rw [zG]
    cases hq:x.atom.isZ with
    | true =>
     rw [hq] at ha
     rw [zH]
     refine Al Aw As (of_decide_eq_true rfl) ?_
     simp (disch:=omega) only [Au,go_sem,o1,o2,o3,o4,o5,o6,o7,o8,o9,hl2,ha,hv,hb,hu,hw,h2,Ad,Af,Ae,Ab,Ah,Aa]
     repeat ((first | (refine Ax ?_ ?_; (focus (simp (disch:=omega) only [go_sem,o1,o2,o3,o4,o5,o6,o7,o8,o9,hl2,ha,hv,hb,hu,hw,h2,Ad,Af,Ae,Ab,Ah,Aa]; done))) | (refine Ay ?_ ?_; (focus (simp (disch:=omega) only [go_sem,o1,o2,o3,o4,o5,o6,o7,o8,o9,hl2,ha,hv,hb,hu,hw,h2,Ad,Af,Ae,Ab,Ah,Aa]; done)))); (try simp (disch:=omega) only [go_sem,o1,o2,o3,o4,o5,o6,o7,o8,o9,hl2,ha,hv,hb,hu,hw,h2,Ad,Af,Ae,Ab,Ah,Aa]))
    | false =>
     rw [hq] at ha
     rw [zC]
     refine Al Aw As (of_decide_eq_true rfl) ?_
     simp (disch:=omega) only [Au,go_sem,o1,o2,o3,o4,o5,o6,o7,o8,o9,hl2,ha,hv,hb,hu,hw,h2,Ad,Af,Ae,Ab,Ah,Aa]
     repeat ((first | (refine Ax ?_ ?_; (focus (simp (disch:=omega) only [go_sem,o1,o2,o3,o4,o5,o6,o7,o8,o9,hl2,ha,hv,hb,hu,hw,h2,Ad,Af,Ae,Ab,Ah,Aa]; done))) | (refine Ay ?_ ?_; (focus (simp (disch:=omega) only [go_sem,o1,o2,o3,o4,o5,o6,o7,o8,o9,hl2,ha,hv,hb,hu,hw,h2,Ad,Af,Ae,Ab,Ah,Aa]; done)))); (try simp (disch:=omega) only [go_sem,o1,o2,o3,o4,o5,o6,o7,o8,o9,hl2,ha,hv,hb,hu,hw,h2,Ad,Af,Ae,Ab,Ah,Aa]))
  ·have hl2:dec ((x.parts.length:Int)=2)=false:=An (by omega)
   have hl3:(x.parts.length == 2)=false:=by simpa using hl
   rw [hl3,zC,zC,zC]
   refine Al Aw As (of_decide_eq_true rfl) ?_
   simp (disch:=omega) only [Au,go_sem,o1,o2,o3,o4,o5,o6,o7,o8,o9,hl2,ha,hv,hb,hu, h2,Ad,Af,Ae,Ab,Ah,Aa]
   repeat ((first | (refine Ax ?_ ?_; (focus (simp (disch:=omega) only [go_sem,o1,o2,o3,o4,o5,o6,o7,o8,o9,hl2,ha,hv,hb,hu, h2,Ad,Af,Ae,Ab,Ah,Aa]; done))) | (refine Ay ?_ ?_; (focus (simp (disch:=omega) only [go_sem,o1,o2,o3,o4,o5,o6,o7,o8,o9,hl2,ha,hv,hb,hu, h2,Ad,Af,Ae,Ab,Ah,Aa]; done)))); (try simp (disch:=omega) only [go_sem,o1,o2,o3,o4,o5,o6,o7,o8,o9,hl2,ha,hv,hb,hu, h2,Ad,Af,Ae,Ab,Ah,Aa]))
theorem MO (x:Fm) (hn:x.atom.nodes≤1099511627776) (hl0:x.parts.length≤1099511627776) (ho:x.op=8∨x.op=9) (h2:E 124 [.arr (x.parts.map Fm.d),.fn 157 []] []=some (.bool (x.parts.any fun y=>!y.forms),[])):E 99 [x.sv] []=some (.bool x.forms,[]):=by
 have hf:x.form=(x.parts.length == 1&&x.atom.isZ&&Bk x.var):=by unfold Fm.form; rcases ho with ho | ho <;> simp [ho]
 rcases ho with ho | ho
 all_goals
  have o1:dec (x.op=1)=false:=An (by omega)
  have o2:dec (x.op=2)=false:=An (by omega)
  have o3:dec (x.op=3)=false:=An (by omega)
  have o4:dec (x.op=4)=false:=An (by omega)
  have o5:dec (x.op=5)=false:=An (by omega)
  have o6:dec (x.op=6)=false:=An (by omega)
  have o7:dec (x.op=7)=false:=An (by omega)
  first
   |(have o8:dec (x.op=8)=true:=A3 ho)
   |(have o8:dec (x.op=8)=false:=An (by omega))
  first
   |(have o9:dec (x.op=9)=true:=A3 ho)
   |(have o9:dec (x.op=9)=false:=An (by omega))
  have ha:=D6 x.atom
  have hv:=BM x.var
  have hb:=CY x.op
  have hu:=Br x.op
  rw [o5,o6,o7] at hb
  rw [o8,o9] at hu
  rw [Fm.CB,hf,← Fm.any_not]
  by_cases hl:x.parts.length=1
  ·have hl2:dec ((x.parts.length:Int)=1)=true:=A3 (by omega)
   rw [hl,beq_self_eq_true,zH]
   cases hw:Bk x.var with
   | false =>
    try rw [hw] at hv
    rw [yJ,zC]
    refine Al Aw As (of_decide_eq_true rfl) ?_
    simp (disch:=omega) only [Au,go_sem,o1,o2,o3,o4,o5,o6,o7,o8,o9,hl2,ha,hv,hb,hu, h2,Ad,Af,Ae,Ab,Ah,Aa]
    repeat ((first | (refine Ax ?_ ?_; (focus (simp (disch:=omega) only [go_sem,o1,o2,o3,o4,o5,o6,o7,o8,o9,hl2,ha,hv,hb,hu, h2,Ad,Af,Ae,Ab,Ah,Aa]; done))) | (refine Ay ?_ ?_; (focus (simp (disch:=omega) only [go_sem,o1,o2,o3,o4,o5,o6,o7,o8,o9,hl2,ha,hv,hb,hu, h2,Ad,Af,Ae,Ab,Ah,Aa]; done)))); (try simp (disch:=omega) only [go_sem,o1,o2,o3,o4,o5,o6,o7,o8,o9,hl2,ha,hv,hb,hu, h2,Ad,Af,Ae,Ab,Ah,Aa]))
   | true =>
    try rw [hw] at hv
    rw [zG]
    cases hq:x.atom.isZ with
    | true =>
     rw [hq] at ha
     rw [zH]
     refine Al Aw As (of_decide_eq_true rfl) ?_
     simp (disch:=omega) only [Au,go_sem,o1,o2,o3,o4,o5,o6,o7,o8,o9,hl2,ha,hv,hb,hu, h2,Ad,Af,Ae,Ab,Ah,Aa]
     repeat ((first | (refine Ax ?_ ?_; (focus (simp (disch:=omega) only [go_sem,o1,o2,o3,o4,o5,o6,o7,o8,o9,hl2,ha,hv,hb,hu, h2,Ad,Af,Ae,Ab,Ah,Aa]; done))) | (refine Ay ?_ ?_; (focus (simp (disch:=omega) only [go_sem,o1,o2,o3,o4,o5,o6,o7,o8,o9,hl2,ha,hv,hb,hu, h2,Ad,Af,Ae,Ab,Ah,Aa]; done)))); (try simp (disch:=omega) only [go_sem,o1,o2,o3,o4,o5,o6,o7,o8,o9,hl2,ha,hv,hb,hu, h2,Ad,Af,Ae,Ab,Ah,Aa]))
    | false =>
     rw [hq] at ha
     rw [zC]
     refine Al Aw As (of_decide_eq_true rfl) ?_
     simp (disch:=omega) only [Au,go_sem,o1,o2,o3,o4,o5,o6,o7,o8,o9,hl2,ha,hv,hb,hu, h2,Ad,Af,Ae,Ab,Ah,Aa]
     repeat ((first | (refine Ax ?_ ?_; (focus (simp (disch:=omega) only [go_sem,o1,o2,o3,o4,o5,o6,o7,o8,o9,hl2,ha,hv,hb,hu, h2,Ad,Af,Ae,Ab,Ah,Aa]; done))) | (refine Ay ?_ ?_; (focus (simp (disch:=omega) only [go_sem,o1,o2,o3,o4,o5,o6,o7,o8,o9,hl2,ha,hv,hb,hu, h2,Ad,Af,Ae,Ab,Ah,Aa]; done)))); (try simp (disch:=omega) only [go_sem,o1,o2,o3,o4,o5,o6,o7,o8,o9,hl2,ha,hv,hb,hu, h2,Ad,Af,Ae,Ab,Ah,Aa]))
  ·have hl2:dec ((x.parts.length:Int)=1)=false:=An (by omega)
   have hl3:(x.parts.length == 1)=false:=by simpa using hl
   rw [hl3,zC,zC,zC]
   refine Al Aw As (of_decide_eq_true rfl) ?_
   simp (disch:=omega) only [Au,go_sem,o1,o2,o3,o4,o5,o6,o7,o8,o9,hl2,ha,hv,hb,hu, h2,Ad,Af,Ae,Ab,Ah,Aa]
   repeat ((first | (refine Ax ?_ ?_; (focus (simp (disch:=omega) only [go_sem,o1,o2,o3,o4,o5,o6,o7,o8,o9,hl2,ha,hv,hb,hu, h2,Ad,Af,Ae,Ab,Ah,Aa]; done))) | (refine Ay ?_ ?_; (focus (simp (disch:=omega) only [go_sem,o1,o2,o3,o4,o5,o6,o7,o8,o9,hl2,ha,hv,hb,hu, h2,Ad,Af,Ae,Ab,Ah,Aa]; done)))); (try simp (disch:=omega) only [go_sem,o1,o2,o3,o4,o5,o6,o7,o8,o9,hl2,ha,hv,hb,hu, h2,Ad,Af,Ae,Ab,Ah,Aa]))
theorem PY (x:Fm) (ht:x.tame) (hn:x.nodes≤1099511627776) (ih:∀ y∈x.parts,E 99 [y.sv] []=some (.bool y.forms,[])):E 99 [x.sv] []=some (.bool x.forms,[]):=by
 have hl:=Fm.length_le x.parts
 have hx:=Fm.nodes_eq x
 have ha:=Fm.Kc ht
 have h1:∀ y∈x.parts,E 157 [y.sv] []=some (.bool (!y.forms),[]):=fun y hy=>by
  have h:=ih y hy
  refine Al IX EY (of_decide_eq_true rfl) ?_
  simp (disch:=omega) only [EX,go_sem,Ac,h,As]
 have h2:=H8 157 (fun y=>!y.forms) x.parts (by omega) IY (by rw [EY]) h1
 rcases OH x.op with h | h | h | h | h | h | h | h | h | h
 ·exact MN x ha (by omega) (.inl h) h2
 ·exact MN x ha (by omega) (.inr h) h2
 ·exact R4 x ha (by omega) h h2
 ·exact R5 x ha (by omega) h h2
 ·exact IZ x ha (by omega) (.inl h) h2
 ·exact IZ x ha (by omega) (.inr (.inl h)) h2
 ·exact IZ x ha (by omega) (.inr (.inr h)) h2
 ·exact MO x ha (by omega) (.inl h) h2
 ·exact MO x ha (by omega) (.inr h) h2
 ·obtain ⟨k1,k2,k3,k4,k5,k6,k7,k8,k9⟩:=h
  have hf:x.form=false:=by unfold Fm.form; simp [k1,k2,k3,k4,k5,k6,k7,k8,k9]
  have o1:=An k1
  have o2:=An k2
  have o3:=An k3
  have o4:=An k4
  have o5:=An k5
  have o6:=An k6
  have o7:=An k7
  have o8:=An k8
  have o9:=An k9
  have hb:=CY x.op
  have hu:=Br x.op
  rw [o5,o6,o7] at hb
  rw [o8,o9] at hu
  rw [Fm.CB,hf,zC]
  refine Al Aw As (of_decide_eq_true rfl) ?_
  simp (disch:=omega) only [Au,go_sem,o1,o2,o3,o4,o5,o6,o7,o8,o9,hb,hu,Ab,Ah]
  repeat ((first | (refine Ax ?_ ?_; (focus (simp (disch:=omega) only [go_sem,o1,o2,o3,o4,o5,o6,o7,o8,o9,hb,hu,Ab,Ah]; done))) | (refine Ay ?_ ?_; (focus (simp (disch:=omega) only [go_sem,o1,o2,o3,o4,o5,o6,o7,o8,o9,hb,hu,Ab,Ah]; done)))); (try simp (disch:=omega) only [go_sem,o1,o2,o3,o4,o5,o6,o7,o8,o9,hb,hu,Ab,Ah]))
theorem MP (x:Fm) (ht:x.tame) (hn:x.nodes≤1099511627776):E 99 [x.sv] []=some (.bool x.forms,[]) :=
 PY x ht hn fun y hy=>MP y (Fm.GA ht hy) (by have:=Fm.nodes_mem hy; have:=Fm.nodes_eq x; omega)
termination_by SizeOf.sizeOf x
decreasing_by exact Fm.lt_of_mem hy
theorem CZ (x:Fm) (ht:x.tame) (hn:x.nodes≤1099511627776):E 41 [x.sv] []=some (.bool x.valid,[]):=by
 have h1:=QE x hn
 have h2:=MP x ht hn
 have h3:=Fm.cap_spec x
 unfold Fm.valid
 rcases zL 40 x.nodes with h5 | h5
 ·rw [decide_eq_false (by omega),zC]
  have d:dec (x.cap≤40)=false:=An (by omega)
  refine Al CM AF (of_decide_eq_true rfl) ?_
  simp (disch:=omega) only [BX,go_sem,Ac,h1,h2,d,Cv,As]
 ·rw [decide_eq_true h5,zH]
  have d:dec (x.cap≤40)=true:=A3 (by omega)
  refine Al CM AF (of_decide_eq_true rfl) ?_
  simp (disch:=omega) only [BX,go_sem,Ac,h1,h2,d,Cv,As]
theorem OK (x:Fm) (ht:x.tame) (hn:x.nodes≤1099511627776):E 37 [x.sv] []=some (.bool x.valid,[]):=by
 have h1:=QF x 40 (by omega) (by omega) hn
 have h2:=MM x ht hn
 have h3:=Fm.many_spec x 40
 unfold Fm.valid
 rcases zL 40 x.nodes with h5 | h5
 ·rw [decide_eq_false (by omega),zC]
  have d:dec ((x.many 40)≤40)=false:=An (by omega)
  refine Al GZ Cx (of_decide_eq_true rfl) ?_
  simp (disch:=omega) only [E9,go_sem,Ac,h1,h2,d,Cw,BE]
 ·rw [decide_eq_true h5,zH]
  have d:dec ((x.many 40)≤40)=true:=A3 (by omega)
  refine Al GZ Cx (of_decide_eq_true rfl) ?_
  simp (disch:=omega) only [E9,go_sem,Ac,h1,h2,d,Cw,BE]
def Da:SC:=(.seq (.reg [⟨some 1,none,.boxv 34 5 (.t 0)⟩,⟨(some 2),none,(.alloc 34 [(.int .i64 0),(.str ⟨#[]⟩),.nil,(.str ⟨#[]⟩),.nil])⟩,⟨some 3,none,.mv (.c (.bool false))⟩]) (.seq (.seq (.reg [⟨some 4,none,.load true 5 (.t 1)⟩,⟨some 5,none,.call 41 [(.t 4)]⟩,⟨some 6,none,.un .not (.t 5)⟩]) (.cond (.t 6) (.seq (.reg [⟨(some 7),none,(.build [(.int .i64 0),(.str ⟨#[]⟩),.nil,(.str ⟨#[]⟩),.nil] [])⟩,⟨none,none,(.store 5 (.t 2) (.t 7))⟩,⟨some 3,none,.mv (.c (.bool false))⟩]) .ret) .skip)) (.seq (.reg [⟨some 8,none,.load true 5 (.t 1)⟩,⟨none,none,(.store 5 (.t 2) (.t 8))⟩,⟨some 3,none,.mv (.c (.bool true))⟩]) .ret)))
theorem EZ:codeOf Tryz.prog 42=some ⟨9,Da,[(.cell 2 true 5),(.tmp 3)]⟩:=by kernel_rfl
theorem BF:modes 42=⟨[true],.own [none,none,some (31,2),none,some (34,5),none],none,false⟩:=by unfold modes; rfl
theorem LL (y:Fm) (hy:y.tame) (hn:y.nodes≤1099511627776) (hv:y.valid=true):E 42 [y.osv] y.obs=some (.tup [y.osv,.bool true],y.obs):=by
 have h:=CZ y hy hn
 rw [hv] at h
 refine Al EZ BF (of_decide_eq_true rfl) ?_
 simp (disch:=omega) only [Da,go_sem,Ac,h,AF,Fm.osv,Fm.obs,Tm.erss,Tm.noss,Fm.erss,Fm.noss]
theorem N4 (y:Fm) (hy:y.tame) (hn:y.nodes≤1099511627776) (hv:y.valid=false):E 42 [y.osv] y.obs=some (.tup [.agg [.int .i64 0,.str ⟨#[]⟩,.ref 2,.str ⟨#[]⟩,.ref 3],.bool false],[.row 31 2 (y.atom.args.map Tm.o),.row 34 5 (y.parts.map Fm.o),.row 31 2 [],.row 34 5 []]):=by
 have h:=CZ y hy hn
 rw [hv] at h
 refine Al EZ BF (of_decide_eq_true rfl) ?_
 simp (disch:=omega) only [Da,go_sem,Ac,h,AF,Fm.osv,Fm.obs,Tm.erss,Tm.noss,Fm.erss,Fm.noss]
theorem Tm.R6 {x:Tm} (h:x.atom=true):x.expr=true:=by unfold Tm.expr; rw [h,Bool.or_true]
theorem Tm.H9 {x:Tm} (h:x.atom=true):x.nodes≤30:=Tm.PW (Tm.R6 h)
theorem Tm.N5 {x:Tm} (h:x.isZ=true):x=.mk ⟨#[]⟩ []:=by
 obtain ⟨n,a⟩:=x
 unfold Tm.isZ at h
 rw [zB] at h
 have h1:n=⟨#[]⟩:=Ap.1 h.1
 have h3:(a.length == 0)=true:=h.2
 have h2:a=[]:=zK (by simpa using h3)
 rw [h1,h2]
theorem Fm.GB {x:Fm} (h:x.form=true) (ho:x.op=3):x.parts=[]∧x.atom.atom=true∧x.var=⟨#[]⟩:=by
 unfold Fm.form at h
 simp only [ho] at h
 simp at h
 exact ⟨h.1.1,h.1.2,Ap.1 h.2⟩
theorem Fm.Lb {x:Fm} (h:x.form=true) (ho:¬ x.op=3):x.atom=.mk ⟨#[]⟩ []:=by
 unfold Fm.form at h
 split at h
 ·rw [zB,zB] at h; exact Tm.N5 h.1.2
 ·try rw [if_neg ho] at h
  split at h
  ·rw [zB,zB] at h; exact Tm.N5 h.1.2
  ·split at h
   ·rw [zB,zB] at h; exact Tm.N5 h.1.2
   ·split at h
    ·rw [zB,zB] at h; exact Tm.N5 h.1.2
    ·cases h
theorem Fm.Lc {x:Fm} (h:x.form=true) (ho:qB x.op=true):Bk x.var=true∧∃ p,x.parts=[p]:=by
 unfold qB at ho
 rw [yC,Ap,Ap] at ho
 unfold Fm.form at h
 rw [if_neg (by omega),if_neg (by omega),if_neg (by omega),if_neg (by omega),if_pos (by omega),zB,zB] at h
 refine ⟨h.2,?_⟩
 have hl:x.parts.length=1:=by simpa using h.1.1
 match hq:x.parts,hl with
 | [p],_=>exact ⟨p,rfl⟩
theorem Fm.DT {x y:Fm} (h:x.forms=true) (hy:y∈x.parts):y.forms=true:=by
 rw [Fm.CB,zB,Fm.IW,zZ] at h
 exact h.2 y hy
theorem Fm.DU {x:Fm} (h:x.forms=true):x.form=true:=by
 rw [Fm.CB,zB] at h
 exact h.1
theorem Fm.Kd {x:Fm} (h:x.form=true):x.atom.nodes≤30:=by
 by_cases ho:x.op=3
 ·exact Tm.H9 (Fm.GB h ho).2.1
 ·rw [Fm.Lb h ho,Tm.nodes_eq]
  simp [Tm.args,Tm.nodeS]
theorem Fm.HA (x:Fm) (h:x.forms=true):x.tame:=by
 have key:∀ xs:List Fm,(∀ y∈xs,y.tame)→Fm.En xs:=by
  intro xs
  induction xs with
  | nil=>intro _; rw [Fm.En]; trivial
  | cons y ys ih=>intro hh; rw [Fm.En]; exact ⟨hh y (by simp),ih fun z hz=>hh z (by simp [hz])⟩
 have h1:=Fm.Kd (Fm.DU h)
 rw [Fm.Ih]
 exact ⟨by omega,key _ fun y hy=>Fm.HA y (Fm.DT h hy)⟩
termination_by SizeOf.sizeOf x
decreasing_by exact Fm.lt_of_mem hy
def Ha (s:ByteArray):Bool:=decide (0<s.size)&&(Np (FU s 0) == Bk s)
mutual
def Tm.cok:Tm→Bool
 | .mk n xs=>Ha n&&Tm.PZ xs
def Tm.PZ:List Tm→Bool
 | []=>true
 | x :: xs=>Tm.cok x&&Tm.PZ xs
end
theorem Tm.Qa (x:Tm):x.cok=(Ha x.name&&Tm.PZ x.args):=by
 obtain ⟨n,xs⟩:=x
 rw [Tm.cok]; rfl
theorem Tm.Tf {xs:List Tm} (h:Tm.PZ xs=true) {y:Tm} (hy:y∈xs):y.cok=true:=by
 induction xs with
 | nil=>cases hy
 | cons x xs ih =>
  rw [Tm.PZ,zB] at h
  rcases zP.1 hy with rfl | hy
  ·exact h.1
  ·exact ih h.2 hy
structure Ord3 {α:Type} (c:α→α→Int) (a b d:α):Prop where
 anti:c b a=- c a b
 zero:c a b=0 ↔ a=b
 trans:c a b<0→c b d<0→c a d<0
theorem HC {p:Nat→Int→Bool} {s:ByteArray} (h:CL p s s.size=true) (hs:0<s.size):p 0 (FU s 0)=true:=by
 unfold CL at h
 rw [zZ] at h
 exact h 0 (List.mem_range.2 hs)
theorem R7 {s:ByteArray} (h:Bk s=true):Ha s=true:=by
 have h0:=h
 unfold Bk inB at h
 rw [zB,zB,decide_eq_true_eq,decide_eq_true_eq] at h
 have hs:0<s.size:=by omega
 have h1:=HC h.1 hs
 unfold FV at h1
 unfold Ha
 rw [h0]
 simp at h1
 simp [hs,h1]
theorem MQ {s:ByteArray} (hs:0<s.size) (h:Np (FU s 0)=false):Ha s=true:=by
 have hv:Bk s=false:=by
  rw [y5]
  intro hv
  unfold Bk at hv
  rw [zB] at hv
  have h1:=HC hv.1 hs
  unfold FV at h1
  rw [h] at h1
  simp at h1
 unfold Ha
 rw [hv,h]
 simp [hs]
theorem R8 {s:ByteArray} (h:CW s=true):Ha s=true:=by
 unfold CW inB at h
 rw [zB,zB,zB,decide_eq_true_eq,decide_eq_true_eq] at h
 have hs:0<s.size:=by omega
 refine MQ hs ?_
 have h1:=HC h.1.1 hs
 unfold GP at h1
 simp at h1
 have h2:=h1.1
 unfold O2 at h2
 unfold Np
 simp at h2 ⊢
 omega
theorem R9 {s:ByteArray} (h:s.toList=[61]):Ha s=true:=by
 have hs:s.size=1:=by
  have:=congrArg List.length h
  rw [ByteArray.toList_eq] at this
  simpa using this
 refine MQ (by omega) ?_
 unfold FU
 rw [h]
 rfl
mutual
theorem Tm.Ja:∀ x:Tm,x.names=true→x.cok=true
 | .mk n xs,h=>by
  rw [Tm.names] at h
  rw [Tm.cok,zB]
  split at h
  ·rename_i hv
   have:xs=[]:=by
    rw [beq_iff_eq] at h
    exact zK h
   subst this
   exact ⟨R7 hv,rfl⟩
  ·rw [zB,zB] at h
   exact ⟨R8 h.1.1,Tm.HD xs h.2⟩
theorem Tm.HD:∀ xs:List Tm,Tm.DP xs=true→Tm.PZ xs=true
 | [],_=>rfl
 | x :: xs,h=>by
  rw [Tm.DP,zB] at h
  rw [Tm.PZ,zB]
  exact ⟨Tm.Ja x h.1,Tm.HD xs h.2⟩
end
theorem Tm.Tg {x:Tm} (h:x.atom=true):x.cok=true:=by
 unfold Tm.atom at h
 rcases he:x.eqn with _ | _
 ·rw [he,if_neg (by simp),zB] at h
  unfold Tm.valid at h
  rw [zB] at h
  exact Tm.Ja x h.2.2
 ·rw [he,if_pos rfl,zB,zB] at h
  unfold Tm.eqn at he
  rw [Ap] at he
  rw [Tm.Qa,zB]
  exact ⟨R9 (by rw [he,ByteArray.toList_eq]),Tm.HD _ h.2⟩
theorem RA {s:ByteArray} {k:Nat} (h:k<s.size):FF s k=FU s k:=by
 rw [←CU h]
 unfold FF
 rw [show s[k]?=some s[k] from getElem?_pos s k h]; rfl
theorem RB {s:ByteArray} (h:Ha s=true):0<s.size∧(dec (65≤FF s 0)&&dec (FF s 0≤90))=Bk s:=by
 unfold Ha at h
 rw [zB,decide_eq_true_eq,beq_iff_eq] at h
 refine ⟨h.1,?_⟩
 rw [←h.2,RA h.1,Hw,Hw]
 unfold Np
 rfl
theorem Ld (a:ByteArray):strLt a a=false:=by
 unfold strLt
 have key:∀ l:List UInt8,Op.bytesLess l l=false:=by
  intro l
  induction l with
  | nil=>rfl
  | cons x l ih=>simp [Op.bytesLess,ih]
 exact key _
def DV:SC:=(.seq (.reg [⟨some 2,none,.mv (.c (.bool false))⟩]) (.seq (.reg [⟨some 3,none,.mv (.t 0)⟩,⟨some 4,none,.bin .geq false (.t 3) (.c (.int .u8 65))⟩,⟨some 5,none,.mv (.t 4)⟩,⟨(some 6),(some (5,true)),(.mv (.t 0))⟩,⟨(some 7),(some (5,true)),(.bin .leq false (.t 6) (.c (.int .u8 90)))⟩,⟨some 8,none,.pick (.t 5) (.t 7) (.c (.bool false))⟩,⟨some 2,none,.mv (.t 8)⟩]) .ret))
theorem Gd:codeOf Tryz.prog 177=some ⟨9,DV,[(.tmp 2)]⟩:=by kernel_rfl
theorem DW:modes 177=⟨[],.asis,none,false⟩:=by unfold modes; rfl
def Ij:SC:=(.seq (.reg [⟨some 1,none,.boxv 31 2 (.t 0)⟩,⟨some 2,none,.mv (.c (.bool false))⟩]) (.seq (.reg [⟨some 3,none,.faddr 0 (.t 1)⟩,⟨some 4,none,.load false 1 (.t 3)⟩,⟨some 5,none,.idx (.t 4) (.c (.int .i64 0))⟩,⟨some 6,none,.call 177 [(.t 5)]⟩,⟨some 2,none,.mv (.t 6)⟩]) .ret))
theorem N6:codeOf Tryz.prog 187=some ⟨7,Ij,[(.tmp 2)]⟩:=by kernel_rfl
theorem D7:modes 187=⟨[],.asis,none,false⟩:=by unfold modes; rfl
theorem RC (n:Int):E 177 [.int .u8 n] []=some (.bool (dec (65≤n)&&dec (n≤90)),[]):=by
 cases h1:dec (65≤n)
 ·refine Al Gd DW (of_decide_eq_true rfl) ?_
  simp (disch:=omega) only [DV,go_sem,Ac,h1]
 ·refine Al Gd DW (of_decide_eq_true rfl) ?_
  simp (disch:=omega) only [DV,go_sem,Ac,h1]
theorem U7 (x:Tm) (h:x.cok=true):E 187 [x.sv] []=some (.bool (Bk x.name),[]):=by
 rw [Tm.Qa,zB] at h
 obtain ⟨h1,h2⟩:=RB h.1
 have h3:=RC (FF x.name 0)
 rw [h2] at h3
 refine Al N6 D7 (of_decide_eq_true rfl) ?_
 simp (disch:=omega) only [Ij,go_sem,Ac,h3,DW]
theorem Tm.GC {x:Tm} (h:x.atom=true):(Bk x.name=true→x.args=[])∧∀ y∈x.args,y.names=true:=by
 unfold Tm.atom at h
 cases he:x.eqn with
 | true =>
  rw [he,if_pos rfl,zB,zB] at h
  have h2:=h.2
  rw [Tm.G8,zZ] at h2
  refine ⟨fun hv=>?_,h2⟩
  have hn:=Ap.1 he
  have hnv0:Bk ⟨#[61]⟩=false:=by kernel_rfl
  rw [hn,hnv0] at hv
  cases hv
 | false =>
  rw [he,if_neg (by simp),zB] at h
  have hnm:x.names=true:=by have h3:=h.2; unfold Tm.valid at h3; rw [zB] at h3; exact h3.2
  exact ⟨fun hv=>Tm.MD hnm hv,fun y hy=>Tm.IU hnm hy⟩
theorem Tm.QG (x:Tm):x.vs=bif Bk x.name then [x.name] else Tm.vsL x.args:=by
 obtain ⟨n,a⟩:=x
 rw [Tm.vs]; rfl
theorem Tm.QH {v:ByteArray}:∀ {xs:List Tm},v∈Tm.vsL xs ↔ ∃ x∈xs,v∈x.vs
 | []=>by simp [Tm.vsL]
 | x :: xs=>by rw [Tm.vsL,List.mem_append,Tm.QH (xs:=xs)]; simp
theorem Tm.QI:∀ xs:List Tm,(∀ x∈xs,x.vs.length≤x.nodes)→(Tm.vsL xs).length≤Tm.nodeS xs
 | [],_=>by simp [Tm.vsL]
 | x :: xs,h=>by
  have h1:=h x (by simp)
  have h2:=Tm.QI xs fun y hy=>h y (by simp [hy])
  rw [Tm.vsL,Tm.nodeS,yQ]; omega
theorem Tm.HE (x:Tm):x.vs.length≤x.nodes:=by
 have h:=Tm.QI x.args fun y hy=>Tm.HE y
 rw [Tm.QG,Tm.nodes_eq]
 cases Bk x.name with
 | true=>simp
 | false=>simp only [cond_false]; omega
termination_by SizeOf.sizeOf x
decreasing_by exact Tm.lt_of_mem hy
noncomputable def Fx (l:List ByteArray) (n:ByteArray):List ByteArray:=bif dec (n∈l) then l else l++[n]
theorem Th (l:List ByteArray) (n:ByteArray):(Fx l n).length≤l.length+1:=by
 unfold Fx
 cases dec (n∈l) <;> simp
theorem Ti {l:List ByteArray} {n m:ByteArray}:m∈Fx l n ↔ m∈l∨m=n:=by
 unfold Fx
 by_cases h:n∈l
 ·rw [A3 h,cond_true]
  exact ⟨.inl,fun h'=>h'.elim id fun e=>e▸h⟩
 ·rw [An h,cond_false]
  simp
theorem Qb {l:List ByteArray} {n:ByteArray} (h:l.Nodup):(Fx l n).Nodup:=by
 unfold Fx
 by_cases k:n∈l
 ·rw [A3 k]; exact h
 ·rw [An k,cond_false,List.nodup_append]
  exact ⟨h,by simp,fun a ha b hb e=>by simp at hb; subst hb; subst e; exact k ha⟩
noncomputable def Bm (l ns:List ByteArray):List ByteArray:=ns.foldl Fx l
theorem Fa:∀ (ns l:List ByteArray),(Bm l ns).length≤l.length+ns.length
 | [],l=>by simp [Bm]
 | n :: ns,l=>by
  have h:=Fa ns (Fx l n)
  have h2:=Th l n
  simp only [Bm,z8,zM] at h ⊢
  omega
theorem OL:∀ {ns l:List ByteArray} {m:ByteArray},m∈Bm l ns ↔ m∈l∨m∈ns
 | [],l,m=>by simp [Bm]
 | n :: ns,l,m=>by
  have h:=OL (ns:=ns) (l:=Fx l n) (m:=m)
  simp only [Bm,z8] at h ⊢
  rw [h,Ti]
  simp only [zP]
  exact or_assoc
theorem Le:∀ {ns l:List ByteArray},l.Nodup→(Bm l ns).Nodup
 | [],l,h=>h
 | n :: ns,l,h=>Le (ns:=ns) (Qb h)
theorem Lf (l a b:List ByteArray):Bm l (a++b)=Bm (Bm l a) b:=y4
def BS:SC:=(.seq (.reg [⟨some 4,none,.mv (.c (.int .i64 0))⟩]) (.seq (.seq (.reg [⟨some 6,none,.mv (.t 0)⟩,⟨some 7,none,.len false (.t 6)⟩,⟨some 8,none,.mv (.c (.int .i64 0))⟩]) (.block 0 (.loop [1,1,0,0,0,0,0,1,1,0,0,0,0,0,0,0,0,0,0] (.seq (.reg [⟨some 9,none,.bin .lss false (.t 8) (.t 7)⟩]) (.seq (.cond (.t 9) .skip (.exit 0)) (.seq (.block 1 (.seq (.reg [⟨some 10,none,.mv (.t 8)⟩,⟨some 5,none,.mv (.t 10)⟩]) (.seq (.reg [⟨some 11,none,.mv (.t 1)⟩,⟨some 12,none,.mv (.t 0)⟩,⟨some 13,none,.mv (.t 5)⟩,⟨some 14,none,.iaddr 1 (.t 12) (.t 13)⟩,⟨some 15,none,.load false 1 (.t 14)⟩,⟨some 16,none,.bin .eql false (.t 11) (.t 15)⟩]) (.cond (.t 16) (.seq (.reg [⟨some 17,none,.mv (.t 5)⟩,⟨some 4,none,.mv (.t 17)⟩]) .ret) .skip)))) (.reg [⟨some 18,none,.bin .add false (.t 8) (.c (.int .i64 1))⟩,⟨some 8,none,.mv (.t 18)⟩]))))))) (.seq (.reg [⟨some 4,none,.mv (.c (.int .i64 (-(0+1))))⟩]) .ret)))
theorem Dv:codeOf Tryz.prog 214=some ⟨19,BS,[(.tmp 4)]⟩:=by kernel_rfl
theorem BT:modes 214=⟨[],.asis,none,false⟩:=by unfold modes; rfl
def B8:SC:=(.seq (.reg [⟨some 4,none,.mv (.c (.bool false))⟩]) (.seq (.reg [⟨some 5,none,.mv (.t 0)⟩,⟨some 6,none,.mv (.t 1)⟩,⟨some 7,none,.call 214 [(.t 5),(.t 6)]⟩,⟨some 8,none,.bin .geq false (.t 7) (.c (.int .i64 0))⟩,⟨some 4,none,.mv (.t 8)⟩]) .ret))
theorem CI:codeOf Tryz.prog 180=some ⟨9,B8,[(.tmp 4)]⟩:=by kernel_rfl
theorem A5:modes 180=⟨[],.asis,none,false⟩:=by unfold modes; rfl
theorem Tj (xs:List ByteArray) (n:ByteArray) (hl:xs.length≤1099511627776):E 214 [.arr (xs.map fun s=>[D.str s]),.str n] []=some (.int .i64 (E4 (fun s=>dec (n=s)) xs 0),[]):=by
 refine Al Dv BT (of_decide_eq_true rfl) ?_
 simp (disch:=omega) only [BS,go_sem,Ac]
 refine go_loop (α:=Int) (fun a=>⟨slots 19 0 [(0,.arr (xs.map fun s=>[D.str s])),(1,.str n),(7,.int .i64 xs.length),(8,.int .i64 a)],[]⟩) (fun a=>∃ k:Nat,a=k∧k≤(xs).length∧E4 (fun s=>dec (n=s)) (xs.drop k) a=E4 (fun s=>dec (n=s)) xs 0) (fun a=>(xs).length-(a).toNat) 0 ⟨0,rfl,zR _,by rw [zO]⟩ (by simp (disch:=omega) only [go_sem,Ac]) ?_
 rintro i ⟨k,hi,hk,hR⟩
 have hni:i.toNat=k:=by omega
 have hni1:(i+1).toNat=k+1:=by omega
 rcases zL k (xs).length with hlt | hge
 ·have hg:=get_at (fun s=>[D.str s]) hlt
  rw [zF hlt,E4] at hR
  cases hp:dec (n=xs[k]) with
  | true =>
   rw [hp] at hR
   simp (disch:=omega) only [go_sem,Ac,hni,hg,hp]
   simpa using hR
  | false =>
   rw [hp] at hR
   simp (disch:=omega) only [go_sem,Ac,hni,hg,hp]
   exact ⟨i+1,⟨k+1,by omega,hlt,by simpa using hR⟩,by omega,by first | trivial | rfl⟩
 ·rw [zI hge,E4] at hR
  simp (disch:=omega) only [go_sem,Ac,hni]
  exact hR
theorem Ge (xs:List ByteArray) (n:ByteArray) (hl:xs.length≤1099511627776):E 180 [.arr (xs.map fun s=>[D.str s]),.str n] []=some (.bool (dec (n∈xs)),[]):=by
 have h:=Tj xs n hl
 have e:dec (n∈xs)=dec (0≤E4 (fun s=>dec (n=s)) xs 0):=by
  rw [KV]
  by_cases hm:n∈xs
  ·rw [A3 hm]
   exact (List.any_eq_true.2 ⟨n,hm,A3 rfl⟩).symm
  ·rw [An hm]
   refine Eq.symm (y5.2 fun h=>?_)
   obtain ⟨x,h1,h2⟩:=List.any_eq_true.1 h
   have e:=Ap.1 h2
   subst e
   exact hm h1
 rw [e]
 refine Al CI A5 (of_decide_eq_true rfl) ?_
 simp (disch:=omega) only [B8,go_sem,Ac,h,BT]
theorem GD:∀ (ns l:List ByteArray),l.length≤(Bm l ns).length
 | [],l=>by simp [Bm]
 | n :: ns,l=>by
  have h:=GD ns (Fx l n)
  have h2:l.length≤(Fx l n).length:=by unfold Fx; cases dec (n∈l) <;> simp
  simp only [Bm,z8] at h ⊢
  omega
def Ce:SC:=(.seq (.reg [⟨some 3,none,.boxv 31 2 (.t 1)⟩,⟨some 4,none,.mv (.c .nil)⟩]) (.seq (.seq (.reg [⟨some 7,none,.faddr 1 (.t 3)⟩,⟨some 8,none,.load false 1 (.t 7)⟩,⟨some 9,none,.len false (.t 8)⟩,⟨some 10,none,.bin .eql false (.t 9) (.c (.int .i64 0))⟩,⟨some 11,none,.mv (.t 10)⟩,⟨(some 12),(some (11,true)),(.load true 2 (.t 3))⟩,⟨(some 13),(some (11,true)),(.call 187 [(.t 12)])⟩,⟨some 14,none,.pick (.t 11) (.t 13) (.c (.bool false))⟩]) (.cond (.t 14) (.seq (.seq (.reg [⟨some 15,none,.mv (.t 0)⟩,⟨some 16,none,.faddr 0 (.t 3)⟩,⟨some 17,none,.load false 1 (.t 16)⟩,⟨some 18,none,.call 180 [(.t 15),(.t 17)]⟩,⟨some 19,none,.un .not (.t 18)⟩]) (.cond (.t 19) (.reg [⟨some 20,none,.mv (.t 0)⟩,⟨some 21,none,.faddr 0 (.t 3)⟩,⟨some 22,none,.load false 1 (.t 21)⟩,⟨(some 23),none,(.mkrow 9 1 [(.str ⟨#[]⟩)] 1 [(0,(.t 22))])⟩,⟨(some 24),none,(.append 9 1 16 [(.str ⟨#[]⟩)] (.t 20) (.t 23))⟩,⟨some 0,none,.mv (.t 24)⟩]) .skip)) (.seq (.reg [⟨some 25,none,.mv (.t 0)⟩,⟨some 4,none,.mv (.t 25)⟩]) .ret)) .skip)) (.seq (.seq (.reg [⟨some 26,none,.faddr 1 (.t 3)⟩,⟨some 27,none,.load false 1 (.t 26)⟩,⟨some 28,none,.len false (.t 27)⟩,⟨some 29,none,.mv (.c (.int .i64 0))⟩]) (.block 0 (.loop [1,0,0,0,0,0,0,0,0,0,0,0,0,0,0,0,0,0,0,0,0,0,0,0,0,0,0,1,1,1,0,0,0,0,0,0,0,0] (.seq (.reg [⟨some 30,none,.bin .lss false (.t 29) (.t 28)⟩]) (.seq (.cond (.t 30) .skip (.exit 0)) (.seq (.block 1 (.seq (.reg [⟨some 31,none,.iaddr 2 (.t 27) (.t 29)⟩,⟨some 32,none,.load true 2 (.t 31)⟩,⟨(some 6),none,(.alloc 31 [(.str ⟨#[]⟩),.nil])⟩,⟨none,none,(.store 2 (.t 6) (.t 32))⟩]) (.reg [⟨some 33,none,.mv (.t 0)⟩,⟨some 34,none,.load true 2 (.t 6)⟩,⟨some 35,none,.call 191 [(.t 33),(.t 34)]⟩,⟨some 0,none,.mv (.t 35)⟩]))) (.reg [⟨some 36,none,.bin .add false (.t 29) (.c (.int .i64 1))⟩,⟨some 29,none,.mv (.t 36)⟩]))))))) (.seq (.reg [⟨some 37,none,.mv (.t 0)⟩,⟨some 4,none,.mv (.t 37)⟩]) .ret))))
theorem CD:codeOf Tryz.prog 191=some ⟨38,Ce,[(.tmp 4)]⟩:=by kernel_rfl
theorem Bt:modes 191=⟨[true],.asis,none,false⟩:=by unfold modes; rfl
abbrev Tk (x:Tm):Prop:=∀ l:List ByteArray,l.length+x.nodes≤1048576→E 191 [.ref 0,x.sv] [.row 9 1 (l.map fun s=>[OT.str s])]=some ((bif dec (l.length<(Bm l x.vs).length) then .ref 1 else .ref 0),(bif dec (l.length<(Bm l x.vs).length) then [.gone,.row 9 1 ((Bm l x.vs).map fun s=>[OT.str s])] else [.row 9 1 ((Bm l x.vs).map fun s=>[OT.str s])]))
theorem Lg (x:Tm) (hva:Bk x.name=true→x.args=[]) (hc:x.cok=true) (ih:∀ y∈x.args,Tk y):Tk x:=by
 intro l hn
 have hl:=Tm.length_le x.args
 have hne:=Tm.nodes_eq x
 have hv:=U7 x hc
 have hvs:=Tm.QG x
 rcases yP x.args.length with h0 | h0
 ·have hx0:x.args=[]:=zK h0
  have hz:((x.args.length:Int)=0)=True:=by rw [hx0]; simp
  cases hvv:Bk x.name with
  | true =>
   rw [hvv] at hv hvs
   have h1:=Ge l x.name (by omega)
   rw [hvs]
   cases hm:dec (x.name∈l) with
   | true =>
    have e:Bm l [x.name]=l:=by simp only [Bm,z8,List.foldl_nil,Fx,hm,cond_true]
    rw [hm] at h1
    simp only [cond_true,e]
    refine Al CD Bt (of_decide_eq_true rfl) ?_
    simp (disch:=omega) only [Ce,go_sem,Ac,hz,hv,h1,D7,A5]
   | false =>
    have e:Bm l [x.name]=l++[x.name]:=by simp only [Bm,z8,List.foldl_nil,Fx,hm,cond_false]
    have hg:l.length<(l++[x.name]).length:=by simp
    rw [hm] at h1
    simp only [cond_true,e,A3 hg]
    refine Al CD Bt (of_decide_eq_true rfl) ?_
    simp (disch:=omega) only [Ce,go_sem,Ac,hz,hv,h1,D7,A5]
    simp only [yX,zE,yT]
  | false =>
   rw [hvv] at hv hvs
   have e:Bm l x.vs=l:=by rw [hvs,hx0]; simp only [cond_false,Tm.vsL]; rfl
   rw [e]
   refine Al CD Bt (of_decide_eq_true rfl) ?_
   simp (disch:=omega) only [Ce,go_sem,Ac,hz,hv,D7]
   refine go_loop (α:=Int) (fun a=>⟨slots 38 0 [(0,.ref 0),(27,.arr (x.args.map Tm.d)),(28,.int .i64 x.args.length),(29,.int .i64 a)],[.row 9 1 (l.map fun s=>[OT.str s])]⟩) (fun a=>∃ k:Nat,a=k∧k≤(x.args).length) (fun a=>(x.args).length-(a).toNat) 0 ⟨0,rfl,zR _⟩ (by simp (disch:=omega) only [go_sem,Ac]) ?_
   rintro i ⟨k,hi,hk⟩
   have hni:i.toNat=k:=by omega
   have hni1:(i+1).toNat=k+1:=by omega
   rcases zL k (x.args).length with hlt | hge
   ·omega
   ·simp (disch:=omega) only [go_sem,Ac,hni]
 ·have hz:((x.args.length:Int)=0)=False:=eq_false (by omega)
  have hvv:Bk x.name=false:=by
   cases h:Bk x.name with
   | false=>rfl
   | true=>rw [hva h] at h0; simp at h0
  rw [hvv] at hvs
  simp only [cond_false] at hvs
  rw [hvs]
  refine Al CD Bt (of_decide_eq_true rfl) ?_
  simp (disch:=omega) only [Ce,go_sem,Ac,hz]
  refine go_loop (α:=Int × (List ByteArray)) (fun a=>⟨slots 38 0 [(0,(bif dec (l.length<(a.2).length) then .ref 1 else .ref 0)),(27,.arr (x.args.map Tm.d)),(28,.int .i64 x.args.length),(29,.int .i64 (a.1))],(bif dec (l.length<(a.2).length) then [.gone,.row 9 1 ((a.2).map fun s=>[OT.str s])] else [.row 9 1 ((a.2).map fun s=>[OT.str s])])⟩) (fun a=>∃ k:Nat,a.1=k∧k≤(x.args).length∧Bm (a.2) (Tm.vsL (x.args.drop k))=Bm l (Tm.vsL x.args)∧(a.2).length+Tm.nodeS (x.args.drop k)≤1048576∧l.length≤(a.2).length) (fun a=>(x.args).length-(a.1).toNat) (0,l) ⟨0,rfl,zR _,by rw [zO],by rw [zO]; dsimp only; omega,yW _⟩ (by simp (disch:=omega) only [go_sem,Ac]) ?_
  rintro ⟨i,acc⟩ ⟨k,hi,hk,hR⟩
  dsimp only at hi hR
  have hni:i.toNat=k:=by omega
  have hni1:(i+1).toNat=k+1:=by omega
  rcases zL k (x.args).length with hlt | hge
  ·have hg:=get_at Tm.d hlt
   rw [Tm.d_eq] at hg
   obtain ⟨hR1,hR2,hR3⟩:=hR
   rw [zF hlt,Tm.vsL,Lf] at hR1
   rw [zF hlt,Tm.nodeS] at hR2
   have hc:=ih x.args[k] (zN hlt) acc (by omega)
   have hlen:=Fa x.args[k].vs acc
   have hgr:=GD x.args[k].vs acc
   have hvl:=Tm.HE x.args[k]
   obtain ⟨acc2,ha2⟩:∃ a,a=Bm acc x.args[k].vs:=⟨_,rfl⟩
   rw [←ha2] at hc hlen hgr hR1
   rcases zL l.length acc.length with q1 | q1 <;> rcases zL acc.length acc2.length with q2 | q2
   all_goals
    first
     |rw [A3 q2] at hc
     |rw [An (Nat.not_lt.2 q2)] at hc
    simp only [cond_true,cond_false] at hc
    simp (disch:=omega) only [go_sem,Ac,hni,hg,hc,Bt]
    refine ⟨(i+1,acc2),⟨k+1,by dsimp only; omega,hlt,hR1,by dsimp only; omega,by dsimp only; omega⟩,by dsimp only; omega,?_⟩
    first | done | simp (disch:=omega) only [go_sem,Ac]
  ·rw [zI hge,Tm.vsL] at hR
   obtain ⟨hR1,hR2,hR3⟩:=hR
   have hR1:acc=Bm l (Tm.vsL x.args):=hR1
   rw [←hR1]
   rcases zL l.length acc.length with q1 | q1
   ·simp (disch:=omega) only [go_sem,Ac,hni]
   ·simp (disch:=omega) only [go_sem,Ac,hni]
theorem MR (x:Tm) (hx:x.names=true) (hc:x.cok=true):Tk x :=
 Lg x (fun h=>Tm.MD hx h) hc fun y hy=>MR y (Tm.IU hx hy) (by rw [Tm.Qa,zB] at hc; exact Tm.Tf hc.2 hy)
termination_by SizeOf.sizeOf x
decreasing_by exact Tm.lt_of_mem hy
noncomputable def N7 (l:List ByteArray):List ByteArray:=(srt (l.map (·.toList))).map fun x=>⟨x.toArray⟩
theorem RD (l:List ByteArray):(N7 l).Perm l:=by
 unfold N7
 have h:(srt (l.map (·.toList))).Perm (l.map (·.toList)):=List.mergeSort_perm _ _
 have h2:=h.map fun x:List UInt8=>(⟨x.toArray⟩:ByteArray)
 rw [yR] at h2
 have e:((fun x:List UInt8=>(⟨x.toArray⟩:ByteArray)) ∘ fun x:ByteArray=>x.toList)=id:=by
  funext x
  exact H2 x
 rw [e,List.map_id] at h2
 exact h2
theorem AG:modes 160=⟨[true],.asis,some sortStr,false⟩:=by unfold modes; rfl
theorem QJ (l:List ByteArray) (hl:l.length≤1099511627776):E 160 [.ref 0] [.row 9 1 (l.map fun s=>[OT.str s])]=some (.tup [],[.row 9 1 ((N7 l).map fun s=>[OT.str s])]):=by
 rw [N0 (g:=sortStr) (congrArg FM.ext AG)]
 unfold sortStr
 simp only
 rw [A3 ⟨by first | trivial | rfl,fun e he=>by obtain ⟨s,_,rfl⟩:=List.mem_map.1 he; exact ⟨s,rfl⟩,by simpa using hl⟩,cond_true]
 have e1:(l.map fun s=>[OT.str s]).map (fun e=>(PH e).toList)=l.map (·.toList):=by rw [yR]; rfl
 rw [e1]
 unfold N7
 rw [yR]
 rfl
noncomputable def Tm.vars (x:Tm):List ByteArray:=N7 (Bm [] x.vs)
def Db:SC:=(.seq (.reg [⟨some 1,none,.boxv 31 2 (.t 0)⟩,⟨some 2,none,.mv (.c .nil)⟩]) (.seq (.reg [⟨(some 4),none,(.mkrow 9 1 [(.str ⟨#[]⟩)] 0 [])⟩,⟨some 5,none,.load true 2 (.t 1)⟩,⟨some 6,none,.call 191 [(.t 4),(.t 5)]⟩,⟨some 3,none,.mv (.t 6)⟩]) (.seq (.reg [⟨some 7,none,.mv (.t 3)⟩,⟨some 8,none,.call 160 [(.t 7)]⟩]) (.seq (.reg [⟨some 9,none,.mv (.t 3)⟩,⟨some 2,none,.mv (.t 9)⟩]) .ret))))
theorem Fb:codeOf Tryz.prog 202=some ⟨10,Db,[(.tmp 2)]⟩:=by kernel_rfl
theorem Dc:modes 202=⟨[],.asis,none,false⟩:=by unfold modes; rfl
theorem N8 (x:Tm) (hcol:Tk x) (hn:x.nodes≤1048576):E 202 [x.sv] []=some (.ref 0,[.row 9 1 (x.vars.map fun s=>[OT.str s])]):=by
 have h1:=hcol [] (by simpa using hn)
 have hl:=Fa x.vs []
 have hv:=Tm.HE x
 rw [zW,yZ] at hl
 have h2:=QJ (Bm [] x.vs) (by omega)
 rw [yT,zW] at h1
 unfold Tm.vars
 rcases zL 0 (Bm [] x.vs).length with q | q
 ·rw [A3 q] at h1
  simp only [cond_true] at h1
  refine Al Fb Dc (of_decide_eq_true rfl) ?_
  simp (disch:=omega) only [Db,go_sem,Ac,h1,h2,Bt,AG]
 ·rw [An (by omega)] at h1
  simp only [cond_false] at h1
  refine Al Fb Dc (of_decide_eq_true rfl) ?_
  simp (disch:=omega) only [Db,go_sem,Ac,h1,h2,Bt,AG]
theorem Qc (x:Tm) (h:x.atom=true):Tk x :=
 Lg x (Tm.GC h).1 (Tm.Tg h) fun y hy=>MR y ((Tm.GC h).2 y hy) (Tm.Ja y ((Tm.GC h).2 y hy))
theorem Lh:∀ {xs:List ByteArray} {n m:ByteArray},m∈CH xs n ↔ m∈xs∨m=n
 | [],n,m=>by simp [CH]
 | x :: xs,n,m=>by
  rw [CH]
  cases strLt x n with
  | true=>rw [cond_true,zP,Lh,zP,or_assoc]
  | false =>
   rw [cond_false]
   by_cases h:x=n
   ·rw [A3 h,cond_true]
    exact ⟨.inl,fun h'=>h'.elim id fun e=>by subst e; subst h; simp⟩
   ·rw [An h,cond_false,zP]
    exact or_comm
theorem Li:∀ (xs:List ByteArray) (n:ByteArray),(CH xs n).length≤xs.length+1
 | [],n=>by simp [CH]
 | x :: xs,n=>by
  have h:=Li xs n
  rw [CH]
  cases strLt x n with
  | true=>simp only [cond_true,zM]; omega
  | false =>
   rw [cond_false]
   cases dec (x=n) with
   | true=>simp only [cond_true,zM]; omega
   | false=>simp only [cond_false,zM]; omega
theorem QK:∀ (xs:List ByteArray) (n:ByteArray),BG xs n≤xs.length
 | [],n=>by simp [BG]
 | x :: xs,n=>by
  have h:=QK xs n
  rw [BG]
  cases strLt x n with
  | true=>simp only [cond_true,zM]; omega
  | false=>simp only [cond_false,zM]; omega
theorem Lj:∀ {xs:List ByteArray} {n:ByteArray} (h:BG xs n<xs.length),xs[BG xs n]=n→CH xs n=xs
 | [],n,h,_=>by simp at h
 | x :: xs,n,h,e=>by
  rw [CH]
  cases hq:strLt x n with
  | true =>
   simp only [BG,hq,cond_true,zM,yA] at h e
   rw [cond_true,Lj (by omega) e]
  | false =>
   simp only [BG,hq,cond_false,zY] at e
   rw [cond_false,A3 e]; rfl
theorem Lk:∀ {xs:List ByteArray} {n:ByteArray},(∀ h:BG xs n<xs.length,¬ xs[BG xs n]=n)→CH xs n=xs.take (BG xs n)++n :: xs.drop (BG xs n)
 | [],n,_=>by simp [CH,BG]
 | x :: xs,n,h=>by
  rw [CH]
  cases hq:strLt x n with
  | true =>
   simp only [BG,hq,cond_true,zM,yA] at h ⊢
   rw [Lk fun h'=>h (by omega)]
   simp
  | false =>
   simp only [BG,hq,cond_false,zY] at h ⊢
   rw [An (h (by simp))]
   simp
theorem RE {xs:List ByteArray} {n:ByteArray} {k:Nat} (h:k+BG (xs.drop k) n=BG xs n) (hk:k<xs.length):(strLt xs[k] n=true∧k+1+BG (xs.drop (k+1)) n=BG xs n)∨(strLt xs[k] n=false∧k=BG xs n):=by
 rw [zF hk,BG] at h
 cases hq:strLt xs[k] n with
 | true=>rw [hq,cond_true] at h; exact .inl ⟨rfl,by omega⟩
 | false=>rw [hq,cond_false] at h; exact .inr ⟨rfl,by omega⟩
theorem U8 (xs:List ByteArray) (k:Nat):((xs.map fun s=>[D.str s]).take k).map (fun x=>x.map D.ot)=(xs.take k).map fun s=>[OT.str s]:=by
 rw [←List.map_take,yR]; rfl
theorem U9 (xs:List ByteArray) (k:Nat):((xs.map fun s=>[D.str s]).drop k).map (fun x=>x.map D.ot)=(xs.drop k).map fun s=>[OT.str s]:=by
 rw [←List.map_drop,yR]; rfl
theorem N9 (xs:List ByteArray):((xs.map fun s=>[OT.str s]).all fun l=>l.length == 1)=true:=by
 rw [List.all_map,zZ]
 intro x _; rfl
theorem OM (xs:List ByteArray):((xs.map fun s=>[D.str s]).all fun l=>l.length == 1)=true:=by
 rw [List.all_map,zZ]
 intro x _; rfl
def Ik:SC:=(.seq (.reg [⟨some 4,none,.mv (.c .nil)⟩]) (.seq (.reg [⟨some 5,none,.mv (.c (.int .i64 0))⟩]) (.seq (.block 0 (.loop [1,1,0,0,0,1,0,0,0,0,0,0,0,0,0,0,0,0,0,0,0,0,0,0,0,0,0,0,0,0,0,0,0,0,0,0,0,0,0,0,0,0,0,0,0] (.seq (.seq (.reg [⟨some 6,none,.mv (.t 5)⟩,⟨some 7,none,.mv (.t 0)⟩,⟨some 8,none,.len false (.t 7)⟩,⟨some 9,none,.bin .lss false (.t 6) (.t 8)⟩,⟨some 10,none,.mv (.t 9)⟩,⟨(some 11),(some (10,true)),(.mv (.t 0))⟩,⟨(some 12),(some (10,true)),(.mv (.t 5))⟩,⟨(some 13),(some (10,true)),(.iaddr 1 (.t 11) (.t 12))⟩,⟨(some 14),(some (10,true)),(.load false 1 (.t 13))⟩,⟨(some 15),(some (10,true)),(.mv (.t 1))⟩,⟨(some 16),(some (10,true)),(.bin .lss false (.t 14) (.t 15))⟩,⟨some 17,none,.pick (.t 10) (.t 16) (.c (.bool false))⟩]) (.cond (.t 17) .skip (.exit 0))) (.block 1 (.reg [⟨some 18,none,.mv (.t 5)⟩,⟨some 19,none,.bin .add false (.t 18) (.c (.int .i64 1))⟩,⟨some 5,none,.mv (.t 19)⟩]))))) (.seq (.seq (.reg [⟨some 20,none,.mv (.t 5)⟩,⟨some 21,none,.mv (.t 0)⟩,⟨some 22,none,.len false (.t 21)⟩,⟨some 23,none,.bin .lss false (.t 20) (.t 22)⟩,⟨some 24,none,.mv (.t 23)⟩,⟨(some 25),(some (24,true)),(.mv (.t 0))⟩,⟨(some 26),(some (24,true)),(.mv (.t 5))⟩,⟨(some 27),(some (24,true)),(.iaddr 1 (.t 25) (.t 26))⟩,⟨(some 28),(some (24,true)),(.load false 1 (.t 27))⟩,⟨(some 29),(some (24,true)),(.mv (.t 1))⟩,⟨(some 30),(some (24,true)),(.bin .eql false (.t 28) (.t 29))⟩,⟨some 31,none,.pick (.t 24) (.t 30) (.c (.bool false))⟩]) (.cond (.t 31) (.seq (.reg [⟨some 32,none,.mv (.t 0)⟩,⟨some 4,none,.mv (.t 32)⟩]) .ret) .skip)) (.seq (.dreg [[],[],[],[1,2],[0,3,1,2],[],[5],[4,0,3,1,2,6,5],[],[],[8,9],[7,4,0,3,1,2,6,5,10,8,9],[11,7,4,0,3,1,2,6,5,10,8,9]] [⟨(some 33),none,(.mkrow 9 1 [(.str ⟨#[]⟩)] 0 [])⟩,⟨some 34,none,.mv (.t 0)⟩,⟨some 35,none,.mv (.t 5)⟩,⟨some 36,none,.slice false 1 (.t 34) none (some (.t 35))⟩,⟨(some 37),none,(.append 9 1 16 [(.str ⟨#[]⟩)] (.t 33) (.t 36))⟩,⟨some 38,none,.mv (.t 1)⟩,⟨(some 39),none,(.mkrow 9 1 [(.str ⟨#[]⟩)] 1 [(0,(.t 38))])⟩,⟨(some 40),none,(.append 9 1 16 [(.str ⟨#[]⟩)] (.t 37) (.t 39))⟩,⟨some 41,none,.mv (.t 0)⟩,⟨some 42,none,.mv (.t 5)⟩,⟨some 43,none,.slice false 1 (.t 41) (some (.t 42)) none⟩,⟨(some 44),none,(.append 9 1 16 [(.str ⟨#[]⟩)] (.t 40) (.t 43))⟩,⟨some 4,none,.mv (.t 44)⟩]) .ret)))))
theorem NA:codeOf Tryz.prog 198=some ⟨45,Ik,[(.tmp 4)]⟩:=by kernel_rfl
theorem D8:modes 198=⟨[],.frz,none,false⟩:=by unfold modes; rfl
theorem QL (xs:List ByteArray) (n:ByteArray) (hl:xs.length≤1048576):E 198 [.arr (xs.map fun s=>[D.str s]),.str n] []=some (.arr ((CH xs n).map fun s=>[D.str s]),[]):=by
 have e1:=U8 xs (BG xs n)
 have e2:=U9 xs (BG xs n)
 have e3:=N9 (xs.take (BG xs n))
 have e4:=N9 (xs.drop (BG xs n))
 have e5:=OM xs
 have l1:=QK xs n
 have e6:(xs.map fun s=>[D.str s]).take xs.length=xs.map fun s=>[D.str s]:=List.take_of_length_le (by simp)
 have e7:(xs.take (BG xs n)).length=BG xs n:=by rw [List.length_take]; omega
 have e8:(xs.drop (BG xs n)).length=xs.length-BG xs n:=List.length_drop
 have hf:∀ ys:List ByteArray,ys=CH xs n→(ys.map fun s=>[OT.str s])=(CH xs n).map fun s=>[OT.str s]:=fun ys h=>by rw [h]
 refine Al NA D8 (of_decide_eq_true rfl) ?_
 simp (disch:=omega) only [Ik,go_sem,Ac]
 refine go_loop (α:=Int) (fun a=>⟨slots 45 0 [(0,.arr (xs.map fun s=>[D.str s])),(1,.str n),(5,.int .i64 a)],[]⟩) (fun a=>∃ k:Nat,a=k∧k≤(xs).length∧k+BG (xs.drop k) n=BG xs n) (fun a=>(xs).length-(a).toNat) 0 ⟨0,rfl,zR _,by rw [zO,yZ]⟩ (by simp (disch:=omega) only [go_sem,Ac]) ?_
 rintro i ⟨k,hi,hk,hR⟩
 have hni:i.toNat=k:=by omega
 have hni1:(i+1).toNat=k+1:=by omega
 rcases zL k (xs).length with hlt | hge
 ·have hg:=get_at (fun s=>[D.str s]) hlt
  rcases RE hR hlt with ⟨q,hR'⟩ | ⟨q,hk'⟩
  ·simp (disch:=omega) only [go_sem,Ac,hni,hg,q]
   exact ⟨i+1,⟨k+1,by omega,hlt,hR'⟩,by omega,by first | trivial | rfl⟩
  ·subst hk'
   by_cases h0:xs[BG xs n]=n
   ·have hi0:=Lj hlt h0
    rw [hi0]
    simp (disch:=omega) only [go_sem,Ac,hni,hg,q,h0,e6,Ld,C8]
   ·have hi0:=Lk (fun _=>h0)
    have hx:(xs.take (BG xs n)).map (fun s=>[OT.str s])++([[OT.str n]]++(xs.drop (BG xs n)).map (fun s=>[OT.str s]))=(CH xs n).map fun s=>[OT.str s]:=by rw [hi0]; simp
    have hx2:(xs.take (BG xs n)).map (fun s=>[OT.str s])++[[OT.str n]]++(xs.drop (BG xs n)).map (fun s=>[OT.str s])=(CH xs n).map fun s=>[OT.str s]:=by rw [hi0]; simp
    simp (disch:=omega) only [go_sem,Ac,hni,hg,q,h0,e1,e2,e3,e4,e5,e6,e7,e8,hx2,yQ,Int.toNat_zero]
 ·obtain rfl:k=xs.length:=by omega
  have hk':xs.length=BG xs n:=by rw [←hR,zI (yW _)]; simp [BG]
  have hi0:=Lk (xs:=xs) (n:=n) (fun h=>by omega)
  have hx2:(xs.take (BG xs n)).map (fun s=>[OT.str s])++[[OT.str n]]++(xs.drop (BG xs n)).map (fun s=>[OT.str s])=(CH xs n).map fun s=>[OT.str s]:=by rw [hi0]; simp
  rw [hk'] at hni
  simp (disch:=omega) only [go_sem,Ac,hni,e1,e2,e3,e4,e5,e6,e7,e8,hx2,yQ,Int.toNat_zero]
theorem Ds:∀ (ns l:List ByteArray),(BL l ns).length≤l.length+ns.length
 | [],l=>by simp [BL]
 | n :: ns,l=>by
  have h:=Ds ns (CH l n)
  have h2:=Li l n
  simp only [BL,z8,zM] at h ⊢
  omega
theorem Il:∀ {ns l:List ByteArray} {m:ByteArray},m∈BL l ns ↔ m∈l∨m∈ns
 | [],l,m=>by simp [BL]
 | n :: ns,l,m=>by
  have h:=Il (ns:=ns) (l:=CH l n) (m:=m)
  simp only [BL,z8] at h ⊢
  rw [h,Lh]
  simp only [zP]
  exact or_assoc
theorem Ll (l a b:List ByteArray):BL l (a++b)=BL (BL l a) b:=y4
def EA:SC:=(.seq (.reg [⟨some 3,none,.boxv 31 2 (.t 1)⟩,⟨some 4,none,.mv (.c .nil)⟩]) (.seq (.seq (.reg [⟨some 6,none,.faddr 0 (.t 3)⟩,⟨some 7,none,.load false 1 (.t 6)⟩,⟨some 8,none,.call 118 [(.t 7)]⟩]) (.cond (.t 8) (.seq (.reg [⟨some 9,none,.mv (.t 0)⟩,⟨some 10,none,.faddr 0 (.t 3)⟩,⟨some 11,none,.load false 1 (.t 10)⟩,⟨some 12,none,.call 198 [(.t 9),(.t 11)]⟩,⟨some 4,none,.mv (.t 12)⟩]) .ret) .skip)) (.seq (.seq (.reg [⟨some 5,none,.mv (.c (.int .i64 0))⟩]) (.block 0 (.loop [1,0,0,1,0,1,0,0,0,0,0,0,0,0,0,0,0,0,0,0,0,0,0,0,0,0,0,0] (.seq (.seq (.reg [⟨some 13,none,.mv (.t 5)⟩,⟨some 14,none,.faddr 1 (.t 3)⟩,⟨some 15,none,.load false 1 (.t 14)⟩,⟨some 16,none,.len false (.t 15)⟩,⟨some 17,none,.bin .lss false (.t 13) (.t 16)⟩]) (.cond (.t 17) .skip (.exit 0))) (.seq (.block 1 (.reg [⟨some 20,none,.mv (.t 0)⟩,⟨some 21,none,.faddr 1 (.t 3)⟩,⟨some 22,none,.load false 1 (.t 21)⟩,⟨some 23,none,.mv (.t 5)⟩,⟨some 24,none,.iaddr 2 (.t 22) (.t 23)⟩,⟨some 25,none,.load true 2 (.t 24)⟩,⟨some 26,none,.call 185 [(.t 20),(.t 25)]⟩,⟨some 0,none,.mv (.t 26)⟩])) (.reg [⟨some 18,none,.mv (.t 5)⟩,⟨some 19,none,.bin .add false (.t 18) (.c (.int .i64 1))⟩,⟨some 5,none,.mv (.t 19)⟩])))))) (.seq (.reg [⟨some 27,none,.mv (.t 0)⟩,⟨some 4,none,.mv (.t 27)⟩]) .ret))))
theorem Hd:codeOf Tryz.prog 185=some ⟨28,EA,[(.tmp 4)]⟩:=by kernel_rfl
theorem Dh:modes 185=⟨[],.asis,none,false⟩:=by unfold modes; rfl
def He:SC:=(.seq (.reg [⟨some 1,none,.boxv 31 2 (.t 0)⟩,⟨some 2,none,.mv (.c .nil)⟩]) (.seq (.reg [⟨(some 3),none,(.mkrow 9 1 [(.str ⟨#[]⟩)] 0 [])⟩,⟨some 4,none,.load true 2 (.t 1)⟩,⟨some 5,none,.call 185 [(.t 3),(.t 4)]⟩,⟨some 2,none,.mv (.t 5)⟩]) .ret))
theorem LM:codeOf Tryz.prog 196=some ⟨6,He,[(.tmp 2)]⟩:=by kernel_rfl
theorem Hf:modes 196=⟨[],.frz,none,false⟩:=by unfold modes; rfl
abbrev Tn (x:Tm):Prop:=∀ l:List ByteArray,l.length+x.nodes≤1048576→E 185 [.arr (l.map fun s=>[D.str s]),x.sv] []=some (.arr ((BL l x.vs).map fun s=>[D.str s]),[])
theorem RF (x:Tm) (ih:∀ y∈x.args,Tn y):Tn x:=by
 intro l hn
 have hl:=Tm.length_le x.args
 have hne:=Tm.nodes_eq x
 have hvs:=Tm.QG x
 have hp:=QL l x.name (by omega)
 cases hvv:Bk x.name with
 | true =>
  rw [hvv] at hvs
  have e:BL l x.vs=CH l x.name:=by rw [hvs]; rfl
  rw [e]
  refine Al Hd Dh (of_decide_eq_true rfl) ?_
  simp (disch:=omega) only [EA,go_sem,Ac,hvv,hp,Ak,Eh,D8]
 | false =>
  rw [hvv] at hvs
  simp only [cond_false] at hvs
  rw [hvs]
  refine Al Hd Dh (of_decide_eq_true rfl) ?_
  simp (disch:=omega) only [EA,go_sem,Ac,hvv,Ak,Eh]
  refine go_loop (α:=Int × (List ByteArray)) (fun a=>⟨slots 28 0 [(0,.arr ((a.2).map fun s=>[D.str s])),(3,.ptr 0 0),(5,.int .i64 (a.1))],[.box 31 [.str x.name,.arr (x.args.map Tm.d)]]⟩) (fun a=>∃ k:Nat,a.1=k∧k≤(x.args).length∧BL (a.2) (Tm.vsL (x.args.drop k))=BL l (Tm.vsL x.args)∧(a.2).length+Tm.nodeS (x.args.drop k)≤1048576) (fun a=>(x.args).length-(a.1).toNat) (0,l) ⟨0,rfl,zR _,by rw [zO],by rw [zO]; dsimp only; omega⟩ (by simp (disch:=omega) only [go_sem,Ac]) ?_
  rintro ⟨i,acc⟩ ⟨k,hi,hk,hR⟩
  dsimp only at hi hR
  have hni:i.toNat=k:=by omega
  have hni1:(i+1).toNat=k+1:=by omega
  rcases zL k (x.args).length with hlt | hge
  ·have hg:=get_at Tm.d hlt
   rw [Tm.d_eq] at hg
   obtain ⟨hR1,hR2⟩:=hR
   rw [zF hlt,Tm.vsL,Ll] at hR1
   rw [zF hlt,Tm.nodeS] at hR2
   have hc:=ih x.args[k] (zN hlt) acc (by omega)
   have hlen:=Ds x.args[k].vs acc
   have hvl:=Tm.HE x.args[k]
   simp (disch:=omega) only [go_sem,Ac,hni,hg,hc,Dh]
   exact ⟨(i+1,BL acc x.args[k].vs),⟨k+1,by dsimp only; omega,hlt,hR1,by dsimp only; omega⟩,by dsimp only; omega,by first | trivial | rfl⟩
  ·rw [zI hge,Tm.vsL] at hR
   obtain ⟨hR1,hR2⟩:=hR
   have hR1:acc=BL l (Tm.vsL x.args):=hR1
   rw [←hR1]
   simp (disch:=omega) only [go_sem,Ac,hni]
theorem ON (x:Tm):Tn x:=RF x fun y hy=>ON y
termination_by SizeOf.sizeOf x
decreasing_by exact Tm.lt_of_mem hy
theorem To (x:Tm) (hn:x.nodes≤1048576):E 196 [x.sv] []=some (.arr ((BL [] x.vs).map fun s=>[D.str s]),[]):=by
 have h:=ON x [] (by simpa using hn)
 rw [yT] at h
 refine Al LM Hf (of_decide_eq_true rfl) ?_
 simp (disch:=omega) only [He,go_sem,Ac,h,Dh]
theorem Lm:∀ x y:List UInt8,Op.bytesLess x y=true→Op.bytesLess y x=false
 | [],[],h=>by simp [Op.bytesLess] at h
 | [],_ :: _,_=>rfl
 | _ :: _,[],h=>by simp [Op.bytesLess] at h
 | a :: x,b :: y,h=>by
  simp only [Op.bytesLess,yC,decide_eq_true_eq,zB,beq_iff_eq] at h
  simp only [Op.bytesLess,Bool.or_eq_false_iff,decide_eq_false_iff_not]
  rcases h with h | ⟨rfl,h⟩
  ·have h2:¬ b<a:=by intro h3; exact absurd (UInt8.lt_trans h h3) (UInt8.lt_irrefl _)
   have h3:(b == a)=false:=by
    rw [beq_eq_false_iff_ne]; rintro rfl; exact UInt8.lt_irrefl _ h
   exact ⟨h2,by rw [h3]; rfl⟩
  ·exact ⟨UInt8.lt_irrefl _,by rw [Lm x y h]; simp⟩
theorem Ln:∀ x y:List UInt8,Op.bytesLess x y=false→Op.bytesLess y x=false→x=y
 | [],[],_,_=>rfl
 | [],_ :: _,h,_=>by simp [Op.bytesLess] at h
 | _ :: _,[],_,h=>by simp [Op.bytesLess] at h
 | a :: x,b :: y,h,k=>by
  simp only [Op.bytesLess,Bool.or_eq_false_iff,decide_eq_false_iff_not] at h k
  have hab:a=b:=by
   have h1:=h.1; have h2:=k.1
   rw [UInt8.lt_iff_toNat_lt] at h1 h2
   exact UInt8.toNat_inj.1 (by omega)
  subst hab
  have h1:Op.bytesLess x y=false:=by simpa using h.2
  have h2:Op.bytesLess y x=false:=by simpa using k.2
  rw [Ln x y h1 h2]
theorem OO {a b:ByteArray} (h:strLt a b=true):strLt b a=false:=Lm _ _ h
theorem J8 {a b:ByteArray} (h:strLt a b=false) (h':strLt b a=false):a=b:=IF (Ln _ _ h h')
theorem Lo:∀ x y z:List UInt8,Op.bytesLess x y=true→Op.bytesLess y z=true→Op.bytesLess x z=true
 | _,_,[],_,h=>by simp [Op.bytesLess] at h
 | [],[],_ :: _,h,_=>by simp [Op.bytesLess] at h
 | [],_ :: _,_ :: _,_,_=>rfl
 | _ :: _,[],_ :: _,h,_=>by simp [Op.bytesLess] at h
 | a :: x,b :: y,c :: z,h,k=>by
  simp only [Op.bytesLess,yC,decide_eq_true_eq,zB,beq_iff_eq] at h k ⊢
  rcases h with h | ⟨rfl,h⟩
  ·rcases k with k | ⟨rfl,k⟩
   ·exact .inl (UInt8.lt_trans h k)
   ·exact .inl h
  ·rcases k with k | ⟨rfl,k⟩
   ·exact .inl k
   ·exact .inr ⟨rfl,Lo x y z h k⟩
theorem OP {a b c:ByteArray} (h:strLt a b=true) (k:strLt b c=true):strLt a c=true:=Lo _ _ _ h k
theorem QM:∀ x y:List UInt8,Op.bytesLess x y=true ↔ x<y
 | [],[]=>by simp [Op.bytesLess]
 | [],b :: y=>by simp [Op.bytesLess]
 | a :: x,[]=>by simp [Op.bytesLess]
 | a :: x,b :: y=>by
  have h:=QM x y
  rw [List.cons_lt_cons_iff,← h]
  simp only [Op.bytesLess,yC,decide_eq_true_eq,zB,beq_iff_eq]
theorem Tp (a b:ByteArray):strLt a b=true ↔ a.toList<b.toList:=QM _ _
theorem MS (n:ByteArray):∀ xs:List ByteArray,xs.Pairwise (fun x y=>strLt x y=true)→(CH xs n).Pairwise fun x y=>strLt x y=true
 | [],_=>by simp [CH]
 | x :: xs,h=>by
  rw [CH]
  rw [yB] at h
  cases hq:strLt x n with
  | true =>
   rw [cond_true,yB]
   refine ⟨fun y hy=>?_,MS n xs h.2⟩
   rcases Lh.1 hy with hy | rfl
   ·exact h.1 y hy
   ·exact hq
  | false =>
   rw [cond_false]
   by_cases he:x=n
   ·rw [A3 he,cond_true,yB]; exact h
   ·rw [An he,cond_false,yB,yB]
    have hn:strLt n x=true:=by
     cases hh:strLt n x with
     | true=>rfl
     | false=>exact absurd (J8 hq hh) he
    refine ⟨fun y hy=>?_,h⟩
    rcases zP.1 hy with rfl | hy
    ·exact hn
    ·exact OP hn (h.1 y hy)
theorem MT:∀ (ns xs:List ByteArray),xs.Pairwise (fun x y=>strLt x y=true)→(BL xs ns).Pairwise fun x y=>strLt x y=true
 | [],xs,h=>h
 | n :: ns,xs,h=>MT ns (CH xs n) (MS n xs h)
theorem Qd {xs:List ByteArray} (h:xs.Pairwise fun x y=>strLt x y=true):xs.Nodup :=
 h.imp fun {a b} hab e=>by rw [e,Ld] at hab; cases hab
theorem RG (l:List ByteArray):(N7 l).Pairwise fun x y=>strLt y x=false:=by
 unfold N7 srt
 rw [List.pairwise_map]
 have h:=List.pairwise_mergeSort (le:=fun x y:List UInt8=>decide (x≤y)) (fun a b c h k=>by
  rw [decide_eq_true_eq] at h k ⊢; exact List.le_trans h k) (fun a b=>by
  rw [yC,decide_eq_true_eq,decide_eq_true_eq]; exact List.le_total a b) (l.map (·.toList))
 refine h.imp fun {a b} hab=>?_
 rw [decide_eq_true_eq] at hab
 rw [y5]
 intro hh
 have:=(Tp _ _).1 hh
 rw [ByteArray.toList_eq,ByteArray.toList_eq] at this
 exact absurd this (List.not_lt.2 hab)
theorem MU (ns:List ByteArray):N7 (Bm [] ns)=BL [] ns:=by
 have h1:=MT ns [] List.Pairwise.nil
 have n1:=Qd h1
 have n2:(Bm [] ns).Nodup:=Le List.nodup_nil
 have hp:(N7 (Bm [] ns)).Perm (BL [] ns):=(RD _).trans ((List.perm_ext_iff_of_nodup n2 n1).2 fun a=>by rw [OL,Il])
 refine List.Perm.eq_of_pairwise (le:=fun x y=>strLt y x=false) (fun a b _ _ h k=>J8 k h) (RG _) (h1.imp fun h=>OO h) hp
theorem Fm.QN (x:Fm) (b:List ByteArray):x.fv b=bif dec (x.op=3) then (BL [] x.atom.vs).filter (fun n=>!dec (n∈b)) else Fm.fvL x.parts (bif qB x.op then b++[x.var] else b):=by
 obtain ⟨op,atom,var,parts⟩:=x
 rw [Fm.fv]; rfl
theorem Fm.QO {m:ByteArray} {b:List ByteArray}:∀ {xs:List Fm},m∈Fm.fvL xs b ↔ ∃ x∈xs,m∈x.fv b
 | []=>by simp [Fm.fvL]
 | x :: xs=>by rw [Fm.fvL,List.mem_append,Fm.QO (xs:=xs)]; simp
mutual
def Fm.vn:Fm→Nat
 | .mk _ atom _ parts=>atom.nodes+Fm.vnS parts
def Fm.vnS:List Fm→Nat
 | []=>0
 | x :: xs=>Fm.vn x+Fm.vnS xs
end
theorem Fm.QP (x:Fm):x.vn=x.atom.nodes+Fm.vnS x.parts:=by
 obtain ⟨op,atom,var,parts⟩:=x
 rw [Fm.vn]; rfl
theorem Fm.QR (b:List ByteArray):∀ xs:List Fm,(∀ x∈xs,(x.fv b).length≤x.vn)→(Fm.fvL xs b).length≤Fm.vnS xs
 | [],_=>by simp [Fm.fvL]
 | x :: xs,h=>by
  have h1:=h x (by simp)
  have h2:=Fm.QR b xs fun y hy=>h y (by simp [hy])
  rw [Fm.fvL,Fm.vnS,yQ]; omega
theorem Fm.HF (x:Fm):∀ b:List ByteArray,(x.fv b).length≤x.vn:=by
 intro b
 rw [Fm.QN,Fm.QP]
 cases dec (x.op=3) with
 | true =>
  simp only [cond_true]
  have h1:=List.length_filter_le (fun n=>!dec (n∈b)) (BL [] x.atom.vs)
  have h2:=Ds x.atom.vs []
  have h3:=Tm.HE x.atom
  simp only [zW] at h2
  omega
 | false =>
  simp only [cond_false]
  have h:=Fm.QR (bif qB x.op then b++[x.var] else b) x.parts fun y hy=>Fm.HF y _
  omega
termination_by SizeOf.sizeOf x
decreasing_by exact Fm.lt_of_mem hy
theorem Fm.Tq:∀ xs:List Fm,(∀ x∈xs,x.vn≤30*x.nodes)→Fm.vnS xs≤30*Fm.nodeS xs
 | [],_=>by simp [Fm.vnS]
 | x :: xs,h=>by
  have h1:=h x (by simp)
  have h2:=Fm.Tq xs fun y hy=>h y (by simp [hy])
  rw [Fm.vnS,Fm.nodeS]; omega
theorem Fm.Tr (x:Fm) (h:x.forms=true):x.vn≤30*x.nodes:=by
 have h1:=Fm.Tq x.parts fun y hy=>Fm.Tr y (Fm.DT h hy)
 have h2:=Fm.Kd (Fm.DU h)
 rw [Fm.QP,Fm.nodes_eq]; omega
termination_by SizeOf.sizeOf x
decreasing_by exact Fm.lt_of_mem hy
theorem Fm.Ts (x:Fm) (n:ByteArray):n∈x.free ↔ n∈x.fv []:=by unfold Fm.free; rw [Il]; simp
end Go.Proofs.YtkjpmfmjebkkiaaGreat
