/-
  Texts of this claim, one behind the other, each built on those ahead of it. No condition.
-/
import Derived.Test.YtkmenhhapfombaaGreatK29b
import Derived.Shelf.Slices.Clone
import Derived.Shelf.Sort.Plain
import Derived.Sort.EncStr
import Derived.Shelf.Lays
import Derived.Test.YtkmenhhapfombaaGreatChecked
import Derived.Shelf.Slices.In.SortNone
set_option maxHeartbeats 16000000
open Bool renaming and_eq_true → zA, and_self → zL, and_true → zW, or_eq_true → zY, true_and → yF, false_and → yI, and_false → yJ, or_eq_false_iff → yU, eq_false_iff → y2, false_or → y4
open List renaming map_cons → zB, eq_nil_of_length_eq_zero → zC, getElem_mem → zE, length_replicate → zF, drop_eq_getElem_cons → zG, replicate → zH, drop_eq_nil_of_le → zI, map_nil → zJ, length_cons → zM, drop_zero → zN, length_map → zQ, all_eq_true → zS, mem_cons → zT, getElem?_eq_getElem → zU, getElem_cons_succ → zX, length_nil → zZ, getElem_cons_zero → z6, foldl_cons → z7, map_map → z8, map_congr_left → yA, getElem_map → yB, pairwise_cons → yC, map_append → yD, nil_append → yE, getD_eq_getElem?_getD → yH, cons_append → yK, length_append → yM, take_succ_eq_append_getElem → yP, getElem?_eq_none → yQ, all_cons → yS, getElem_of_mem → yV, take_succ_cons → yW, any_cons → y3, length_take → y5, all_map → y7, take_zero → y9, range → xA
open Nat renaming lt_or_ge → zD, eq_zero_or_pos → zK, zero_le → zP, le_refl → yN, zero_add → yX, lt_of_lt_of_le → yZ, add_zero → y6, mul_one → y8
open Option.some renaming injEq → zO, inj → zR
open Prod.mk renaming injEq → zV, inj → yT
open Array renaming getD_eq_getD_getElem? → yG, getElem?_eq_getElem → yL, getElem?_eq_some_iff → yY
open Int renaming toNat_natCast → yO, toNat_zero → y0
open Option renaming getD_some → yR
set_option maxRecDepth 100000
set_option linter.unusedSimpArgs false
set_option linter.unusedVariables false
set_option linter.unusedSectionVars false
namespace Go.Proofs.YtkmenhhapfombaaGreat
open Go.RowKit
theorem H0 {w w':World} {I:Nat→Prop} {V:Nat→Option Value} {B:Nat→Nat→Prop} (hwf:Wf w I V B (Ap [])) (hbel:Below w.heap.size w w') {v:Value} {t:TypeId} {os:List OT} {vals:List Value} (hl:vals.length=os.length)
  (hown:w'.ownsRow w.heap.size t 1 v os.length vals) (hv:∀ i (h:i<os.length),ORep w' I (fun _=>False) os[i] (vals.getD i undef)) :
  ∃ V' B',RepV w' I V' (.ref 0) v∧FunPost w I V B [] [.row t 1 (os.map fun o=>[o])] w' I V' B':=by
 have hV0:V 0=none:=hwf.fr 0 rfl
 have hn:=hbel.size
 have gS:∀ (e:List (List OT)) (g:Nat),Ap [Ob.row t 1 e] (g+1)=.free:=fun _ _=>rfl
 obtain ⟨hx,hform⟩:=hown
 let B':Nat→Nat→Prop:=fun g b=>g=0∧w.heap.size≤b∧b<w'.heap.size∧∃ o n c,v=.slice (some ⟨b,o,none⟩) n c
 have hform2:∃ a n c,v=.slice a n c:=by
  rcases hform with ⟨rfl,_⟩ | ⟨g,cap,cur,rfl,_⟩
  ·exact ⟨_,_,_,rfl⟩
  ·exact ⟨_,_,_,rfl⟩
 have hrow:RowR w' I (B' 0) t 1 (os.map fun o=>[o]) v:=by
  rcases hform with ⟨rfl,h0⟩ | ⟨g,cap,cur,rfl,hg,hb,h1,h2,h3,h4⟩
  ·left
   have:os=[]:=zC h0
   subst this
   exact ⟨rfl,rfl⟩
  ·right
   have hlt:=(yY.1 hb).1
   refine ⟨g,cap,cur,fun _ _ _=>False,by rw [zQ],⟨rfl,hg,hlt,_,_,_,rfl⟩,hb,by rw [zQ]; exact h1,by unfold maxLen at h2; omega,h3,fun i hi=>by simp,fun _ _ _ h=>h.elim,fun _ _ _ _ _ h=>h.elim,fun i j hi hj=>?_⟩
   have hi':i<os.length:=by simpa using hi
   have hj0:j=0:=by simpa using hj
   subst hj0
   have e:cur.getD (i*1+0) undef=vals.getD i undef:=by
    have hc:i<cur.size:=by omega
    rw [←h4,y8,y6,yG,yH,List.getElem?_take]
    simp only [y8,hi',if_true,Array.getElem?_toList]
   rw [e]
   have:=hv i hi'
   simpa using this
 refine ⟨fun g=>if g=0 then some v else V g,B',?_,?_⟩
 ·simp only [RepV]
  exact ⟨by simp,by obtain ⟨a,n,c,e⟩:=hform2; rw [e]; rfl⟩
 ·refine ⟨⟨hbel.os,⟨hbel.tape,fun h=>False.elim h⟩,hbel.output,hn,fun x hx _=>hbel.block x hx⟩,fun x hx=>hx,fun x hx=>.inl hx,fun g u hu=>?_,⟨fun x hx=>yZ (hwf.ilt x hx) hn,fun g hl=>?_,fun g b hl hb=>hb.2.2.1,fun g b hl hb hI=>?_,fun g g' b hl hl' hb hb'=>?_,fun g hg=>?_,hwf.gl.keep ⟨hn,fun x _ hlt=>hbel.block x hlt⟩ fun _ h=>h⟩,fun g b hl hb=>.inr hb.2.1⟩
  ·by_cases h0:g=0
   ·subst h0; rw [hV0] at hu; cases hu
   ·simp only [if_neg h0]; exact hu
  ·cases g with
   | zero=>exact ⟨v,by simp,hrow⟩
   | succ g=>rw [gS] at hl; exact hl.elim
  ·have:=hwf.ilt b hI
   have:=hb.2.1
   omega
  ·rw [hb.1,hb'.1]
  ·cases g with
   | zero=>cases hg
   | succ g=>simp only [Nat.add_eq_zero_iff,Nat.succ_ne_self,and_false,if_false]; exact hwf.fr (g+1) rfl
theorem Q4 {w:World} {I:Nat→Prop} {es:List (List D)} {v:Value} (h:DRep false w I (.arr es) v) (hsz:∀ e∈es,e.length=1) :
  (es=[]∧∃ a c,v=.slice a 0 c)∨∃ b off cap,v=.slice (some ⟨b,off,none⟩) es.length cap∧∀ i (hi:i<es.length),∃ u,w.cell? ⟨b,off+i,none⟩=some u∧∃ S,DRep false w S (es[i].headD (.int 0)) u:=by
 cases h with
 | arr S sz es a cap f Sub h1 h2 h3 h4 h5 h6 h7 =>
  rcases h3 with h3 | ⟨b,off,rfl,hS,hb,hc,_⟩
  ·left
   have he:es=[]:=zC h3
   subst he
   exact ⟨rfl,_,_,rfl⟩
  ·rcases zK es.length with h0 | h0
   ·left
    have he:es=[]:=zC h0
    subst he
    exact ⟨rfl,_,_,rfl⟩
   ·right
    have hs1:sz=1:=by rw [←h4 0 h0]; exact hsz _ (zE h0)
    subst hs1
    refine ⟨b,off,cap,rfl,fun i hi=>⟨f i 0,by have:=hc i 0 hi (by omega); simpa using this,Sub i 0,?_⟩⟩
    have hl:=hsz _ (zE hi)
    have:=h7 i 0 hi (by omega)
    have key:∀ (l:List D) (h:0<l.length),l.headD (.int 0)=l[0]:=fun l h=>by
     cases l with
     | nil=>cases h
     | cons d r=>rfl
    have e:=key es[i] (by omega)
    rw [e]
    exact this
def unS:List D→ByteArray
 | D.str s :: _=>s
 | _=>⟨#[]⟩
noncomputable def JO (xs:List SV) (ob:List Ob):Option (SV × List Ob) :=
 match xs,ob with
 | [.arr es],[]=>bif dec ((∀ e∈es,∃ s,e=[D.str s])∧es.length≤1048576) then some (.ref 0,[.row 9 1 (es.map fun e=>[OT.str (unS e)])]) else none
 | _,_=>none
theorem Pu {xs:List SV} {ob:List Ob} {r:SV} {ob':List Ob} (h:JO xs ob=some (r,ob')):Fun Tryz.prog 97 xs ob r ob':=by
 unfold JO at h
 split at h
 ·rename_i es
  obtain ⟨h1,h2⟩:=At h
  obtain ⟨k1,k2⟩:=Av.1 h1
  simp only [zO,zV] at h2
  obtain ⟨rfl,rfl⟩:=h2
  intro w I V B vs hwf hvs
  obtain ⟨v,q,rfl,hv,hvs⟩:=Fe hvs
  obtain rfl:=Nu hvs
  simp only [RepV] at hv
  have hsz:∀ e∈es,e.length=1:=fun e he=>by obtain ⟨s,rfl⟩:=k1 e he; rfl
  have hmap:(es.map fun e=>[OT.str (unS e)])=((es.map fun e=>OT.str (unS e)).map fun o=>[o]):=by rw [z8]; rfl
  rcases Q4 hv hsz with ⟨rfl,a,c,rfl⟩ | ⟨b,off,cap,rfl,hcell⟩
  ·cases a with
   | none =>
    have hcon:=Any.slices_Clone_string_nil JN 0 c w
    change Calls Tryz.prog 97 _ _ _ at hcon
    refine hcon.mono ?_
    rintro e w' ⟨rfl,rfl⟩
    obtain ⟨V',B',h3,h4⟩:=H0 (t:=9) (os:=[]) (vals:=[]) hwf (Below.refl _ _) rfl ⟨rfl,.inl ⟨rfl,rfl⟩⟩ (fun i h=>absurd h (by simp))
    exact ⟨_,I,V',B',rfl,h3,h4⟩
   | some a =>
    have hcon:=Any.slices_Clone_string_zero JN a c w
    change Calls Tryz.prog 97 _ _ _ at hcon
    refine hcon.mono ?_
    rintro e w' ⟨v',rfl,hown,_,hbel⟩
    obtain ⟨V',B',h3,h4⟩:=H0 (t:=9) (os:=[]) (vals:=[]) hwf hbel rfl hown (fun i h=>absurd h (by simp))
    exact ⟨_,I,V',B',rfl,h3,h4⟩
  ·obtain ⟨zs,hzs⟩:∃ zs,zs=es.map unS:=⟨_,rfl⟩
   have hzl:zs.length=es.length:=by rw [hzs,zQ]
   have hcz:∀ j (hj:j<es.length),w.cell? ⟨b,off+j,none⟩=some (Value.string (unS es[j]))∧(unS es[j]).size≤9223372036854775807:=fun j hj=>by
    obtain ⟨u,hu,S,hd⟩:=hcell j hj
    obtain ⟨s,he⟩:=k1 es[j] (zE hj)
    rw [he] at hd ⊢
    simp only [List.headD_cons] at hd
    cases hd
    exact ⟨hu,by assumption⟩
   have hcon:=Any.slices_Clone_string JN b off es.length cap zs w (by omega) (by omega) (fun j hj=>by
    have hj':j<es.length:=by omega
    rw [(hcz j hj').1]
    rw [yH,zU hj]
    simp [hzs])
   change Calls Tryz.prog 97 _ _ _ at hcon
   refine hcon.mono ?_
   rintro e w' ⟨v',rfl,hown,_,hbel⟩
   have ht:zs.take es.length=zs:=List.take_of_length_le (by omega)
   rw [ht] at hown
   have hown2:w'.ownsRow w.heap.size 9 1 v' (es.map fun e=>OT.str (unS e)).length (zs.map Value.string):=by rw [zQ]; exact hown
   obtain ⟨V',B',h3,h4⟩:=H0 (t:=9) (os:=es.map fun e=>OT.str (unS e)) (vals:=zs.map Value.string) hwf hbel (by simp [hzl]) hown2 (fun i hi=>by
    have hi':i<es.length:=by simpa using hi
    have e:(zs.map Value.string).getD i undef=Value.string (unS es[i]):=by
     rw [yH,List.getElem?_map,zU (by omega)]
     simp [hzs]
    rw [e,yB]
    exact .str _ _ (hcz i hi').2)
   rw [hmap]
   exact ⟨_,I,V',B',rfl,h3,h4⟩
 ·cases h
end Go.Proofs.YtkmenhhapfombaaGreat
set_option maxRecDepth 100000
set_option linter.unusedSimpArgs false
set_option linter.unusedVariables false
set_option linter.unusedSectionVars false
namespace Go.Proofs.YtkmenhhapfombaaGreat
open Go.RowKit Go.Shelf Go.Lib Go.Sort
theorem VG {w w':World} {I:Nat→Prop} {V:Nat→Option Value} {B:Nat→Nat→Prop} {t:TypeId} {sz:Nat} {es es':List (List OT)} {b cap:Nat} {cur cur':Array Value} (Sub:Nat→Nat→Nat→Prop)
  (hwf:Wf w I V B (Ap [.row t sz es])) (hv:V 0=some (.slice (some ⟨b,0,none⟩) es.length cap)) (hn:es'.length=es.length) (hs:B 0 b) (hb:w.heap[b]?=some (.cells cur t (0,0)))
  (h1:es.length≤cap) (h2:cap≤9223372036854775807) (h3:cur.size=cap*sz) (h4:∀ i (h:i<es'.length),es'[i].length=sz) (h5:∀ i j x,Sub i j x→B 0 x∧x≠b)
  (h6:∀ i j i' j' x,Sub i j x→Sub i' j' x→i=i'∧j=j')
  (hos:w'.os=w.os) (htape:TapeOk w w') (hout:w'.output=w.output) (hsz:w.heap.size≤w'.heap.size) (hblk:∀ x,x<w.heap.size→x≠b→w'.heap[x]?=w.heap[x]?)
  (hb':w'.heap[b]?=some (.cells cur' t (0,0))) (hcs:cur'.size=cur.size)
  (h7:∀ i j (h:i<es'.length) (h':j<es'[i].length),ORep w' I (Sub i j) (es'[i][j]) (cur'.getD (i*sz+j) undef)) :
  FunPost w I V B [.row t sz es] [.row t sz es'] w' I V B:=by
 have g0:∀ (e:List (List OT)),Ap [Ob.row t sz e] 0=.row t sz e:=fun _=>rfl
 have gS:∀ (e:List (List OT)) (g:Nat),Ap [Ob.row t sz e] (g+1)=.free:=fun _ _=>rfl
 have lv:∀ (e e':List (List OT)) (g:Nat),(Ap [Ob.row t sz e] g).live→(Ap [Ob.row t sz e'] g).live:=fun e e' g h=>by
  cases g with
  | zero=>trivial
  | succ g=>rw [gS] at h; exact h.elim
 have hbS:∀ x,B 0 x→HB B [Ob.row t sz es] x:=fun x hx=>⟨0,trivial,hx⟩
 refine ⟨⟨hos,htape,hout,hsz,fun x hx hn=>hblk x hx fun e=>hn (hbS x (e▸hs))⟩,fun _ h=>h,fun _ h=>.inl h,VLe.refl _,?_,fun g x hl hx=>.inl ⟨g,lv _ _ g hl,hx⟩⟩
 refine ⟨fun x hx=>yZ (hwf.ilt x hx) hsz,fun g hl=>?_,fun g x hl hx=>yZ (hwf.lt g x (lv _ _ g hl) hx) hsz,fun g x hl hx=>hwf.dI g x (lv _ _ g hl) hx,fun g g' x hl hl' hx hx'=>hwf.dO g g' x (lv _ _ g hl) (lv _ _ g' hl') hx hx',fun g hf=>?_,hwf.gl.keep ⟨hsz,fun x hx hlt=>hblk x hlt fun e=>hwf.dI 0 x trivial (e▸hs) hx⟩ fun _ h=>h⟩
 ·cases g with
  | zero =>
   refine ⟨_,hv,.inr ⟨b,cap,cur',Sub,by rw [hn],hs,hb',by rw [hn]; exact h1,h2,by rw [hcs]; exact h3,h4,h5,h6,h7⟩⟩
  | succ g=>rw [gS] at hl; exact hl.elim
 ·cases g with
  | zero=>cases hf
  | succ g=>exact hwf.fr (g+1) rfl
theorem TF {w:World} {I:Nat→Prop} {V:Nat→Option Value} {B:Nat→Nat→Prop} {ob:List Ob} (hwf:Wf w I V B (Ap ob)):FunPost w I V B ob ob w I V B :=
 ⟨⟨rfl,TapeOk.mk' rfl rfl,rfl,yN _,fun _ _ _=>rfl⟩,fun _ h=>h,fun _ h=>.inl h,VLe.refl _,hwf,fun g b hl hb=>.inl ⟨g,hl,hb⟩⟩
def Q5:List OT→ByteArray
 | .str s :: _=>s
 | _=>⟨#[]⟩
end Go.Proofs.YtkmenhhapfombaaGreat
set_option maxRecDepth 100000
namespace Go.Proofs.YtkmenhhapfombaaGreat
open Go.Shelf
def so_SortS_ren:Go.Shelf.Ren:=⟨fun | 190=>78 | 125=>99 | 258=>98 | 128=>117 | 129=>118 | 302=>108 | 303=>109 | 304=>110 | 305=>111 | 306=>112 | 307=>113 | 308=>114 | 309=>115 | 310=>116 | 333=>121 | 329=>122 | 330=>123 | 334=>124 | 335=>125 | 336=>119 | 344=>126 | n=>n,fun | 31=>34 | 9=>9 | 3=>3 | 46=>92 | 0=>0 | 51=>115 | 53=>43 | 4=>4 | 183=>108 | 182=>107 | 131=>100 | 5=>5 | 218=>117 | 222=>121 | 228=>123 | 229=>124 | n=>n,fun | n=>n⟩
theorem Pv:Go.Proofs.Lays.n190 Tryz.prog so_SortS_ren:={
 mixed:=by kernel_rfl,
 f125:=Tryz.func99.trans (congrArg some (by kernel_rfl)),
 f128:=Tryz.func117.trans (congrArg some (by kernel_rfl)),
 f129:=Tryz.func118.trans (congrArg some (by kernel_rfl)),
 f190:=Tryz.func78.trans (congrArg some (by kernel_rfl)),
 f258:=Tryz.func98.trans (congrArg some (by kernel_rfl)),
 f302:=Tryz.func108.trans (congrArg some (by kernel_rfl)),
 f303:=Tryz.func109.trans (congrArg some (by kernel_rfl)),
 f304:=Tryz.func110.trans (congrArg some (by kernel_rfl)),
 f305:=Tryz.func111.trans (congrArg some (by kernel_rfl)),
 f306:=Tryz.func112.trans (congrArg some (by kernel_rfl)),
 f307:=Tryz.func113.trans (congrArg some (by kernel_rfl)),
 f308:=Tryz.func114.trans (congrArg some (by kernel_rfl)),
 f309:=Tryz.func115.trans (congrArg some (by kernel_rfl)),
 f310:=Tryz.func116.trans (congrArg some (by kernel_rfl)),
 f329:=Tryz.func122.trans (congrArg some (by kernel_rfl)),
 f330:=Tryz.func123.trans (congrArg some (by kernel_rfl)),
 f333:=Tryz.func121.trans (congrArg some (by kernel_rfl)),
 f334:=Tryz.func124.trans (congrArg some (by kernel_rfl)),
 f335:=Tryz.func125.trans (congrArg some (by kernel_rfl)),
 f336:=Tryz.func119.trans (congrArg some (by kernel_rfl)),
 f344:=Tryz.func126.trans (congrArg some (by kernel_rfl)),
 t0:=Tryz.underlying0,
 a0:=Tryz.isAgg0,
 z0:=Tryz.sizeOf0,
 v0:=Tryz.zeroValue0,
 t3:=Tryz.underlying3,
 a3:=Tryz.isAgg3,
 z3:=Tryz.sizeOf3,
 v3:=Tryz.zeroValue3,
 t4:=Tryz.underlying4,
 a4:=Tryz.isAgg4,
 z4:=Tryz.sizeOf4,
 v4:=Tryz.zeroValue4,
 t5:=Tryz.underlying5,
 a5:=Tryz.isAgg5,
 z5:=Tryz.sizeOf5,
 v5:=Tryz.zeroValue5,
 t9:=Tryz.underlying9,
 a9:=Tryz.isAgg9,
 z9:=Tryz.sizeOf9,
 v9:=Tryz.zeroValue9,
 t31:=Tryz.underlying34,
 a31:=Tryz.isAgg34,
 z31:=Tryz.sizeOf34,
 v31:=Tryz.zeroValue34,
 t46:=Tryz.underlying92,
 a46:=Tryz.isAgg92,
 z46:=Tryz.sizeOf92,
 v46:=Tryz.zeroValue92,
 t51:=Tryz.underlying115,
 a51:=Tryz.isAgg115,
 z51:=Tryz.sizeOf115,
 v51:=Tryz.zeroValue115,
 t53:=Tryz.underlying43,
 a53:=Tryz.isAgg43,
 z53:=Tryz.sizeOf43,
 v53:=Tryz.zeroValue43,
 t131:=Tryz.underlying100,
 a131:=Tryz.isAgg100,
 z131:=Tryz.sizeOf100,
 v131:=Tryz.zeroValue100,
 t182:=Tryz.underlying107,
 a182:=Tryz.isAgg107,
 z182:=Tryz.sizeOf107,
 v182:=Tryz.zeroValue107,
 t183:=Tryz.underlying108,
 a183:=Tryz.isAgg108,
 z183:=Tryz.sizeOf108,
 v183:=Tryz.zeroValue108,
 t218:=Tryz.underlying117,
 a218:=Tryz.isAgg117,
 z218:=Tryz.sizeOf117,
 v218:=Tryz.zeroValue117,
 t222:=Tryz.underlying121,
 a222:=Tryz.isAgg121,
 z222:=Tryz.sizeOf121,
 v222:=Tryz.zeroValue121,
 t228:=Tryz.underlying123,
 a228:=Tryz.isAgg123,
 z228:=Tryz.sizeOf123,
 v228:=Tryz.zeroValue123,
 t229:=Tryz.underlying124,
 a229:=Tryz.isAgg124,
 z229:=Tryz.sizeOf124,
 v229:=Tryz.zeroValue124 }
end Go.Proofs.YtkmenhhapfombaaGreat
set_option maxRecDepth 100000
set_option linter.unusedSimpArgs false
set_option linter.unusedVariables false
set_option linter.unusedSectionVars false
namespace Go.Proofs.YtkmenhhapfombaaGreat
open Go.RowKit Go.Shelf Go.Lib Go.Sort
theorem Nv (w:World) (b m:Nat) (ss:List (List UInt8)) (os:Array Obj) (x:Nat) (hx:x<w.heap.size) :
  (Sort.grow (putRow encStr (Sort.ahead w m) b 0 ss.toArray) os).heap[x]?=if b=x then (w.heap[x]?).map (onCells (putCells encStr 0 ss.toArray)) else w.heap[x]?:=by
 unfold Sort.grow putRow mapBlock Sort.ahead
 have hx':x<(w.heap.modify b (onCells (putCells encStr 0 ss.toArray))).size:=by simpa using hx
 simp only [Array.getElem?_append,Array.size_modify,hx,if_true,Array.getElem?_modify]
def srt (ss:List (List UInt8)):List (List UInt8):=ss.mergeSort fun x y=>decide (x≤y)
def Rv (l:List UInt8):List OT:=[.str ⟨l.toArray⟩]
noncomputable def HW (xs:List SV) (ob:List Ob):Option (SV × List Ob) :=
 match xs,ob with
 | [.ref 0],[.row t sz es]=>bif dec (sz=1∧(∀ e∈es,∃ s,e=[.str s])∧es.length≤1099511627776) then some (.tup [],[.row t sz ((srt (es.map fun e=>(Q5 e).toList)).map Rv)]) else none
 | _,_=>none
theorem ORep.XG {w:World} {I S:Nat→Prop} {s:ByteArray} {v:Value} (h:ORep w I S (.str s) v):v=.string s∧s.size≤9223372036854775807:=by
 cases h with
 | str _ _ hz=>exact ⟨rfl,hz⟩
theorem IM (s:ByteArray):(⟨s.toList.toArray⟩:ByteArray)=s:=JG (by rw [ByteArray.toList_eq])
theorem Oi {xs:List SV} {ob:List Ob} {r:SV} {ob':List Ob} (h:HW xs ob=some (r,ob')):Fun Tryz.prog 78 xs ob r ob':=by
 unfold HW at h
 split at h
 ·rename_i t sz es
  obtain ⟨h1,h2⟩:=At h
  obtain ⟨rfl,hk1,hk3⟩:=Av.1 h1
  simp only [zO,zV] at h2
  obtain ⟨rfl,rfl⟩:=h2
  intro w I V B vs hwf hvs
  obtain ⟨v,q,rfl,hv,hvs⟩:=Fe hvs
  obtain rfl:=Nu hvs
  simp only [RepV] at hv
  obtain ⟨val,hval,hrow⟩:=hwf.obj 0 trivial
  rw [hv.1] at hval
  obtain rfl:=zR hval
  have hv0:=hv.1
  have hrow:RowR w I (B 0) t 1 es v:=hrow
  rcases zK es.length with h0 | h0
  ·have he:es=[]:=zC h0
   subst he
   obtain ⟨a,c,rfl,_⟩:=hrow.form
   have hcon:=Any.slices_Sort_string_none Pv a c w
   change Calls Tryz.prog 78 _ _ _ at hcon
   refine hcon.mono ?_
   rintro e w' ⟨rfl,rfl⟩
   have e0:(srt ([].map fun e:List OT=>(Q5 e).toList)).map Rv=[]:=by simp [srt]
   rw [e0]
   exact ⟨_,I,V,B,rfl,by simp only [RepV,RepVs]; exact ⟨[],rfl,rfl⟩,TF hwf⟩
  ·rcases hrow with ⟨he,_⟩ | ⟨b,cap,cur,Sub,rfl,hs,hb,g1,g2,g3,g4,g5,g6,g7⟩
   ·subst he; simp at h0
   have hblt:=(yY.1 hb).1
   obtain ⟨ss,hss⟩:∃ ss,ss=es.map fun e=>(Q5 e).toList:=⟨_,rfl⟩
   have hsl:ss.length=es.length:=by rw [hss]; simp
   rw [←hss]
   have cellv:∀ i (hi:i<es.length),cur[i]?=some (.string (Q5 es[i]))∧(Q5 es[i]).size≤9223372036854775807:=fun i hi=>by
    obtain ⟨s,he⟩:=hk1 es[i] (zE hi)
    have hlt:i<cur.size:=by rw [g3]; omega
    have l0:=g7 i 0 hi (by rw [g4 i hi]; omega)
    simp only [he,z6,y8,y6,yG,yL hlt,yR] at l0
    rw [yL hlt,he]
    obtain ⟨z1,z2⟩:=ORep.XG l0
    exact ⟨by rw [z1]; rfl,z2⟩
   have hH:Holds encStr w b 0 ss.toArray:=by
    intro j hj
    have hj1:j<ss.length:=by simpa using hj
    have hj':j<es.length:=by rw [←hsl]; exact hj1
    refine ⟨?_,?_⟩
    ·rw [yX,cell_of_row w b _ _ _ _ hb,(cellv j hj').1,getElem!_pos ss.toArray j hj]
     simp only [List.getElem_toArray,hss,yB,encStr,IM]
    ·unfold World.frozen?
     rw [hb]
     simp
   have hcon:=Any.slices_Sort_string Pv b 0 cap ss w hH hblt (by rw [hsl]; omega)
   change Calls Tryz.prog 78 _ _ _ at hcon
   rw [hsl] at hcon
   refine hcon.mono ?_
   rintro e w' ⟨rfl,m,os,rfl⟩
   refine ⟨_,I,V,B,rfl,by simp only [RepV,RepVs]; exact ⟨[],rfl,rfl⟩,?_⟩
   have hper:(srt ss).Perm ss:=List.mergeSort_perm _ _
   have hsl2:(srt ss).length=es.length:=by rw [hper.length_eq,hsl]
   have hgrow:∀ x,x<w.heap.size→x≠b→(Sort.grow (putRow encStr (Sort.ahead w m) b 0 (srt ss).toArray) os).heap[x]?=w.heap[x]?:=fun x hx hne=>by
    rw [Nv w b m _ os x hx,if_neg (fun e=>hne e.symm)]
   have hbl:(Sort.grow (putRow encStr (Sort.ahead w m) b 0 (srt ss).toArray) os).heap[b]?=some (.cells (putCells encStr 0 (srt ss).toArray cur) t (0,0)):=by
    rw [Nv w b m _ os b hblt,if_pos rfl,hb]; rfl
   have hsz:w.heap.size≤(Sort.grow (putRow encStr (Sort.ahead w m) b 0 (srt ss).toArray) os).heap.size:=by
    unfold Sort.grow
    simp [putRow,mapBlock,Sort.ahead]
   have hmem:∀ l∈ss,∃ e∈es,(Q5 e).toList=l:=by
    rw [hss]
    intro l h
    exact List.mem_map.1 h
   have hstr:∀ i (hi:i<(srt ss).length),(⟨(srt ss)[i].toArray⟩:ByteArray).size≤9223372036854775807:=fun i hi=>by
    obtain ⟨e,he,heq⟩:=hmem _ (hper.mem_iff.1 (zE hi))
    obtain ⟨k,hk,rfl⟩:=yV he
    have:=(cellv k hk).2
    rw [←heq,IM]
    exact this
   refine VG (fun _ _ _=>False) hwf hv0 (by rw [zQ,hsl2]) hs hb g1 g2 g3 (fun i hi=>by rw [yB]; rfl) (fun i j x h=>h.elim) (fun i j i' j' x h h'=>h.elim) rfl ⟨rfl,fun h=>False.elim h⟩ rfl hsz hgrow hbl (by simp [putCells]) (fun i j hi hj=>?_)
   have hi':i<(srt ss).length:=by simpa using hi
   have hj':j<1:=by simpa [Rv] using hj
   obtain rfl:j=0:=by omega
   have hlt:i<cur.size:=by rw [g3]; omega
   have hc:(putCells encStr 0 (srt ss).toArray cur).getD (i*1+0) undef=.string ⟨(srt ss)[i].toArray⟩:=by
    simp only [y8,y6,putCells,yG,Array.getElem?_mapIdx,yL hlt,Option.map_some,yR,zP,true_and,yX,List.size_toArray,hi',if_true,Nat.sub_zero]
    rw [getElem!_pos (srt ss).toArray i (by simpa using hi')]
    rfl
   rw [hc]
   simp only [yB,Rv,z6]
   exact .str _ _ (hstr i hi')
 ·cases h
end Go.Proofs.YtkmenhhapfombaaGreat
set_option maxRecDepth 100000
set_option linter.unusedSimpArgs false
set_option linter.unusedVariables false
set_option linter.unusedSectionVars false
namespace Go.Proofs.YtkmenhhapfombaaGreat
open Go.RowKit
def Rw:List (Nat × FM)→Nat→FM
 | [],_=>⟨[],.asis,none,false⟩
 | (f,m) :: r,g=>bif f == g then m else Rw r g
theorem Sp {l:List (Nat × FM)} {f:Nat} {g:List SV→List Ob→Option (SV × List Ob)} (h:(Rw l f).ext=some g):∃ m,(f,m)∈l∧m.ext=some g:=by
 induction l with
 | nil=>cases h
 | cons x r ih =>
  obtain ⟨f',m⟩:=x
  simp only [Rw] at h
  cases e:f' == f with
  | true =>
   rw [e] at h
   obtain rfl:f'=f:=by simpa using e
   exact ⟨m,by simp,h⟩
  | false =>
   rw [e] at h
   obtain ⟨m',h1,h2⟩:=ih h
   exact ⟨m',by simp [h1],h2⟩
noncomputable def XI:List SV→Option SV
 | [.int .i64 k]=>bif dec (1≤k)&&dec (k≤1099511627776) then some (.str (X5 k)) else none
 | _=>none
def TG:List SV→Option SV
 | [.str s]=>some (.bool (Bs s))
 | _=>none
theorem Sq {xs:List SV} {r:SV} (h:TG xs=some r):Fun Tryz.prog 16 xs [] r []:=by
 unfold TG at h
 split at h
 ·rename_i s
  obtain rfl:=zR h
  refine Fun.of_same (rv:=.bool (Bs s)) (fun w I V=>by simp only [RepV]) fun w I V vs h=>?_
  obtain ⟨v,r,rfl,h3,h⟩:=Fe h
  obtain rfl:=Nu h
  obtain ⟨rfl,h4⟩:=KL h3
  exact L9 s w h4
 ·cases h
def TH:List SV→Option SV
 | [.str s]=>some (.bool (Bs s))
 | _=>none
theorem Sr {xs:List SV} {r:SV} (h:TH xs=some r):Fun Tryz.prog 21 xs [] r []:=by
 unfold TH at h
 split at h
 ·rename_i s
  obtain rfl:=zR h
  refine Fun.of_same (rv:=.bool (Bs s)) (fun w I V=>by simp only [RepV]) fun w I V vs h=>?_
  obtain ⟨v,r,rfl,h3,h⟩:=Fe h
  obtain rfl:=Nu h
  obtain ⟨rfl,h4⟩:=KL h3
  exact So s w h4
 ·cases h
def TI:List SV→Option SV
 | [.str s]=>some (.bool (DO s))
 | _=>none
theorem Ss {xs:List SV} {r:SV} (h:TI xs=some r):Fun Tryz.prog 73 xs [] r []:=by
 unfold TI at h
 split at h
 ·rename_i s
  obtain rfl:=zR h
  refine Fun.TD (rv:=.bool (DO s)) (fun w I V=>by simp only [RepV]) fun w I V vs h=>?_
  obtain ⟨v,r,rfl,h3,h⟩:=Fe h
  obtain rfl:=Nu h
  obtain ⟨rfl,h4⟩:=KL h3
  exact Og s w h4
 ·cases h
def TJ:List SV→Option SV
 | [.str s]=>some (.bool (DO s))
 | _=>none
theorem Su {xs:List SV} {r:SV} (h:TJ xs=some r):Fun Tryz.prog 85 xs [] r []:=by
 unfold TJ at h
 split at h
 ·rename_i s
  obtain rfl:=zR h
  refine Fun.of_same (rv:=.bool (DO s)) (fun w I V=>by simp only [RepV]) fun w I V vs h=>?_
  obtain ⟨v,r,rfl,h3,h⟩:=Fe h
  obtain rfl:=Nu h
  obtain ⟨rfl,h4⟩:=KL h3
  exact Oh s w h4
 ·cases h
noncomputable def modes:FuncId→FM:=Rw [(16,⟨[],.asis,some (K9 TG),false⟩),(21,⟨[],.asis,some (K9 TH),false⟩),(73,⟨[],.asis,some (K9 TI),false⟩),(85,⟨[],.asis,some (K9 TJ),false⟩),(78,⟨[true],.asis,some HW,false⟩),(97,⟨[],.asis,some JO,false⟩),(100,⟨[],.own [some (26,2)],none,false⟩),(48,⟨[],.own [none,some (26,2)],none,false⟩),(87,⟨[],.frz,none,false⟩),(55,⟨[],.frz,none,false⟩),(81,⟨[],.frz,none,false⟩),(56,⟨[],.frz,none,false⟩),(106,⟨[],.frz,none,false⟩),(61,⟨[],.frz,none,false⟩),(107,⟨[true],.asis,none,false⟩),(46,⟨[],.own [none,none,some (26,2),none,some (29,5)],none,false⟩),(44,⟨[],.own [none,none,some (26,2),none,some (29,5)],none,false⟩),(19,⟨[true],.own [none,none,some (26,2),none,some (29,5),none],none,false⟩),(6,⟨[],.own [none,none,some (26,2),none,some (29,5),none],none,false⟩),(18,⟨[],.own [none,none,some (26,2),none,some (29,5),none],none,false⟩),(60,⟨[],.frz,none,false⟩),(23,⟨[],.frz,none,false⟩),(7,⟨[],.frz,none,false⟩),(47,⟨[],.own [none,none,some (26,2),none,some (29,5)],none,false⟩),(77,⟨[true],.asis,none,false⟩),(64,⟨[],.half [none,some (26,2)],none,false⟩),(30,⟨[],.half [none,some (26,2)],none,false⟩),(90,⟨[],.half [none,some (26,2)],none,false⟩),(31,⟨[],.half [none,some (26,2)],none,false⟩),(32,⟨[],.half [none,some (26,2)],none,false⟩),(14,⟨[],.half [none,some (26,2)],none,false⟩),(62,⟨[],.half [none,none,some (26,2),none,some (29,5)],none,false⟩),(27,⟨[],.half [none,none,some (26,2),none,some (29,5)],none,false⟩),(12,⟨[],.half [none,none,some (26,2),none,some (29,5)],none,false⟩),(8,⟨[],.frz,none,false⟩),(5,⟨[],.frz,none,false⟩)]
theorem noExt {l:List (Nat × FM)} (h:(l.all fun p=>p.2.ext.isNone)=true) {f:Nat} {m:FM} {g:List SV→List Ob→Option (SV × List Ob)} (h1:(f,m)∈l) (h2:m.ext=some g):False:=by
 have h3:=zS.1 h _ h1
 rw [h2] at h3
 cases h3
theorem Q6:KK Tryz.prog modes:=by
 intro f g xs ob r ob' hg hx
 obtain ⟨m,h1,h2⟩:=Sp hg
 rcases zT.1 h1 with h1 | h1
 ·obtain ⟨rfl,rfl⟩:=yT h1
  obtain rfl:=zR h2
  exact HU Sq hx
 rcases zT.1 h1 with h1 | h1
 ·obtain ⟨rfl,rfl⟩:=yT h1
  obtain rfl:=zR h2
  exact HU Sr hx
 rcases zT.1 h1 with h1 | h1
 ·obtain ⟨rfl,rfl⟩:=yT h1
  obtain rfl:=zR h2
  exact HU Ss hx
 rcases zT.1 h1 with h1 | h1
 ·obtain ⟨rfl,rfl⟩:=yT h1
  obtain rfl:=zR h2
  exact HU Su hx
 rcases zT.1 h1 with h1 | h1
 ·obtain ⟨rfl,rfl⟩:=yT h1
  obtain rfl:=zR h2
  exact Oi hx
 rcases zT.1 h1 with h1 | h1
 ·obtain ⟨rfl,rfl⟩:=yT h1
  obtain rfl:=zR h2
  exact Pu hx
 exact (noExt rfl h1 h2).elim
noncomputable def E:FEnv:=ev Tryz.prog modes
noncomputable def calls:CallF:=CL modes E
theorem WA {f:FuncId} {xs:List SV} {ob:List Ob} {r:SV} {ob':List Ob} (h:E f xs ob=some (r,ob')):Fun Tryz.prog f xs ob r ob':=VA W6 Q6 f xs ob r ob' h
noncomputable def run (n0:Nat):SC→St→Option (X × St):=fr Tryz.prog calls (IK n0)
def go (n0:Nat) (sc:SC) (st:St) (K:X→St→Prop):Prop:=∃ x st',run n0 sc st=some (x,st')∧K x st'
def VH (n0:Nat) (b:SC) (K:X→St→Prop):X→St→Prop
 | .normal,st=>go n0 b st K
 | .exit i,st=>K (.exit i) st
 | .ret,st=>K .ret st
def blk (id:Nat) (K:X→St→Prop):X→St→Prop
 | .normal,st=>K .normal st
 | .exit i,st=>if i=id then K .normal st else K (.exit i) st
 | .ret,st=>K .ret st
def TK (r:Option St) (k:X→St→Prop):Prop :=
 match r with
 | some st=>k .normal st
 | none=>False
def TL (anc:List (List Nat)) (r:Option (List Ent × St)) (k:X→St→Prop):Prop :=
 match r with
 | some (es,st)=>obB anc [] (I9 es) 0=true∧k .normal st
 | none=>False
def LA (v:SV) (a b:Unit→Prop):Prop :=
 match v with
 | .bool true=>a ()
 | .bool false=>b ()
 | _=>False
noncomputable def Q7 (ops:List SOper) (st:St):Option St:=Lq Tryz.prog calls ops st
noncomputable def Q8 (ops:List SOper) (acc:List Ent) (st:St):Option (List Ent × St):=Gn Tryz.prog calls ops acc st
section
variable {n0:Nat} {st:St} {K:X→St→Prop}
theorem go_skip:go n0 .skip st K=K .normal st:=by
 refine propext ⟨fun ⟨x,st',h,k⟩=>?_,fun k=>⟨_,_,rfl,k⟩⟩
 obtain ⟨rfl,rfl⟩:X.normal=x∧st=st':=by simpa [run,fr] using h
 exact k
theorem VI {i:Nat}:go n0 (.exit i) st K=K (.exit i) st:=by
 refine propext ⟨fun ⟨x,st',h,k⟩=>?_,fun k=>⟨_,_,rfl,k⟩⟩
 obtain ⟨rfl,rfl⟩:X.exit i=x∧st=st':=by simpa [run,fr] using h
 exact k
theorem go_ret:go n0 .ret st K=K .ret st:=by
 refine propext ⟨fun ⟨x,st',h,k⟩=>?_,fun k=>⟨_,_,rfl,k⟩⟩
 obtain ⟨rfl,rfl⟩:X.ret=x∧st=st':=by simpa [run,fr] using h
 exact k
theorem WB {ops:List SOper}:go n0 (.reg ops) st K=TK (Q7 ops st) K:=by
 unfold TK Q7
 refine propext ⟨fun ⟨x,st',h,k⟩=>?_,fun k=>?_⟩
 ·simp only [run,fr] at h
  split at h
  ·rename_i s hs
   simp only [zO,zV] at h
   obtain ⟨rfl,rfl⟩:=h
   first | exact k | (simp only [hs]; exact k)
  ·cases h
 ·split at k
  ·rename_i s hs
   exact ⟨.normal,s,by simp only [run,fr,hs],k⟩
  ·exact k.elim
theorem VJ {anc:List (List Nat)} {ops:List SOper}:go n0 (.dreg anc ops) st K=TL anc (Q8 ops [] st) K:=by
 unfold TL Q8
 refine propext ⟨fun ⟨x,st',h,k⟩=>?_,fun k=>?_⟩
 ·simp only [run,fr] at h
  split at h
  ·rename_i es s hs
   obtain ⟨h1,h2⟩:=At h
   simp only [zO,zV] at h2
   obtain ⟨rfl,rfl⟩:=h2
   first | exact ⟨h1,k⟩ | (simp only [hs]; exact ⟨h1,k⟩)
  ·cases h
 ·split at k
  ·rename_i es s hs
   exact ⟨.normal,s,by simp only [run,fr,hs,k.1,cond_true],k.2⟩
  ·exact k.elim
theorem WC {a b:SC}:go n0 (.seq a b) st K=go n0 a st (VH n0 b K):=by
 refine propext ⟨fun ⟨x,st',h,k⟩=>?_,fun ⟨x,st',h,k⟩=>?_⟩
 ·simp only [run,fr,CD] at h
  split at h
  ·rename_i s hs
   exact ⟨.normal,s,hs,x,st',h,k⟩
  ·rename_i i s hs
   simp only [zO,zV] at h
   obtain ⟨rfl,rfl⟩:=h
   exact ⟨_,_,hs,k⟩
  ·rename_i s hs
   simp only [zO,zV] at h
   obtain ⟨rfl,rfl⟩:=h
   exact ⟨_,_,hs,k⟩
  ·cases h
 ·simp only [run] at h
  cases x with
  | normal =>
   obtain ⟨x2,st2,h2,k2⟩:=k
   exact ⟨x2,st2,by simp only [run,fr,CD,h]; exact h2,k2⟩
  | exit i=>exact ⟨_,st',by simp only [run,fr,CD,h],k⟩
  | ret=>exact ⟨_,st',by simp only [run,fr,CD,h],k⟩
theorem TM {id:Nat} {b:SC}:go n0 (.block id b) st K=go n0 b st (blk id K):=by
 refine propext ⟨fun ⟨x,st',h,k⟩=>?_,fun ⟨x,st',h,k⟩=>?_⟩
 ·simp only [run,fr,GC] at h
  split at h
  ·rename_i s hs
   simp only [zO,zV] at h
   obtain ⟨rfl,rfl⟩:=h
   exact ⟨.normal,s,hs,k⟩
  ·rename_i i s hs
   refine ⟨.exit i,s,hs,?_⟩
   simp only [blk]
   by_cases hi:i=id
   ·simp only [if_pos hi,zO,zV] at h ⊢
    obtain ⟨rfl,rfl⟩:=h
    exact k
   ·simp only [if_neg hi,zO,zV] at h ⊢
    obtain ⟨rfl,rfl⟩:=h
    exact k
  ·rename_i s hs
   simp only [zO,zV] at h
   obtain ⟨rfl,rfl⟩:=h
   exact ⟨_,s,hs,k⟩
  ·cases h
 ·simp only [run] at h
  cases x with
  | normal=>exact ⟨_,st',by simp only [run,fr,GC,h],k⟩
  | exit i =>
   simp only [blk] at k
   by_cases hi:i=id
   ·simp only [if_pos hi] at k
    exact ⟨.normal,st',by simp only [run,fr,GC,h,if_pos hi],k⟩
   ·simp only [if_neg hi] at k
    exact ⟨.exit i,st',by simp only [run,fr,GC,h,if_neg hi],k⟩
  | ret=>exact ⟨_,st',by simp only [run,fr,GC,h],k⟩
theorem Ab {q:SX} {a b:SC}:go n0 (.cond q a b) st K=LA (A4 (gets st.sl) q) (fun _=>go n0 a st K) (fun _=>go n0 b st K):=by
 unfold LA
 refine propext ⟨fun ⟨x,st',h,k⟩=>?_,fun k=>?_⟩
 ·simp only [run,fr] at h
  split at h
  ·rename_i t ht
   simp only [ht]
   cases t with
   | true=>exact ⟨x,st',h,k⟩
   | false=>exact ⟨x,st',h,k⟩
  ·cases h
 ·split at k
  ·rename_i ht
   obtain ⟨x,st',h,k⟩:=k
   exact ⟨x,st',by simp only [run,fr,ht,cond_true]; exact h,k⟩
  ·rename_i ht
   obtain ⟨x,st',h,k⟩:=k
   exact ⟨x,st',by simp only [run,fr,ht,cond_false]; exact h,k⟩
  ·exact k.elim
theorem VK {a b:Unit→Prop}:LA (.bool true) a b=a ():=rfl
theorem VL {a b:Unit→Prop}:LA (.bool false) a b=b ():=rfl
theorem VM {t:Bool} {a b:Unit→Prop}:LA (.bool (!t)) a b=LA (.bool t) b a:=by cases t <;> rfl
theorem Aw {q:SX} {a b:SC} (h:A4 (gets st.sl) q=.bool true) (k:go n0 a st K):go n0 (.cond q a b) st K:=by rw [Ab,h]; exact k
theorem Ax {q:SX} {a b:SC} (h:A4 (gets st.sl) q=.bool false) (k:go n0 b st K):go n0 (.cond q a b) st K:=by rw [Ab,h]; exact k
theorem Pw {t:Bool} {a b:Unit→Prop} (h1:t=true→a ()) (h2:t=false→b ()):LA (.bool t) a b:=by
 cases t with
 | true=>exact h1 rfl
 | false=>exact h2 rfl
theorem WD {b:SC}:VH n0 b K .normal st=go n0 b st K:=rfl
theorem WE {b:SC} {i:Nat}:VH n0 b K (.exit i) st=K (.exit i) st:=rfl
theorem WF {b:SC}:VH n0 b K .ret st=K .ret st:=rfl
theorem X6 {id:Nat}:blk id K .normal st=K .normal st:=rfl
theorem X7 {id i:Nat}:blk id K (.exit i) st=if i=id then K .normal st else K (.exit i) st:=rfl
theorem X8 {id:Nat}:blk id K .ret st=K .ret st:=rfl
theorem VN:TK (some st) K=K .normal st:=rfl
def quiet:List Ent→Bool
 | []=>true
 | ⟨_,_,[],_⟩ :: r=>quiet r
 | ⟨_,_,_ :: _,_⟩ :: _=>false
theorem LB {anc:List (List Nat)} {rd:List Nat} {j:Nat}:∀ {l:List Ent} {i:Nat},quiet l=true→Qd anc rd [] j (I9 l) i=true
 | [],i,_=>rfl
 | ⟨_,_,[],rdi⟩ :: r,i,h=>by
  have:=LB (anc:=anc) (rd:=rd) (j:=j) (l:=r) (i:=i+1) h
  simp only [I9,zB,zJ] at this ⊢
  simp only [Qd,this,zW]
  have e1:meets [] (rd++[])=false:=rfl
  have e2:meets rdi []=false:=by cases rdi <;> simp [meets]
  rw [e1,e2]; rfl
theorem Sv {l l':List Ent} (h:quiet l=true) (h':quiet l'=true):quiet (l++l')=true:=by
 induction l with
 | nil=>exact h'
 | cons x r ih =>
  obtain ⟨a,b,c,d⟩:=x
  cases c with
  | nil=>exact ih h
  | cons _ _=>cases h
theorem Nw {anc:List (List Nat)}:∀ {l pre:List Ent} {j:Nat},quiet pre=true→quiet l=true→obB anc (I9 pre) (I9 l) j=true
 | [],pre,j,_,_=>rfl
 | ⟨a,b,[],rd⟩ :: r,pre,j,hp,h=>by
  have e:=Nw (anc:=anc) (l:=r) (pre:=pre++[⟨a,b,[],rd⟩]) (j:=j+1) (Sv hp rfl) h
  have e2:=LB (anc:=anc) (rd:=rd) (j:=j) (i:=0) hp
  simp only [I9,yD,zB,zJ] at e e2 ⊢
  simp only [obB,e2,e,zL]
theorem VO {anc:List (List Nat)} {es:List Ent}:TL anc (some (es,st)) K=match quiet es with
  | true=>K .normal st
  | false=>obB anc [] (I9 es) 0=true∧K .normal st:=by
 show (obB anc [] (I9 es) 0=true∧K .normal st)=_
 cases h:quiet es with
 | true=>exact propext ⟨fun h=>h.2,fun h'=>⟨Nw (pre:=[]) rfl h,h'⟩⟩
 | false=>rfl
noncomputable def WG (r:List SOper) (e:Option (Ent × St)):Option St :=
 match e with
 | some (_,st)=>Q7 r st
 | none=>none
noncomputable def WH (r:List SOper) (acc:List Ent) (e:Option (Ent × St)):Option (List Ent × St) :=
 match e with
 | some (x,st)=>Q8 r (acc++[x]) st
 | none=>none
noncomputable def opF (so:SOp) (sl:List SV) (ob:List Ob):Option R3:=fOp Tryz.prog calls so sl ob
theorem TN:Q7 [] st=some st:=rfl
theorem Sw {d:Option Tmp} {so:SOp} {r:List SOper} {sl:List SV} {ob:List Ob}:Q7 (⟨d,none,so⟩ :: r) ⟨sl,ob⟩=WG r (Ib d ⟨sl,ob⟩ (opF so sl ob)):=rfl
noncomputable def gdF (d:Option Tmp) (so:SOp) (want:Bool) (sl:List SV) (ob:List Ob) (v:SV):Option (Ent × St) :=
 match v with
 | .bool b=>bif Qp b want then Ib d ⟨sl,ob⟩ (opF so sl ob) else some (⟨false,.tup [],[],[]⟩,⟨Fk sl d (.tup []),ob⟩)
 | .tup []=>some (⟨false,.tup [],[],[]⟩,⟨Fk sl d (.tup []),ob⟩)
 | _=>none
theorem VP {d:Option Tmp} {k:Nat} {want:Bool} {so:SOp} {r:List SOper} {sl:List SV} {ob:List Ob}:Q7 (⟨d,some (k,want),so⟩ :: r) ⟨sl,ob⟩=WG r (gdF d so want sl ob (gets sl k)):=rfl
theorem TO {acc:List Ent}:Q8 [] acc st=some (acc,st):=rfl
theorem Sx {d:Option Tmp} {so:SOp} {r:List SOper} {acc:List Ent} {sl:List SV} {ob:List Ob}:Q8 (⟨d,none,so⟩ :: r) acc ⟨sl,ob⟩=WH r acc (Ib d ⟨sl,ob⟩ (opF so sl ob)):=rfl
theorem VQ {d:Option Tmp} {k:Nat} {want:Bool} {so:SOp} {r:List SOper} {acc:List Ent} {sl:List SV} {ob:List Ob}:Q8 (⟨d,some (k,want),so⟩ :: r) acc ⟨sl,ob⟩=WH r acc (gdF d so want sl ob (gets sl k)):=rfl
theorem WI {r:List SOper} {e:Ent}:WG r (some (e,st))=Q7 r st:=rfl
theorem WJ {r:List SOper} {acc:List Ent} {e:Ent}:WH r acc (some (e,st))=Q8 r (acc++[e]) st:=rfl
theorem X9 {d:Option Tmp} {so:SOp} {sl:List SV} {ob:List Ob}:gdF d so true sl ob (.bool true)=Ib d ⟨sl,ob⟩ (opF so sl ob):=rfl
theorem WK {d:Option Tmp} {so:SOp} {sl:List SV} {ob:List Ob}:gdF d so false sl ob (.bool false)=Ib d ⟨sl,ob⟩ (opF so sl ob):=rfl
theorem WL {d:Option Tmp} {so:SOp} {sl:List SV} {ob:List Ob}:gdF d so true sl ob (.bool false)=some (⟨false,.tup [],[],[]⟩,⟨Fk sl d (.tup []),ob⟩):=rfl
theorem WM {d:Option Tmp} {so:SOp} {sl:List SV} {ob:List Ob}:gdF d so false sl ob (.bool true)=some (⟨false,.tup [],[],[]⟩,⟨Fk sl d (.tup []),ob⟩):=rfl
theorem XA {d:Option Tmp} {so:SOp} {want:Bool} {sl:List SV} {ob:List Ob}:gdF d so want sl ob (.tup [])=some (⟨false,.tup [],[],[]⟩,⟨Fk sl d (.tup []),ob⟩):=rfl
theorem WN {d:Option Tmp} {x:SV} {rd:List Nat}:Ib d st (some (x,[],rd))=some (⟨true,x,[],rd⟩,⟨Fk st.sl d x,st.ob⟩):=rfl
theorem WO {d:Option Tmp} {x:SV} {q:Nat × Ob} {u:List (Nat × Ob)} {rd:List Nat}:Ib d st (some (x,q :: u,rd))=bif Sf (Dk st.ob (q :: u)).length (q :: u) then some (⟨true,x,q :: u,rd⟩,⟨Fk st.sl d x,Dk st.ob (q :: u)⟩) else none:=rfl
def Px (ob:List Ob) (xs:List SV) (sel:List Nat) (r:Option (SV × List Ob)) (n:Nat):Option R3 :=
 match r with
 | some (r,fob')=>bif decide (n≤fob'.length) then some (FD sel (B4 sel xs) ob.length r fob') else none
 | none=>none
def WP (hd:List Bool) (f:FuncId) (xs:List SV) (ob:List Ob) (sel:List Nat) (e:List SV→List Ob→Option (SV × List Ob)) (b:Option (List Ob)):Option R3 :=
 match b with
 | some fob=>bif FW sel&&IH ob.length sel&&GA fob.length fob then Px ob xs sel (e (FB hd (Ap ob) sel xs) fob) fob.length else none
 | none=>none
def TP (hd:List Bool) (f:FuncId) (xs:List SV) (ob:List Ob) (sel:List Nat) (e:List SV→List Ob→Option (SV × List Ob)):Option R3:=WP hd f xs ob sel e (EV sel ob sel)
theorem TQ {f:FuncId} {xs:List SV} {ob:List Ob}:calls f xs ob=Fn (modes f).res (TP (modes f).hand f xs ob (reach ob 64 (Gs (modes f).hand xs) []) (E f)):=rfl
theorem WQ {r:Option R3}:Fn .asis r=r:=rfl
theorem WR {r:Option R3}:Fn .frz r=r:=rfl
theorem WS {l:List (Option (Nat × Nat))} {r:Option R3}:Fn (.own l) r=r:=rfl
theorem WT {l:List (Option (Nat × Nat))} {r:Option R3}:Fn (.half l) r=r:=rfl
theorem WU {l:List (Option (Nat × Nat))} {r:Option R3}:Fn (.tr l) r=r:=rfl
theorem WV {l:List Nat} {r:Option R3}:Fn (.frl l) r=r:=rfl
theorem WW {r:R3}:Fn .late (some r)=Ph r:=rfl
theorem IN:∀ u:List (Nat × Ob),D1 [] u=u
 | []=>rfl
 | (g,o) :: u=>by rw [D1,IN u]; rfl
theorem WX {m:RM} {b:Bool} {u:List (Nat × Ob)} {rd:List Nat}:Fn m (some (.bool b,u,rd))=some (.bool b,u,rd):=by
 cases m <;> first | rfl | (show some (SV.bool b,D1 [] u,rd)=_; rw [IN])
theorem WY {m:RM} {k:IntKind} {n:Int} {u:List (Nat × Ob)} {rd:List Nat}:Fn m (some (.int k n,u,rd))=some (.int k n,u,rd):=by
 cases m <;> first | rfl | (show some (SV.int k n,D1 [] u,rd)=_; rw [IN])
theorem Sy {hd:List Bool} {f:FuncId} {xs:List SV} {ob:List Ob} {e:List SV→List Ob→Option (SV × List Ob)}:TP hd f xs ob [] e=Px ob xs [] (e (FB hd (Ap ob) [] xs) []) 0:=rfl
theorem Q9 {hd:List Bool} {f:FuncId} {xs:List SV} {ob:List Ob} {g:Nat} {r:List Nat} {e:List SV→List Ob→Option (SV × List Ob)}:TP hd f xs ob (g :: r) e=WP hd f xs ob (g :: r) e (EV (g :: r) ob (g :: r)):=rfl
theorem VR {ob:List Ob} {xs:List SV} {r:SV} {fob':List Ob}:Px ob xs [] (some (r,fob')) 0=some (FD [] (B4 [] xs) ob.length r fob'):=rfl
theorem VS {ob:List Ob} {xs:List SV} {sel:List Nat} {r:SV} {fob':List Ob} {n:Nat}:Px ob xs sel (some (r,fob')) n=bif decide (n≤fob'.length) then some (FD sel (B4 sel xs) ob.length r fob') else none:=rfl
theorem WZ {hd:List Bool} {f:FuncId} {xs:List SV} {ob:List Ob} {sel:List Nat} {fob:List Ob} {e:List SV→List Ob→Option (SV × List Ob)}:WP hd f xs ob sel e (some fob)=bif FW sel&&IH ob.length sel&&GA fob.length fob then Px ob xs sel (e (FB hd (Ap ob) sel xs) fob) fob.length else none:=rfl
theorem Sz {p:Nat} {r:SV}:FD [] [] p r []=(r.ren (sgp [] p),[],[]):=rfl
def Oj {α:Type} (n0:Nat) (keep:List Nat) (H:α→St) (R:α→Prop) (μ:α→Nat) (a:α) (K:X→St→Prop):X→St→Prop
 | .normal,st'=>∃ y,R y∧μ y < μ a∧canon n0 keep st'=H y
 | .exit i,st'=>K (.exit i) st'
 | .ret,st'=>K .ret st'
theorem TR {α:Type} {keep:List Nat} {H:α→St} {R:α→Prop} {μ:α→Nat} {a:α} {st':St}:Oj n0 keep H R μ a K .normal st'=∃ y,R y∧μ y < μ a∧canon n0 keep st'=H y:=rfl
theorem TS {α:Type} {keep:List Nat} {H:α→St} {R:α→Prop} {μ:α→Nat} {a:α} {i:Nat} {st':St}:Oj n0 keep H R μ a K (.exit i) st'=K (.exit i) st':=rfl
theorem TT {α:Type} {keep:List Nat} {H:α→St} {R:α→Prop} {μ:α→Nat} {a:α} {st':St}:Oj n0 keep H R μ a K .ret st'=K .ret st':=rfl
theorem go_loop {α:Type} {keep:List Nat} {b:SC} (H:α→St) (R:α→Prop) (μ:α→Nat) (a0:α) (hR:R a0) (h0:canon n0 keep st=H a0) (round:∀ a,R a→go n0 b (H a) (Oj n0 keep H R μ a K)):go n0 (.loop keep b) st K:=by
 have key:∀ (n:Nat) (a:α) (st:St),μ a≤n→R a→canon n0 keep st=H a→∃ x st',Nq n0 keep (run n0 b) st=some (x,st')∧K x st':=by
  intro n
  induction n with
  | zero =>
   intro a st hn hR hc
   obtain ⟨x,st',h,k⟩:=round a hR
   cases x with
   | normal =>
    obtain ⟨y,_,h2,_⟩:=k
    omega
   | exit i=>exact ⟨_,st',by rw [Hy,hc,h]; rfl,k⟩
   | ret=>exact ⟨_,st',by rw [Hy,hc,h]; rfl,k⟩
  | succ n ih =>
   intro a st hn hR hc
   obtain ⟨x,st',h,k⟩:=round a hR
   cases x with
   | normal =>
    obtain ⟨y,h1,h2,h3⟩:=k
    obtain ⟨x2,st2,h4,k2⟩:=ih y st' (by omega) h1 h3
    exact ⟨x2,st2,by rw [Hy,hc,h]; exact h4,k2⟩
   | exit i=>exact ⟨_,st',by rw [Hy,hc,h]; rfl,k⟩
   | ret=>exact ⟨_,st',by rw [Hy,hc,h]; rfl,k⟩
 exact key (μ a0) a0 st (yN _) hR h0
def Ok (n0:Nat) (keep keepO:List Nat) (H:EL→St) (F:X × St) (p:EL):X→St→Prop
 | .normal,st'=>canon n0 keep st'=H p
 | .exit i,st'=>F=(.exit i,canon n0 keepO st')
 | .ret,st'=>F=(.ret,canon n0 keepO st')
def Ws (n0:Nat) (keepO:List Nat) (F:X × St):X→St→Prop
 | .normal,_=>False
 | .exit i,st'=>F=(.exit i,canon n0 keepO st')
 | .ret,st'=>F=(.ret,canon n0 keepO st')
theorem S1 {keep keepO:List Nat} {H:EL→St} {F:X × St} {p:EL} {st':St}:Ok n0 keep keepO H F p .normal st'=(canon n0 keep st'=H p):=rfl
theorem S2 {keep keepO:List Nat} {H:EL→St} {F:X × St} {p:EL} {i:Nat} {st':St}:Ok n0 keep keepO H F p (.exit i) st'=(F=(.exit i,canon n0 keepO st')):=rfl
theorem S3 {keep keepO:List Nat} {H:EL→St} {F:X × St} {p:EL} {st':St}:Ok n0 keep keepO H F p .ret st'=(F=(.ret,canon n0 keepO st')):=rfl
theorem VT {keepO:List Nat} {F:X × St} {i:Nat} {st':St}:Ws n0 keepO F (.exit i) st'=(F=(.exit i,canon n0 keepO st')):=rfl
theorem VU {keepO:List Nat} {F:X × St} {st':St}:Ws n0 keepO F .ret st'=(F=(.ret,canon n0 keepO st')):=rfl
end
def slots:Nat→Nat→List (Nat × SV)→List SV
 | 0,_,_=>[]
 | n+1,k,[]=>.any :: slots n (k+1) []
 | n+1,k,(j,x) :: r=>bif j == k then x :: slots n (k+1) r else .any :: slots n (k+1) ((j,x) :: r)
def VV (res:RM) (n0:Nat) (rs:List RX) (out:SV × List Ob) (x:X) (st:St):Prop:=fin res n0 rs x st=some out
def Xa (res:RM) (n0:Nat) (r:Option (SV × List Ob)):Option (SV × List Ob) :=
 match r with
 | some (r,ob)=>order res n0 r ob
 | none=>none
def Py (res:RM) (n0:Nat) (ob:List Ob) (r:Option SV):Option (SV × List Ob) :=
 match r with
 | some r0=>Xa res n0 (gc n0 r0 ob)
 | none=>none
theorem Xb {res:RM} {n0:Nat} {rs:List RX} {out:SV × List Ob} {sl:List SV} {ob:List Ob}:VV res n0 rs out .ret ⟨sl,ob⟩=(Py res n0 ob (Mz ⟨sl,ob⟩ rs)=some out):=rfl
theorem Xc {res:RM} {n0:Nat} {rs:List RX} {out:SV × List Ob} {sl:List SV} {ob:List Ob}:VV res n0 rs out .normal ⟨sl,ob⟩=(Py res n0 ob (Mz ⟨sl,ob⟩ rs)=some out):=rfl
theorem VW {res:RM} {n0:Nat} {ob:List Ob} {r:SV}:Py res n0 ob (some r)=Xa res n0 (gc n0 r ob):=rfl
theorem Xd {n0:Nat} {r:SV} {ob:List Ob} {res:RM}:Xa res n0 (some (r,ob))=order res n0 r ob:=rfl
theorem Ai {f:FuncId} {fc:FC} {hand:List Bool} {res:RM} {tr:Bool} {xs:List SV} {ob:List Ob} {out:SV × List Ob} (hc:Ar Tryz.prog f=some fc) (hr:modes f=⟨hand,res,none,tr⟩) (hn:xs.length≤fc.nt) (h:go ob.length (FE res fc.sc) ⟨xs++Jm (fc.nt-xs.length),entry tr ob⟩ (VV res ob.length fc.rs out)):E f xs ob=some out:=by
 obtain ⟨x,st',h1,h2⟩:=h
 unfold E
 rw [Wr]
 unfold FF
 rw [hc,hr]
 simp only
 rw [decide_eq_true hn,cond_true]
 have h1:fr Tryz.prog (CL modes (ev Tryz.prog modes)) (IK ob.length) (FE res fc.sc) ⟨xs++Jm (fc.nt-xs.length),entry tr ob⟩=some (x,st'):=h1
 rw [h1]
 exact h2
theorem QA {f:FuncId} {g:List SV→List Ob→Option (SV × List Ob)} {xs:List SV} {ob:List Ob} (hg:(modes f).ext=some g):E f xs ob=g xs ob:=by
 unfold E
 rw [Wr]
 unfold FF
 rw [hg]
theorem Rx {f:FuncId} {g:List SV→Option SV} {xs:List SV} {r:SV} (hg:(modes f).ext=some (K9 g)) (h:g xs=some r):E f xs []=some (r,[]):=by
 rw [QA hg]
 simp only [K9,h]
theorem Ae:modes 16=⟨[],.asis,some (K9 TG),false⟩:=by unfold modes; rfl
theorem C1 (s:ByteArray):E 16 [.str s] []=some (.bool (Bs s),[]):=Rx (g:=TG) (congrArg FM.ext Ae) rfl
theorem Ak:modes 21=⟨[],.asis,some (K9 TH),false⟩:=by unfold modes; rfl
theorem CG (s:ByteArray):E 21 [.str s] []=some (.bool (Bs s),[]):=Rx (g:=TH) (congrArg FM.ext Ak) rfl
theorem B8:modes 73=⟨[],.asis,some (K9 TI),false⟩:=by unfold modes; rfl
theorem LC (s:ByteArray):E 73 [.str s] []=some (.bool (DO s),[]):=Rx (g:=TI) (congrArg FM.ext B8) rfl
theorem B9:modes 85=⟨[],.asis,some (K9 TJ),false⟩:=by unfold modes; rfl
theorem LD (s:ByteArray):E 85 [.str s] []=some (.bool (DO s),[]):=Rx (g:=TJ) (congrArg FM.ext B9) rfl
abbrev Tm.sv (x:Tm):SV:=.agg [.str x.name,.arr (x.args.map Tm.d)]
mutual
def Tm.o:Tm→List OT
 | .mk name args=>[.str name,.ow (Tm.os args)]
def Tm.os:List Tm→List (List OT)
 | []=>[]
 | x :: xs=>Tm.o x :: Tm.os xs
end
theorem Tm.os_eq:∀ xs:List Tm,Tm.os xs=xs.map Tm.o
 | []=>rfl
 | x :: xs=>by rw [Tm.os,Tm.os_eq xs]; rfl
theorem Tm.o_eq (x:Tm):Tm.o x=[.str x.name,.ow (x.args.map Tm.o)]:=by
 obtain ⟨name,args⟩:=x
 rw [Tm.o,Tm.os_eq]; rfl
theorem Tm.ers_of:∀ xs:List Tm,(∀ x∈xs,OT.ers (Tm.o x)=Tm.d x)→OT.erss (xs.map Tm.o)=xs.map Tm.d
 | [],_=>rfl
 | x :: xs,h=>by
  simp only [zB,OT.erss]
  rw [h x (by simp),Tm.ers_of xs fun y hy=>h y (by simp [hy])]
theorem Tm.er (x:Tm):OT.ers (Tm.o x)=Tm.d x:=by
 have h:=Tm.ers_of x.args fun y hy=>Tm.er y
 rw [Tm.o_eq,Tm.d_eq]
 simp only [OT.ers,OT.er,h]
termination_by SizeOf.sizeOf x
decreasing_by exact Tm.lt_of_mem hy
theorem Tm.erss (xs:List Tm):OT.erss (xs.map Tm.o)=xs.map Tm.d:=Tm.ers_of xs fun x _=>Tm.er x
theorem Tm.nos_of:∀ xs:List Tm,(∀ x∈xs,OT.DZ (Tm.o x)=true)→OT.Cw (xs.map Tm.o)=true
 | [],_=>rfl
 | x :: xs,h=>by
  simp only [zB,OT.Cw]
  rw [h x (by simp),Tm.nos_of xs fun y hy=>h y (by simp [hy])]; rfl
theorem Tm.no (x:Tm):OT.DZ (Tm.o x)=true:=by
 have h:=Tm.nos_of x.args fun y hy=>Tm.no y
 rw [Tm.o_eq]
 simp only [OT.DZ,OT.noSh,h,zL,zW]
termination_by SizeOf.sizeOf x
decreasing_by exact Tm.lt_of_mem hy
theorem Tm.noss (xs:List Tm):OT.Cw (xs.map Tm.o)=true:=Tm.nos_of xs fun x _=>Tm.no x
abbrev Tm.osv (x:Tm):SV:=.agg [.str x.name,.ref 0]
abbrev Tm.obs (x:Tm):List Ob:=[.row 26 2 (x.args.map Tm.o)]
abbrev Fm.sv (x:Fm):SV:=.agg [.int .i64 x.op,.str x.atom.name,.arr (x.atom.args.map Tm.d),.str x.var,.arr (x.parts.map Fm.d)]
mutual
def Fm.o:Fm→List OT
 | .mk op atom var parts=>[.int op,.str atom.name,.ow (atom.args.map Tm.o),.str var,.ow (Fm.os parts)]
def Fm.os:List Fm→List (List OT)
 | []=>[]
 | x :: xs=>Fm.o x :: Fm.os xs
end
theorem Fm.os_eq:∀ xs:List Fm,Fm.os xs=xs.map Fm.o
 | []=>rfl
 | x :: xs=>by rw [Fm.os,Fm.os_eq xs]; rfl
theorem Fm.o_eq (x:Fm):Fm.o x=[.int x.op,.str x.atom.name,.ow (x.atom.args.map Tm.o),.str x.var,.ow (x.parts.map Fm.o)]:=by
 obtain ⟨op,atom,var,parts⟩:=x
 rw [Fm.o,Fm.os_eq]; rfl
theorem Fm.ers_of:∀ xs:List Fm,(∀ x∈xs,OT.ers (Fm.o x)=Fm.d x)→OT.erss (xs.map Fm.o)=xs.map Fm.d
 | [],_=>rfl
 | x :: xs,h=>by
  simp only [zB,OT.erss]
  rw [h x (by simp),Fm.ers_of xs fun y hy=>h y (by simp [hy])]
theorem Fm.er (x:Fm):OT.ers (Fm.o x)=Fm.d x:=by
 have h:=Fm.ers_of x.parts fun y hy=>Fm.er y
 rw [Fm.o_eq,Fm.d_eq]
 simp only [OT.ers,OT.er,h,Tm.erss]
termination_by SizeOf.sizeOf x
decreasing_by exact Fm.lt_of_mem hy
theorem Fm.erss (xs:List Fm):OT.erss (xs.map Fm.o)=xs.map Fm.d:=Fm.ers_of xs fun x _=>Fm.er x
theorem Fm.nos_of:∀ xs:List Fm,(∀ x∈xs,OT.DZ (Fm.o x)=true)→OT.Cw (xs.map Fm.o)=true
 | [],_=>rfl
 | x :: xs,h=>by
  simp only [zB,OT.Cw]
  rw [h x (by simp),Fm.nos_of xs fun y hy=>h y (by simp [hy])]; rfl
theorem Fm.no (x:Fm):OT.DZ (Fm.o x)=true:=by
 have h:=Fm.nos_of x.parts fun y hy=>Fm.no y
 rw [Fm.o_eq]
 simp only [OT.DZ,OT.noSh,h,Tm.noss,zL,zW]
termination_by SizeOf.sizeOf x
decreasing_by exact Fm.lt_of_mem hy
theorem Fm.noss (xs:List Fm):OT.Cw (xs.map Fm.o)=true:=Fm.nos_of xs fun x _=>Fm.no x
abbrev Fm.osv (x:Fm):SV:=.agg [.int .i64 x.op,.str x.atom.name,.ref 0,.str x.var,.ref 1]
abbrev Fm.obs (x:Fm):List Ob:=[.row 26 2 (x.atom.args.map Tm.o),.row 29 5 (x.parts.map Fm.o)]
abbrev Bd.sv (x:Bd):SV:=.agg [.str x.var,.str x.term.name,.arr (x.term.args.map Tm.d)]
def Bd.o (x:Bd):List OT:=[.str x.var,.str x.term.name,.ow (x.term.args.map Tm.o)]
theorem Bd.er (x:Bd):OT.ers (Bd.o x)=Bd.d x:=by
 simp only [Bd.o,Bd.d,OT.ers,OT.er,Tm.erss]
theorem Bd.erss:∀ xs:List Bd,OT.erss (xs.map Bd.o)=xs.map Bd.d
 | []=>rfl
 | x :: xs=>by simp only [zB,OT.erss,Bd.er,Bd.erss xs]
theorem Bd.no (x:Bd):OT.DZ (Bd.o x)=true:=by
 simp only [Bd.o,OT.DZ,OT.noSh,Tm.noss,zL,zW]
theorem Bd.noss:∀ xs:List Bd,OT.Cw (xs.map Bd.o)=true
 | []=>rfl
 | x :: xs=>by simp only [zB,OT.Cw,Bd.no,Bd.noss xs,zL]
abbrev Sb.sv (x:Sb):SV:=.agg [.arr (x.binds.map Bd.d)]
def Sb.o (x:Sb):List OT:=[.ow (x.binds.map Bd.o)]
theorem Sb.er (x:Sb):OT.ers (Sb.o x)=Sb.d x:=by
 simp only [Sb.o,Sb.d,OT.ers,OT.er,Bd.erss]
theorem Sb.erss:∀ xs:List Sb,OT.erss (xs.map Sb.o)=xs.map Sb.d
 | []=>rfl
 | x :: xs=>by simp only [zB,OT.erss,Sb.er,Sb.erss xs]
theorem Sb.no (x:Sb):OT.DZ (Sb.o x)=true:=by
 simp only [Sb.o,OT.DZ,OT.noSh,Bd.noss,zL,zW]
theorem Sb.noss:∀ xs:List Sb,OT.Cw (xs.map Sb.o)=true
 | []=>rfl
 | x :: xs=>by simp only [zB,OT.Cw,Sb.no,Sb.noss xs,zL]
theorem BA {n:Int} (h1:-9223372036854775808≤n) (h2:n≤9223372036854775807):dec (inK .i64 n)=true:=A5 (Vt.2 ⟨h1,h2⟩)
theorem get_at {α β:Type} (f:α→β) {xs:List α} {k:Nat} (h:k<xs.length):(xs.map f)[k]?=some (f xs[k]):=by rw [List.getElem?_map,zU h]; rfl
theorem XB:dec True=true:=A5 trivial
theorem XC:dec False=false:=An fun h=>h
attribute [go_sem] pfx EO Ij OT.Cq OT.Ii OT.half WT V7 FB OY SV.isNil Ob.idsB SV.idsB SV.Ko List.getElem?_cons_zero List.getElem?_cons_succ OT.AH OT.CR OT.full entry toTree Rs Pl Rr EW Gr Ec Ty MR T7 OT.erss OT.ers OT.er OT.Cw OT.DZ OT.noSh quiet obB Qd I9 meets Hj go_skip VI go_ret WB VJ WC TM VK VL VM WD WE WF X6 X7 X8 VN VO TN Sw VP TO Sx VQ WI WJ X9 WK WL WM XA WN WO TQ WQ WR WS WU WV WW WX WY Ph Pg D1 seen Sy Q9 VR VS WZ Sz FD TR TS TT Xb Xc VW Xd order opF fOp E9 Rn Vu Rl Rm Tx Hr eqK A4 gets Ap My Fk Dk Jf Li AT Sf SV.cellsN SV.one Ie splice D4 OJ Id Jd Dv BN Cg BM Gf GU Qf eOp.mkEs eOp.addS D.sv OT.sv D.ot Gl FW reach SV.refs SV.Nf SV.ptrs SV.Ng Ob.refs Ob.liveB Gs EV SV.back SV.Kp Ob.back Gj GV C0 B4 B5 IH GA SV.ren SV.Jj Ob.ren mkU sgp gc Kt names Jn Vx Vy Vz Ly T8 V3 V4 V5 V6 V8 V9 SC.mark Nk Fp slots Mz Qn rxV Jm Pf SV.noSh SV.Kl Ob.noSh SV.own SV.Oc Fo cond_true cond_false zM zZ zB zJ List.drop_succ_cons zN List.drop_nil yW y9 List.take_nil List.append_nil yE yK yS List.all_nil List.getD_cons_zero List.getD_cons_succ y3 List.any_nil List.contains_cons List.contains_nil List.isEmpty_nil List.isEmpty_cons List.flatten_cons List.flatten_nil List.replicate_succ List.replicate_zero List.set_cons_zero List.set_cons_succ y6 yX yN zP zW yF zL Bool.or_false y4 Bool.true_or Bool.or_true Bool.not_true Bool.not_false yI yJ decide_true decide_false beq_self_eq_true if_true if_false Option.map_some Option.map_none zO yR Option.getD_none yO true_and and_true and_self eq_self_iff_true zQ Bool.false_eq_true Bool.true_eq_false zV SV.int.injEq SV.bool.injEq SV.str.injEq SV.agg.injEq SV.tup.injEq SV.arr.injEq List.cons.injEq St.mk.injEq Int.zero_add XB XC BA A5 An Xy svK svD Td svM MV.sv Ra Tz T0 T1 FU St.app Pn MK.sv S1 S2 S3 VT VU
attribute [go_sem_proc] Nat.reduceAdd Nat.reduceSub Nat.reduceLT Nat.reduceLeDiff Nat.reduceEqDiff Nat.reduceBEq Nat.reduceBneDiff Nat.reduceMul Int.reduceToNat Int.reduceNeg Int.reduceAdd reduceCtorEq
attribute [go_sem_proc ↓] reduceIte
theorem Ry:∀ xs:List ByteArray,OT.AH (xs.map fun s=>[OT.str s])=true
 | []=>rfl
 | x :: xs=>by simp only [zB,OT.AH,OT.CR,OT.full,Ry xs,zL]
theorem Rz:∀ xs:List Int,OT.AH (xs.map fun n=>[OT.int n])=true
 | []=>rfl
 | x :: xs=>by simp only [zB,OT.AH,OT.CR,OT.full,Rz xs,zL]
theorem Tm.fu_of:∀ xs:List Tm,(∀ x∈xs,OT.CR (Tm.o x)=true)→OT.AH (xs.map Tm.o)=true
 | [],_=>rfl
 | x :: xs,h=>by
  simp only [zB,OT.AH]
  rw [h x (by simp),Tm.fu_of xs fun y hy=>h y (by simp [hy])]; rfl
theorem Tm.fu (x:Tm):OT.CR (Tm.o x)=true:=by
 have h:=Tm.fu_of x.args fun y hy=>Tm.fu y
 rw [Tm.o_eq]
 simp only [OT.CR,OT.full,h,zL,zW]
termination_by SizeOf.sizeOf x
decreasing_by exact Tm.lt_of_mem hy
theorem Tm.fus (xs:List Tm):OT.AH (xs.map Tm.o)=true:=Tm.fu_of xs fun x _=>Tm.fu x
theorem Fm.fu_of:∀ xs:List Fm,(∀ x∈xs,OT.CR (Fm.o x)=true)→OT.AH (xs.map Fm.o)=true
 | [],_=>rfl
 | x :: xs,h=>by
  simp only [zB,OT.AH]
  rw [h x (by simp),Fm.fu_of xs fun y hy=>h y (by simp [hy])]; rfl
theorem Fm.fu (x:Fm):OT.CR (Fm.o x)=true:=by
 have h:=Fm.fu_of x.parts fun y hy=>Fm.fu y
 rw [Fm.o_eq]
 simp only [OT.CR,OT.full,h,Tm.fus,zL,zW]
termination_by SizeOf.sizeOf x
decreasing_by exact Fm.lt_of_mem hy
theorem Fm.fus (xs:List Fm):OT.AH (xs.map Fm.o)=true:=Fm.fu_of xs fun x _=>Fm.fu x
theorem Bd.fu (x:Bd):OT.CR (Bd.o x)=true:=by
 simp only [Bd.o,OT.CR,OT.full,Tm.fus,zL,zW]
theorem Bd.fus:∀ xs:List Bd,OT.AH (xs.map Bd.o)=true
 | []=>rfl
 | x :: xs=>by simp only [zB,OT.AH,Bd.fu,Bd.fus xs,zL]
theorem Sb.fu (x:Sb):OT.CR (Sb.o x)=true:=by
 simp only [Sb.o,OT.CR,OT.full,Bd.fus,zL,zW]
theorem Sb.fus:∀ xs:List Sb,OT.AH (xs.map Sb.o)=true
 | []=>rfl
 | x :: xs=>by simp only [zB,OT.AH,Sb.fu,Sb.fus xs,zL]
attribute [go_sem] Ry Rz VB VC VD VE Tm.fus Tm.erss Tm.noss Fm.fus Fm.erss Fm.noss Bd.fus Bd.erss Bd.noss Sb.fus Sb.erss Sb.noss
theorem TU {α:Type} (a:α):dec (a=a)=true:=A5 rfl
def Fw {α β:Type} (f:α→β) (z:β) (xs:List α) (k:Nat):List β:=(xs.take k).map f++zH (xs.length-k) z
section
variable {α β:Type} (f:α→β) (z:β) {xs:List α} {k:Nat}
theorem LE:Fw f z xs 0=zH xs.length z:=by simp [Fw]
theorem Nx:(Fw f z xs k).length=xs.length:=by simp [Fw]; omega
theorem Ny:Fw f z xs xs.length=xs.map f:=by simp [Fw]
theorem Nz (h:k<xs.length):(Fw f z xs k)[k]?=some z:=by
 have hl:((xs.take k).map f).length=k:=by simp; omega
 unfold Fw
 rw [List.getElem?_append_right (by omega),hl,Nat.sub_self,List.getElem?_replicate]
 simp; omega
theorem N0 (h:k<xs.length):(Fw f z xs k).set k (f xs[k])=Fw f z xs (k+1):=by
 have hl:((xs.take k).map f).length=k:=by simp; omega
 have e:List.take (k+1) xs=List.take k xs++[xs[k]]:=yP h
 unfold Fw
 rw [List.set_append_right _ _ (by omega),hl,Nat.sub_self,e,yD,List.append_assoc]
 congr 1
 rw [show xs.length-k=(xs.length-(k+1))+1 by omega,List.replicate_succ,List.set_cons_zero]
 rfl
end
theorem VX (a b:Int):(bif dec (a<b) then b else a)=max a b:=by
 by_cases h:a<b
 ·rw [A5 h,cond_true,Int.max_eq_right (by omega)]
 ·rw [An h,cond_false,Int.max_eq_left (by omega)]
def D2 {α:Type} (p:α→Bool):List α→Int→Int
 | [],_=>-1
 | x :: xs,i=>if p x then i else D2 p xs (i+1)
theorem LF {α:Type} (p:α→Bool):∀ (xs:List α),dec (0≤D2 p xs 0)=xs.any p:=by
 have key:∀ (xs:List α) (i:Int),0≤i→(0≤D2 p xs i ↔ xs.any p=true):=by
  intro xs
  induction xs with
  | nil=>intro i h; simp [D2]
  | cons x xs ih =>
   intro i h
   simp only [D2,y3,zY]
   by_cases hp:p x=true
   ·simp [hp,h]
   ·rw [if_neg hp,ih (i+1) (by omega)]; simp [hp]
 intro xs
 cases h:xs.any p with
 | true=>exact A5 ((key xs 0 (by omega)).2 h)
 | false=>exact An fun h'=>by rw [(key xs 0 (by omega)).1 h'] at h; cases h
theorem LG {p q:Prop} (h:p ↔ q):dec p=dec q:=by rw [propext h]
mutual
def Tm.nodes:Tm→Nat
 | .mk _ args=>1+Tm.nodeS args
def Tm.nodeS:List Tm→Nat
 | []=>0
 | x :: xs=>Tm.nodes x+Tm.nodeS xs
end
theorem Tm.nodes_eq (x:Tm):x.nodes=1+Tm.nodeS x.args:=by
 obtain ⟨name,args⟩:=x
 rw [Tm.nodes]; rfl
theorem Tm.nodes_pos (x:Tm):1≤x.nodes:=by rw [Tm.nodes_eq]; omega
theorem Tm.nodes_le:∀ (xs:List Tm) (k:Nat) (h:k<xs.length),xs[k].nodes≤Tm.nodeS xs
 | [],k,h=>absurd h (by simp)
 | x :: xs,0,_=>by rw [Tm.nodeS]; simp
 | x :: xs,k+1,h=>by
  have:=Tm.nodes_le xs k (by simpa using h)
  rw [Tm.nodeS]; simp only [zX]; omega
mutual
def Tm.deep:Tm→Nat
 | .mk _ args=>Tm.FG args+1
def Tm.FG:List Tm→Nat
 | []=>0
 | x :: xs=>max (Tm.deep x) (Tm.FG xs)
end
theorem Tm.Ol (x:Tm):x.deep=Tm.FG x.args+1:=by
 obtain ⟨name,args⟩:=x
 rw [Tm.deep]; rfl
theorem Tm.H1:∀ xs:List Tm,(∀ y∈xs,y.deep≤y.nodes)→Tm.FG xs≤Tm.nodeS xs
 | [],_=>by simp [Tm.FG]
 | x :: xs,h=>by
  have h1:=h x (by simp)
  have h2:=Tm.H1 xs fun y hy=>h y (by simp [hy])
  rw [Tm.FG,Tm.nodeS]; omega
theorem Tm.FX (x:Tm):x.deep≤x.nodes:=by
 rw [Tm.Ol,Tm.nodes_eq]
 have:=Tm.H1 x.args fun y hy=>Tm.FX y
 omega
termination_by SizeOf.sizeOf x
decreasing_by exact Tm.lt_of_mem hy
mutual
def Tm.names:Tm→Bool
 | .mk name args=>if Bs name then args.length == 0 else DO name&&decide (args.length≤4)&&Tm.EP args
def Tm.EP:List Tm→Bool
 | []=>true
 | x :: xs=>Tm.names x&&Tm.EP xs
end
theorem Tm.H2 (x:Tm):x.names=if Bs x.name then x.args.length == 0 else DO x.name&&decide (x.args.length≤4)&&Tm.EP x.args:=by
 obtain ⟨name,args⟩:=x
 rw [Tm.names]; rfl
theorem Tm.Ff:∀ xs:List Tm,Tm.EP xs=xs.all Tm.names
 | []=>rfl
 | x :: xs=>by rw [Tm.EP,Tm.Ff xs]; rfl
theorem Tm.length_le:∀ xs:List Tm,xs.length≤Tm.nodeS xs
 | []=>yN _
 | x :: xs=>by
  have:=Tm.length_le xs
  have:=Tm.nodes_pos x
  rw [Tm.nodeS]; simp only [zM]; omega
theorem Tm.nodes_mem {xs:List Tm} {y:Tm} (h:y∈xs):y.nodes≤Tm.nodeS xs:=by
 obtain ⟨k,hk,rfl⟩:=yV h
 exact Tm.nodes_le xs k hk
def Tm.small (x:Tm):Bool:=decide (x.nodes≤30)&&decide (x.deep≤8)
def Tm.valid (x:Tm):Bool:=x.small&&x.names
noncomputable def Tm.eqn (x:Tm):Bool:=dec (x.name=⟨#[61]⟩)
noncomputable def Tm.atom (x:Tm):Bool:=if x.eqn then x.args.length == 2&&x.small&&Tm.EP x.args else DO x.name&&x.valid
theorem N1 {xs:List Tm} (h:xs.length=2):Tm.EP xs=((xs[0]'(by omega)).names&&(xs[1]'(by omega)).names):=by
 match xs,h with
 | [a,b],_=>simp [Tm.EP]
mutual
def Tm.cap:Tm→Int
 | .mk _ xs=>Tm.capL xs 1
def Tm.capL:List Tm→Int→Int
 | [],n=>n
 | x :: xs,n=>if 30 < n then n else Tm.capL xs (n+Tm.cap x)
end
theorem Tm.cap_eq (x:Tm):x.cap=Tm.capL x.args 1:=by
 obtain ⟨n,xs⟩:=x
 rw [Tm.cap]; rfl
theorem Tm.capL_spec:∀ (xs:List Tm) (n:Int),(∀ x∈xs,1≤x.cap∧x.cap≤x.nodes∧(x.cap≤30→x.cap=x.nodes))→1≤n→n≤Tm.capL xs n∧Tm.capL xs n≤n+Tm.nodeS xs∧(Tm.capL xs n≤30→Tm.capL xs n=n+Tm.nodeS xs)
 | [],n,_,h=>by simp [Tm.capL,Tm.nodeS]
 | x :: xs,n,hx,h=>by
  rw [Tm.capL,Tm.nodeS]
  have h1:=hx x (by simp)
  split
  ·omega
  ·have:=Tm.capL_spec xs (n+x.cap) (fun y hy=>hx y (by simp [hy])) (by omega)
   omega
theorem Tm.cap_spec (x:Tm):1≤x.cap∧x.cap≤x.nodes∧(x.cap≤30→x.cap=x.nodes):=by
 rw [Tm.cap_eq,Tm.nodes_eq]
 have:=Tm.capL_spec x.args 1 (fun y hy=>Tm.cap_spec y) (by omega)
 omega
termination_by SizeOf.sizeOf x
decreasing_by exact Tm.lt_of_mem hy
mutual
def Tm.many:Tm→Int→Int
 | .mk _ xs,m=>Tm.manyL xs m 1
def Tm.manyL:List Tm→Int→Int→Int
 | [],_,n=>n
 | x :: xs,m,n=>if n≤m then Tm.manyL xs m (n+Tm.many x (m-n)) else n
end
theorem Tm.many_eq (x:Tm) (m:Int):x.many m=Tm.manyL x.args m 1:=by
 obtain ⟨n,xs⟩:=x
 rw [Tm.many]; rfl
theorem Tm.manyL_spec (m:Int):∀ (xs:List Tm) (n:Int),(∀ x∈xs,∀ m,0≤m→1≤x.many m∧x.many m≤x.nodes∧(x.many m≤m→x.many m=x.nodes))→1≤n→n≤Tm.manyL xs m n∧Tm.manyL xs m n≤n+Tm.nodeS xs∧(Tm.manyL xs m n≤m→Tm.manyL xs m n=n+Tm.nodeS xs)
 | [],n,_,h=>by simp [Tm.manyL,Tm.nodeS]
 | x :: xs,n,hx,h=>by
  rw [Tm.manyL,Tm.nodeS]
  split
  ·have h1:=hx x (by simp) (m-n) (by omega)
   have:=Tm.manyL_spec m xs (n+x.many (m-n)) (fun y hy=>hx y (by simp [hy])) (by omega)
   omega
  ·omega
theorem Tm.many_spec (x:Tm) (m:Int):1≤x.many m∧x.many m≤x.nodes∧(x.many m≤m→x.many m=x.nodes):=by
 rw [Tm.many_eq,Tm.nodes_eq]
 have:=Tm.manyL_spec m x.args 1 (fun y hy m _=>Tm.many_spec y m) (by omega)
 omega
termination_by SizeOf.sizeOf x
decreasing_by exact Tm.lt_of_mem hy
mutual
noncomputable def Tm.ap (f:ByteArray→Option Tm):Tm→Tm
 | .mk name args=>if Bs name then (f name).getD (.mk name []) else .mk name (Tm.apL f args)
noncomputable def Tm.apL (f:ByteArray→Option Tm):List Tm→List Tm
 | []=>[]
 | x :: xs=>Tm.ap f x :: Tm.apL f xs
end
theorem Tm.H3 (f:ByteArray→Option Tm) (x:Tm):x.ap f=if Bs x.name then (f x.name).getD (.mk x.name []) else .mk x.name (Tm.apL f x.args):=by
 obtain ⟨name,args⟩:=x
 rw [Tm.ap]; rfl
theorem Tm.R0 (f:ByteArray→Option Tm):∀ xs:List Tm,(Tm.apL f xs).length=xs.length
 | []=>by rw [Tm.apL]
 | x :: xs=>by rw [Tm.apL]; simp only [zM,Tm.R0 f xs]
theorem Tm.GH (f:ByteArray→Option Tm):∀ xs:List Tm,Tm.apL f xs=xs.map (Tm.ap f)
 | []=>by rw [Tm.apL]; rfl
 | x :: xs=>by rw [Tm.apL,Tm.GH f xs]; rfl
def okF (f:ByteArray→Option Tm):Prop:=∀ n t,f n=some t→t.names=true∧t.nodes≤30
theorem Tm.Pz {f:ByteArray→Option Tm}:∀ xs:List Tm,(∀ y∈xs,(y.ap f).nodes≤30*y.nodes)→Tm.nodeS (Tm.apL f xs)≤30*Tm.nodeS xs
 | [],_=>by rw [Tm.apL,Tm.nodeS]; omega
 | x :: xs,h=>by
  have h1:=h x (by simp)
  have h2:=Tm.Pz xs fun y hy=>h y (by simp [hy])
  rw [Tm.apL,Tm.nodeS,Tm.nodeS]; omega
theorem Tm.LH {f:ByteArray→Option Tm} (hf:okF f) (x:Tm):(x.ap f).nodes≤30*x.nodes:=by
 have hp:=Tm.nodes_pos x
 rw [Tm.H3]
 split
 ·cases hq:f x.name with
  | none =>
   have:(Tm.mk x.name []).nodes=1+Tm.nodeS []:=Tm.nodes_eq (Tm.mk x.name [])
   rw [Tm.nodeS] at this
   rw [Option.getD_none]; omega
  | some t=>have:=(hf _ _ hq).2; rw [yR]; omega
 ·have h1:(Tm.mk x.name (Tm.apL f x.args)).nodes=1+Tm.nodeS (Tm.apL f x.args):=Tm.nodes_eq (Tm.mk x.name (Tm.apL f x.args))
  have h2:=Tm.Pz (f:=f) x.args fun y hy=>Tm.LH hf y
  have h3:=Tm.nodes_eq x
  omega
termination_by SizeOf.sizeOf x
decreasing_by exact Tm.lt_of_mem hy
theorem Tm.Ek {x:Tm} (h:x.names=true) (hv:Bs x.name=true):x.args=[]:=by
 rw [Tm.H2,if_pos hv] at h
 exact zC (by simpa using h)
theorem Tm.El {x:Tm} (h:x.names=true) {y:Tm} (hy:y∈x.args):y.names=true:=by
 rw [Tm.H2] at h
 split at h
 ·have:x.args=[]:=zC (by simpa using h)
  rw [this] at hy; cases hy
 ·rw [zA,Tm.Ff,zS] at h
  exact h.2 y hy
def Ky:SC:=(.seq (.reg [⟨some 1,none,.boxv 26 2 (.t 0)⟩,⟨some 2,none,.mv (.c (.int .i64 0))⟩]) (.seq (.reg [⟨some 3,none,.mv (.c (.int .i64 1))⟩]) (.seq (.seq (.reg [⟨some 6,none,.faddr 1 (.t 1)⟩,⟨some 7,none,.load false 1 (.t 6)⟩,⟨some 8,none,.len false (.t 7)⟩,⟨some 9,none,.mv (.c (.int .i64 0))⟩]) (.block 0 (.loop [0,0,0,1,0,0,0,1,1,1,0,0,0,0,0,0,0,0,0,0,0,0] (.seq (.reg [⟨some 10,none,.bin .lss false (.t 9) (.t 8)⟩]) (.seq (.cond (.t 10) .skip (.exit 0)) (.seq (.block 1 (.seq (.reg [⟨some 11,none,.iaddr 2 (.t 7) (.t 9)⟩,⟨some 12,none,.load true 2 (.t 11)⟩,⟨(some 5),none,(.alloc 26 [(.str ⟨#[]⟩),.nil])⟩,⟨none,none,(.store 2 (.t 5) (.t 12))⟩]) (.seq (.seq (.reg [⟨some 13,none,.mv (.t 3)⟩,⟨some 14,none,.bin .gtr false (.t 13) (.c (.int .i64 30))⟩]) (.cond (.t 14) (.seq (.reg [⟨some 15,none,.mv (.t 3)⟩,⟨some 2,none,.mv (.t 15)⟩]) .ret) .skip)) (.reg [⟨some 16,none,.mv (.t 3)⟩,⟨some 17,none,.load true 2 (.t 5)⟩,⟨some 18,none,.call 71 [(.t 17)]⟩,⟨some 19,none,.bin .add false (.t 16) (.t 18)⟩,⟨some 3,none,.mv (.t 19)⟩])))) (.reg [⟨some 20,none,.bin .add false (.t 9) (.c (.int .i64 1))⟩,⟨some 9,none,.mv (.t 20)⟩]))))))) (.seq (.reg [⟨some 21,none,.mv (.t 3)⟩,⟨some 2,none,.mv (.t 21)⟩]) .ret))))
theorem P0:Ar Tryz.prog 71=some ⟨22,Ky,[(.tmp 2)]⟩:=by kernel_rfl
theorem EA:modes 71=⟨[],.asis,none,false⟩:=by unfold modes; rfl
theorem VY (x:Tm) (hn:x.nodes≤1099511627776) (ih:∀ y∈x.args,E 71 [y.sv] []=some (.int .i64 y.cap,[])):E 71 [x.sv] []=some (.int .i64 x.cap,[]):=by
 have hl:=Tm.length_le x.args
 have hx:=Tm.nodes_eq x
 rw [Tm.cap_eq]
 refine Ai P0 EA (of_decide_eq_true rfl) ?_
 simp (disch:=omega) only [Ky,go_sem,Ab]
 refine go_loop (α:=Int × Int) (fun a=>⟨slots 22 0 [(3,.int .i64 a.2),(7,.arr (x.args.map Tm.d)),(8,.int .i64 x.args.length),(9,.int .i64 a.1)],[]⟩) (fun a=>∃ k:Nat,a.1=k∧k≤x.args.length∧1≤a.2∧a.2+Tm.nodeS (x.args.drop k)≤x.nodes∧Tm.capL (x.args.drop k) a.2=Tm.capL x.args 1) (fun a=>x.args.length-a.1.toNat) (0,1) ⟨0,rfl,zP _,by dsimp only; omega,by rw [zN]; dsimp only; omega,rfl⟩ (by simp (disch:=omega) only [go_sem,Ab]) ?_
 rintro ⟨i,n⟩ ⟨k,hi,hk,hn0,hn1,hs⟩
 dsimp only at hi hn0 hn1 hs
 have hni:i.toNat=k:=by omega
 rcases zD k x.args.length with hlt | hge
 ·have hg:=get_at Tm.d hlt
  rw [Tm.d_eq] at hg
  have hd:x.args.drop k=x.args[k] :: x.args.drop (k+1):=zG hlt
  have hc:=ih x.args[k] (zE hlt)
  have hp:=Tm.cap_spec x.args[k]
  rw [hd,Tm.capL] at hs
  rw [hd,Tm.nodeS] at hn1
  rcases Int.lt_or_le 30 n with h30 | h30
  ·rw [if_pos h30] at hs
   simp (disch:=omega) only [go_sem,Ab,hni,hg,hc,EA]
   exact hs
  ·rw [if_neg (by omega)] at hs
   simp (disch:=omega) only [go_sem,Ab,hni,hg,hc,EA]
   refine ⟨(i+1,n+x.args[k].cap),⟨k+1,by dsimp only; omega,hlt,by dsimp only; omega,by dsimp only; omega,hs⟩,by dsimp only; omega,?_⟩
   simp only [and_self]
 ·have hd:x.args.drop k=[]:=zI hge
  rw [hd,Tm.capL] at hs
  simp (disch:=omega) only [go_sem,Ab,hni]
  exact hs
theorem TV (x:Tm) (hn:x.nodes≤1099511627776):E 71 [x.sv] []=some (.int .i64 x.cap,[]) :=
 VY x hn fun y hy=>TV y (by have:=Tm.nodes_mem hy; have:=Tm.nodes_eq x; omega)
termination_by SizeOf.sizeOf x
decreasing_by exact Tm.lt_of_mem hy
def Ik:SC:=(.seq (.reg [⟨some 2,none,.boxv 26 2 (.t 0)⟩,⟨some 4,none,.mv (.c (.int .i64 0))⟩]) (.seq (.reg [⟨some 5,none,.mv (.c (.int .i64 1))⟩]) (.seq (.seq (.reg [⟨some 6,none,.mv (.c (.int .i64 0))⟩]) (.block 0 (.loop [0,1,1,0,0,1,1,0,0,0,0,0,0,0,0,0,0,0,0,0,0,0,0,0,0,0,0,0,0,0,0] (.seq (.seq (.reg [⟨some 7,none,.mv (.t 6)⟩,⟨some 8,none,.faddr 1 (.t 2)⟩,⟨some 9,none,.load false 1 (.t 8)⟩,⟨some 10,none,.len false (.t 9)⟩,⟨some 11,none,.bin .lss false (.t 7) (.t 10)⟩,⟨some 12,none,.mv (.t 11)⟩,⟨(some 13),(some (12,true)),(.mv (.t 5))⟩,⟨(some 14),(some (12,true)),(.mv (.t 1))⟩,⟨(some 15),(some (12,true)),(.bin .leq false (.t 13) (.t 14))⟩,⟨some 16,none,.pick (.t 12) (.t 15) (.c (.bool false))⟩]) (.cond (.t 16) .skip (.exit 0))) (.seq (.block 1 (.reg [⟨some 19,none,.mv (.t 5)⟩,⟨some 20,none,.faddr 1 (.t 2)⟩,⟨some 21,none,.load false 1 (.t 20)⟩,⟨some 22,none,.mv (.t 6)⟩,⟨some 23,none,.iaddr 2 (.t 21) (.t 22)⟩,⟨some 24,none,.load true 2 (.t 23)⟩,⟨some 25,none,.mv (.t 1)⟩,⟨some 26,none,.mv (.t 5)⟩,⟨some 27,none,.bin .sub false (.t 25) (.t 26)⟩,⟨some 28,none,.call 83 [(.t 24),(.t 27)]⟩,⟨some 29,none,.bin .add false (.t 19) (.t 28)⟩,⟨some 5,none,.mv (.t 29)⟩])) (.reg [⟨some 17,none,.mv (.t 6)⟩,⟨some 18,none,.bin .add false (.t 17) (.c (.int .i64 1))⟩,⟨some 6,none,.mv (.t 18)⟩])))))) (.seq (.reg [⟨some 30,none,.mv (.t 5)⟩,⟨some 4,none,.mv (.t 30)⟩]) .ret))))
theorem M5:Ar Tryz.prog 83=some ⟨31,Ik,[(.tmp 4)]⟩:=by kernel_rfl
theorem D6:modes 83=⟨[],.asis,none,false⟩:=by unfold modes; rfl
theorem VZ (x:Tm) (m:Int) (hm:0≤m) (hm1:m≤1099511627776) (hn:x.nodes≤1099511627776) (ih:∀ y∈x.args,∀ m:Int,0≤m→m≤1099511627776→E 83 [y.sv,.int .i64 m] []=some (.int .i64 (y.many m),[])):E 83 [x.sv,.int .i64 m] []=some (.int .i64 (x.many m),[]):=by
 have hl:=Tm.length_le x.args
 have hx:=Tm.nodes_eq x
 rw [Tm.many_eq]
 refine Ai M5 D6 (of_decide_eq_true rfl) ?_
 simp (disch:=omega) only [Ik,go_sem,Ab]
 refine go_loop (α:=Int × Int) (fun a=>⟨slots 31 0 [(1,.int .i64 m),(2,.ptr 0 0),(5,.int .i64 a.2),(6,.int .i64 a.1)],[.box 26 [.str x.name,.arr (x.args.map Tm.d)]]⟩) (fun a=>∃ k:Nat,a.1=k∧k≤x.args.length∧1≤a.2∧a.2+Tm.nodeS (x.args.drop k)≤x.nodes∧Tm.manyL (x.args.drop k) m a.2=Tm.manyL x.args m 1) (fun a=>x.args.length-a.1.toNat) (0,1) ⟨0,rfl,zP _,by dsimp only; omega,by rw [zN]; dsimp only; omega,rfl⟩ (by simp (disch:=omega) only [go_sem,Ab]) ?_
 rintro ⟨i,n⟩ ⟨k,hi,hk,hn0,hn1,hs⟩
 dsimp only at hi hn0 hn1 hs
 have hni:i.toNat=k:=by omega
 rcases zD k x.args.length with hlt | hge
 ·have hg:=get_at Tm.d hlt
  rw [Tm.d_eq] at hg
  have hd:x.args.drop k=x.args[k] :: x.args.drop (k+1):=zG hlt
  rw [hd,Tm.manyL] at hs
  rw [hd,Tm.nodeS] at hn1
  rcases Int.lt_or_le m n with h30 | h30
  ·rw [if_neg (by omega)] at hs
   simp (disch:=omega) only [go_sem,Ab,hni,hg,D6]
   exact hs
  ·rw [if_pos h30] at hs
   have hc:=ih x.args[k] (zE hlt) (m-n) (by omega) (by omega)
   have hp:=Tm.many_spec x.args[k] (m-n)
   simp (disch:=omega) only [go_sem,Ab,hni,hg,hc,D6]
   refine ⟨(i+1,n+x.args[k].many (m-n)),⟨k+1,by dsimp only; omega,hlt,by dsimp only; omega,by dsimp only; omega,hs⟩,by dsimp only; omega,?_⟩
   simp only [and_self]
 ·have hd:x.args.drop k=[]:=zI hge
  rw [hd,Tm.manyL] at hs
  simp (disch:=omega) only [go_sem,Ab,hni]
  exact hs
theorem TW (x:Tm) (m:Int) (hm:0≤m) (hm1:m≤1099511627776) (hn:x.nodes≤1099511627776):E 83 [x.sv,.int .i64 m] []=some (.int .i64 (x.many m),[]) :=
 VZ x m hm hm1 hn fun y hy m hm hm1=>TW y m hm hm1 (by have:=Tm.nodes_mem hy; have:=Tm.nodes_eq x; omega)
termination_by SizeOf.sizeOf x
decreasing_by exact Tm.lt_of_mem hy
def Jp:SC:=(.seq (.reg [⟨some 1,none,.boxv 26 2 (.t 0)⟩,⟨some 2,none,.mv (.c (.int .i64 0))⟩]) (.seq (.reg [⟨some 3,none,.mv (.c (.int .i64 0))⟩]) (.seq (.seq (.reg [⟨some 6,none,.faddr 1 (.t 1)⟩,⟨some 7,none,.load false 1 (.t 6)⟩,⟨some 8,none,.len false (.t 7)⟩,⟨some 9,none,.mv (.c (.int .i64 0))⟩]) (.block 0 (.loop [0,0,0,1,0,0,0,1,1,1,0,0,0,0,0,0,0,0,0,0] (.seq (.reg [⟨some 10,none,.bin .lss false (.t 9) (.t 8)⟩]) (.seq (.cond (.t 10) .skip (.exit 0)) (.seq (.block 1 (.seq (.reg [⟨some 11,none,.iaddr 2 (.t 7) (.t 9)⟩,⟨some 12,none,.load true 2 (.t 11)⟩,⟨(some 5),none,(.alloc 26 [(.str ⟨#[]⟩),.nil])⟩,⟨none,none,(.store 2 (.t 5) (.t 12))⟩]) (.reg [⟨some 13,none,.mv (.t 3)⟩,⟨some 14,none,.load true 2 (.t 5)⟩,⟨some 15,none,.call 72 [(.t 14)]⟩,⟨some 16,none,.minmax true (.t 13) (.t 15)⟩,⟨some 3,none,.mv (.t 16)⟩]))) (.reg [⟨some 17,none,.bin .add false (.t 9) (.c (.int .i64 1))⟩,⟨some 9,none,.mv (.t 17)⟩]))))))) (.seq (.reg [⟨some 18,none,.mv (.t 3)⟩,⟨some 19,none,.bin .add false (.t 18) (.c (.int .i64 1))⟩,⟨some 2,none,.mv (.t 19)⟩]) .ret))))
theorem Om:Ar Tryz.prog 72=some ⟨20,Jp,[(.tmp 2)]⟩:=by kernel_rfl
theorem EY:modes 72=⟨[],.asis,none,false⟩:=by unfold modes; rfl
def Il:SC:=(.seq (.reg [⟨some 4,none,.mv (.c (.int .i64 0))⟩]) (.seq (.seq (.reg [⟨some 5,none,.mv (.t 0)⟩,⟨some 6,none,.mv (.t 1)⟩,⟨some 7,none,.bin .gtr false (.t 5) (.t 6)⟩]) (.cond (.t 7) (.seq (.reg [⟨some 8,none,.mv (.t 0)⟩,⟨some 4,none,.mv (.t 8)⟩]) .ret) .skip)) (.seq (.reg [⟨some 9,none,.mv (.t 1)⟩,⟨some 4,none,.mv (.t 9)⟩]) .ret)))
theorem M6:Ar Tryz.prog 105=some ⟨10,Il,[(.tmp 4)]⟩:=by kernel_rfl
theorem Im:modes 105=⟨[],.asis,none,false⟩:=by unfold modes; rfl
def H4:SC:=(.seq (.reg [⟨some 1,none,.boxv 26 2 (.t 0)⟩,⟨some 2,none,.mv (.c (.int .i64 0))⟩]) (.seq (.reg [⟨some 3,none,.mv (.c (.int .i64 0))⟩]) (.seq (.seq (.reg [⟨some 4,none,.mv (.c (.int .i64 0))⟩]) (.block 0 (.loop [0,1,0,1,1,0,0,0,0,0,0,0,0,0,0,0,0,0,0,0,0,0] (.seq (.seq (.reg [⟨some 5,none,.mv (.t 4)⟩,⟨some 6,none,.faddr 1 (.t 1)⟩,⟨some 7,none,.load false 1 (.t 6)⟩,⟨some 8,none,.len false (.t 7)⟩,⟨some 9,none,.bin .lss false (.t 5) (.t 8)⟩]) (.cond (.t 9) .skip (.exit 0))) (.seq (.block 1 (.reg [⟨some 12,none,.mv (.t 3)⟩,⟨some 13,none,.faddr 1 (.t 1)⟩,⟨some 14,none,.load false 1 (.t 13)⟩,⟨some 15,none,.mv (.t 4)⟩,⟨some 16,none,.iaddr 2 (.t 14) (.t 15)⟩,⟨some 17,none,.load true 2 (.t 16)⟩,⟨some 18,none,.call 84 [(.t 17)]⟩,⟨some 19,none,.call 105 [(.t 12),(.t 18)]⟩,⟨some 3,none,.mv (.t 19)⟩])) (.reg [⟨some 10,none,.mv (.t 4)⟩,⟨some 11,none,.bin .add false (.t 10) (.c (.int .i64 1))⟩,⟨some 4,none,.mv (.t 11)⟩])))))) (.seq (.reg [⟨some 20,none,.mv (.t 3)⟩,⟨some 21,none,.bin .add false (.t 20) (.c (.int .i64 1))⟩,⟨some 2,none,.mv (.t 21)⟩]) .ret))))
theorem LI:Ar Tryz.prog 84=some ⟨22,H4,[(.tmp 2)]⟩:=by kernel_rfl
theorem DP:modes 84=⟨[],.asis,none,false⟩:=by unfold modes; rfl
theorem TX (a b:Int):E 105 [.int .i64 a,.int .i64 b] []=some (.int .i64 (max a b),[]):=by
 refine Ai M6 Im (of_decide_eq_true rfl) ?_
 simp (disch:=omega) only [Il,go_sem,Ab]
 repeat' (refine Pw (fun hq=>?_) (fun hq=>?_) <;> (first | replace hq:=Av.1 hq | replace hq:=DE.1 hq) <;> (try simp (disch:=omega) only [go_sem,Ab]))
 all_goals omega
theorem TY (x:Tm) (hn:x.nodes≤1099511627776) (ih:∀ y∈x.args,E 72 [y.sv] []=some (.int .i64 y.deep,[])):E 72 [x.sv] []=some (.int .i64 x.deep,[]):=by
 have hl:=Tm.length_le x.args
 have hx:=Tm.nodes_eq x
 have hd1:=Tm.Ol x
 have hd2:=Tm.FX x
 refine Ai Om EY (of_decide_eq_true rfl) ?_
 simp (disch:=omega) only [Jp,go_sem,Ab]
 refine go_loop (α:=Int × (Int)) (fun a=>⟨slots 20 0 [(3,.int .i64 (a.2)),(7,.arr (x.args.map Tm.d)),(8,.int .i64 x.args.length),(9,.int .i64 (a.1))],[]⟩) (fun a=>∃ k:Nat,a.1=k∧k≤(x.args).length∧0≤(a.2)∧max (a.2) (Tm.FG (x.args.drop k):Nat)=(Tm.FG x.args:Nat)) (fun a=>(x.args).length-(a.1).toNat) (0,0) ⟨0,rfl,zP _,by dsimp only; omega,by rw [zN]; dsimp only; omega⟩ (by simp (disch:=omega) only [go_sem,Ab]) ?_
 rintro ⟨i,n⟩ ⟨k,hi,hk,hR⟩
 dsimp only at hi hR
 have hni:i.toNat=k:=by omega
 have hni1:(i+1).toNat=k+1:=by omega
 rcases zD k (x.args).length with hlt | hge
 ·have hg:=get_at Tm.d hlt
  rw [Tm.d_eq] at hg
  have hc:=ih x.args[k] (zE hlt)
  rw [zG hlt,Tm.FG] at hR
  simp (disch:=omega) only [go_sem,Ab,hni,hg,hc,EY,VX]
  refine ⟨(i+1,max n (x.args[k].deep:Int)),⟨k+1,by dsimp only; omega,hlt,by dsimp only; omega⟩,by dsimp only; omega,?_⟩
  simp only [and_self]
 ·rw [zI hge,Tm.FG] at hR
  simp (disch:=omega) only [go_sem,Ab,hni]
  omega
theorem R1 (x:Tm) (hn:x.nodes≤1099511627776):E 72 [x.sv] []=some (.int .i64 x.deep,[]) :=
 TY x hn fun y hy=>R1 y (by have:=Tm.nodes_mem hy; have:=Tm.nodes_eq x; omega)
termination_by SizeOf.sizeOf x
decreasing_by exact Tm.lt_of_mem hy
theorem QB (x:Tm) (hn:x.nodes≤1099511627776) (ih:∀ y∈x.args,E 84 [y.sv] []=some (.int .i64 y.deep,[])):E 84 [x.sv] []=some (.int .i64 x.deep,[]):=by
 have hl:=Tm.length_le x.args
 have hx:=Tm.nodes_eq x
 have hd1:=Tm.Ol x
 have hd2:=Tm.FX x
 refine Ai LI DP (of_decide_eq_true rfl) ?_
 simp (disch:=omega) only [H4,go_sem,Ab]
 refine go_loop (α:=Int × (Int)) (fun a=>⟨slots 22 0 [(1,.ptr 0 0),(3,.int .i64 (a.2)),(4,.int .i64 (a.1))],[.box 26 [.str x.name,.arr (x.args.map Tm.d)]]⟩) (fun a=>∃ k:Nat,a.1=k∧k≤(x.args).length∧0≤(a.2)∧max (a.2) (Tm.FG (x.args.drop k):Nat)=(Tm.FG x.args:Nat)) (fun a=>(x.args).length-(a.1).toNat) (0,0) ⟨0,rfl,zP _,by dsimp only; omega,by rw [zN]; dsimp only; omega⟩ (by simp (disch:=omega) only [go_sem,Ab]) ?_
 rintro ⟨i,n⟩ ⟨k,hi,hk,hR⟩
 dsimp only at hi hR
 have hni:i.toNat=k:=by omega
 have hni1:(i+1).toNat=k+1:=by omega
 rcases zD k (x.args).length with hlt | hge
 ·have hg:=get_at Tm.d hlt
  rw [Tm.d_eq] at hg
  have hc:=ih x.args[k] (zE hlt)
  rw [zG hlt,Tm.FG] at hR
  simp (disch:=omega) only [go_sem,Ab,hni,hg,hc,DP,TX,Im]
  refine ⟨(i+1,max n (x.args[k].deep:Int)),⟨k+1,by dsimp only; omega,hlt,by dsimp only; omega⟩,by dsimp only; omega,?_⟩
  simp only [and_self]
 ·rw [zI hge,Tm.FG] at hR
  simp (disch:=omega) only [go_sem,Ab,hni]
  omega
theorem N2 (x:Tm) (hn:x.nodes≤1099511627776):E 84 [x.sv] []=some (.int .i64 x.deep,[]) :=
 QB x hn fun y hy=>N2 y (by have:=Tm.nodes_mem hy; have:=Tm.nodes_eq x; omega)
termination_by SizeOf.sizeOf x
decreasing_by exact Tm.lt_of_mem hy
def Ch:SC:=(.seq (.reg [⟨some 4,none,.mv (.c (.int .i64 0))⟩]) (.seq (.seq (.reg [⟨some 6,none,.mv (.t 0)⟩,⟨some 7,none,.len false (.t 6)⟩,⟨some 8,none,.mv (.c (.int .i64 0))⟩]) (.block 0 (.loop [1,1,0,0,0,0,0,1,1,0,0,0,0,0,0,0,0,0,0] (.seq (.reg [⟨some 9,none,.bin .lss false (.t 8) (.t 7)⟩]) (.seq (.cond (.t 9) .skip (.exit 0)) (.seq (.block 1 (.seq (.reg [⟨some 10,none,.mv (.t 8)⟩,⟨some 5,none,.mv (.t 10)⟩]) (.seq (.reg [⟨some 11,none,.mv (.t 1)⟩,⟨some 12,none,.mv (.t 0)⟩,⟨some 13,none,.mv (.t 5)⟩,⟨some 14,none,.iaddr 2 (.t 12) (.t 13)⟩,⟨some 15,none,.load true 2 (.t 14)⟩,⟨some 16,none,.callv (.t 11) [(.t 15)]⟩]) (.cond (.t 16) (.seq (.reg [⟨some 17,none,.mv (.t 5)⟩,⟨some 4,none,.mv (.t 17)⟩]) .ret) .skip)))) (.reg [⟨some 18,none,.bin .add false (.t 8) (.c (.int .i64 1))⟩,⟨some 8,none,.mv (.t 18)⟩]))))))) (.seq (.reg [⟨some 4,none,.mv (.c (.int .i64 (-(0+1))))⟩]) .ret)))
theorem Dl:Ar Tryz.prog 95=some ⟨19,Ch,[(.tmp 4)]⟩:=by kernel_rfl
theorem Ci:modes 95=⟨[],.asis,none,false⟩:=by unfold modes; rfl
def BV:SC:=(.seq (.reg [⟨some 4,none,.mv (.c (.bool false))⟩]) (.seq (.reg [⟨some 5,none,.mv (.t 0)⟩,⟨some 6,none,.mv (.t 1)⟩,⟨some 7,none,.call 95 [(.t 5),(.t 6)]⟩,⟨some 8,none,.bin .geq false (.t 7) (.c (.int .i64 0))⟩,⟨some 4,none,.mv (.t 8)⟩]) .ret))
theorem CV:Ar Tryz.prog 74=some ⟨9,BV,[(.tmp 4)]⟩:=by kernel_rfl
theorem BW:modes 74=⟨[],.asis,none,false⟩:=by unfold modes; rfl
theorem KA (fid:Nat) (p:Tm→Bool) (xs:List Tm) (hl:xs.length≤1099511627776) (hg:Hm Tryz.prog fid=true) (hm:(modes fid).hand=[]) (hE:∀ x∈xs,E fid [x.sv] []=some (.bool (p x),[])):E 95 [.arr (xs.map Tm.d),.fn fid []] []=some (.int .i64 (D2 p xs 0),[]):=by
 refine Ai Dl Ci (of_decide_eq_true rfl) ?_
 simp (disch:=omega) only [Ch,go_sem,Ab]
 refine go_loop (α:=Int) (fun a=>⟨slots 19 0 [(0,.arr (xs.map Tm.d)),(1,.fn fid []),(7,.int .i64 xs.length),(8,.int .i64 a)],[]⟩) (fun a=>∃ k:Nat,a=k∧k≤(xs).length∧D2 p (xs.drop k) a=D2 p xs 0) (fun a=>(xs).length-(a).toNat) 0 ⟨0,rfl,zP _,by rw [zN]⟩ (by simp (disch:=omega) only [go_sem,Ab]) ?_
 rintro i ⟨k,hi,hk,hR⟩
 have hni:i.toNat=k:=by omega
 have hni1:(i+1).toNat=k+1:=by omega
 rcases zD k (xs).length with hlt | hge
 ·have hg':=get_at Tm.d hlt
  rw [Tm.d_eq] at hg'
  have hc:=hE xs[k] (zE hlt)
  rw [zG hlt,D2] at hR
  cases hp:p xs[k] with
  | true =>
   rw [hp] at hc hR
   simp (disch:=omega) only [go_sem,Ab,hni,hg',hc,hg,hm]
   simpa using hR
  | false =>
   rw [hp] at hc hR
   simp (disch:=omega) only [go_sem,Ab,hni,hg',hc,hg,hm]
   exact ⟨i+1,⟨k+1,by omega,hlt,by simpa using hR⟩,by omega,by first | trivial | rfl⟩
 ·rw [zI hge,D2] at hR
  simp (disch:=omega) only [go_sem,Ab,hni]
  exact hR
theorem IO (fid:Nat) (p:Tm→Bool) (xs:List Tm) (hl:xs.length≤1099511627776) (hg:Hm Tryz.prog fid=true) (hm:(modes fid).hand=[]) (hE:∀ x∈xs,E fid [x.sv] []=some (.bool (p x),[])):E 74 [.arr (xs.map Tm.d),.fn fid []] []=some (.bool (xs.any p),[]):=by
 have h:=KA fid p xs hl hg hm hE
 refine Ai CV BW (of_decide_eq_true rfl) ?_
 simp (disch:=omega) only [BV,go_sem,Ab,h,Ci]
 rw [LF]
def CW:SC:=(.seq (.reg [⟨some 1,none,.boxv 26 2 (.t 0)⟩,⟨some 2,none,.mv (.c (.bool false))⟩]) (.seq (.seq (.reg [⟨some 3,none,.faddr 0 (.t 1)⟩,⟨some 4,none,.load false 1 (.t 3)⟩,⟨some 5,none,.call 16 [(.t 4)]⟩]) (.cond (.t 5) (.seq (.reg [⟨some 6,none,.faddr 1 (.t 1)⟩,⟨some 7,none,.load false 1 (.t 6)⟩,⟨some 8,none,.len false (.t 7)⟩,⟨some 9,none,.bin .eql false (.t 8) (.c (.int .i64 0))⟩,⟨some 2,none,.mv (.t 9)⟩]) .ret) .skip)) (.seq (.reg [⟨some 10,none,.faddr 0 (.t 1)⟩,⟨some 11,none,.load false 1 (.t 10)⟩,⟨some 12,none,.call 73 [(.t 11)]⟩,⟨some 13,none,.mv (.t 12)⟩,⟨(some 14),(some (13,true)),(.faddr 1 (.t 1))⟩,⟨(some 15),(some (13,true)),(.load false 1 (.t 14))⟩,⟨(some 16),(some (13,true)),(.len false (.t 15))⟩,⟨(some 17),(some (13,true)),(.bin .leq false (.t 16) (.c (.int .i64 4)))⟩,⟨some 18,none,.pick (.t 13) (.t 17) (.c (.bool false))⟩,⟨some 19,none,.mv (.t 18)⟩,⟨(some 20),(some (19,true)),(.faddr 1 (.t 1))⟩,⟨(some 21),(some (19,true)),(.load false 1 (.t 20))⟩,⟨(some 22),(some (19,true)),(.call 74 [(.t 21),(.c (.fn 75 []))])⟩,⟨(some 23),(some (19,true)),(.un .not (.t 22))⟩,⟨some 24,none,.pick (.t 19) (.t 23) (.c (.bool false))⟩,⟨some 2,none,.mv (.t 24)⟩]) .ret)))
theorem DG:Ar Tryz.prog 40=some ⟨25,CW,[(.tmp 2)]⟩:=by kernel_rfl
theorem Bf:modes 40=⟨[],.asis,none,false⟩:=by unfold modes; rfl
def FH:SC:=(.seq (.reg [⟨some 1,none,.boxv 26 2 (.t 0)⟩,⟨some 2,none,.mv (.c (.bool false))⟩]) (.seq (.reg [⟨some 3,none,.load true 2 (.t 1)⟩,⟨some 4,none,.call 40 [(.t 3)]⟩,⟨some 5,none,.un .not (.t 4)⟩,⟨some 2,none,.mv (.t 5)⟩]) .ret))
theorem Jq:Ar Tryz.prog 75=some ⟨6,FH,[(.tmp 2)]⟩:=by kernel_rfl
theorem FI:modes 75=⟨[],.asis,none,false⟩:=by unfold modes; rfl
theorem Jr:Hm Tryz.prog 75=true:=by kernel_rfl
theorem Tm.any_not (xs:List Tm):(!xs.any fun y=>!y.names)=Tm.EP xs:=by
 rw [Tm.Ff]
 induction xs with
 | nil=>rfl
 | cons x xs ih=>simp only [y3,yS,Bool.not_or,Bool.not_not,ih]
theorem P1 (x:Tm) (hn:x.nodes≤1099511627776) (ih:∀ y∈x.args,E 40 [y.sv] []=some (.bool y.names,[])):E 40 [x.sv] []=some (.bool x.names,[]):=by
 have hl:=Tm.length_le x.args
 have hx:=Tm.nodes_eq x
 have h1:∀ y∈x.args,E 75 [y.sv] []=some (.bool (!y.names),[]):=fun y hy=>by
  have h:=ih y hy
  refine Ai Jq FI (of_decide_eq_true rfl) ?_
  simp (disch:=omega) only [FH,go_sem,Ab,h,Bf]
 have h2:=IO 75 (fun y=>!y.names) x.args (by omega) Jr (by rw [FI]) h1
 rw [Tm.H2,← Tm.any_not]
 cases hv:Bs x.name with
 | true =>
  have h3:=C1 x.name
  rw [hv] at h3
  refine Ai DG Bf (of_decide_eq_true rfl) ?_
  simp (disch:=omega) only [CW,go_sem,Ab,h3,Ae]
  rw [IG]; cases x.args <;> simp <;> omega
 | false =>
  have h3:=C1 x.name
  rw [hv] at h3
  have h4:=LC x.name
  cases hs:DO x.name with
  | false =>
   rw [hs] at h4
   refine Ai DG Bf (of_decide_eq_true rfl) ?_
   simp (disch:=omega) only [CW,go_sem,Ab,h2,h3,h4,Ae,B8]
  | true =>
   rw [hs] at h4
   rcases zD 4 x.args.length with h5 | h5
   ·refine Ai DG Bf (of_decide_eq_true rfl) ?_
    simp (disch:=omega) only [CW,go_sem,Ab,h2,h3,h4,Ae,B8]
    simp; omega
   ·refine Ai DG Bf (of_decide_eq_true rfl) ?_
    simp (disch:=omega) only [CW,go_sem,Ab,h2,h3,h4,Ae,B8,BW]
    simp [h5]
theorem GI (x:Tm) (hn:x.nodes≤1099511627776):E 40 [x.sv] []=some (.bool x.names,[]) :=
 P1 x hn fun y hy=>GI y (by have:=Tm.nodes_mem hy; have:=Tm.nodes_eq x; omega)
termination_by SizeOf.sizeOf x
decreasing_by exact Tm.lt_of_mem hy
def Dm:SC:=(.seq (.reg [⟨some 1,none,.boxv 26 2 (.t 0)⟩,⟨some 2,none,.mv (.c (.bool false))⟩]) (.seq (.seq (.reg [⟨some 4,none,.faddr 0 (.t 1)⟩,⟨some 5,none,.load false 1 (.t 4)⟩,⟨some 6,none,.call 21 [(.t 5)]⟩]) (.cond (.t 6) (.seq (.reg [⟨some 7,none,.faddr 1 (.t 1)⟩,⟨some 8,none,.load false 1 (.t 7)⟩,⟨some 9,none,.len false (.t 8)⟩,⟨some 10,none,.bin .eql false (.t 9) (.c (.int .i64 0))⟩,⟨some 2,none,.mv (.t 10)⟩]) .ret) .skip)) (.seq (.seq (.reg [⟨some 11,none,.faddr 0 (.t 1)⟩,⟨some 12,none,.load false 1 (.t 11)⟩,⟨some 13,none,.call 85 [(.t 12)]⟩,⟨some 14,none,.un .not (.t 13)⟩,⟨some 15,none,.mv (.t 14)⟩,⟨(some 16),(some (15,false)),(.faddr 1 (.t 1))⟩,⟨(some 17),(some (15,false)),(.load false 1 (.t 16))⟩,⟨(some 18),(some (15,false)),(.len false (.t 17))⟩,⟨(some 19),(some (15,false)),(.bin .gtr false (.t 18) (.c (.int .i64 4)))⟩,⟨some 20,none,.pick (.t 15) (.c (.bool true)) (.t 19)⟩]) (.cond (.t 20) (.seq (.reg [⟨some 2,none,.mv (.c (.bool false))⟩]) .ret) .skip)) (.seq (.seq (.reg [⟨some 3,none,.mv (.c (.int .i64 0))⟩]) (.block 0 (.loop [0,1,0,1,0,0,0,0,0,0,0,0,0,0,0,0,0,0,0,0,0,0,0,0,0,0,0,0,0,0,0,0,0,0,0] (.seq (.seq (.reg [⟨some 21,none,.mv (.t 3)⟩,⟨some 22,none,.faddr 1 (.t 1)⟩,⟨some 23,none,.load false 1 (.t 22)⟩,⟨some 24,none,.len false (.t 23)⟩,⟨some 25,none,.bin .lss false (.t 21) (.t 24)⟩]) (.cond (.t 25) .skip (.exit 0))) (.seq (.block 1 (.seq (.reg [⟨some 28,none,.faddr 1 (.t 1)⟩,⟨some 29,none,.load false 1 (.t 28)⟩,⟨some 30,none,.mv (.t 3)⟩,⟨some 31,none,.iaddr 2 (.t 29) (.t 30)⟩,⟨some 32,none,.load true 2 (.t 31)⟩,⟨some 33,none,.call 54 [(.t 32)]⟩,⟨some 34,none,.un .not (.t 33)⟩]) (.cond (.t 34) (.seq (.reg [⟨some 2,none,.mv (.c (.bool false))⟩]) .ret) .skip))) (.reg [⟨some 26,none,.mv (.t 3)⟩,⟨some 27,none,.bin .add false (.t 26) (.c (.int .i64 1))⟩,⟨some 3,none,.mv (.t 27)⟩])))))) (.seq (.reg [⟨some 2,none,.mv (.c (.bool true))⟩]) .ret)))))
theorem DQ:Ar Tryz.prog 54=some ⟨35,Dm,[(.tmp 2)]⟩:=by kernel_rfl
theorem Bh:modes 54=⟨[],.asis,none,false⟩:=by unfold modes; rfl
theorem QC (x:Tm) (hn:x.nodes≤1099511627776) (ih:∀ y∈x.args,E 54 [y.sv] []=some (.bool y.names,[])):E 54 [x.sv] []=some (.bool x.names,[]):=by
 have hl:=Tm.length_le x.args
 have hx:=Tm.nodes_eq x
 have h3:=CG x.name
 have h4:=LD x.name
 rw [Tm.H2]
 cases hv:Bs x.name with
 | true =>
  rw [hv] at h3
  refine Ai DQ Bh (of_decide_eq_true rfl) ?_
  simp (disch:=omega) only [Dm,go_sem,Ab,h3,Ak]
  rw [IG]; cases x.args <;> simp <;> omega
 | false =>
  rw [hv] at h3
  cases hs:DO x.name with
  | false =>
   rw [hs] at h4
   refine Ai DQ Bh (of_decide_eq_true rfl) ?_
   simp (disch:=omega) only [Dm,go_sem,Ab,h3,h4,Ak,B9]
  | true =>
   rw [hs] at h4
   rcases zD 4 x.args.length with h5 | h5
   ·refine Ai DQ Bh (of_decide_eq_true rfl) ?_
    simp (disch:=omega) only [Dm,go_sem,Ab,h3,h4,Ak,B9]
    simp; omega
   ·refine Ai DQ Bh (of_decide_eq_true rfl) ?_
    simp (disch:=omega) only [Dm,go_sem,Ab,h3,h4,Ak,B9]
    refine go_loop (α:=Int) (fun a=>⟨slots 35 0 [(1,.ptr 0 0),(3,.int .i64 a)],[.box 26 [.str x.name,.arr (x.args.map Tm.d)]]⟩) (fun a=>∃ k:Nat,a=k∧k≤(x.args).length∧Tm.EP (x.args.drop k)=Tm.EP x.args) (fun a=>(x.args).length-(a).toNat) 0 ⟨0,rfl,zP _,by rw [zN]⟩ (by simp (disch:=omega) only [go_sem,Ab]) ?_
    rintro i ⟨k,hi,hk,hR⟩
    have hni:i.toNat=k:=by omega
    have hni1:(i+1).toNat=k+1:=by omega
    rcases zD k (x.args).length with hlt | hge
    ·have hg:=get_at Tm.d hlt
     rw [Tm.d_eq] at hg
     have hc:=ih x.args[k] (zE hlt)
     rw [zG hlt,Tm.EP] at hR
     cases hp:x.args[k].names with
     | true =>
      rw [hp] at hc hR
      simp (disch:=omega) only [go_sem,Ab,hni,hg,hc,Bh]
      exact ⟨i+1,⟨k+1,by omega,hlt,by simpa using hR⟩,by omega,by first | trivial | rfl⟩
     | false =>
      rw [hp] at hc hR
      simp (disch:=omega) only [go_sem,Ab,hni,hg,hc,Bh]
      simp at hR ⊢; exact fun _=>hR
    ·rw [zI hge,Tm.EP] at hR
     simp (disch:=omega) only [go_sem,Ab,hni]
     simp [h5,← hR]
theorem HX (x:Tm) (hn:x.nodes≤1099511627776):E 54 [x.sv] []=some (.bool x.names,[]) :=
 QC x hn fun y hy=>HX y (by have:=Tm.nodes_mem hy; have:=Tm.nodes_eq x; omega)
termination_by SizeOf.sizeOf x
decreasing_by exact Tm.lt_of_mem hy
def Fx:SC:=(.seq (.reg [⟨some 1,none,.boxv 26 2 (.t 0)⟩,⟨some 2,none,.mv (.c (.bool false))⟩]) (.seq (.reg [⟨some 3,none,.load true 2 (.t 1)⟩,⟨some 4,none,.call 71 [(.t 3)]⟩,⟨some 5,none,.bin .leq false (.t 4) (.c (.int .i64 30))⟩,⟨some 6,none,.mv (.t 5)⟩,⟨(some 7),(some (6,true)),(.load true 2 (.t 1))⟩,⟨(some 8),(some (6,true)),(.call 72 [(.t 7)])⟩,⟨(some 9),(some (6,true)),(.bin .leq false (.t 8) (.c (.int .i64 8)))⟩,⟨some 10,none,.pick (.t 6) (.t 9) (.c (.bool false))⟩,⟨some 2,none,.mv (.t 10)⟩]) .ret))
theorem H5:Ar Tryz.prog 39=some ⟨11,Fx,[(.tmp 2)]⟩:=by kernel_rfl
theorem BD:modes 39=⟨[],.asis,none,false⟩:=by unfold modes; rfl
def FY:SC:=(.seq (.reg [⟨some 1,none,.boxv 26 2 (.t 0)⟩,⟨some 2,none,.mv (.c (.bool false))⟩]) (.seq (.reg [⟨some 3,none,.load true 2 (.t 1)⟩,⟨some 4,none,.call 83 [(.t 3),(.c (.int .i64 30))]⟩,⟨some 5,none,.bin .leq false (.t 4) (.c (.int .i64 30))⟩,⟨some 6,none,.mv (.t 5)⟩,⟨(some 7),(some (6,true)),(.load true 2 (.t 1))⟩,⟨(some 8),(some (6,true)),(.call 84 [(.t 7)])⟩,⟨(some 9),(some (6,true)),(.bin .leq false (.t 8) (.c (.int .i64 8)))⟩,⟨some 10,none,.pick (.t 6) (.t 9) (.c (.bool false))⟩,⟨some 2,none,.mv (.t 10)⟩]) .ret))
theorem Io:Ar Tryz.prog 53=some ⟨11,FY,[(.tmp 2)]⟩:=by kernel_rfl
theorem BO:modes 53=⟨[],.asis,none,false⟩:=by unfold modes; rfl
def DJ:SC:=(.seq (.reg [⟨some 1,none,.boxv 26 2 (.t 0)⟩,⟨some 2,none,.mv (.c (.bool false))⟩]) (.seq (.reg [⟨some 3,none,.load true 2 (.t 1)⟩,⟨some 4,none,.call 39 [(.t 3)]⟩,⟨some 5,none,.mv (.t 4)⟩,⟨(some 6),(some (5,true)),(.load true 2 (.t 1))⟩,⟨(some 7),(some (5,true)),(.call 40 [(.t 6)])⟩,⟨some 8,none,.pick (.t 5) (.t 7) (.c (.bool false))⟩,⟨some 2,none,.mv (.t 8)⟩]) .ret))
theorem Fy:Ar Tryz.prog 17=some ⟨9,DJ,[(.tmp 2)]⟩:=by kernel_rfl
theorem AE:modes 17=⟨[],.asis,none,false⟩:=by unfold modes; rfl
def FZ:SC:=(.seq (.reg [⟨some 1,none,.boxv 26 2 (.t 0)⟩,⟨some 2,none,.mv (.c (.bool false))⟩]) (.seq (.reg [⟨some 3,none,.load true 2 (.t 1)⟩,⟨some 4,none,.call 53 [(.t 3)]⟩,⟨some 5,none,.mv (.t 4)⟩,⟨(some 6),(some (5,true)),(.load true 2 (.t 1))⟩,⟨(some 7),(some (5,true)),(.call 54 [(.t 6)])⟩,⟨some 8,none,.pick (.t 5) (.t 7) (.c (.bool false))⟩,⟨some 2,none,.mv (.t 8)⟩]) .ret))
theorem Ip:Ar Tryz.prog 22=some ⟨9,FZ,[(.tmp 2)]⟩:=by kernel_rfl
theorem Bu:modes 22=⟨[],.asis,none,false⟩:=by unfold modes; rfl
def FJ:SC:=(.seq (.reg [⟨some 1,none,.boxv 26 2 (.t 0)⟩,⟨some 2,none,.mv (.c (.bool false))⟩]) (.seq (.reg [⟨some 3,none,.faddr 0 (.t 1)⟩,⟨some 4,none,.load false 1 (.t 3)⟩,⟨(some 5),none,(.bin .eql false (.t 4) (.c (.str ⟨#[61]⟩)))⟩,⟨some 2,none,.mv (.t 5)⟩]) .ret))
theorem Js:Ar Tryz.prog 92=some ⟨6,FJ,[(.tmp 2)]⟩:=by kernel_rfl
theorem BP:modes 92=⟨[],.asis,none,false⟩:=by unfold modes; rfl
def BG:SC:=(.seq (.reg [⟨some 1,none,.boxv 26 2 (.t 0)⟩,⟨some 2,none,.mv (.c (.bool false))⟩]) (.seq (.seq (.reg [⟨some 3,none,.load true 2 (.t 1)⟩,⟨some 4,none,.call 92 [(.t 3)]⟩]) (.cond (.t 4) (.seq (.reg [⟨some 5,none,.faddr 1 (.t 1)⟩,⟨some 6,none,.load false 1 (.t 5)⟩,⟨some 7,none,.len false (.t 6)⟩,⟨some 8,none,.bin .eql false (.t 7) (.c (.int .i64 2))⟩,⟨some 9,none,.mv (.t 8)⟩,⟨(some 10),(some (9,true)),(.load true 2 (.t 1))⟩,⟨(some 11),(some (9,true)),(.call 39 [(.t 10)])⟩,⟨some 12,none,.pick (.t 9) (.t 11) (.c (.bool false))⟩,⟨some 13,none,.mv (.t 12)⟩,⟨(some 14),(some (13,true)),(.faddr 1 (.t 1))⟩,⟨(some 15),(some (13,true)),(.load false 1 (.t 14))⟩,⟨(some 16),(some (13,true)),(.iaddr 2 (.t 15) (.c (.int .i64 0)))⟩,⟨(some 17),(some (13,true)),(.load true 2 (.t 16))⟩,⟨(some 18),(some (13,true)),(.call 40 [(.t 17)])⟩,⟨some 19,none,.pick (.t 13) (.t 18) (.c (.bool false))⟩,⟨some 20,none,.mv (.t 19)⟩,⟨(some 21),(some (20,true)),(.faddr 1 (.t 1))⟩,⟨(some 22),(some (20,true)),(.load false 1 (.t 21))⟩,⟨(some 23),(some (20,true)),(.iaddr 2 (.t 22) (.c (.int .i64 1)))⟩,⟨(some 24),(some (20,true)),(.load true 2 (.t 23))⟩,⟨(some 25),(some (20,true)),(.call 40 [(.t 24)])⟩,⟨some 26,none,.pick (.t 20) (.t 25) (.c (.bool false))⟩,⟨some 2,none,.mv (.t 26)⟩]) .ret) .skip)) (.seq (.reg [⟨some 27,none,.faddr 0 (.t 1)⟩,⟨some 28,none,.load false 1 (.t 27)⟩,⟨some 29,none,.call 73 [(.t 28)]⟩,⟨some 30,none,.mv (.t 29)⟩,⟨(some 31),(some (30,true)),(.load true 2 (.t 1))⟩,⟨(some 32),(some (30,true)),(.call 17 [(.t 31)])⟩,⟨some 33,none,.pick (.t 30) (.t 32) (.c (.bool false))⟩,⟨some 2,none,.mv (.t 33)⟩]) .ret)))
theorem BZ:Ar Tryz.prog 67=some ⟨34,BG,[(.tmp 2)]⟩:=by kernel_rfl
theorem Ad:modes 67=⟨[],.asis,none,false⟩:=by unfold modes; rfl
def C9:SC:=(.seq (.reg [⟨some 1,none,.boxv 26 2 (.t 0)⟩,⟨some 2,none,.mv (.c (.bool false))⟩]) (.seq (.seq (.reg [⟨some 3,none,.faddr 0 (.t 1)⟩,⟨some 4,none,.load false 1 (.t 3)⟩,⟨(some 5),none,(.bin .eql false (.t 4) (.c (.str ⟨#[61]⟩)))⟩]) (.cond (.t 5) (.seq (.reg [⟨some 6,none,.faddr 1 (.t 1)⟩,⟨some 7,none,.load false 1 (.t 6)⟩,⟨some 8,none,.len false (.t 7)⟩,⟨some 9,none,.bin .eql false (.t 8) (.c (.int .i64 2))⟩,⟨some 10,none,.mv (.t 9)⟩,⟨(some 11),(some (10,true)),(.load true 2 (.t 1))⟩,⟨(some 12),(some (10,true)),(.call 53 [(.t 11)])⟩,⟨some 13,none,.pick (.t 10) (.t 12) (.c (.bool false))⟩,⟨some 14,none,.mv (.t 13)⟩,⟨(some 15),(some (14,true)),(.faddr 1 (.t 1))⟩,⟨(some 16),(some (14,true)),(.load false 1 (.t 15))⟩,⟨(some 17),(some (14,true)),(.iaddr 2 (.t 16) (.c (.int .i64 0)))⟩,⟨(some 18),(some (14,true)),(.load true 2 (.t 17))⟩,⟨(some 19),(some (14,true)),(.call 54 [(.t 18)])⟩,⟨some 20,none,.pick (.t 14) (.t 19) (.c (.bool false))⟩,⟨some 21,none,.mv (.t 20)⟩,⟨(some 22),(some (21,true)),(.faddr 1 (.t 1))⟩,⟨(some 23),(some (21,true)),(.load false 1 (.t 22))⟩,⟨(some 24),(some (21,true)),(.iaddr 2 (.t 23) (.c (.int .i64 1)))⟩,⟨(some 25),(some (21,true)),(.load true 2 (.t 24))⟩,⟨(some 26),(some (21,true)),(.call 54 [(.t 25)])⟩,⟨some 27,none,.pick (.t 21) (.t 26) (.c (.bool false))⟩,⟨some 2,none,.mv (.t 27)⟩]) .ret) .skip)) (.seq (.reg [⟨some 28,none,.faddr 0 (.t 1)⟩,⟨some 29,none,.load false 1 (.t 28)⟩,⟨some 30,none,.call 85 [(.t 29)]⟩,⟨some 31,none,.mv (.t 30)⟩,⟨(some 32),(some (31,true)),(.load true 2 (.t 1))⟩,⟨(some 33),(some (31,true)),(.call 22 [(.t 32)])⟩,⟨some 34,none,.pick (.t 31) (.t 33) (.c (.bool false))⟩,⟨some 2,none,.mv (.t 34)⟩]) .ret)))
theorem Dc:Ar Tryz.prog 57=some ⟨35,C9,[(.tmp 2)]⟩:=by kernel_rfl
theorem Aj:modes 57=⟨[],.asis,none,false⟩:=by unfold modes; rfl
theorem N3 (x:Tm) (hn:x.nodes≤1099511627776):E 39 [x.sv] []=some (.bool x.small,[]):=by
 have h1:=TV x hn
 have h2:=R1 x hn
 have h3:=Tm.cap_spec x
 have h4:=Tm.many_spec x 30
 unfold Tm.small
 rcases zD 30 x.nodes with h5 | h5
 ·rw [decide_eq_false (by omega),yI]
  refine Ai H5 BD (of_decide_eq_true rfl) ?_
  simp (disch:=omega) only [Fx,go_sem,Ab,h1,h2,EA,EY]
 ·rw [decide_eq_true h5,yF]
  refine Ai H5 BD (of_decide_eq_true rfl) ?_
  simp (disch:=omega) only [Fx,go_sem,Ab,h1,h2,EA,EY]
  rcases zD 8 x.deep with h6 | h6
  ·rw [decide_eq_false (by omega),An (by omega)]
  ·rw [decide_eq_true h6,A5 (by omega)]
theorem P2 (x:Tm) (hn:x.nodes≤1099511627776):E 53 [x.sv] []=some (.bool x.small,[]):=by
 have h1:=TW x 30 (by omega) (by omega) hn
 have h2:=N2 x hn
 have h3:=Tm.cap_spec x
 have h4:=Tm.many_spec x 30
 unfold Tm.small
 rcases zD 30 x.nodes with h5 | h5
 ·rw [decide_eq_false (by omega),yI]
  refine Ai Io BO (of_decide_eq_true rfl) ?_
  simp (disch:=omega) only [FY,go_sem,Ab,h1,h2,D6,DP]
 ·rw [decide_eq_true h5,yF]
  refine Ai Io BO (of_decide_eq_true rfl) ?_
  simp (disch:=omega) only [FY,go_sem,Ab,h1,h2,D6,DP]
  rcases zD 8 x.deep with h6 | h6
  ·rw [decide_eq_false (by omega),An (by omega)]
  ·rw [decide_eq_true h6,A5 (by omega)]
theorem Iq (x:Tm) (hn:x.nodes≤1099511627776):E 17 [x.sv] []=some (.bool x.valid,[]):=by
 have h1:=N3 x hn
 have h2:=GI x hn
 unfold Tm.valid
 cases h3:x.small <;> rw [h3] at h1
 ·refine Ai Fy AE (of_decide_eq_true rfl) ?_
  simp (disch:=omega) only [DJ,go_sem,Ab,h1,h2,BD,Bf]
 ·refine Ai Fy AE (of_decide_eq_true rfl) ?_
  simp (disch:=omega) only [DJ,go_sem,Ab,h1,h2,BD,Bf]
theorem P3 (x:Tm) (hn:x.nodes≤1099511627776):E 22 [x.sv] []=some (.bool x.valid,[]):=by
 have h1:=P2 x hn
 have h2:=HX x hn
 unfold Tm.valid
 cases h3:x.small <;> rw [h3] at h1
 ·refine Ai Ip Bu (of_decide_eq_true rfl) ?_
  simp (disch:=omega) only [FZ,go_sem,Ab,h1,h2,BO,Bh]
 ·refine Ai Ip Bu (of_decide_eq_true rfl) ?_
  simp (disch:=omega) only [FZ,go_sem,Ab,h1,h2,BO,Bh]
theorem Jt (x:Tm):E 92 [x.sv] []=some (.bool x.eqn,[]):=by
 unfold Tm.eqn
 refine Ai Js BP (of_decide_eq_true rfl) ?_
 simp (disch:=omega) only [FJ,go_sem,Ab]
theorem M7 (x:Tm) (hn:x.nodes≤1099511627776):E 67 [x.sv] []=some (.bool x.atom,[]):=by
 have hl:=Tm.length_le x.args
 have hx:=Tm.nodes_eq x
 have h0:=Jt x
 have h1:=N3 x hn
 have h2:=LC x.name
 have h3:=Iq x hn
 have hE:dec (x.name=⟨#[61]⟩)=x.eqn:=rfl
 unfold Tm.atom
 cases he:x.eqn <;> rw [he] at h0 hE
 ·rw [if_neg (by simp)]
  cases hs:DO x.name <;> rw [hs] at h2
  ·refine Ai BZ Ad (of_decide_eq_true rfl) ?_
   simp (disch:=omega) only [BG,go_sem,Ab,h0,h1,h2,h3,hE,BD,Bf,B8,AE,BP]
  ·refine Ai BZ Ad (of_decide_eq_true rfl) ?_
   simp (disch:=omega) only [BG,go_sem,Ab,h0,h1,h2,h3,hE,BD,Bf,B8,AE,BP]
 ·rw [if_pos rfl]
  by_cases hc:x.args.length=2
  ·have hlt0:0<x.args.length:=by omega
   have hlt1:1<x.args.length:=by omega
   have hg0:=get_at Tm.d hlt0
   have hg1:=get_at Tm.d hlt1
   rw [Tm.d_eq] at hg0 hg1
   have hb0:=Tm.nodes_le x.args 0 hlt0
   have hb1:=Tm.nodes_le x.args 1 hlt1
   have hn0:=GI x.args[0] (by omega)
   have hn1:=GI x.args[1] (by omega)
   rw [N1 hc,show (x.args.length == 2)=true by simpa using hc]
   cases hs:x.small <;> rw [hs] at h1
   ·refine Ai BZ Ad (of_decide_eq_true rfl) ?_
    simp (disch:=omega) only [BG,go_sem,Ab,h0,h1,h2,h3,hE,hg0,hg1,hn0,hn1,hc,BD,Bf,B8,AE,BP]
    try simp
   ·cases hq:(x.args[0]'hlt0).names <;> rw [hq] at hn0
    ·refine Ai BZ Ad (of_decide_eq_true rfl) ?_
     simp (disch:=omega) only [BG,go_sem,Ab,h0,h1,h2,h3,hE,hg0,hg1,hn0,hn1,hc,BD,Bf,B8,AE,BP]
     try simp
    ·refine Ai BZ Ad (of_decide_eq_true rfl) ?_
     simp (disch:=omega) only [BG,go_sem,Ab,h0,h1,h2,h3,hE,hg0,hg1,hn0,hn1,hc,BD,Bf,B8,AE,BP]
     try simp
  ·refine Ai BZ Ad (of_decide_eq_true rfl) ?_
   simp (disch:=omega) only [BG,go_sem,Ab,h0,h1,h2,h3,hE,BD,Bf,B8,AE,BP]
   rw [show (x.args.length == 2)=false by simpa using hc]
   try simp
theorem P4 (x:Tm) (hn:x.nodes≤1099511627776):E 57 [x.sv] []=some (.bool x.atom,[]):=by
 have hl:=Tm.length_le x.args
 have hx:=Tm.nodes_eq x
 have h0:=Jt x
 have h1:=P2 x hn
 have h2:=LD x.name
 have h3:=P3 x hn
 have hE:dec (x.name=⟨#[61]⟩)=x.eqn:=rfl
 unfold Tm.atom
 cases he:x.eqn <;> rw [he] at h0 hE
 ·rw [if_neg (by simp)]
  cases hs:DO x.name <;> rw [hs] at h2
  ·refine Ai Dc Aj (of_decide_eq_true rfl) ?_
   simp (disch:=omega) only [C9,go_sem,Ab,h0,h1,h2,h3,hE,BO,Bh,B9,Bu]
  ·refine Ai Dc Aj (of_decide_eq_true rfl) ?_
   simp (disch:=omega) only [C9,go_sem,Ab,h0,h1,h2,h3,hE,BO,Bh,B9,Bu]
 ·rw [if_pos rfl]
  by_cases hc:x.args.length=2
  ·have hlt0:0<x.args.length:=by omega
   have hlt1:1<x.args.length:=by omega
   have hg0:=get_at Tm.d hlt0
   have hg1:=get_at Tm.d hlt1
   rw [Tm.d_eq] at hg0 hg1
   have hb0:=Tm.nodes_le x.args 0 hlt0
   have hb1:=Tm.nodes_le x.args 1 hlt1
   have hn0:=HX x.args[0] (by omega)
   have hn1:=HX x.args[1] (by omega)
   rw [N1 hc,show (x.args.length == 2)=true by simpa using hc]
   cases hs:x.small <;> rw [hs] at h1
   ·refine Ai Dc Aj (of_decide_eq_true rfl) ?_
    simp (disch:=omega) only [C9,go_sem,Ab,h0,h1,h2,h3,hE,hg0,hg1,hn0,hn1,hc,BO,Bh,B9,Bu]
    try simp
   ·cases hq:(x.args[0]'hlt0).names <;> rw [hq] at hn0
    ·refine Ai Dc Aj (of_decide_eq_true rfl) ?_
     simp (disch:=omega) only [C9,go_sem,Ab,h0,h1,h2,h3,hE,hg0,hg1,hn0,hn1,hc,BO,Bh,B9,Bu]
     try simp
    ·refine Ai Dc Aj (of_decide_eq_true rfl) ?_
     simp (disch:=omega) only [C9,go_sem,Ab,h0,h1,h2,h3,hE,hg0,hg1,hn0,hn1,hc,BO,Bh,B9,Bu]
     try simp
  ·refine Ai Dc Aj (of_decide_eq_true rfl) ?_
   simp (disch:=omega) only [C9,go_sem,Ab,h0,h1,h2,h3,hE,BO,Bh,B9,Bu]
   rw [show (x.args.length == 2)=false by simpa using hc]
   try simp
noncomputable def Tm.expr (x:Tm):Bool:=x.valid || x.atom
theorem Tm.QD {x:Tm} (h:x.expr=true):x.small=true:=by
 unfold Tm.expr Tm.atom Tm.valid at h
 cases hs:x.small with
 | true=>rfl
 | false =>
  rw [hs] at h
  split at h <;> simp at h
theorem Tm.LJ {x:Tm} (h:x.expr=true):x.nodes≤30:=by
 have:=Tm.QD h
 unfold Tm.small at this
 rw [zA,decide_eq_true_eq] at this
 exact this.1
theorem Tm.R2 {x:Tm} (h:x.eqn=true):Bs x.name=false:=by
 unfold Tm.eqn at h
 rw [Av.1 h]
 kernel_rfl
theorem Tm.LK {x:Tm} (h:x.expr=true):x.names=true∨(x.eqn=true∧Tm.EP x.args=true):=by
 unfold Tm.expr Tm.valid at h
 cases hn:x.names with
 | true=>exact .inl rfl
 | false =>
  rw [hn,yJ,y4] at h
  unfold Tm.atom at h
  split at h
  ·rename_i he
   rw [zA] at h
   exact .inr ⟨he,h.2⟩
  ·unfold Tm.valid at h; rw [hn,yJ,yJ] at h; cases h
theorem Tm.TZ {x:Tm} (h:x.expr=true):Bs x.name=true→x.args=[]:=by
 intro hv
 rcases Tm.LK h with h1 | ⟨h1,h2⟩
 ·exact Tm.Ek h1 hv
 ·rw [Tm.R2 h1] at hv; cases hv
theorem Tm.Ua {x:Tm} (h:x.expr=true) {y:Tm} (hy:y∈x.args):y.names=true:=by
 rcases Tm.LK h with h1 | ⟨h1,h2⟩
 ·exact Tm.El h1 hy
 ·rw [Tm.Ff,zS] at h2; exact h2 y hy
theorem S4 {s:ByteArray} (h:Bs s=true):s.size≤6:=by
 unfold Bs inB at h
 simp at h
 omega
theorem N4 {s:ByteArray} (h:DO s=true):s.size≤6:=by
 unfold DO inB at h
 simp at h
 omega
mutual
def Fm.nodes:Fm→Nat
 | .mk _ _ _ args=>1+Fm.nodeS args
def Fm.nodeS:List Fm→Nat
 | []=>0
 | x :: xs=>Fm.nodes x+Fm.nodeS xs
end
theorem Fm.nodes_eq (x:Fm):x.nodes=1+Fm.nodeS x.parts:=by
 obtain ⟨op,atom,var,parts⟩:=x
 rw [Fm.nodes]; rfl
theorem Fm.nodes_pos (x:Fm):1≤x.nodes:=by rw [Fm.nodes_eq]; omega
theorem Fm.nodes_le:∀ (xs:List Fm) (k:Nat) (h:k<xs.length),xs[k].nodes≤Fm.nodeS xs
 | [],k,h=>absurd h (by simp)
 | x :: xs,0,_=>by rw [Fm.nodeS]; simp
 | x :: xs,k+1,h=>by
  have:=Fm.nodes_le xs k (by simpa using h)
  rw [Fm.nodeS]; simp only [zX]; omega
theorem Fm.LL:∀ (xs:List Fm) (k:Nat) (h:k<xs.length),Fm.nodeS (xs.take (k+1))=Fm.nodeS (xs.take k)+xs[k].nodes
 | [],k,h=>absurd h (by simp)
 | x :: xs,0,_=>by simp [Fm.nodeS]
 | x :: xs,k+1,h=>by
  have:=Fm.LL xs k (by simpa using h)
  simp only [yW,Fm.nodeS,zX,this]; omega
theorem Fm.M8 (xs:List Fm) (k:Nat):Fm.nodeS (xs.take k)≤Fm.nodeS xs:=by
 induction xs generalizing k with
 | nil=>simp [Fm.nodeS]
 | cons x xs ih =>
  cases k with
  | zero=>simp [Fm.nodeS]
  | succ k=>simp only [yW,Fm.nodeS]; have:=ih k; omega
theorem Fm.nodes_mem {xs:List Fm} {y:Fm} (h:y∈xs):y.nodes≤Fm.nodeS xs:=by
 obtain ⟨k,hk,rfl⟩:=yV h
 exact Fm.nodes_le xs k hk
mutual
def Fm.cap:Fm→Int
 | .mk _ _ _ xs=>Fm.capL xs 1
def Fm.capL:List Fm→Int→Int
 | [],n=>n
 | x :: xs,n=>if 40 < n then n else Fm.capL xs (n+Fm.cap x)
end
theorem Fm.cap_eq (x:Fm):x.cap=Fm.capL x.parts 1:=by
 obtain ⟨op,atom,var,xs⟩:=x
 rw [Fm.cap]; rfl
theorem Fm.capL_spec:∀ (xs:List Fm) (n:Int),(∀ x∈xs,1≤x.cap∧x.cap≤x.nodes∧(x.cap≤40→x.cap=x.nodes))→1≤n→n≤Fm.capL xs n∧Fm.capL xs n≤n+Fm.nodeS xs∧(Fm.capL xs n≤40→Fm.capL xs n=n+Fm.nodeS xs)
 | [],n,_,h=>by simp [Fm.capL,Fm.nodeS]
 | x :: xs,n,hx,h=>by
  rw [Fm.capL,Fm.nodeS]
  have h1:=hx x (by simp)
  split
  ·omega
  ·have:=Fm.capL_spec xs (n+x.cap) (fun y hy=>hx y (by simp [hy])) (by omega)
   omega
theorem Fm.cap_spec (x:Fm):1≤x.cap∧x.cap≤x.nodes∧(x.cap≤40→x.cap=x.nodes):=by
 rw [Fm.cap_eq,Fm.nodes_eq]
 have:=Fm.capL_spec x.parts 1 (fun y hy=>Fm.cap_spec y) (by omega)
 omega
termination_by SizeOf.sizeOf x
decreasing_by exact Fm.lt_of_mem hy
mutual
def Fm.many:Fm→Int→Int
 | .mk _ _ _ xs,m=>Fm.manyL xs m 1
def Fm.manyL:List Fm→Int→Int→Int
 | [],_,n=>n
 | x :: xs,m,n=>if n≤m then Fm.manyL xs m (n+Fm.many x (m-n)) else n
end
theorem Fm.many_eq (x:Fm) (m:Int):x.many m=Fm.manyL x.parts m 1:=by
 obtain ⟨op,atom,var,xs⟩:=x
 rw [Fm.many]; rfl
theorem Fm.manyL_spec (m:Int):∀ (xs:List Fm) (n:Int),(∀ x∈xs,∀ m,0≤m→1≤x.many m∧x.many m≤x.nodes∧(x.many m≤m→x.many m=x.nodes))→1≤n→n≤Fm.manyL xs m n∧Fm.manyL xs m n≤n+Fm.nodeS xs∧(Fm.manyL xs m n≤m→Fm.manyL xs m n=n+Fm.nodeS xs)
 | [],n,_,h=>by simp [Fm.manyL,Fm.nodeS]
 | x :: xs,n,hx,h=>by
  rw [Fm.manyL,Fm.nodeS]
  split
  ·have h1:=hx x (by simp) (m-n) (by omega)
   have:=Fm.manyL_spec m xs (n+x.many (m-n)) (fun y hy=>hx y (by simp [hy])) (by omega)
   omega
  ·omega
theorem Fm.many_spec (x:Fm) (m:Int):1≤x.many m∧x.many m≤x.nodes∧(x.many m≤m→x.many m=x.nodes):=by
 rw [Fm.many_eq,Fm.nodes_eq]
 have:=Fm.manyL_spec m x.parts 1 (fun y hy m _=>Fm.many_spec y m) (by omega)
 omega
termination_by SizeOf.sizeOf x
decreasing_by exact Fm.lt_of_mem hy
noncomputable def Tm.isZ (x:Tm):Bool:=dec (x.name=⟨#[]⟩)&&x.args.length == 0
noncomputable def Fm.form (x:Fm):Bool :=
 if x.op=1∨x.op=2 then x.parts.length == 0&&x.atom.isZ&&dec (x.var=⟨#[]⟩)
 else if x.op=3 then x.parts.length == 0&&x.atom.atom&&dec (x.var=⟨#[]⟩)
 else if x.op=4 then x.parts.length == 1&&x.atom.isZ&&dec (x.var=⟨#[]⟩)
 else if x.op=5∨x.op=6∨x.op=7 then x.parts.length == 2&&x.atom.isZ&&dec (x.var=⟨#[]⟩)
 else if x.op=8∨x.op=9 then x.parts.length == 1&&x.atom.isZ&&Bs x.var
 else false
theorem LM (n:Int):n=1∨n=2∨n=3∨n=4∨n=5∨n=6∨n=7∨n=8∨n=9∨(n≠1∧n≠2∧n≠3∧n≠4∧n≠5∧n≠6∧n≠7∧n≠8∧n≠9):=by omega
mutual
noncomputable def Fm.forms:Fm→Bool
 | .mk op atom var parts=>Fm.form (.mk op atom var parts)&&Fm.EQ parts
noncomputable def Fm.EQ:List Fm→Bool
 | []=>true
 | x :: xs=>Fm.forms x&&Fm.EQ xs
end
theorem Fm.CX (x:Fm):x.forms=(x.form&&Fm.EQ x.parts):=by
 obtain ⟨op,atom,var,parts⟩:=x
 rw [Fm.forms]; rfl
theorem Fm.JP:∀ xs:List Fm,Fm.EQ xs=xs.all Fm.forms
 | []=>rfl
 | x :: xs=>by rw [Fm.EQ,Fm.JP xs]; rfl
theorem Fm.any_not (xs:List Fm):(!xs.any fun y=>!y.forms)=Fm.EQ xs:=by
 rw [Fm.JP]
 induction xs with
 | nil=>rfl
 | cons x xs ih=>simp only [y3,yS,Bool.not_or,Bool.not_not,ih]
noncomputable def Fm.valid (x:Fm):Bool:=decide (x.nodes≤40)&&x.forms
theorem Fm.length_le:∀ xs:List Fm,xs.length≤Fm.nodeS xs
 | []=>by simp
 | x :: xs=>by
  have h:=Fm.length_le xs
  have h1:=Fm.nodes_pos x
  rw [Fm.nodeS,zM]; omega
mutual
def Fm.tame:Fm→Prop
 | .mk _ atom _ parts=>atom.nodes≤1099511627776∧Fm.CO parts
def Fm.CO:List Fm→Prop
 | []=>True
 | x :: xs=>Fm.tame x∧Fm.CO xs
end
theorem Fm.GJ (x:Fm):x.tame=(x.atom.nodes≤1099511627776∧Fm.CO x.parts):=by
 obtain ⟨op,atom,var,parts⟩:=x
 rw [Fm.tame]; rfl
theorem Fm.N5:∀ {xs:List Fm},Fm.CO xs→∀ y∈xs,y.tame
 | [],_,y,hy=>by cases hy
 | x :: xs,h,y,hy=>by
  rw [Fm.CO] at h
  rcases zT.1 hy with rfl | hy
  ·exact h.1
  ·exact Fm.N5 h.2 y hy
theorem Fm.tame_at {x:Fm} (h:x.tame):x.atom.nodes≤1099511627776:=by rw [Fm.GJ] at h; exact h.1
theorem Fm.Fg {x y:Fm} (h:x.tame) (hy:y∈x.parts):y.tame:=by rw [Fm.GJ] at h; exact Fm.N5 h.2 y hy
theorem Tm.S5 {x:Tm} (h:x.atom=true):x.expr=true:=by unfold Tm.expr; rw [h,Bool.or_true]
theorem Tm.LN {x:Tm} (h:x.atom=true):x.nodes≤30:=Tm.LJ (Tm.S5 h)
noncomputable def qB (op:Int):Bool:=dec (op=8) || dec (op=9)
theorem Fm.LO (a:Int) (b:Tm) (c:ByteArray) (d:List Fm):(Fm.mk a b c d).op=a∧(Fm.mk a b c d).atom=b∧(Fm.mk a b c d).var=c∧(Fm.mk a b c d).parts=d:=⟨rfl,rfl,rfl,rfl⟩
theorem Tm.On {x:Tm} (h:x.isZ=true):x=.mk ⟨#[]⟩ []:=by
 obtain ⟨n,a⟩:=x
 unfold Tm.isZ at h
 rw [zA] at h
 have h1:n=⟨#[]⟩:=Av.1 h.1
 have h3:(a.length == 0)=true:=h.2
 have h2:a=[]:=zC (by simpa using h3)
 rw [h1,h2]
theorem Fm.Dw {x:Fm} (h:x.form=true) (ho:x.op=3):x.parts=[]∧x.atom.atom=true∧x.var=⟨#[]⟩:=by
 unfold Fm.form at h
 simp only [ho] at h
 simp at h
 exact ⟨h.1.1,h.1.2,Av.1 h.2⟩
theorem Fm.LP {x:Fm} (h:x.form=true) (ho:¬ x.op=3):x.atom=.mk ⟨#[]⟩ []:=by
 unfold Fm.form at h
 split at h
 ·rw [zA,zA] at h; exact Tm.On h.1.2
 ·try rw [if_neg ho] at h
  split at h
  ·rw [zA,zA] at h; exact Tm.On h.1.2
  ·split at h
   ·rw [zA,zA] at h; exact Tm.On h.1.2
   ·split at h
    ·rw [zA,zA] at h; exact Tm.On h.1.2
    ·cases h
theorem Fm.Dn {x:Fm} (h:x.form=true) (ho:qB x.op=true):Bs x.var=true∧∃ p,x.parts=[p]:=by
 unfold qB at ho
 rw [zY,Av,Av] at ho
 unfold Fm.form at h
 rw [if_neg (by omega),if_neg (by omega),if_neg (by omega),if_neg (by omega),if_pos (by omega),zA,zA] at h
 refine ⟨h.2,?_⟩
 have hl:x.parts.length=1:=by simpa using h.1.1
 match hq:x.parts,hl with
 | [p],_=>exact ⟨p,rfl⟩
theorem Fm.Co {x y:Fm} (h:x.forms=true) (hy:y∈x.parts):y.forms=true:=by
 rw [Fm.CX,zA,Fm.JP,zS] at h
 exact h.2 y hy
theorem Fm.Cr {x:Fm} (h:x.forms=true):x.form=true:=by
 rw [Fm.CX,zA] at h
 exact h.1
theorem Fm.FK {x:Fm} (h:x.form=true):x.atom.nodes≤30:=by
 by_cases ho:x.op=3
 ·exact Tm.LN (Fm.Dw h ho).2.1
 ·rw [Fm.LP h ho,Tm.nodes_eq]
  simp [Tm.args,Tm.nodeS]
theorem Fm.GK (x:Fm) (h:x.forms=true):x.tame:=by
 have key:∀ xs:List Fm,(∀ y∈xs,y.tame)→Fm.CO xs:=by
  intro xs
  induction xs with
  | nil=>intro _; rw [Fm.CO]; trivial
  | cons y ys ih=>intro hh; rw [Fm.CO]; exact ⟨hh y (by simp),ih fun z hz=>hh z (by simp [hz])⟩
 have h1:=Fm.FK (Fm.Cr h)
 rw [Fm.GJ]
 exact ⟨by omega,key _ fun y hy=>Fm.GK y (Fm.Co h hy)⟩
termination_by SizeOf.sizeOf x
decreasing_by exact Fm.lt_of_mem hy
noncomputable def QE (a b:ByteArray):Int:=bif strLt a b then -1 else bif dec (a=b) then 0 else 1
def Ir (s:ByteArray):Bool:=decide (0<s.size)&&(L8 (Gu s 0) == Bs s)
mutual
def Tm.cok:Tm→Bool
 | .mk n xs=>Ir n&&Tm.QF xs
def Tm.QF:List Tm→Bool
 | []=>true
 | x :: xs=>Tm.cok x&&Tm.QF xs
end
theorem Tm.Oo (x:Tm):x.cok=(Ir x.name&&Tm.QF x.args):=by
 obtain ⟨n,xs⟩:=x
 rw [Tm.cok]; rfl
theorem Tm.Ub {xs:List Tm} (h:Tm.QF xs=true) {y:Tm} (hy:y∈xs):y.cok=true:=by
 induction xs with
 | nil=>cases hy
 | cons x xs ih =>
  rw [Tm.QF,zA] at h
  rcases zT.1 hy with rfl | hy
  ·exact h.1
  ·exact ih h.2 hy
structure Ord3 {α:Type} (c:α→α→Int) (a b d:α):Prop where
 anti:c b a=- c a b
 zero:c a b=0 ↔ a=b
 trans:c a b<0→c b d<0→c a d<0
theorem GM {p:Nat→Int→Bool} {s:ByteArray} (h:DN p s s.size=true) (hs:0<s.size):p 0 (Gu s 0)=true:=by
 unfold DN at h
 rw [zS] at h
 exact h 0 (List.mem_range.2 hs)
theorem S6 {s:ByteArray} (h:Bs s=true):Ir s=true:=by
 have h0:=h
 unfold Bs inB at h
 rw [zA,zA,decide_eq_true_eq,decide_eq_true_eq] at h
 have hs:0<s.size:=by omega
 have h1:=GM h.1 hs
 unfold GY at h1
 unfold Ir
 rw [h0]
 simp at h1
 simp [hs,h1]
theorem N6 {s:ByteArray} (hs:0<s.size) (h:L8 (Gu s 0)=false):Ir s=true:=by
 have hv:Bs s=false:=by
  rw [y2]
  intro hv
  unfold Bs at hv
  rw [zA] at hv
  have h1:=GM hv.1 hs
  unfold GY at h1
  rw [h] at h1
  simp at h1
 unfold Ir
 rw [hv,h]
 simp [hs]
theorem S7 {s:ByteArray} (h:DO s=true):Ir s=true:=by
 unfold DO inB at h
 rw [zA,zA,zA,decide_eq_true_eq,decide_eq_true_eq] at h
 have hs:0<s.size:=by omega
 refine N6 hs ?_
 have h1:=GM h.1.1 hs
 unfold GX at h1
 simp at h1
 have h2:=h1.1
 unfold M3 at h2
 unfold L8
 simp at h2 ⊢
 omega
theorem S8 {s:ByteArray} (h:s.toList=[61]):Ir s=true:=by
 have hs:s.size=1:=by
  have:=congrArg List.length h
  rw [ByteArray.toList_eq] at this
  simpa using this
 refine N6 (by omega) ?_
 unfold Gu
 rw [h]
 rfl
mutual
theorem Tm.HY:∀ x:Tm,x.names=true→x.cok=true
 | .mk n xs,h=>by
  rw [Tm.names] at h
  rw [Tm.cok,zA]
  split at h
  ·rename_i hv
   have:xs=[]:=by
    rw [beq_iff_eq] at h
    exact zC h
   subst this
   exact ⟨S6 hv,rfl⟩
  ·rw [zA,zA] at h
   exact ⟨S7 h.1.1,Tm.IP xs h.2⟩
theorem Tm.IP:∀ xs:List Tm,Tm.EP xs=true→Tm.QF xs=true
 | [],_=>rfl
 | x :: xs,h=>by
  rw [Tm.EP,zA] at h
  rw [Tm.QF,zA]
  exact ⟨Tm.HY x h.1,Tm.IP xs h.2⟩
end
theorem Tm.Uc {x:Tm} (h:x.atom=true):x.cok=true:=by
 unfold Tm.atom at h
 rcases he:x.eqn with _ | _
 ·rw [he,if_neg (by simp),zA] at h
  unfold Tm.valid at h
  rw [zA] at h
  exact Tm.HY x h.2.2
 ·rw [he,if_pos rfl,zA,zA] at h
  unfold Tm.eqn at he
  rw [Av] at he
  rw [Tm.Oo,zA]
  exact ⟨S8 (by rw [he,ByteArray.toList_eq]),Tm.IP _ h.2⟩
theorem S9 {s:ByteArray} {k:Nat} (h:k<s.size):D0 s k=Gu s k:=by
 rw [←Ej h]
 unfold D0
 rw [show s[k]?=some s[k] from getElem?_pos s k h]; rfl
theorem N7 {s:ByteArray} (h:Ir s=true):0<s.size∧(dec (65≤D0 s 0)&&dec (D0 s 0≤90))=Bs s:=by
 unfold Ir at h
 rw [zA,decide_eq_true_eq,beq_iff_eq] at h
 refine ⟨h.1,?_⟩
 rw [←h.2,S9 h.1,IG,IG]
 unfold L8
 rfl
theorem GN (a:ByteArray):strLt a a=false:=by
 unfold strLt
 have key:∀ l:List UInt8,Op.bytesLess l l=false:=by
  intro l
  induction l with
  | nil=>rfl
  | cons x l ih=>simp [Op.bytesLess,ih]
 exact key _
def Fz:SC:=(.seq (.reg [⟨some 2,none,.mv (.c (.bool false))⟩]) (.seq (.reg [⟨some 3,none,.mv (.t 0)⟩,⟨some 4,none,.mv (.t 0)⟩,⟨some 5,none,.bin .neq false (.t 3) (.t 4)⟩,⟨some 2,none,.mv (.t 5)⟩]) .ret))
theorem IQ:Ar Tryz.prog 119=some ⟨6,Fz,[(.tmp 2)]⟩:=by kernel_rfl
theorem CQ:modes 119=⟨[],.asis,none,false⟩:=by unfold modes; rfl
def C2:SC:=(.seq (.reg [⟨some 4,none,.mv (.c (.int .i64 0))⟩]) (.seq (.reg [⟨some 7,none,.mv (.t 0)⟩,⟨some 8,none,.call 119 [(.t 7)]⟩,⟨some 5,none,.mv (.t 8)⟩]) (.seq (.reg [⟨some 9,none,.mv (.t 1)⟩,⟨some 10,none,.call 119 [(.t 9)]⟩,⟨some 6,none,.mv (.t 10)⟩]) (.seq (.seq (.reg [⟨some 11,none,.mv (.t 5)⟩]) (.cond (.t 11) (.seq (.seq (.reg [⟨some 12,none,.mv (.t 6)⟩]) (.cond (.t 12) (.seq (.reg [⟨some 4,none,.mv (.c (.int .i64 0))⟩]) .ret) .skip)) (.seq (.reg [⟨some 4,none,.mv (.c (.int .i64 (-(0+1))))⟩]) .ret)) .skip)) (.seq (.seq (.reg [⟨some 13,none,.mv (.t 6)⟩]) (.cond (.t 13) (.seq (.reg [⟨some 4,none,.mv (.c (.int .i64 1))⟩]) .ret) .skip)) (.seq (.seq (.reg [⟨some 14,none,.mv (.t 0)⟩,⟨some 15,none,.mv (.t 1)⟩,⟨some 16,none,.bin .lss false (.t 14) (.t 15)⟩]) (.cond (.t 16) (.seq (.reg [⟨some 4,none,.mv (.c (.int .i64 (-(0+1))))⟩]) .ret) .skip)) (.seq (.seq (.reg [⟨some 17,none,.mv (.t 0)⟩,⟨some 18,none,.mv (.t 1)⟩,⟨some 19,none,.bin .gtr false (.t 17) (.t 18)⟩]) (.cond (.t 19) (.seq (.reg [⟨some 4,none,.mv (.c (.int .i64 1))⟩]) .ret) .skip)) (.seq (.reg [⟨some 4,none,.mv (.c (.int .i64 0))⟩]) .ret))))))))
theorem Do:Ar Tryz.prog 103=some ⟨20,C2,[(.tmp 4)]⟩:=by kernel_rfl
theorem C3:modes 103=⟨[],.asis,none,false⟩:=by unfold modes; rfl
theorem P5 (a:ByteArray):E 119 [.str a] []=some (.bool false,[]):=by
 refine Ai IQ CQ (of_decide_eq_true rfl) ?_
 simp (disch:=omega) only [Fz,go_sem,Ab]
theorem QG (a b:ByteArray):E 103 [.str a,.str b] []=some (.int .i64 (QE a b),[]):=by
 have h1:=P5 a
 have h2:=P5 b
 unfold QE
 cases h3:strLt a b
 ·cases h4:dec (a=b)
  ·refine Ai Do C3 (of_decide_eq_true rfl) ?_
   simp (disch:=omega) only [C2,go_sem,Ab,h1,h2,h3,h4,CQ]
  ·refine Ai Do C3 (of_decide_eq_true rfl) ?_
   simp (disch:=omega) only [C2,go_sem,Ab,h1,h2,h3,h4,CQ]
 ·refine Ai Do C3 (of_decide_eq_true rfl) ?_
  simp (disch:=omega) only [C2,go_sem,Ab,h1,h2,h3,CQ]
def F0:SC:=(.seq (.reg [⟨some 2,none,.mv (.c (.bool false))⟩]) (.seq (.reg [⟨some 3,none,.mv (.t 0)⟩,⟨some 4,none,.bin .geq false (.t 3) (.c (.int .u8 65))⟩,⟨some 5,none,.mv (.t 4)⟩,⟨(some 6),(some (5,true)),(.mv (.t 0))⟩,⟨(some 7),(some (5,true)),(.bin .leq false (.t 6) (.c (.int .u8 90)))⟩,⟨some 8,none,.pick (.t 5) (.t 7) (.c (.bool false))⟩,⟨some 2,none,.mv (.t 8)⟩]) .ret))
theorem H6:Ar Tryz.prog 35=some ⟨9,F0,[(.tmp 2)]⟩:=by kernel_rfl
theorem F1:modes 35=⟨[],.asis,none,false⟩:=by unfold modes; rfl
def Ju:SC:=(.seq (.reg [⟨some 1,none,.boxv 26 2 (.t 0)⟩,⟨some 2,none,.mv (.c (.bool false))⟩]) (.seq (.reg [⟨some 3,none,.faddr 0 (.t 1)⟩,⟨some 4,none,.load false 1 (.t 3)⟩,⟨some 5,none,.idx (.t 4) (.c (.int .i64 0))⟩,⟨some 6,none,.call 35 [(.t 5)]⟩,⟨some 2,none,.mv (.t 6)⟩]) .ret))
theorem Oq:Ar Tryz.prog 120=some ⟨7,Ju,[(.tmp 2)]⟩:=by kernel_rfl
theorem EZ:modes 120=⟨[],.asis,none,false⟩:=by unfold modes; rfl
theorem SA (n:Int):E 35 [.int .u8 n] []=some (.bool (dec (65≤n)&&dec (n≤90)),[]):=by
 cases h1:dec (65≤n)
 ·refine Ai H6 F1 (of_decide_eq_true rfl) ?_
  simp (disch:=omega) only [F0,go_sem,Ab,h1]
 ·refine Ai H6 F1 (of_decide_eq_true rfl) ?_
  simp (disch:=omega) only [F0,go_sem,Ab,h1]
theorem Wa (x:Tm) (h:x.cok=true):E 120 [x.sv] []=some (.bool (Bs x.name),[]):=by
 rw [Tm.Oo,zA] at h
 obtain ⟨h1,h2⟩:=N7 h.1
 have h3:=SA (D0 x.name 0)
 rw [h2] at h3
 refine Ai Oq EZ (of_decide_eq_true rfl) ?_
 simp (disch:=omega) only [Ju,go_sem,Ab,h3,F1]
theorem Tm.Gv {x:Tm} (h:x.atom=true):(Bs x.name=true→x.args=[])∧∀ y∈x.args,y.names=true:=by
 unfold Tm.atom at h
 cases he:x.eqn with
 | true =>
  rw [he,if_pos rfl,zA,zA] at h
  have h2:=h.2
  rw [Tm.Ff,zS] at h2
  refine ⟨fun hv=>?_,h2⟩
  have hn:=Av.1 he
  have hnv0:Bs ⟨#[61]⟩=false:=by kernel_rfl
  rw [hn,hnv0] at hv
  cases hv
 | false =>
  rw [he,if_neg (by simp),zA] at h
  have hnm:x.names=true:=by have h3:=h.2; unfold Tm.valid at h3; rw [zA] at h3; exact h3.2
  exact ⟨fun hv=>Tm.Ek hnm hv,fun y hy=>Tm.El hnm hy⟩
mutual
noncomputable def Tm.vs:Tm→List ByteArray
 | .mk name args=>bif Bs name then [name] else Tm.vsL args
noncomputable def Tm.vsL:List Tm→List ByteArray
 | []=>[]
 | x :: xs=>Tm.vs x++Tm.vsL xs
end
theorem Tm.N8 (x:Tm):x.vs=bif Bs x.name then [x.name] else Tm.vsL x.args:=by
 obtain ⟨n,a⟩:=x
 rw [Tm.vs]; rfl
theorem Tm.KM {v:ByteArray}:∀ {xs:List Tm},v∈Tm.vsL xs ↔ ∃ x∈xs,v∈x.vs
 | []=>by simp [Tm.vsL]
 | x :: xs=>by rw [Tm.vsL,List.mem_append,Tm.KM (xs:=xs)]; simp
theorem Tm.R4:∀ xs:List Tm,(∀ x∈xs,x.vs.length≤x.nodes)→(Tm.vsL xs).length≤Tm.nodeS xs
 | [],_=>by simp [Tm.vsL]
 | x :: xs,h=>by
  have h1:=h x (by simp)
  have h2:=Tm.R4 xs fun y hy=>h y (by simp [hy])
  rw [Tm.vsL,Tm.nodeS,yM]; omega
theorem Tm.H7 (x:Tm):x.vs.length≤x.nodes:=by
 have h:=Tm.R4 x.args fun y hy=>Tm.H7 y
 rw [Tm.N8,Tm.nodes_eq]
 cases Bs x.name with
 | true=>simp
 | false=>simp only [cond_false]; omega
termination_by SizeOf.sizeOf x
decreasing_by exact Tm.lt_of_mem hy
noncomputable def GO (l:List ByteArray) (n:ByteArray):List ByteArray:=bif dec (n∈l) then l else l++[n]
theorem Ud (l:List ByteArray) (n:ByteArray):(GO l n).length≤l.length+1:=by
 unfold GO
 cases dec (n∈l) <;> simp
theorem Ue {l:List ByteArray} {n m:ByteArray}:m∈GO l n ↔ m∈l∨m=n:=by
 unfold GO
 by_cases h:n∈l
 ·rw [A5 h,cond_true]
  exact ⟨.inl,fun h'=>h'.elim id fun e=>e▸h⟩
 ·rw [An h,cond_false]
  simp
theorem QH {l:List ByteArray} {n:ByteArray} (h:l.Nodup):(GO l n).Nodup:=by
 unfold GO
 by_cases k:n∈l
 ·rw [A5 k]; exact h
 ·rw [An k,cond_false,List.nodup_append]
  exact ⟨h,by simp,fun a ha b hb e=>by simp at hb; subst hb; subst e; exact k ha⟩
noncomputable def Cp (l ns:List ByteArray):List ByteArray:=ns.foldl GO l
theorem Gw:∀ (ns l:List ByteArray),(Cp l ns).length≤l.length+ns.length
 | [],l=>by simp [Cp]
 | n :: ns,l=>by
  have h:=Gw ns (GO l n)
  have h2:=Ud l n
  simp only [Cp,z7,zM] at h ⊢
  omega
theorem P6:∀ {ns l:List ByteArray} {m:ByteArray},m∈Cp l ns ↔ m∈l∨m∈ns
 | [],l,m=>by simp [Cp]
 | n :: ns,l,m=>by
  have h:=P6 (ns:=ns) (l:=GO l n) (m:=m)
  simp only [Cp,z7] at h ⊢
  rw [h,Ue]
  simp only [zT]
  exact or_assoc
theorem LQ:∀ {ns l:List ByteArray},l.Nodup→(Cp l ns).Nodup
 | [],l,h=>h
 | n :: ns,l,h=>LQ (ns:=ns) (QH h)
theorem LR (l a b:List ByteArray):Cp l (a++b)=Cp (Cp l a) b:=List.foldl_append
def CY:SC:=(.seq (.reg [⟨some 4,none,.mv (.c (.int .i64 0))⟩]) (.seq (.seq (.reg [⟨some 6,none,.mv (.t 0)⟩,⟨some 7,none,.len false (.t 6)⟩,⟨some 8,none,.mv (.c (.int .i64 0))⟩]) (.block 0 (.loop [1,1,0,0,0,0,0,1,1,0,0,0,0,0,0,0,0,0,0] (.seq (.reg [⟨some 9,none,.bin .lss false (.t 8) (.t 7)⟩]) (.seq (.cond (.t 9) .skip (.exit 0)) (.seq (.block 1 (.seq (.reg [⟨some 10,none,.mv (.t 8)⟩,⟨some 5,none,.mv (.t 10)⟩]) (.seq (.reg [⟨some 11,none,.mv (.t 1)⟩,⟨some 12,none,.mv (.t 0)⟩,⟨some 13,none,.mv (.t 5)⟩,⟨some 14,none,.iaddr 1 (.t 12) (.t 13)⟩,⟨some 15,none,.load false 1 (.t 14)⟩,⟨some 16,none,.bin .eql false (.t 11) (.t 15)⟩]) (.cond (.t 16) (.seq (.reg [⟨some 17,none,.mv (.t 5)⟩,⟨some 4,none,.mv (.t 17)⟩]) .ret) .skip)))) (.reg [⟨some 18,none,.bin .add false (.t 8) (.c (.int .i64 1))⟩,⟨some 8,none,.mv (.t 18)⟩]))))))) (.seq (.reg [⟨some 4,none,.mv (.c (.int .i64 (-(0+1))))⟩]) .ret)))
theorem EI:Ar Tryz.prog 76=some ⟨19,CY,[(.tmp 4)]⟩:=by kernel_rfl
theorem CZ:modes 76=⟨[],.asis,none,false⟩:=by unfold modes; rfl
def CE:SC:=(.seq (.reg [⟨some 4,none,.mv (.c (.bool false))⟩]) (.seq (.reg [⟨some 5,none,.mv (.t 0)⟩,⟨some 6,none,.mv (.t 1)⟩,⟨some 7,none,.call 76 [(.t 5),(.t 6)]⟩,⟨some 8,none,.bin .geq false (.t 7) (.c (.int .i64 0))⟩,⟨some 4,none,.mv (.t 8)⟩]) .ret))
theorem DX:Ar Tryz.prog 42=some ⟨9,CE,[(.tmp 4)]⟩:=by kernel_rfl
theorem Am:modes 42=⟨[],.asis,none,false⟩:=by unfold modes; rfl
theorem Uf (xs:List ByteArray) (n:ByteArray) (hl:xs.length≤1099511627776):E 76 [.arr (xs.map fun s=>[D.str s]),.str n] []=some (.int .i64 (D2 (fun s=>dec (n=s)) xs 0),[]):=by
 refine Ai EI CZ (of_decide_eq_true rfl) ?_
 simp (disch:=omega) only [CY,go_sem,Ab]
 refine go_loop (α:=Int) (fun a=>⟨slots 19 0 [(0,.arr (xs.map fun s=>[D.str s])),(1,.str n),(7,.int .i64 xs.length),(8,.int .i64 a)],[]⟩) (fun a=>∃ k:Nat,a=k∧k≤(xs).length∧D2 (fun s=>dec (n=s)) (xs.drop k) a=D2 (fun s=>dec (n=s)) xs 0) (fun a=>(xs).length-(a).toNat) 0 ⟨0,rfl,zP _,by rw [zN]⟩ (by simp (disch:=omega) only [go_sem,Ab]) ?_
 rintro i ⟨k,hi,hk,hR⟩
 have hni:i.toNat=k:=by omega
 have hni1:(i+1).toNat=k+1:=by omega
 rcases zD k (xs).length with hlt | hge
 ·have hg:=get_at (fun s=>[D.str s]) hlt
  rw [zG hlt,D2] at hR
  cases hp:dec (n=xs[k]) with
  | true =>
   rw [hp] at hR
   simp (disch:=omega) only [go_sem,Ab,hni,hg,hp]
   simpa using hR
  | false =>
   rw [hp] at hR
   simp (disch:=omega) only [go_sem,Ab,hni,hg,hp]
   exact ⟨i+1,⟨k+1,by omega,hlt,by simpa using hR⟩,by omega,by first | trivial | rfl⟩
 ·rw [zI hge,D2] at hR
  simp (disch:=omega) only [go_sem,Ab,hni]
  exact hR
theorem FL (xs:List ByteArray) (n:ByteArray) (hl:xs.length≤1099511627776):E 42 [.arr (xs.map fun s=>[D.str s]),.str n] []=some (.bool (dec (n∈xs)),[]):=by
 have h:=Uf xs n hl
 have e:dec (n∈xs)=dec (0≤D2 (fun s=>dec (n=s)) xs 0):=by
  rw [LF]
  by_cases hm:n∈xs
  ·rw [A5 hm]
   exact (List.any_eq_true.2 ⟨n,hm,A5 rfl⟩).symm
  ·rw [An hm]
   refine Eq.symm (y2.2 fun h=>?_)
   obtain ⟨x,h1,h2⟩:=List.any_eq_true.1 h
   have e:=Av.1 h2
   subst e
   exact hm h1
 rw [e]
 refine Ai DX Am (of_decide_eq_true rfl) ?_
 simp (disch:=omega) only [CE,go_sem,Ab,h,CZ]
theorem HZ:∀ (ns l:List ByteArray),l.length≤(Cp l ns).length
 | [],l=>by simp [Cp]
 | n :: ns,l=>by
  have h:=HZ ns (GO l n)
  have h2:l.length≤(GO l n).length:=by unfold GO; cases dec (n∈l) <;> simp
  simp only [Cp,z7] at h ⊢
  omega
def Dp:SC:=(.seq (.reg [⟨some 3,none,.boxv 26 2 (.t 1)⟩,⟨some 4,none,.mv (.c .nil)⟩]) (.seq (.seq (.reg [⟨some 7,none,.faddr 1 (.t 3)⟩,⟨some 8,none,.load false 1 (.t 7)⟩,⟨some 9,none,.len false (.t 8)⟩,⟨some 10,none,.bin .eql false (.t 9) (.c (.int .i64 0))⟩,⟨some 11,none,.mv (.t 10)⟩,⟨(some 12),(some (11,true)),(.load true 2 (.t 3))⟩,⟨(some 13),(some (11,true)),(.call 120 [(.t 12)])⟩,⟨some 14,none,.pick (.t 11) (.t 13) (.c (.bool false))⟩]) (.cond (.t 14) (.seq (.seq (.reg [⟨some 15,none,.mv (.t 0)⟩,⟨some 16,none,.faddr 0 (.t 3)⟩,⟨some 17,none,.load false 1 (.t 16)⟩,⟨some 18,none,.call 42 [(.t 15),(.t 17)]⟩,⟨some 19,none,.un .not (.t 18)⟩]) (.cond (.t 19) (.reg [⟨some 20,none,.mv (.t 0)⟩,⟨some 21,none,.faddr 0 (.t 3)⟩,⟨some 22,none,.load false 1 (.t 21)⟩,⟨(some 23),none,(.mkrow 9 1 [(.str ⟨#[]⟩)] 1 [(0,(.t 22))])⟩,⟨(some 24),none,(.append 9 1 16 [(.str ⟨#[]⟩)] (.t 20) (.t 23))⟩,⟨some 0,none,.mv (.t 24)⟩]) .skip)) (.seq (.reg [⟨some 25,none,.mv (.t 0)⟩,⟨some 4,none,.mv (.t 25)⟩]) .ret)) .skip)) (.seq (.seq (.reg [⟨some 26,none,.faddr 1 (.t 3)⟩,⟨some 27,none,.load false 1 (.t 26)⟩,⟨some 28,none,.len false (.t 27)⟩,⟨some 29,none,.mv (.c (.int .i64 0))⟩]) (.block 0 (.loop [1,0,0,0,0,0,0,0,0,0,0,0,0,0,0,0,0,0,0,0,0,0,0,0,0,0,0,1,1,1,0,0,0,0,0,0,0,0] (.seq (.reg [⟨some 30,none,.bin .lss false (.t 29) (.t 28)⟩]) (.seq (.cond (.t 30) .skip (.exit 0)) (.seq (.block 1 (.seq (.reg [⟨some 31,none,.iaddr 2 (.t 27) (.t 29)⟩,⟨some 32,none,.load true 2 (.t 31)⟩,⟨(some 6),none,(.alloc 26 [(.str ⟨#[]⟩),.nil])⟩,⟨none,none,(.store 2 (.t 6) (.t 32))⟩]) (.reg [⟨some 33,none,.mv (.t 0)⟩,⟨some 34,none,.load true 2 (.t 6)⟩,⟨some 35,none,.call 107 [(.t 33),(.t 34)]⟩,⟨some 0,none,.mv (.t 35)⟩]))) (.reg [⟨some 36,none,.bin .add false (.t 29) (.c (.int .i64 1))⟩,⟨some 29,none,.mv (.t 36)⟩]))))))) (.seq (.reg [⟨some 37,none,.mv (.t 0)⟩,⟨some 4,none,.mv (.t 37)⟩]) .ret))))
theorem DR:Ar Tryz.prog 107=some ⟨38,Dp,[(.tmp 4)]⟩:=by kernel_rfl
theorem Cs:modes 107=⟨[true],.asis,none,false⟩:=by unfold modes; rfl
abbrev Ug (x:Tm):Prop:=∀ l:List ByteArray,l.length+x.nodes≤1048576→E 107 [.ref 0,x.sv] [.row 9 1 (l.map fun s=>[OT.str s])]=some ((bif dec (l.length<(Cp l x.vs).length) then .ref 1 else .ref 0),(bif dec (l.length<(Cp l x.vs).length) then [.gone,.row 9 1 ((Cp l x.vs).map fun s=>[OT.str s])] else [.row 9 1 ((Cp l x.vs).map fun s=>[OT.str s])]))
theorem LS (x:Tm) (hva:Bs x.name=true→x.args=[]) (hc:x.cok=true) (ih:∀ y∈x.args,Ug y):Ug x:=by
 intro l hn
 have hl:=Tm.length_le x.args
 have hne:=Tm.nodes_eq x
 have hv:=Wa x hc
 have hvs:=Tm.N8 x
 rcases zK x.args.length with h0 | h0
 ·have hx0:x.args=[]:=zC h0
  have hz:((x.args.length:Int)=0)=True:=by rw [hx0]; simp
  cases hvv:Bs x.name with
  | true =>
   rw [hvv] at hv hvs
   have h1:=FL l x.name (by omega)
   rw [hvs]
   cases hm:dec (x.name∈l) with
   | true =>
    have e:Cp l [x.name]=l:=by simp only [Cp,z7,List.foldl_nil,GO,hm,cond_true]
    rw [hm] at h1
    simp only [cond_true,e]
    refine Ai DR Cs (of_decide_eq_true rfl) ?_
    simp (disch:=omega) only [Dp,go_sem,Ab,hz,hv,h1,EZ,Am]
   | false =>
    have e:Cp l [x.name]=l++[x.name]:=by simp only [Cp,z7,List.foldl_nil,GO,hm,cond_false]
    have hg:l.length<(l++[x.name]).length:=by simp
    rw [hm] at h1
    simp only [cond_true,e,A5 hg]
    refine Ai DR Cs (of_decide_eq_true rfl) ?_
    simp (disch:=omega) only [Dp,go_sem,Ab,hz,hv,h1,EZ,Am]
    simp only [yD,zB,zJ]
  | false =>
   rw [hvv] at hv hvs
   have e:Cp l x.vs=l:=by rw [hvs,hx0]; simp only [cond_false,Tm.vsL]; rfl
   rw [e]
   refine Ai DR Cs (of_decide_eq_true rfl) ?_
   simp (disch:=omega) only [Dp,go_sem,Ab,hz,hv,EZ]
   refine go_loop (α:=Int) (fun a=>⟨slots 38 0 [(0,.ref 0),(27,.arr (x.args.map Tm.d)),(28,.int .i64 x.args.length),(29,.int .i64 a)],[.row 9 1 (l.map fun s=>[OT.str s])]⟩) (fun a=>∃ k:Nat,a=k∧k≤(x.args).length) (fun a=>(x.args).length-(a).toNat) 0 ⟨0,rfl,zP _⟩ (by simp (disch:=omega) only [go_sem,Ab]) ?_
   rintro i ⟨k,hi,hk⟩
   have hni:i.toNat=k:=by omega
   have hni1:(i+1).toNat=k+1:=by omega
   rcases zD k (x.args).length with hlt | hge
   ·omega
   ·simp (disch:=omega) only [go_sem,Ab,hni]
 ·have hz:((x.args.length:Int)=0)=False:=eq_false (by omega)
  have hvv:Bs x.name=false:=by
   cases h:Bs x.name with
   | false=>rfl
   | true=>rw [hva h] at h0; simp at h0
  rw [hvv] at hvs
  simp only [cond_false] at hvs
  rw [hvs]
  refine Ai DR Cs (of_decide_eq_true rfl) ?_
  simp (disch:=omega) only [Dp,go_sem,Ab,hz]
  refine go_loop (α:=Int × (List ByteArray)) (fun a=>⟨slots 38 0 [(0,(bif dec (l.length<(a.2).length) then .ref 1 else .ref 0)),(27,.arr (x.args.map Tm.d)),(28,.int .i64 x.args.length),(29,.int .i64 (a.1))],(bif dec (l.length<(a.2).length) then [.gone,.row 9 1 ((a.2).map fun s=>[OT.str s])] else [.row 9 1 ((a.2).map fun s=>[OT.str s])])⟩) (fun a=>∃ k:Nat,a.1=k∧k≤(x.args).length∧Cp (a.2) (Tm.vsL (x.args.drop k))=Cp l (Tm.vsL x.args)∧(a.2).length+Tm.nodeS (x.args.drop k)≤1048576∧l.length≤(a.2).length) (fun a=>(x.args).length-(a.1).toNat) (0,l) ⟨0,rfl,zP _,by rw [zN],by rw [zN]; dsimp only; omega,yN _⟩ (by simp (disch:=omega) only [go_sem,Ab]) ?_
  rintro ⟨i,acc⟩ ⟨k,hi,hk,hR⟩
  dsimp only at hi hR
  have hni:i.toNat=k:=by omega
  have hni1:(i+1).toNat=k+1:=by omega
  rcases zD k (x.args).length with hlt | hge
  ·have hg:=get_at Tm.d hlt
   rw [Tm.d_eq] at hg
   obtain ⟨hR1,hR2,hR3⟩:=hR
   rw [zG hlt,Tm.vsL,LR] at hR1
   rw [zG hlt,Tm.nodeS] at hR2
   have hc:=ih x.args[k] (zE hlt) acc (by omega)
   have hlen:=Gw x.args[k].vs acc
   have hgr:=HZ x.args[k].vs acc
   have hvl:=Tm.H7 x.args[k]
   obtain ⟨acc2,ha2⟩:∃ a,a=Cp acc x.args[k].vs:=⟨_,rfl⟩
   rw [←ha2] at hc hlen hgr hR1
   rcases zD l.length acc.length with q1 | q1 <;> rcases zD acc.length acc2.length with q2 | q2
   all_goals
    first
     |rw [A5 q2] at hc
     |rw [An (Nat.not_lt.2 q2)] at hc
    simp only [cond_true,cond_false] at hc
    simp (disch:=omega) only [go_sem,Ab,hni,hg,hc,Cs]
    refine ⟨(i+1,acc2),⟨k+1,by dsimp only; omega,hlt,hR1,by dsimp only; omega,by dsimp only; omega⟩,by dsimp only; omega,?_⟩
    first | done | simp (disch:=omega) only [go_sem,Ab]
  ·rw [zI hge,Tm.vsL] at hR
   obtain ⟨hR1,hR2,hR3⟩:=hR
   have hR1:acc=Cp l (Tm.vsL x.args):=hR1
   rw [←hR1]
   rcases zD l.length acc.length with q1 | q1
   ·simp (disch:=omega) only [go_sem,Ab,hni]
   ·simp (disch:=omega) only [go_sem,Ab,hni]
theorem N9 (x:Tm) (hx:x.names=true) (hc:x.cok=true):Ug x :=
 LS x (fun h=>Tm.Ek hx h) hc fun y hy=>N9 y (Tm.El hx hy) (by rw [Tm.Oo,zA] at hc; exact Tm.Ub hc.2 hy)
termination_by SizeOf.sizeOf x
decreasing_by exact Tm.lt_of_mem hy
noncomputable def Or (l:List ByteArray):List ByteArray:=(srt (l.map (·.toList))).map fun x=>⟨x.toArray⟩
theorem SB (l:List ByteArray):(Or l).Perm l:=by
 unfold Or
 have h:(srt (l.map (·.toList))).Perm (l.map (·.toList)):=List.mergeSort_perm _ _
 have h2:=h.map fun x:List UInt8=>(⟨x.toArray⟩:ByteArray)
 rw [z8] at h2
 have e:((fun x:List UInt8=>(⟨x.toArray⟩:ByteArray)) ∘ fun x:ByteArray=>x.toList)=id:=by
  funext x
  exact IM x
 rw [e,List.map_id] at h2
 exact h2
theorem B3:modes 78=⟨[true],.asis,some HW,false⟩:=by unfold modes; rfl
theorem R5 (l:List ByteArray) (hl:l.length≤1099511627776):E 78 [.ref 0] [.row 9 1 (l.map fun s=>[OT.str s])]=some (.tup [],[.row 9 1 ((Or l).map fun s=>[OT.str s])]):=by
 rw [QA (g:=HW) (congrArg FM.ext B3)]
 unfold HW
 simp only
 rw [A5 ⟨by first | trivial | rfl,fun e he=>by obtain ⟨s,_,rfl⟩:=List.mem_map.1 he; exact ⟨s,rfl⟩,by simpa using hl⟩,cond_true]
 have e1:(l.map fun s=>[OT.str s]).map (fun e=>(Q5 e).toList)=l.map (·.toList):=by rw [z8]; rfl
 rw [e1]
 unfold Or
 rw [z8]
 rfl
noncomputable def Tm.vars (x:Tm):List ByteArray:=Or (Cp [] x.vs)
def Em:SC:=(.seq (.reg [⟨some 1,none,.boxv 26 2 (.t 0)⟩,⟨some 2,none,.mv (.c .nil)⟩]) (.seq (.reg [⟨(some 4),none,(.mkrow 9 1 [(.str ⟨#[]⟩)] 0 [])⟩,⟨some 5,none,.load true 2 (.t 1)⟩,⟨some 6,none,.call 107 [(.t 4),(.t 5)]⟩,⟨some 3,none,.mv (.t 6)⟩]) (.seq (.reg [⟨some 7,none,.mv (.t 3)⟩,⟨some 8,none,.call 78 [(.t 7)]⟩]) (.seq (.reg [⟨some 9,none,.mv (.t 3)⟩,⟨some 2,none,.mv (.t 9)⟩]) .ret))))
theorem Gx:Ar Tryz.prog 96=some ⟨10,Em,[(.tmp 2)]⟩:=by kernel_rfl
theorem En:modes 96=⟨[],.asis,none,false⟩:=by unfold modes; rfl
theorem Ot (x:Tm) (hcol:Ug x) (hn:x.nodes≤1048576):E 96 [x.sv] []=some (.ref 0,[.row 9 1 (x.vars.map fun s=>[OT.str s])]):=by
 have h1:=hcol [] (by simpa using hn)
 have hl:=Gw x.vs []
 have hv:=Tm.H7 x
 rw [zZ,yX] at hl
 have h2:=R5 (Cp [] x.vs) (by omega)
 rw [zJ,zZ] at h1
 unfold Tm.vars
 rcases zD 0 (Cp [] x.vs).length with q | q
 ·rw [A5 q] at h1
  simp only [cond_true] at h1
  refine Ai Gx En (of_decide_eq_true rfl) ?_
  simp (disch:=omega) only [Em,go_sem,Ab,h1,h2,Cs,B3]
 ·rw [An (by omega)] at h1
  simp only [cond_false] at h1
  refine Ai Gx En (of_decide_eq_true rfl) ?_
  simp (disch:=omega) only [Em,go_sem,Ab,h1,h2,Cs,B3]
theorem QI (x:Tm) (h:x.atom=true):Ug x :=
 LS x (Tm.Gv h).1 (Tm.Uc h) fun y hy=>N9 y ((Tm.Gv h).2 y hy) (Tm.HY y ((Tm.Gv h).2 y hy))
noncomputable def DY:List ByteArray→ByteArray→List ByteArray
 | [],n=>[n]
 | x :: xs,n=>bif strLt x n then x :: DY xs n else bif dec (x=n) then x :: xs else n :: x :: xs
noncomputable def CK:List ByteArray→ByteArray→Nat
 | [],_=>0
 | x :: xs,n=>bif strLt x n then CK xs n+1 else 0
theorem LT:∀ {xs:List ByteArray} {n m:ByteArray},m∈DY xs n ↔ m∈xs∨m=n
 | [],n,m=>by simp [DY]
 | x :: xs,n,m=>by
  rw [DY]
  cases strLt x n with
  | true=>rw [cond_true,zT,LT,zT,or_assoc]
  | false =>
   rw [cond_false]
   by_cases h:x=n
   ·rw [A5 h,cond_true]
    exact ⟨.inl,fun h'=>h'.elim id fun e=>by subst e; subst h; simp⟩
   ·rw [An h,cond_false,zT]
    exact or_comm
theorem LU:∀ (xs:List ByteArray) (n:ByteArray),(DY xs n).length≤xs.length+1
 | [],n=>by simp [DY]
 | x :: xs,n=>by
  have h:=LU xs n
  rw [DY]
  cases strLt x n with
  | true=>simp only [cond_true,zM]; omega
  | false =>
   rw [cond_false]
   cases dec (x=n) with
   | true=>simp only [cond_true,zM]; omega
   | false=>simp only [cond_false,zM]; omega
theorem R6:∀ (xs:List ByteArray) (n:ByteArray),CK xs n≤xs.length
 | [],n=>by simp [CK]
 | x :: xs,n=>by
  have h:=R6 xs n
  rw [CK]
  cases strLt x n with
  | true=>simp only [cond_true,zM]; omega
  | false=>simp only [cond_false,zM]; omega
theorem LV:∀ {xs:List ByteArray} {n:ByteArray} (h:CK xs n<xs.length),xs[CK xs n]=n→DY xs n=xs
 | [],n,h,_=>by simp at h
 | x :: xs,n,h,e=>by
  rw [DY]
  cases hq:strLt x n with
  | true =>
   simp only [CK,hq,cond_true,zM,zX] at h e
   rw [cond_true,LV (by omega) e]
  | false =>
   simp only [CK,hq,cond_false,z6] at e
   rw [cond_false,A5 e]; rfl
theorem LW:∀ {xs:List ByteArray} {n:ByteArray},(∀ h:CK xs n<xs.length,¬ xs[CK xs n]=n)→DY xs n=xs.take (CK xs n)++n :: xs.drop (CK xs n)
 | [],n,_=>by simp [DY,CK]
 | x :: xs,n,h=>by
  rw [DY]
  cases hq:strLt x n with
  | true =>
   simp only [CK,hq,cond_true,zM,zX] at h ⊢
   rw [LW fun h'=>h (by omega)]
   simp
  | false =>
   simp only [CK,hq,cond_false,z6] at h ⊢
   rw [An (h (by simp))]
   simp
theorem SD {xs:List ByteArray} {n:ByteArray} {k:Nat} (h:k+CK (xs.drop k) n=CK xs n) (hk:k<xs.length):(strLt xs[k] n=true∧k+1+CK (xs.drop (k+1)) n=CK xs n)∨(strLt xs[k] n=false∧k=CK xs n):=by
 rw [zG hk,CK] at h
 cases hq:strLt xs[k] n with
 | true=>rw [hq,cond_true] at h; exact .inl ⟨rfl,by omega⟩
 | false=>rw [hq,cond_false] at h; exact .inr ⟨rfl,by omega⟩
theorem Wb (xs:List ByteArray) (k:Nat):((xs.map fun s=>[D.str s]).take k).map (fun x=>x.map D.ot)=(xs.take k).map fun s=>[OT.str s]:=by
 rw [←List.map_take,z8]; rfl
theorem Wc (xs:List ByteArray) (k:Nat):((xs.map fun s=>[D.str s]).drop k).map (fun x=>x.map D.ot)=(xs.drop k).map fun s=>[OT.str s]:=by
 rw [←List.map_drop,z8]; rfl
theorem Ou (xs:List ByteArray):((xs.map fun s=>[OT.str s]).all fun l=>l.length == 1)=true:=by
 rw [y7,zS]
 intro x _; rfl
theorem P7 (xs:List ByteArray):((xs.map fun s=>[D.str s]).all fun l=>l.length == 1)=true:=by
 rw [y7,zS]
 intro x _; rfl
def Jv:SC:=(.seq (.reg [⟨some 4,none,.mv (.c .nil)⟩]) (.seq (.reg [⟨some 5,none,.mv (.c (.int .i64 0))⟩]) (.seq (.block 0 (.loop [1,1,0,0,0,1,0,0,0,0,0,0,0,0,0,0,0,0,0,0,0,0,0,0,0,0,0,0,0,0,0,0,0,0,0,0,0,0,0,0,0,0,0,0,0] (.seq (.seq (.reg [⟨some 6,none,.mv (.t 5)⟩,⟨some 7,none,.mv (.t 0)⟩,⟨some 8,none,.len false (.t 7)⟩,⟨some 9,none,.bin .lss false (.t 6) (.t 8)⟩,⟨some 10,none,.mv (.t 9)⟩,⟨(some 11),(some (10,true)),(.mv (.t 0))⟩,⟨(some 12),(some (10,true)),(.mv (.t 5))⟩,⟨(some 13),(some (10,true)),(.iaddr 1 (.t 11) (.t 12))⟩,⟨(some 14),(some (10,true)),(.load false 1 (.t 13))⟩,⟨(some 15),(some (10,true)),(.mv (.t 1))⟩,⟨(some 16),(some (10,true)),(.bin .lss false (.t 14) (.t 15))⟩,⟨some 17,none,.pick (.t 10) (.t 16) (.c (.bool false))⟩]) (.cond (.t 17) .skip (.exit 0))) (.block 1 (.reg [⟨some 18,none,.mv (.t 5)⟩,⟨some 19,none,.bin .add false (.t 18) (.c (.int .i64 1))⟩,⟨some 5,none,.mv (.t 19)⟩]))))) (.seq (.seq (.reg [⟨some 20,none,.mv (.t 5)⟩,⟨some 21,none,.mv (.t 0)⟩,⟨some 22,none,.len false (.t 21)⟩,⟨some 23,none,.bin .lss false (.t 20) (.t 22)⟩,⟨some 24,none,.mv (.t 23)⟩,⟨(some 25),(some (24,true)),(.mv (.t 0))⟩,⟨(some 26),(some (24,true)),(.mv (.t 5))⟩,⟨(some 27),(some (24,true)),(.iaddr 1 (.t 25) (.t 26))⟩,⟨(some 28),(some (24,true)),(.load false 1 (.t 27))⟩,⟨(some 29),(some (24,true)),(.mv (.t 1))⟩,⟨(some 30),(some (24,true)),(.bin .eql false (.t 28) (.t 29))⟩,⟨some 31,none,.pick (.t 24) (.t 30) (.c (.bool false))⟩]) (.cond (.t 31) (.seq (.reg [⟨some 32,none,.mv (.t 0)⟩,⟨some 4,none,.mv (.t 32)⟩]) .ret) .skip)) (.seq (.dreg [[],[],[],[1,2],[0,3,1,2],[],[5],[4,0,3,1,2,6,5],[],[],[8,9],[7,4,0,3,1,2,6,5,10,8,9],[11,7,4,0,3,1,2,6,5,10,8,9]] [⟨(some 33),none,(.mkrow 9 1 [(.str ⟨#[]⟩)] 0 [])⟩,⟨some 34,none,.mv (.t 0)⟩,⟨some 35,none,.mv (.t 5)⟩,⟨some 36,none,.slice false 1 (.t 34) none (some (.t 35))⟩,⟨(some 37),none,(.append 9 1 16 [(.str ⟨#[]⟩)] (.t 33) (.t 36))⟩,⟨some 38,none,.mv (.t 1)⟩,⟨(some 39),none,(.mkrow 9 1 [(.str ⟨#[]⟩)] 1 [(0,(.t 38))])⟩,⟨(some 40),none,(.append 9 1 16 [(.str ⟨#[]⟩)] (.t 37) (.t 39))⟩,⟨some 41,none,.mv (.t 0)⟩,⟨some 42,none,.mv (.t 5)⟩,⟨some 43,none,.slice false 1 (.t 41) (some (.t 42)) none⟩,⟨(some 44),none,(.append 9 1 16 [(.str ⟨#[]⟩)] (.t 40) (.t 43))⟩,⟨some 4,none,.mv (.t 44)⟩]) .ret)))))
theorem Ov:Ar Tryz.prog 106=some ⟨45,Jv,[(.tmp 4)]⟩:=by kernel_rfl
theorem Fa:modes 106=⟨[],.frz,none,false⟩:=by unfold modes; rfl
theorem R7 (xs:List ByteArray) (n:ByteArray) (hl:xs.length≤1048576):E 106 [.arr (xs.map fun s=>[D.str s]),.str n] []=some (.arr ((DY xs n).map fun s=>[D.str s]),[]):=by
 have e1:=Wb xs (CK xs n)
 have e2:=Wc xs (CK xs n)
 have e3:=Ou (xs.take (CK xs n))
 have e4:=Ou (xs.drop (CK xs n))
 have e5:=P7 xs
 have l1:=R6 xs n
 have e6:(xs.map fun s=>[D.str s]).take xs.length=xs.map fun s=>[D.str s]:=List.take_of_length_le (by simp)
 have e7:(xs.take (CK xs n)).length=CK xs n:=by rw [y5]; omega
 have e8:(xs.drop (CK xs n)).length=xs.length-CK xs n:=List.length_drop
 have hf:∀ ys:List ByteArray,ys=DY xs n→(ys.map fun s=>[OT.str s])=(DY xs n).map fun s=>[OT.str s]:=fun ys h=>by rw [h]
 refine Ai Ov Fa (of_decide_eq_true rfl) ?_
 simp (disch:=omega) only [Jv,go_sem,Ab]
 refine go_loop (α:=Int) (fun a=>⟨slots 45 0 [(0,.arr (xs.map fun s=>[D.str s])),(1,.str n),(5,.int .i64 a)],[]⟩) (fun a=>∃ k:Nat,a=k∧k≤(xs).length∧k+CK (xs.drop k) n=CK xs n) (fun a=>(xs).length-(a).toNat) 0 ⟨0,rfl,zP _,by rw [zN,yX]⟩ (by simp (disch:=omega) only [go_sem,Ab]) ?_
 rintro i ⟨k,hi,hk,hR⟩
 have hni:i.toNat=k:=by omega
 have hni1:(i+1).toNat=k+1:=by omega
 rcases zD k (xs).length with hlt | hge
 ·have hg:=get_at (fun s=>[D.str s]) hlt
  rcases SD hR hlt with ⟨q,hR'⟩ | ⟨q,hk'⟩
  ·simp (disch:=omega) only [go_sem,Ab,hni,hg,q]
   exact ⟨i+1,⟨k+1,by omega,hlt,hR'⟩,by omega,by first | trivial | rfl⟩
  ·subst hk'
   by_cases h0:xs[CK xs n]=n
   ·have hi0:=LV hlt h0
    rw [hi0]
    simp (disch:=omega) only [go_sem,Ab,hni,hg,q,h0,e6,GN,TU]
   ·have hi0:=LW (fun _=>h0)
    have hx:(xs.take (CK xs n)).map (fun s=>[OT.str s])++([[OT.str n]]++(xs.drop (CK xs n)).map (fun s=>[OT.str s]))=(DY xs n).map fun s=>[OT.str s]:=by rw [hi0]; simp
    have hx2:(xs.take (CK xs n)).map (fun s=>[OT.str s])++[[OT.str n]]++(xs.drop (CK xs n)).map (fun s=>[OT.str s])=(DY xs n).map fun s=>[OT.str s]:=by rw [hi0]; simp
    simp (disch:=omega) only [go_sem,Ab,hni,hg,q,h0,e1,e2,e3,e4,e5,e6,e7,e8,hx2,yM,y0]
 ·obtain rfl:k=xs.length:=by omega
  have hk':xs.length=CK xs n:=by rw [←hR,zI (yN _)]; simp [CK]
  have hi0:=LW (xs:=xs) (n:=n) (fun h=>by omega)
  have hx2:(xs.take (CK xs n)).map (fun s=>[OT.str s])++[[OT.str n]]++(xs.drop (CK xs n)).map (fun s=>[OT.str s])=(DY xs n).map fun s=>[OT.str s]:=by rw [hi0]; simp
  rw [hk'] at hni
  simp (disch:=omega) only [go_sem,Ab,hni,e1,e2,e3,e4,e5,e6,e7,e8,hx2,yM,y0]
noncomputable def CF (l ns:List ByteArray):List ByteArray:=ns.foldl DY l
theorem D7:∀ (ns l:List ByteArray),(CF l ns).length≤l.length+ns.length
 | [],l=>by simp [CF]
 | n :: ns,l=>by
  have h:=D7 ns (DY l n)
  have h2:=LU l n
  simp only [CF,z7,zM] at h ⊢
  omega
theorem H8:∀ {ns l:List ByteArray} {m:ByteArray},m∈CF l ns ↔ m∈l∨m∈ns
 | [],l,m=>by simp [CF]
 | n :: ns,l,m=>by
  have h:=H8 (ns:=ns) (l:=DY l n) (m:=m)
  simp only [CF,z7] at h ⊢
  rw [h,LT]
  simp only [zT]
  exact or_assoc
theorem LX (l a b:List ByteArray):CF l (a++b)=CF (CF l a) b:=List.foldl_append
def Ga:SC:=(.seq (.reg [⟨some 3,none,.boxv 26 2 (.t 1)⟩,⟨some 4,none,.mv (.c .nil)⟩]) (.seq (.seq (.reg [⟨some 6,none,.faddr 0 (.t 3)⟩,⟨some 7,none,.load false 1 (.t 6)⟩,⟨some 8,none,.call 21 [(.t 7)]⟩]) (.cond (.t 8) (.seq (.reg [⟨some 9,none,.mv (.t 0)⟩,⟨some 10,none,.faddr 0 (.t 3)⟩,⟨some 11,none,.load false 1 (.t 10)⟩,⟨some 12,none,.call 106 [(.t 9),(.t 11)]⟩,⟨some 4,none,.mv (.t 12)⟩]) .ret) .skip)) (.seq (.seq (.reg [⟨some 5,none,.mv (.c (.int .i64 0))⟩]) (.block 0 (.loop [1,0,0,1,0,1,0,0,0,0,0,0,0,0,0,0,0,0,0,0,0,0,0,0,0,0,0,0] (.seq (.seq (.reg [⟨some 13,none,.mv (.t 5)⟩,⟨some 14,none,.faddr 1 (.t 3)⟩,⟨some 15,none,.load false 1 (.t 14)⟩,⟨some 16,none,.len false (.t 15)⟩,⟨some 17,none,.bin .lss false (.t 13) (.t 16)⟩]) (.cond (.t 17) .skip (.exit 0))) (.seq (.block 1 (.reg [⟨some 20,none,.mv (.t 0)⟩,⟨some 21,none,.faddr 1 (.t 3)⟩,⟨some 22,none,.load false 1 (.t 21)⟩,⟨some 23,none,.mv (.t 5)⟩,⟨some 24,none,.iaddr 2 (.t 22) (.t 23)⟩,⟨some 25,none,.load true 2 (.t 24)⟩,⟨some 26,none,.call 89 [(.t 20),(.t 25)]⟩,⟨some 0,none,.mv (.t 26)⟩])) (.reg [⟨some 18,none,.mv (.t 5)⟩,⟨some 19,none,.bin .add false (.t 18) (.c (.int .i64 1))⟩,⟨some 5,none,.mv (.t 19)⟩])))))) (.seq (.reg [⟨some 27,none,.mv (.t 0)⟩,⟨some 4,none,.mv (.t 27)⟩]) .ret))))
theorem Is:Ar Tryz.prog 89=some ⟨28,Ga,[(.tmp 4)]⟩:=by kernel_rfl
theorem Ez:modes 89=⟨[],.asis,none,false⟩:=by unfold modes; rfl
def It:SC:=(.seq (.reg [⟨some 1,none,.boxv 26 2 (.t 0)⟩,⟨some 2,none,.mv (.c .nil)⟩]) (.seq (.reg [⟨(some 3),none,(.mkrow 9 1 [(.str ⟨#[]⟩)] 0 [])⟩,⟨some 4,none,.load true 2 (.t 1)⟩,⟨some 5,none,.call 89 [(.t 3),(.t 4)]⟩,⟨some 2,none,.mv (.t 5)⟩]) .ret))
theorem M9:Ar Tryz.prog 61=some ⟨6,It,[(.tmp 2)]⟩:=by kernel_rfl
theorem AN:modes 61=⟨[],.frz,none,false⟩:=by unfold modes; rfl
abbrev Uh (x:Tm):Prop:=∀ l:List ByteArray,l.length+x.nodes≤1048576→E 89 [.arr (l.map fun s=>[D.str s]),x.sv] []=some (.arr ((CF l x.vs).map fun s=>[D.str s]),[])
theorem SE (x:Tm) (ih:∀ y∈x.args,Uh y):Uh x:=by
 intro l hn
 have hl:=Tm.length_le x.args
 have hne:=Tm.nodes_eq x
 have hvs:=Tm.N8 x
 have hp:=R7 l x.name (by omega)
 cases hvv:Bs x.name with
 | true =>
  rw [hvv] at hvs
  have e:CF l x.vs=DY l x.name:=by rw [hvs]; rfl
  rw [e]
  refine Ai Is Ez (of_decide_eq_true rfl) ?_
  simp (disch:=omega) only [Ga,go_sem,Ab,hvv,hp,Ak,CG,Fa]
 | false =>
  rw [hvv] at hvs
  simp only [cond_false] at hvs
  rw [hvs]
  refine Ai Is Ez (of_decide_eq_true rfl) ?_
  simp (disch:=omega) only [Ga,go_sem,Ab,hvv,Ak,CG]
  refine go_loop (α:=Int × (List ByteArray)) (fun a=>⟨slots 28 0 [(0,.arr ((a.2).map fun s=>[D.str s])),(3,.ptr 0 0),(5,.int .i64 (a.1))],[.box 26 [.str x.name,.arr (x.args.map Tm.d)]]⟩) (fun a=>∃ k:Nat,a.1=k∧k≤(x.args).length∧CF (a.2) (Tm.vsL (x.args.drop k))=CF l (Tm.vsL x.args)∧(a.2).length+Tm.nodeS (x.args.drop k)≤1048576) (fun a=>(x.args).length-(a.1).toNat) (0,l) ⟨0,rfl,zP _,by rw [zN],by rw [zN]; dsimp only; omega⟩ (by simp (disch:=omega) only [go_sem,Ab]) ?_
  rintro ⟨i,acc⟩ ⟨k,hi,hk,hR⟩
  dsimp only at hi hR
  have hni:i.toNat=k:=by omega
  have hni1:(i+1).toNat=k+1:=by omega
  rcases zD k (x.args).length with hlt | hge
  ·have hg:=get_at Tm.d hlt
   rw [Tm.d_eq] at hg
   obtain ⟨hR1,hR2⟩:=hR
   rw [zG hlt,Tm.vsL,LX] at hR1
   rw [zG hlt,Tm.nodeS] at hR2
   have hc:=ih x.args[k] (zE hlt) acc (by omega)
   have hlen:=D7 x.args[k].vs acc
   have hvl:=Tm.H7 x.args[k]
   simp (disch:=omega) only [go_sem,Ab,hni,hg,hc,Ez]
   exact ⟨(i+1,CF acc x.args[k].vs),⟨k+1,by dsimp only; omega,hlt,hR1,by dsimp only; omega⟩,by dsimp only; omega,by first | trivial | rfl⟩
  ·rw [zI hge,Tm.vsL] at hR
   obtain ⟨hR1,hR2⟩:=hR
   have hR1:acc=CF l (Tm.vsL x.args):=hR1
   rw [←hR1]
   simp (disch:=omega) only [go_sem,Ab,hni]
theorem P8 (x:Tm):Uh x:=SE x fun y hy=>P8 y
termination_by SizeOf.sizeOf x
decreasing_by exact Tm.lt_of_mem hy
theorem P9 (x:Tm) (hn:x.nodes≤1048576):E 61 [x.sv] []=some (.arr ((CF [] x.vs).map fun s=>[D.str s]),[]):=by
 have h:=P8 x [] (by simpa using hn)
 rw [zJ] at h
 refine Ai M9 AN (of_decide_eq_true rfl) ?_
 simp (disch:=omega) only [It,go_sem,Ab,h,Ez]
theorem LY:∀ x y:List UInt8,Op.bytesLess x y=true→Op.bytesLess y x=false
 | [],[],h=>by simp [Op.bytesLess] at h
 | [],_ :: _,_=>rfl
 | _ :: _,[],h=>by simp [Op.bytesLess] at h
 | a :: x,b :: y,h=>by
  simp only [Op.bytesLess,zY,decide_eq_true_eq,zA,beq_iff_eq] at h
  simp only [Op.bytesLess,yU,decide_eq_false_iff_not]
  rcases h with h | ⟨rfl,h⟩
  ·have h2:¬ b<a:=by intro h3; exact absurd (UInt8.lt_trans h h3) (UInt8.lt_irrefl _)
   have h3:(b == a)=false:=by
    rw [beq_eq_false_iff_ne]; rintro rfl; exact UInt8.lt_irrefl _ h
   exact ⟨h2,by rw [h3]; rfl⟩
  ·exact ⟨UInt8.lt_irrefl _,by rw [LY x y h]; simp⟩
theorem LZ:∀ x y:List UInt8,Op.bytesLess x y=false→Op.bytesLess y x=false→x=y
 | [],[],_,_=>rfl
 | [],_ :: _,h,_=>by simp [Op.bytesLess] at h
 | _ :: _,[],_,h=>by simp [Op.bytesLess] at h
 | a :: x,b :: y,h,k=>by
  simp only [Op.bytesLess,yU,decide_eq_false_iff_not] at h k
  have hab:a=b:=by
   have h1:=h.1; have h2:=k.1
   rw [UInt8.lt_iff_toNat_lt] at h1 h2
   exact UInt8.toNat_inj.1 (by omega)
  subst hab
  have h1:Op.bytesLess x y=false:=by simpa using h.2
  have h2:Op.bytesLess y x=false:=by simpa using k.2
  rw [LZ x y h1 h2]
theorem PA {a b:ByteArray} (h:strLt a b=true):strLt b a=false:=LY _ _ h
theorem Kz {a b:ByteArray} (h:strLt a b=false) (h':strLt b a=false):a=b:=JG (LZ _ _ h h')
theorem Ma:∀ x y z:List UInt8,Op.bytesLess x y=true→Op.bytesLess y z=true→Op.bytesLess x z=true
 | _,_,[],_,h=>by simp [Op.bytesLess] at h
 | [],[],_ :: _,h,_=>by simp [Op.bytesLess] at h
 | [],_ :: _,_ :: _,_,_=>rfl
 | _ :: _,[],_ :: _,h,_=>by simp [Op.bytesLess] at h
 | a :: x,b :: y,c :: z,h,k=>by
  simp only [Op.bytesLess,zY,decide_eq_true_eq,zA,beq_iff_eq] at h k ⊢
  rcases h with h | ⟨rfl,h⟩
  ·rcases k with k | ⟨rfl,k⟩
   ·exact .inl (UInt8.lt_trans h k)
   ·exact .inl h
  ·rcases k with k | ⟨rfl,k⟩
   ·exact .inl k
   ·exact .inr ⟨rfl,Ma x y z h k⟩
theorem K0 {a b c:ByteArray} (h:strLt a b=true) (k:strLt b c=true):strLt a c=true:=Ma _ _ _ h k
theorem PB {a b:ByteArray} (h:strLt a b=true):¬ a=b:=by rintro rfl; rw [GN] at h; cases h
theorem PC (a b:ByteArray):dec (QE a b<0)=strLt a b:=by
 unfold QE
 cases strLt a b
 ·cases dec (a=b)
  ·exact An (by simp)
  ·exact An (by simp)
 ·exact A5 (by simp)
theorem SF (a b:ByteArray):dec (QE a b=0)=dec (a=b):=by
 unfold QE
 cases h:strLt a b
 ·cases h2:dec (a=b)
  ·exact An (by simp)
  ·exact A5 (by simp)
 ·rw [An (PB h)]
  exact An (by simp)
theorem wrap_u64 {n:Int} (h0:0≤n) (h1:n≤18446744073709551615):IntKind.u64.wrap n=n:=KX (by
 have e1:IntKind.u64.min=0:=by decide
 have e2:IntKind.u64.max=18446744073709551615:=by decide
 unfold inK
 rw [e1,e2]
 exact ⟨h0,h1⟩)
theorem R8:∀ x y:List UInt8,Op.bytesLess x y=true ↔ x<y
 | [],[]=>by simp [Op.bytesLess]
 | [],b :: y=>by simp [Op.bytesLess]
 | a :: x,[]=>by simp [Op.bytesLess]
 | a :: x,b :: y=>by
  have h:=R8 x y
  rw [List.cons_lt_cons_iff,← h]
  simp only [Op.bytesLess,zY,decide_eq_true_eq,zA,beq_iff_eq]
theorem Ui (a b:ByteArray):strLt a b=true ↔ a.toList<b.toList:=R8 _ _
theorem NA (n:ByteArray):∀ xs:List ByteArray,xs.Pairwise (fun x y=>strLt x y=true)→(DY xs n).Pairwise fun x y=>strLt x y=true
 | [],_=>by simp [DY]
 | x :: xs,h=>by
  rw [DY]
  rw [yC] at h
  cases hq:strLt x n with
  | true =>
   rw [cond_true,yC]
   refine ⟨fun y hy=>?_,NA n xs h.2⟩
   rcases LT.1 hy with hy | rfl
   ·exact h.1 y hy
   ·exact hq
  | false =>
   rw [cond_false]
   by_cases he:x=n
   ·rw [A5 he,cond_true,yC]; exact h
   ·rw [An he,cond_false,yC,yC]
    have hn:strLt n x=true:=by
     cases hh:strLt n x with
     | true=>rfl
     | false=>exact absurd (Kz hq hh) he
    refine ⟨fun y hy=>?_,h⟩
    rcases zT.1 hy with rfl | hy
    ·exact hn
    ·exact K0 hn (h.1 y hy)
theorem NB:∀ (ns xs:List ByteArray),xs.Pairwise (fun x y=>strLt x y=true)→(CF xs ns).Pairwise fun x y=>strLt x y=true
 | [],xs,h=>h
 | n :: ns,xs,h=>NB ns (DY xs n) (NA n xs h)
theorem QJ {xs:List ByteArray} (h:xs.Pairwise fun x y=>strLt x y=true):xs.Nodup :=
 h.imp fun {a b} hab e=>by rw [e,GN] at hab; cases hab
theorem SG (l:List ByteArray):(Or l).Pairwise fun x y=>strLt y x=false:=by
 unfold Or srt
 rw [List.pairwise_map]
 have h:=List.pairwise_mergeSort (le:=fun x y:List UInt8=>decide (x≤y)) (fun a b c h k=>by
  rw [decide_eq_true_eq] at h k ⊢; exact List.le_trans h k) (fun a b=>by
  rw [zY,decide_eq_true_eq,decide_eq_true_eq]; exact List.le_total a b) (l.map (·.toList))
 refine h.imp fun {a b} hab=>?_
 rw [decide_eq_true_eq] at hab
 rw [y2]
 intro hh
 have:=(Ui _ _).1 hh
 rw [ByteArray.toList_eq,ByteArray.toList_eq] at this
 exact absurd this (List.not_lt.2 hab)
theorem NC (ns:List ByteArray):Or (Cp [] ns)=CF [] ns:=by
 have h1:=NB ns [] List.Pairwise.nil
 have n1:=QJ h1
 have n2:(Cp [] ns).Nodup:=LQ List.nodup_nil
 have hp:(Or (Cp [] ns)).Perm (CF [] ns):=(SB _).trans ((List.perm_ext_iff_of_nodup n2 n1).2 fun a=>by rw [P6,H8])
 refine List.Perm.eq_of_pairwise (le:=fun x y=>strLt y x=false) (fun a b _ _ h k=>Kz k h) (SG _) (h1.imp fun h=>PA h) hp
mutual
noncomputable def Fm.fv:Fm→List ByteArray→List ByteArray
 | .mk op atom var parts,b=>bif dec (op=3) then (CF [] atom.vs).filter (fun n=>!dec (n∈b)) else Fm.fvL parts (bif qB op then b++[var] else b)
noncomputable def Fm.fvL:List Fm→List ByteArray→List ByteArray
 | [],_=>[]
 | x :: xs,b=>Fm.fv x b++Fm.fvL xs b
end
theorem Fm.K1 (x:Fm) (b:List ByteArray):x.fv b=bif dec (x.op=3) then (CF [] x.atom.vs).filter (fun n=>!dec (n∈b)) else Fm.fvL x.parts (bif qB x.op then b++[x.var] else b):=by
 obtain ⟨op,atom,var,parts⟩:=x
 rw [Fm.fv]; rfl
theorem Fm.FN {m:ByteArray} {b:List ByteArray}:∀ {xs:List Fm},m∈Fm.fvL xs b ↔ ∃ x∈xs,m∈x.fv b
 | []=>by simp [Fm.fvL]
 | x :: xs=>by rw [Fm.fvL,List.mem_append,Fm.FN (xs:=xs)]; simp
theorem Fm.IR (m:ByteArray) (x:Fm):∀ b:List ByteArray,m∈x.fv b ↔ m∈x.fv []∧¬ m∈b:=by
 intro b
 rw [Fm.K1,Fm.K1]
 cases dec (x.op=3) with
 | true =>
  simp only [cond_true,List.mem_filter]
  have e:(!dec (m∈([]:List ByteArray)))=true:=by rw [An (by simp)]; rfl
  rw [e]
  constructor
  ·rintro ⟨h1,h2⟩
   refine ⟨⟨h1,rfl⟩,fun h=>?_⟩
   rw [A5 h] at h2
   cases h2
  ·rintro ⟨⟨h1,_⟩,h2⟩
   exact ⟨h1,by rw [An h2]; rfl⟩
 | false =>
  simp only [cond_false]
  have key:∀ c c0:List ByteArray,(∀ k,k∈c ↔ k∈c0∨k∈b)→(m∈Fm.fvL x.parts c ↔ m∈Fm.fvL x.parts c0∧¬ m∈b):=fun c c0 hc=>by
   rw [Fm.FN,Fm.FN]
   constructor
   ·rintro ⟨y,hy,h⟩
    have h1:=(Fm.IR m y c).1 h
    exact ⟨⟨y,hy,(Fm.IR m y c0).2 ⟨h1.1,fun h2=>h1.2 ((hc m).2 (.inl h2))⟩⟩,fun h2=>h1.2 ((hc m).2 (.inr h2))⟩
   ·rintro ⟨⟨y,hy,h⟩,h2⟩
    have h1:=(Fm.IR m y c0).1 h
    exact ⟨y,hy,(Fm.IR m y c).2 ⟨h1.1,fun h3=>((hc m).1 h3).elim h1.2 h2⟩⟩
  cases qB x.op with
  | true=>exact key _ _ fun k=>by simp [or_comm]
  | false=>exact key _ _ fun k=>by simp
termination_by SizeOf.sizeOf x
decreasing_by all_goals exact Fm.lt_of_mem hy
mutual
def Fm.vn:Fm→Nat
 | .mk _ atom _ parts=>atom.nodes+Fm.vnS parts
def Fm.vnS:List Fm→Nat
 | []=>0
 | x :: xs=>Fm.vn x+Fm.vnS xs
end
theorem Fm.R9 (x:Fm):x.vn=x.atom.nodes+Fm.vnS x.parts:=by
 obtain ⟨op,atom,var,parts⟩:=x
 rw [Fm.vn]; rfl
theorem Fm.RA (b:List ByteArray):∀ xs:List Fm,(∀ x∈xs,(x.fv b).length≤x.vn)→(Fm.fvL xs b).length≤Fm.vnS xs
 | [],_=>by simp [Fm.fvL]
 | x :: xs,h=>by
  have h1:=h x (by simp)
  have h2:=Fm.RA b xs fun y hy=>h y (by simp [hy])
  rw [Fm.fvL,Fm.vnS,yM]; omega
theorem Fm.H9 (x:Fm):∀ b:List ByteArray,(x.fv b).length≤x.vn:=by
 intro b
 rw [Fm.K1,Fm.R9]
 cases dec (x.op=3) with
 | true =>
  simp only [cond_true]
  have h1:=List.length_filter_le (fun n=>!dec (n∈b)) (CF [] x.atom.vs)
  have h2:=D7 x.atom.vs []
  have h3:=Tm.H7 x.atom
  simp only [zZ] at h2
  omega
 | false =>
  simp only [cond_false]
  have h:=Fm.RA (bif qB x.op then b++[x.var] else b) x.parts fun y hy=>Fm.H9 y _
  omega
termination_by SizeOf.sizeOf x
decreasing_by exact Fm.lt_of_mem hy
theorem Fm.Uj:∀ xs:List Fm,(∀ x∈xs,x.vn≤30*x.nodes)→Fm.vnS xs≤30*Fm.nodeS xs
 | [],_=>by simp [Fm.vnS]
 | x :: xs,h=>by
  have h1:=h x (by simp)
  have h2:=Fm.Uj xs fun y hy=>h y (by simp [hy])
  rw [Fm.vnS,Fm.nodeS]; omega
theorem Fm.RB (x:Fm) (h:x.forms=true):x.vn≤30*x.nodes:=by
 have h1:=Fm.Uj x.parts fun y hy=>Fm.RB y (Fm.Co h hy)
 have h2:=Fm.FK (Fm.Cr h)
 rw [Fm.R9,Fm.nodes_eq]; omega
termination_by SizeOf.sizeOf x
decreasing_by exact Fm.lt_of_mem hy
noncomputable def Fm.free (x:Fm):List ByteArray:=CF [] (x.fv [])
theorem Fm.PD (x:Fm) (n:ByteArray):n∈x.free ↔ n∈x.fv []:=by unfold Fm.free; rw [H8]; simp
def Sb.tame (x:Sb):Prop:=x.binds.length≤1099511627776∧∀ y∈x.binds,y.term.nodes≤1099511627776
theorem Sb.tame_at {x:Sb} (h:x.tame) {k:Nat} (hk:k<x.binds.length):x.binds[k].term.nodes≤1099511627776:=h.2 _ (zE hk)
def Iu:SC:=(.seq (.reg [⟨some 2,none,.boxv 71 1 (.t 0)⟩,⟨some 4,none,.mv (.c (.int .i64 0))⟩]) (.seq (.seq (.reg [⟨some 5,none,.mv (.c (.int .i64 0))⟩]) (.block 0 (.loop [0,1,1,0,0,1,0,0,0,0,0,0,0,0,0,0,0,0,0,0,0,0] (.seq (.seq (.reg [⟨some 6,none,.mv (.t 5)⟩,⟨some 7,none,.faddr 0 (.t 2)⟩,⟨some 8,none,.load false 1 (.t 7)⟩,⟨some 9,none,.len false (.t 8)⟩,⟨some 10,none,.bin .lss false (.t 6) (.t 9)⟩]) (.cond (.t 10) .skip (.exit 0))) (.seq (.block 1 (.seq (.reg [⟨some 13,none,.faddr 0 (.t 2)⟩,⟨some 14,none,.load false 1 (.t 13)⟩,⟨some 15,none,.mv (.t 5)⟩,⟨some 16,none,.iaddr 3 (.t 14) (.t 15)⟩,⟨some 17,none,.faddr 0 (.t 16)⟩,⟨some 18,none,.load false 1 (.t 17)⟩,⟨some 19,none,.mv (.t 1)⟩,⟨some 20,none,.bin .eql false (.t 18) (.t 19)⟩]) (.cond (.t 20) (.seq (.reg [⟨some 21,none,.mv (.t 5)⟩,⟨some 4,none,.mv (.t 21)⟩]) .ret) .skip))) (.reg [⟨some 11,none,.mv (.t 5)⟩,⟨some 12,none,.bin .add false (.t 11) (.c (.int .i64 1))⟩,⟨some 5,none,.mv (.t 12)⟩])))))) (.seq (.reg [⟨some 4,none,.mv (.c (.int .i64 (-(0+1))))⟩]) .ret)))
theorem MA:Ar Tryz.prog 86=some ⟨22,Iu,[(.tmp 4)]⟩:=by kernel_rfl
theorem E0:modes 86=⟨[],.asis,none,false⟩:=by unfold modes; rfl
theorem Uk (x:Sb) (n:ByteArray) (hl:x.binds.length≤1099511627776):E 86 [x.sv,.str n] []=some (.int .i64 (D2 (fun b=>dec (b.var=n)) x.binds 0),[]):=by
 refine Ai MA E0 (of_decide_eq_true rfl) ?_
 simp (disch:=omega) only [Iu,go_sem,Ab]
 refine go_loop (α:=Int) (fun a=>⟨slots 22 0 [(1,.str n),(2,.ptr 0 0),(5,.int .i64 a)],[.box 71 [.arr (x.binds.map Bd.d)]]⟩) (fun a=>∃ k:Nat,a=k∧k≤(x.binds).length∧D2 (fun b=>dec (b.var=n)) (x.binds.drop k) a=D2 (fun b=>dec (b.var=n)) x.binds 0) (fun a=>(x.binds).length-(a).toNat) 0 ⟨0,rfl,zP _,by rw [zN]⟩ (by simp (disch:=omega) only [go_sem,Ab]) ?_
 rintro i ⟨k,hi,hk,hR⟩
 have hni:i.toNat=k:=by omega
 have hni1:(i+1).toNat=k+1:=by omega
 rcases zD k (x.binds).length with hlt | hge
 ·have hg:=get_at Bd.d hlt
  rw [Bd.d_eq] at hg
  rw [zG hlt,D2] at hR
  cases hp:dec (x.binds[k].var=n) with
  | true =>
   rw [hp] at hR
   simp (disch:=omega) only [go_sem,Ab,hni,hg,hp]
   simpa using hR
  | false =>
   rw [hp] at hR
   simp (disch:=omega) only [go_sem,Ab,hni,hg,hp]
   exact ⟨i+1,⟨k+1,by omega,hlt,by simpa using hR⟩,by omega,by first | trivial | rfl⟩
 ·rw [zI hge,D2] at hR
  simp (disch:=omega) only [go_sem,Ab,hni]
  exact hR
def Eo:SC:=(.seq (.reg [⟨some 2,none,.mv (.c .nil)⟩]) (.seq (.seq (.reg [⟨some 6,none,.mv (.t 0)⟩,⟨some 7,none,.len false (.t 6)⟩,⟨some 8,none,.bin .eql false (.t 7) (.c (.int .i64 0))⟩]) (.cond (.t 8) (.seq (.reg [⟨some 2,none,.mv (.c .nil)⟩]) .ret) .skip)) (.seq (.reg [⟨some 9,none,.mv (.t 0)⟩,⟨some 10,none,.len false (.t 9)⟩,⟨(some 11),none,(.mkslice 26 2 40 [(.str ⟨#[]⟩),.nil] (.t 10))⟩,⟨some 3,none,.mv (.t 11)⟩]) (.seq (.seq (.reg [⟨some 12,none,.mv (.t 0)⟩,⟨some 13,none,.len false (.t 12)⟩,⟨some 14,none,.mv (.c (.int .i64 0))⟩]) (.block 0 (.loop [0,0,0,1,0,0,0,0,0,0,0,0,1,1,1,0,0,0,0,0,0,0,0,0,0,0] (.seq (.reg [⟨some 15,none,.bin .lss false (.t 14) (.t 13)⟩]) (.seq (.cond (.t 15) .skip (.exit 0)) (.seq (.block 1 (.seq (.reg [⟨some 16,none,.mv (.t 14)⟩,⟨some 17,none,.iaddr 2 (.t 12) (.t 14)⟩,⟨some 18,none,.load true 2 (.t 17)⟩,⟨(some 5),none,(.alloc 26 [(.str ⟨#[]⟩),.nil])⟩,⟨some 4,none,.mv (.t 16)⟩,⟨none,none,(.store 2 (.t 5) (.t 18))⟩]) (.reg [⟨some 19,none,.mv (.t 3)⟩,⟨some 20,none,.mv (.t 4)⟩,⟨some 21,none,.load true 2 (.t 5)⟩,⟨some 22,none,.call 80 [(.t 21)]⟩,⟨some 23,none,.iaddr 2 (.t 19) (.t 20)⟩,⟨none,none,(.store 2 (.t 23) (.t 22))⟩]))) (.reg [⟨some 24,none,.bin .add false (.t 14) (.c (.int .i64 1))⟩,⟨some 14,none,.mv (.t 24)⟩]))))))) (.seq (.reg [⟨some 25,none,.mv (.t 3)⟩,⟨some 2,none,.mv (.t 25)⟩]) .ret)))))
theorem Gy:Ar Tryz.prog 100=some ⟨26,Eo,[(.tmp 2)]⟩:=by kernel_rfl
theorem Ep:modes 100=⟨[],.own [some (26,2)],none,false⟩:=by unfold modes; rfl
def GZ:SC:=(.seq (.reg [⟨some 1,none,.boxv 26 2 (.t 0)⟩,⟨(some 2),none,(.alloc 26 [(.str ⟨#[]⟩),.nil])⟩]) (.seq (.dreg [[],[0],[],[2],[3,2],[1,0,4,3,2],[5,1,0,4,3,2]] [⟨some 3,none,.faddr 0 (.t 1)⟩,⟨some 4,none,.load false 1 (.t 3)⟩,⟨some 5,none,.faddr 1 (.t 1)⟩,⟨some 6,none,.load false 1 (.t 5)⟩,⟨some 7,none,.call 100 [(.t 6)]⟩,⟨(some 8),none,(.build [(.str ⟨#[]⟩),.nil] [(0,(1,(.t 4))),(1,(1,(.t 7)))])⟩,⟨none,none,(.store 2 (.t 2) (.t 8))⟩]) .ret))
theorem KB:Ar Tryz.prog 80=some ⟨9,GZ,[(.cell 2 true 2)]⟩:=by kernel_rfl
theorem Da:modes 80=⟨[],.asis,none,false⟩:=by unfold modes; rfl
def Jw:SC:=(.seq (.reg [⟨some 1,none,.boxv 26 2 (.t 0)⟩,⟨(some 2),none,(.alloc 26 [(.str ⟨#[]⟩),.nil])⟩]) (.seq (.reg [⟨some 5,none,.faddr 0 (.t 1)⟩,⟨some 6,none,.load false 1 (.t 5)⟩,⟨(some 7),none,(.build [(.str ⟨#[]⟩),.nil] [(0,(1,(.t 6)))])⟩,⟨(some 3),none,(.alloc 26 [(.str ⟨#[]⟩),.nil])⟩,⟨none,none,(.store 2 (.t 3) (.t 7))⟩]) (.seq (.seq (.reg [⟨some 4,none,.mv (.c (.int .i64 0))⟩]) (.block 0 (.loop [0,1,1,1,1,0,0,0,0,0,0,0,0,0,0,0,0,0,0,0,0,0,0,0,0,0,0] (.seq (.seq (.reg [⟨some 8,none,.mv (.t 4)⟩,⟨some 9,none,.faddr 1 (.t 1)⟩,⟨some 10,none,.load false 1 (.t 9)⟩,⟨some 11,none,.len false (.t 10)⟩,⟨some 12,none,.bin .lss false (.t 8) (.t 11)⟩]) (.cond (.t 12) .skip (.exit 0))) (.seq (.block 1 (.dreg [[],[0],[],[2],[],[3,2,4],[5,3,2,4],[6,5,3,2,4],[7,6,5,3,2,4],[1,0,8,7,6,5,3,2,4],[0,1,2,3,4,5,6,7,8,9],[10,0,1,2,3,4,5,6,7,8,9]] [⟨some 15,none,.faddr 1 (.t 3)⟩,⟨some 16,none,.load false 1 (.t 15)⟩,⟨some 17,none,.faddr 1 (.t 1)⟩,⟨some 18,none,.load false 1 (.t 17)⟩,⟨some 19,none,.mv (.t 4)⟩,⟨some 20,none,.iaddr 2 (.t 18) (.t 19)⟩,⟨some 21,none,.load true 2 (.t 20)⟩,⟨some 22,none,.call 87 [(.t 21)]⟩,⟨(some 23),none,(.mkrow 26 2 [(.str ⟨#[]⟩),.nil] 1 [(0,(.t 22))])⟩,⟨(some 24),none,(.append 26 2 40 [(.str ⟨#[]⟩),.nil] (.t 16) (.t 23))⟩,⟨some 25,none,.faddr 1 (.t 3)⟩,⟨none,none,(.store 1 (.t 25) (.t 24))⟩])) (.reg [⟨some 13,none,.mv (.t 4)⟩,⟨some 14,none,.bin .add false (.t 13) (.c (.int .i64 1))⟩,⟨some 4,none,.mv (.t 14)⟩])))))) (.seq (.reg [⟨some 26,none,.load true 2 (.t 3)⟩,⟨none,none,(.store 2 (.t 2) (.t 26))⟩]) .ret))))
theorem Ow:Ar Tryz.prog 87=some ⟨27,Jw,[(.cell 2 true 2)]⟩:=by kernel_rfl
theorem Dx:modes 87=⟨[],.frz,none,false⟩:=by unfold modes; rfl
theorem Ox (xs:List Tm) (hl:xs.length≤1099511627776) (h:∀ x∈xs,E 80 [x.sv] []=some (x.osv,x.obs)):E 100 [.arr (xs.map Tm.d)] []=some (.ref 0,[.row 26 2 (xs.map Tm.o)]):=by
 cases xs with
 | nil =>
  refine Ai Gy Ep (of_decide_eq_true rfl) ?_
  simp (disch:=omega) only [Eo,go_sem,Ab]
 | cons x0 xs0 =>
 generalize hxs:x0 :: xs0=xs at *
 have hpos:0<xs.length:=by rw [←hxs]; simp
 refine Ai Gy Ep (of_decide_eq_true rfl) ?_
 simp (disch:=omega) only [Eo,go_sem,Ab]
 refine go_loop (α:=Int) (fun a=>⟨slots 26 0 [(3,.ref 0),(12,.arr (xs.map Tm.d)),(13,.int .i64 xs.length),(14,.int .i64 a)],[.row 26 2 (Fw Tm.o [.str ⟨#[]⟩,.ow []] xs a.toNat)]⟩) (fun a=>∃ k:Nat,a=k∧k≤(xs).length) (fun a=>(xs).length-(a).toNat) 0 ⟨0,rfl,zP _⟩ (by simp (disch:=omega) only [go_sem,Ab,LE,y0]) ?_
 rintro i ⟨k,hi,hk⟩
 have hni:i.toNat=k:=by omega
 have hni1:(i+1).toNat=k+1:=by omega
 rcases zD k (xs).length with hlt | hge
 ·have hg:=get_at Tm.d hlt
  rw [Tm.d_eq] at hg
  have hz:=Nz Tm.o [.str ⟨#[]⟩,.ow []] hlt
  have hc:=h xs[k] (zE hlt)
  have hs:=N0 Tm.o [.str ⟨#[]⟩,.ow []] hlt
  rw [Tm.o_eq] at hs
  simp (disch:=omega) only [go_sem,Ab,hni,hg,hc,hz,Nx,Da,Tm.osv,Tm.obs]
  refine ⟨i+1,⟨k+1,by omega,hlt⟩,by omega,?_⟩
  simp (disch:=omega) only [go_sem,Ab,hni1,hs]
 ·obtain rfl:k=xs.length:=by omega
  simp (disch:=omega) only [go_sem,Ab,hni,Ny]
theorem PE (x:Tm) (h:E 100 [.arr (x.args.map Tm.d)] []=some (.ref 0,[.row 26 2 (x.args.map Tm.o)])):E 80 [x.sv] []=some (x.osv,x.obs):=by
 refine Ai KB Da (of_decide_eq_true rfl) ?_
 simp (disch:=omega) only [GZ,go_sem,Ab,h,Ep]
theorem GP (x:Tm) (hn:x.nodes≤1099511627776):E 80 [x.sv] []=some (x.osv,x.obs) :=
 PE x (Ox x.args (by have:=Tm.nodes_eq x; have:=Tm.length_le x.args; omega) fun y hy=>GP y (by have:=Tm.nodes_mem hy; have:=Tm.nodes_eq x; omega))
termination_by SizeOf.sizeOf x
decreasing_by exact Tm.lt_of_mem hy
def Xe (res:RM) (n0:Nat) (rs:List RX) (Q:SV × List Ob→Prop) (x:X) (st:St):Prop:=∃ out,VV res n0 rs out x st∧Q out
theorem exq {α:Type} {a:α} {Q:α→Prop}:(∃ out,some a=some out∧Q out)=Q a:=propext ⟨fun ⟨o,h,q⟩=>by obtain rfl:=zR h; exact q,fun q=>⟨a,rfl,q⟩⟩
theorem Xf {res:RM} {n0:Nat} {rs:List RX} {Q:SV × List Ob→Prop} {sl:List SV} {ob:List Ob}:Xe res n0 rs Q .ret ⟨sl,ob⟩=∃ out,Py res n0 ob (Mz ⟨sl,ob⟩ rs)=some out∧Q out:=rfl
theorem Xg {res:RM} {n0:Nat} {rs:List RX} {Q:SV × List Ob→Prop} {sl:List SV} {ob:List Ob}:Xe res n0 rs Q .normal ⟨sl,ob⟩=∃ out,Py res n0 ob (Mz ⟨sl,ob⟩ rs)=some out∧Q out:=rfl
theorem AS {f:FuncId} {fc:FC} {hand:List Bool} {res:RM} {tr:Bool} {xs:List SV} {ob:List Ob} {Q:SV × List Ob→Prop} (hc:Ar Tryz.prog f=some fc) (hr:modes f=⟨hand,res,none,tr⟩) (hn:xs.length≤fc.nt) (h:go ob.length (FE res fc.sc) ⟨xs++Jm (fc.nt-xs.length),entry tr ob⟩ (Xe res ob.length fc.rs Q)):∃ out,E f xs ob=some out∧Q out:=by
 obtain ⟨x,st',h1,out,h2,h3⟩:=h
 exact ⟨out,Ai hc hr hn ⟨x,st',h1,h2⟩,h3⟩
attribute [go_sem] Xf Xg exq
def Tm.osh (x:Tm):List OT:=[.str x.name,.sh (x.args.map Tm.d)]
theorem Tm.osh_eq (x:Tm):x.osh=[.str x.name,.sh (x.args.map Tm.d)]:=rfl
theorem Tm.osh_full:∀ xs:List Tm,OT.AH (xs.map Tm.osh)=true
 | []=>rfl
 | x :: xs=>by rw [zB,Tm.osh_eq]; simp [OT.AH,OT.CR,OT.full,Tm.osh_full xs]
theorem Tm.osh_er:∀ xs:List Tm,OT.erss (xs.map Tm.osh)=xs.map Tm.d
 | []=>rfl
 | x :: xs=>by rw [zB,zB,Tm.osh_eq,Tm.d_eq]; simp [OT.erss,OT.ers,OT.er,Tm.osh_er xs]
theorem EB {α β:Type} (f:α→β) {xs:List α} {k:Nat} (h:k<xs.length):(xs.take k).map f++[f xs[k]]=(xs.take (k+1)).map f:=by
 rw [yP h,yD]; rfl
theorem Ul (x:Tm) (hn:x.nodes≤1099511627776) (ih:∀ y∈x.args,E 87 [y.sv] []=some (y.sv,[])):E 87 [x.sv] []=some (x.sv,[]):=by
 have hl:=Tm.length_le x.args
 have hne:=Tm.nodes_eq x
 have h10:((1:Int)=0)=False:=by simp
 have hfu:=Tm.osh_full x.args
 have her:=Tm.osh_er x.args
 refine Ai Ow Dx (of_decide_eq_true rfl) ?_
 simp (disch:=omega) only [Jw,go_sem,Ab]
 refine go_loop (α:=Int) (fun a=>⟨slots 27 0 [(1,.ptr 0 0),(2,.ptr 1 0),(3,.ptr 2 0),(4,.int .i64 a)],(if a=0 then [.box 26 [.str x.name,.arr (x.args.map Tm.d)],.box 26 [.str ⟨#[]⟩,.nil],.box 26 [.str x.name,.nil]] else [.box 26 [.str x.name,.arr (x.args.map Tm.d)],.box 26 [.str ⟨#[]⟩,.nil],.box 26 [.str x.name,.ref 3],.row 26 2 ((x.args.take a.toNat).map Tm.osh)])⟩) (fun a=>∃ k:Nat,a=k∧k≤(x.args).length) (fun a=>(x.args).length-(a).toNat) 0 ⟨0,rfl,zP _⟩ (by simp (disch:=omega) only [go_sem,Ab,eq_self,if_true]) ?_
 rintro i ⟨k,hi,hk⟩
 have hni:i.toNat=k:=by omega
 have hni1:(i+1).toNat=k+1:=by omega
 rcases zD k (x.args).length with hlt | hge
 ·have hg:=get_at Tm.d hlt
  rw [Tm.d_eq] at hg
  have hc:=ih x.args[k] (zE hlt)
  have hs:=EB Tm.osh hlt
  rw [Tm.osh_eq] at hs
  rcases zK k with h0 | h0
  ·subst h0
   obtain rfl:i=0:=hi
   rw [y9,zJ,yE] at hs
   simp (disch:=omega) only [go_sem,Ab,hni,hg,hc,Dx,eq_self,if_true]
   refine ⟨1,⟨1,rfl,hlt⟩,by omega,?_⟩
   simp (disch:=omega) only [go_sem,Ab,h10,if_false,hs]
  ·have hi0:(i=0)=False:=by simp; omega
   have hi1:(i+1=0)=False:=by simp; omega
   have htl:(x.args.take k).length=k:=by rw [y5]; omega
   simp (disch:=omega) only [go_sem,Ab,hni,hg,hc,Dx,hi0,if_false,htl]
   refine ⟨i+1,⟨k+1,by omega,hlt⟩,by omega,?_⟩
   simp (disch:=omega) only [go_sem,Ab,hni1,hi1,if_false,hs]
 ·obtain rfl:k=x.args.length:=by omega
  have ht:x.args.take x.args.length=x.args:=List.take_length
  rcases zK x.args.length with h0 | h0
  ·have hx:x.args=[]:=zC h0
   obtain rfl:i=0:=by omega
   simp (disch:=omega) only [go_sem,Ab,hni,hx,eq_self,if_true,zJ,zZ]
  ·have hi0:(i=0)=False:=by simp; omega
   simp (disch:=omega) only [go_sem,Ab,hni,hi0,if_false,ht,hfu,her]
theorem KN (x:Tm) (hn:x.nodes≤1099511627776):E 87 [x.sv] []=some (x.sv,[]) :=
 Ul x hn fun y hy=>KN y (by have:=Tm.nodes_mem hy; have:=Tm.nodes_eq x; omega)
termination_by SizeOf.sizeOf x
decreasing_by exact Tm.lt_of_mem hy
def SH (xs:List Bd):Prop:=∀ j k (h:j<k) (hk:k<xs.length),strLt xs[j].var xs[k].var=true
def BY:List Bd→ByteArray→Nat
 | [],_=>0
 | x :: xs,n=>if strLt x.var n then BY xs n+1 else 0
theorem RC (n:ByteArray):∀ xs:List Bd,BY xs n≤xs.length
 | []=>yN _
 | x :: xs=>by
  have:=RC n xs
  rw [BY]; simp only [zM]; split <;> omega
theorem HA (n:ByteArray):∀ (xs:List Bd) (j:Nat) (h:j<xs.length),j<BY xs n→strLt xs[j].var n=true
 | [],j,h,_=>absurd h (by simp)
 | x :: xs,j,h,hj=>by
  rw [BY] at hj
  split at hj
  ·rename_i hx
   cases j with
   | zero=>exact hx
   | succ j=>exact HA n xs j (by simpa using h) (by omega)
  ·omega
theorem Oy (n:ByteArray):∀ (xs:List Bd) (h:BY xs n<xs.length),strLt (xs[BY xs n]).var n=false
 | [],h=>absurd h (by simp)
 | x :: xs,h=>by
  cases hx:strLt x.var n with
  | false =>
   have e:BY (x :: xs) n=0:=by rw [BY,if_neg (by rw [hx]; simp)]
   simp only [e,z6]; exact hx
  | true =>
   have e:BY (x :: xs) n=BY xs n+1:=by rw [BY,if_pos hx]
   have h2:BY xs n<xs.length:=by rw [e] at h; simpa using h
   simp only [e,zX]; exact Oy n xs h2
theorem Um {xs:List Bd} (hs:SH xs) (n:ByteArray) {m:Nat} (h:m<xs.length):strLt xs[m].var n=true ↔ m<BY xs n:=by
 constructor
 ·intro h1
  rcases zD m (BY xs n) with h2 | h2
  ·exact h2
  ·have h3:=Oy n xs (by omega)
   rcases zD (BY xs n) m with h4 | h4
   ·rw [K0 (hs _ _ h4 h) h1] at h3; cases h3
   ·have e:BY xs n=m:=by omega
    simp only [e] at h3
    rw [h1] at h3; cases h3
 ·exact HA n xs m h
noncomputable def EC (xs:List Bd) (n:ByteArray):Bool:=match xs[BY xs n]? with
 | none=>false
 | some b=>dec (b.var=n)
def Dq:SC:=(.seq (.reg [⟨some 2,none,.boxv 68 3 (.t 0)⟩,⟨some 4,none,.mv (.c (.int .i64 0))⟩]) (.seq (.reg [⟨some 5,none,.faddr 0 (.t 2)⟩,⟨some 6,none,.load false 1 (.t 5)⟩,⟨some 7,none,.mv (.t 1)⟩,⟨some 8,none,.call 103 [(.t 6),(.t 7)]⟩,⟨some 4,none,.mv (.t 8)⟩]) .ret))
theorem F2:Ar Tryz.prog 102=some ⟨9,Dq,[(.tmp 4)]⟩:=by kernel_rfl
theorem BQ:modes 102=⟨[],.asis,none,false⟩:=by unfold modes; rfl
theorem Ct:Hm Tryz.prog 102=true:=by kernel_rfl
def Bp:SC:=(.seq (.reg [⟨some 6,none,.mv (.c (.int .i64 0))⟩,⟨some 7,none,.mv (.c (.bool false))⟩]) (.seq (.reg [⟨some 12,none,.mv (.t 0)⟩,⟨some 13,none,.len false (.t 12)⟩,⟨some 8,none,.mv (.t 13)⟩]) (.seq (.reg [⟨some 14,none,.mv (.t 8)⟩,⟨some 9,none,.mv (.c (.int .i64 0))⟩,⟨some 10,none,.mv (.t 14)⟩]) (.seq (.block 0 (.loop [1,1,1,0,0,0,0,0,1,1,1,0,0,0,0,0,0,0,0,0,0,0,0,0,0,0,0,0,0,0,0,0,0,0,0,0,0,0,0,0,0,0,0,0,0,0,0,0,0] (.seq (.seq (.reg [⟨some 15,none,.mv (.t 9)⟩,⟨some 16,none,.mv (.t 10)⟩,⟨some 17,none,.bin .lss false (.t 15) (.t 16)⟩]) (.cond (.t 17) .skip (.exit 0))) (.block 1 (.seq (.reg [⟨some 18,none,.mv (.t 9)⟩,⟨some 19,none,.mv (.t 10)⟩,⟨some 20,none,.bin .add false (.t 18) (.t 19)⟩,⟨some 21,none,.conv .u64 (.t 20)⟩,⟨some 22,none,.bin .shr false (.t 21) (.c (.int .u64 1))⟩,⟨some 23,none,.conv .i64 (.t 22)⟩,⟨some 11,none,.mv (.t 23)⟩]) (.seq (.reg [⟨some 24,none,.mv (.t 2)⟩,⟨some 25,none,.mv (.t 0)⟩,⟨some 26,none,.mv (.t 11)⟩,⟨some 27,none,.iaddr 3 (.t 25) (.t 26)⟩,⟨some 28,none,.load true 3 (.t 27)⟩,⟨some 29,none,.mv (.t 1)⟩,⟨some 30,none,.callv (.t 24) [(.t 28),(.t 29)]⟩,⟨some 31,none,.bin .lss false (.t 30) (.c (.int .i64 0))⟩]) (.cond (.t 31) (.reg [⟨some 32,none,.mv (.t 11)⟩,⟨some 33,none,.bin .add false (.t 32) (.c (.int .i64 1))⟩,⟨some 9,none,.mv (.t 33)⟩]) (.reg [⟨some 34,none,.mv (.t 11)⟩,⟨some 10,none,.mv (.t 34)⟩])))))))) (.seq (.reg [⟨some 35,none,.mv (.t 9)⟩,⟨some 36,none,.mv (.t 9)⟩,⟨some 37,none,.mv (.t 8)⟩,⟨some 38,none,.bin .lss false (.t 36) (.t 37)⟩,⟨some 39,none,.mv (.t 38)⟩,⟨(some 40),(some (39,true)),(.mv (.t 2))⟩,⟨(some 41),(some (39,true)),(.mv (.t 0))⟩,⟨(some 42),(some (39,true)),(.mv (.t 9))⟩,⟨(some 43),(some (39,true)),(.iaddr 3 (.t 41) (.t 42))⟩,⟨(some 44),(some (39,true)),(.load true 3 (.t 43))⟩,⟨(some 45),(some (39,true)),(.mv (.t 1))⟩,⟨(some 46),(some (39,true)),(.callv (.t 40) [(.t 44),(.t 45)])⟩,⟨(some 47),(some (39,true)),(.bin .eql false (.t 46) (.c (.int .i64 0)))⟩,⟨some 48,none,.pick (.t 39) (.t 47) (.c (.bool false))⟩,⟨some 6,none,.mv (.t 35)⟩,⟨some 7,none,.mv (.t 48)⟩]) .ret)))))
theorem Ca:Ar Tryz.prog 101=some ⟨49,Bp,[(.tmp 6),(.tmp 7)]⟩:=by kernel_rfl
theorem AK:modes 101=⟨[],.asis,none,false⟩:=by unfold modes; rfl
def CA:SC:=(.seq (.reg [⟨some 2,none,.boxv 71 1 (.t 0)⟩,⟨(some 4),none,(.alloc 26 [(.str ⟨#[]⟩),.nil])⟩,⟨some 5,none,.mv (.c (.bool false))⟩]) (.seq (.reg [⟨some 9,none,.faddr 0 (.t 2)⟩,⟨some 10,none,.load false 1 (.t 9)⟩,⟨some 11,none,.mv (.t 1)⟩,⟨some 12,none,.call 101 [(.t 10),(.t 11),(.c (.fn 102 []))]⟩,⟨some 8,none,.mv (.t 12)⟩,⟨some 13,none,.ext (.t 8) 0⟩,⟨some 14,none,.ext (.t 8) 1⟩,⟨some 6,none,.mv (.t 13)⟩,⟨some 7,none,.mv (.t 14)⟩]) (.seq (.seq (.reg [⟨some 15,none,.mv (.t 7)⟩,⟨some 16,none,.un .not (.t 15)⟩]) (.cond (.t 16) (.seq (.reg [⟨(some 17),none,(.build [(.str ⟨#[]⟩),.nil] [])⟩,⟨none,none,(.store 2 (.t 4) (.t 17))⟩,⟨some 5,none,.mv (.c (.bool false))⟩]) .ret) .skip)) (.seq (.reg [⟨some 18,none,.faddr 0 (.t 2)⟩,⟨some 19,none,.load false 1 (.t 18)⟩,⟨some 20,none,.mv (.t 6)⟩,⟨some 21,none,.iaddr 3 (.t 19) (.t 20)⟩,⟨some 22,none,.faddr 1 (.t 21)⟩,⟨some 23,none,.load true 2 (.t 22)⟩,⟨none,none,(.store 2 (.t 4) (.t 23))⟩,⟨some 5,none,.mv (.c (.bool true))⟩]) .ret))))
theorem D8:Ar Tryz.prog 81=some ⟨24,CA,[(.cell 4 true 2),(.tmp 5)]⟩:=by kernel_rfl
theorem Cd:modes 81=⟨[],.frz,none,false⟩:=by unfold modes; rfl
theorem RD (b:Bd) (n:ByteArray):E 102 [b.sv,.str n] []=some (.int .i64 (QE b.var n),[]):=by
 have h:=QG b.var n
 refine Ai F2 BQ (of_decide_eq_true rfl) ?_
 simp (disch:=omega) only [Dq,go_sem,Ab,h,C3]
theorem ND (xs:List Bd) (n:ByteArray) (hl:xs.length≤1099511627776) (hs:SH xs):E 101 [.arr (xs.map Bd.d),.str n,.fn 102 []] []=some (.tup [.int .i64 (BY xs n:Nat),.bool (EC xs n)],[]):=by
 have hlow:=RC n xs
 obtain ⟨L,hL⟩:∃ L:Int,L=(BY xs n:Nat):=⟨_,rfl⟩
 rw [←hL]
 refine Ai Ca AK (of_decide_eq_true rfl) ?_
 simp (disch:=omega) only [Bp,go_sem,Ab]
 refine go_loop (α:=Int × Int) (fun a=>⟨slots 49 0 [(0,.arr (xs.map Bd.d)),(1,.str n),(2,.fn 102 []),(8,.int .i64 xs.length),(9,.int .i64 a.1),(10,.int .i64 a.2)],[]⟩) (fun a=>0≤a.1∧a.1≤L∧L≤a.2∧a.2≤xs.length) (fun a=>(a.2-a.1).toNat) (0,xs.length) ⟨by simp,by dsimp only; omega,by dsimp only; omega,by dsimp only; omega⟩ (by simp (disch:=omega) only [go_sem,Ab]) ?_
 rintro ⟨i,j⟩ ⟨h0,h1,h2,h3⟩
 dsimp only at h0 h1 h2 h3
 rcases Int.lt_or_le i j with hij | hij
 ·obtain ⟨m,hm⟩:∃ m:Nat,(i+j) / 2=(m:Int):=⟨((i+j) / 2).toNat,by omega⟩
  have hlt:m<xs.length:=by omega
  have hni:(m:Int).toNat=m:=yO m
  have hg:=get_at Bd.d hlt
  rw [Bd.d_eq] at hg
  have hc:=RD xs[m] n
  have hw:IntKind.u64.wrap (i+j)=i+j:=wrap_u64 (by omega) (by omega)
  have hi:=Um hs n hlt
  obtain ⟨M,hM⟩:∃ M:Int,(i+j) / 2=M:=⟨_,rfl⟩
  have hni:M.toNat=m:=by omega
  cases hq:strLt xs[m].var n with
  | true =>
   have hi2:=hi.1 hq
   simp (disch:=omega) only [go_sem,Ab,hw,hni,hg,hc,Ct,BQ,PC,hq,hM]
   exact ⟨(M+1,j),⟨by dsimp only; omega,by dsimp only; omega,by dsimp only; omega,by dsimp only; omega⟩,by dsimp only; omega,by first | trivial | rfl⟩
  | false =>
   have hi2:¬ m<BY xs n:=by rw [←hi,hq]; simp
   simp (disch:=omega) only [go_sem,Ab,hw,hni,hg,hc,Ct,BQ,PC,hq,hM]
   exact ⟨(i,M),⟨by dsimp only; omega,by dsimp only; omega,by dsimp only; omega,by dsimp only; omega⟩,by dsimp only; omega,by first | trivial | rfl⟩
 ·obtain rfl:i=L:=by omega
  rcases zD (BY xs n) xs.length with hlt | hge
  ·have hg:=get_at Bd.d hlt
   rw [Bd.d_eq] at hg
   have hni:i.toNat=BY xs n:=by omega
   have hc:=RD xs[BY xs n] n
   have hh:EC xs n=dec (xs[BY xs n].var=n):=by unfold EC; rw [zU hlt]
   rw [hh]
   simp (disch:=omega) only [go_sem,Ab,hni,hg,hc,Ct,BQ,SF]
  ·have hh:EC xs n=false:=by unfold EC; rw [yQ hge]
   rw [hh]
   simp (disch:=omega) only [go_sem,Ab]
theorem PF {α:Type} (p:α→Bool):∀ (xs:List α) (k:Nat) (i:Int) (h:k<xs.length),(∀ j (hj:j<k),p xs[j]=false)→p xs[k]=true→D2 p xs i=i+k
 | [],k,i,h,_,_=>absurd h (by simp)
 | x :: xs,0,i,h,_,hp=>by rw [D2,if_pos (show p x=true from hp)]; simp
 | x :: xs,k+1,i,h,hb,hp=>by
  have h0:p x=false:=hb 0 (by omega)
  have:=PF p xs k (i+1) (by simpa using h) (fun j hj=>hb (j+1) (by omega)) hp
  rw [D2,if_neg (by rw [h0]; simp),this]; omega
theorem Oz {α:Type} (p:α→Bool):∀ (xs:List α) (i:Int),(∀ j (hj:j<xs.length),p xs[j]=false)→D2 p xs i=-1
 | [],i,_=>by rw [D2]
 | x :: xs,i,h=>by
  have h0:p x=false:=h 0 (by simp)
  rw [D2,if_neg (by rw [h0]; simp)]
  exact Oz p xs (i+1) fun j hj=>h (j+1) (by simpa using hj)
theorem Un {xs:List Bd} (hs:SH xs) (n:ByteArray):D2 (fun b=>dec (b.var=n)) xs 0=if EC xs n then ((BY xs n:Nat):Int) else -1:=by
 have before:∀ j (hj:j<xs.length),j<BY xs n→dec (xs[j].var=n)=false:=fun j hj hL=>An (PB (HA n xs j hj hL))
 rcases zD (BY xs n) xs.length with hlt | hge
 ·have hh:EC xs n=dec (xs[BY xs n].var=n):=by unfold EC; rw [zU hlt]
  cases hq:dec (xs[BY xs n].var=n) with
  | true =>
   rw [hh,hq,if_pos rfl,PF _ xs (BY xs n) 0 hlt (fun j hj=>before j (by omega) hj) hq]; omega
  | false =>
   rw [hh,hq,if_neg (by simp)]
   refine Oz _ xs 0 fun j hj=>?_
   rcases Nat.lt_trichotomy j (BY xs n) with h | h | h
   ·exact before j hj h
   ·subst h; exact hq
   ·refine An fun e=>?_
    have h1:=hs _ _ h hj
    rw [e,Oy n xs hlt] at h1
    cases h1
 ·have hh:EC xs n=false:=by unfold EC; rw [yQ hge]
  rw [hh,if_neg (by simp)]
  exact Oz _ xs 0 fun j hj=>before j hj (by omega)
theorem O0 {xs:List Bd} {n:ByteArray} (h:EC xs n=true):BY xs n<xs.length:=by
 rcases zD (BY xs n) xs.length with h1 | h1
 ·exact h1
 ·unfold EC at h; rw [yQ h1] at h; cases h
noncomputable def Sb.look (x:Sb) (n:ByteArray):Option Tm:=if h:EC x.binds n=true then some (x.binds[BY x.binds n]'(O0 h)).term else none
theorem QK (x:Sb) (hx:SH x.binds) (n:ByteArray) (hl:x.binds.length≤1099511627776) (hh:EC x.binds n=true) (hlt:BY x.binds n<x.binds.length):E 81 [x.sv,.str n] []=some (.tup [(x.binds[BY x.binds n]).term.sv,.bool true],[]):=by
 have hb:=ND x.binds n hl hx
 have hg:=get_at Bd.d hlt
 rw [Bd.d_eq] at hg
 have hni:((BY x.binds n:Nat):Int).toNat=BY x.binds n:=yO _
 refine Ai D8 Cd (of_decide_eq_true rfl) ?_
 simp (disch:=omega) only [CA,go_sem,Ab,hb,hni,hg,hh,AK]
theorem SI (x:Sb) (hx:SH x.binds) (n:ByteArray) (hl:x.binds.length≤1099511627776) (hh:EC x.binds n=false):E 81 [x.sv,.str n] []=some (.tup [.agg [.str ⟨#[]⟩,.arr []],.bool false],[]):=by
 have hb:=ND x.binds n hl hx
 refine Ai D8 Cd (of_decide_eq_true rfl) ?_
 simp (disch:=omega) only [CA,go_sem,Ab,hb,hh,AK]
theorem Wd {xs:List Bd} {n:ByteArray} (h:EC xs n=true) (hlt:BY xs n<xs.length):(xs[BY xs n]).var=n:=by
 have hh:EC xs n=dec (xs[BY xs n].var=n):=by unfold EC; rw [zU hlt]
 rw [hh] at h
 exact Av.1 h
theorem Sb.Mb {x:Sb} {n:ByteArray} (h:EC x.binds n=true) (hlt:BY x.binds n<x.binds.length):x.look n=some (x.binds[BY x.binds n]).term:=by
 unfold Sb.look; rw [dif_pos h]
theorem Sb.KO {x:Sb} {n:ByteArray} (h:EC x.binds n=false):x.look n=none:=by
 unfold Sb.look; rw [dif_neg (by rw [h]; simp)]
def Sb.fine (s:Sb):Prop:=SH s.binds∧∀ b∈s.binds,Bs b.var=true
def BX:SC:=(.seq (.reg [⟨some 2,none,.boxv 71 1 (.t 0)⟩,⟨some 3,none,.boxv 26 2 (.t 1)⟩,⟨(some 4),none,(.alloc 26 [(.str ⟨#[]⟩),.nil])⟩]) (.seq (.seq (.reg [⟨some 10,none,.faddr 1 (.t 3)⟩,⟨some 11,none,.load false 1 (.t 10)⟩,⟨some 12,none,.len false (.t 11)⟩,⟨some 13,none,.bin .eql false (.t 12) (.c (.int .i64 0))⟩]) (.cond (.t 13) (.seq (.seq (.reg [⟨some 15,none,.load true 1 (.t 2)⟩,⟨some 16,none,.faddr 0 (.t 3)⟩,⟨some 17,none,.load false 1 (.t 16)⟩,⟨some 18,none,.call 81 [(.t 15),(.t 17)]⟩,⟨some 14,none,.mv (.t 18)⟩,⟨some 19,none,.ext (.t 14) 0⟩,⟨some 20,none,.ext (.t 14) 1⟩,⟨(some 5),none,(.alloc 26 [(.str ⟨#[]⟩),.nil])⟩,⟨none,none,(.store 2 (.t 5) (.t 19))⟩,⟨some 6,none,.mv (.t 20)⟩]) (.seq (.reg [⟨some 21,none,.mv (.t 6)⟩]) (.cond (.t 21) (.seq (.reg [⟨some 22,none,.load true 2 (.t 5)⟩,⟨some 23,none,.call 80 [(.t 22)]⟩,⟨none,none,(.store 2 (.t 4) (.t 23))⟩]) .ret) .skip))) (.seq (.reg [⟨some 24,none,.faddr 0 (.t 3)⟩,⟨some 25,none,.load false 1 (.t 24)⟩,⟨(some 26),none,(.build [(.str ⟨#[]⟩),.nil] [(0,(1,(.t 25)))])⟩,⟨none,none,(.store 2 (.t 4) (.t 26))⟩]) .ret)) .skip)) (.seq (.dreg [[],[0],[],[2],[3,2],[4,3,2],[1,0,5,4,3,2],[],[7,6,1,0,5,4,3,2]] [⟨some 27,none,.faddr 0 (.t 3)⟩,⟨some 28,none,.load false 1 (.t 27)⟩,⟨some 29,none,.faddr 1 (.t 3)⟩,⟨some 30,none,.load false 1 (.t 29)⟩,⟨some 31,none,.len false (.t 30)⟩,⟨(some 32),none,(.mkslice 26 2 40 [(.str ⟨#[]⟩),.nil] (.t 31))⟩,⟨(some 33),none,(.build [(.str ⟨#[]⟩),.nil] [(0,(1,(.t 28))),(1,(1,(.t 32)))])⟩,⟨(some 7),none,(.alloc 26 [(.str ⟨#[]⟩),.nil])⟩,⟨none,none,(.store 2 (.t 7) (.t 33))⟩]) (.seq (.seq (.reg [⟨some 34,none,.faddr 1 (.t 3)⟩,⟨some 35,none,.load false 1 (.t 34)⟩,⟨some 36,none,.len false (.t 35)⟩,⟨some 37,none,.mv (.c (.int .i64 0))⟩]) (.block 0 (.loop [0,0,1,0,1,0,0,1,0,0,0,0,0,0,0,0,0,0,0,0,0,0,0,0,0,0,0,0,0,0,0,0,0,0,0,1,1,1,0,0,0,0,0,0,0,0,0,0,0,0,0] (.seq (.reg [⟨some 38,none,.bin .lss false (.t 37) (.t 36)⟩]) (.seq (.cond (.t 38) .skip (.exit 0)) (.seq (.block 1 (.seq (.reg [⟨some 39,none,.mv (.t 37)⟩,⟨some 40,none,.iaddr 2 (.t 35) (.t 37)⟩,⟨some 41,none,.load true 2 (.t 40)⟩,⟨(some 9),none,(.alloc 26 [(.str ⟨#[]⟩),.nil])⟩,⟨some 8,none,.mv (.t 39)⟩,⟨none,none,(.store 2 (.t 9) (.t 41))⟩]) (.dreg [[],[0],[],[],[],[3,4],[1,0,2,3,4,5],[6,1,0,2,3,4,5]] [⟨some 42,none,.faddr 1 (.t 7)⟩,⟨some 43,none,.load false 1 (.t 42)⟩,⟨some 44,none,.mv (.t 8)⟩,⟨some 45,none,.load true 1 (.t 2)⟩,⟨some 46,none,.load true 2 (.t 9)⟩,⟨some 47,none,.call 48 [(.t 45),(.t 46)]⟩,⟨some 48,none,.iaddr 2 (.t 43) (.t 44)⟩,⟨none,none,(.store 2 (.t 48) (.t 47))⟩]))) (.reg [⟨some 49,none,.bin .add false (.t 37) (.c (.int .i64 1))⟩,⟨some 37,none,.mv (.t 49)⟩]))))))) (.seq (.reg [⟨some 50,none,.load true 2 (.t 7)⟩,⟨none,none,(.store 2 (.t 4) (.t 50))⟩]) .ret)))))
theorem Cx:Ar Tryz.prog 48=some ⟨51,BX,[(.cell 4 true 2)]⟩:=by kernel_rfl
theorem AR:modes 48=⟨[],.own [none,some (26,2)],none,false⟩:=by unfold modes; rfl
def DS:SC:=(.seq (.reg [⟨some 2,none,.boxv 71 1 (.t 0)⟩,⟨some 3,none,.boxv 26 2 (.t 1)⟩,⟨(some 4),none,(.alloc 26 [(.str ⟨#[]⟩),.nil])⟩]) (.seq (.seq (.reg [⟨some 8,none,.faddr 0 (.t 3)⟩,⟨some 9,none,.load false 1 (.t 8)⟩,⟨some 10,none,.call 21 [(.t 9)]⟩]) (.cond (.t 10) (.seq (.seq (.reg [⟨some 11,none,.load true 1 (.t 2)⟩,⟨some 12,none,.faddr 0 (.t 3)⟩,⟨some 13,none,.load false 1 (.t 12)⟩,⟨some 14,none,.call 86 [(.t 11),(.t 13)]⟩,⟨some 5,none,.mv (.t 14)⟩]) (.seq (.reg [⟨some 15,none,.mv (.t 5)⟩,⟨some 16,none,.bin .geq false (.t 15) (.c (.int .i64 0))⟩]) (.cond (.t 16) (.seq (.reg [⟨some 17,none,.faddr 0 (.t 2)⟩,⟨some 18,none,.load false 1 (.t 17)⟩,⟨some 19,none,.mv (.t 5)⟩,⟨some 20,none,.iaddr 3 (.t 18) (.t 19)⟩,⟨some 21,none,.faddr 1 (.t 20)⟩,⟨some 22,none,.load true 2 (.t 21)⟩,⟨some 23,none,.call 87 [(.t 22)]⟩,⟨none,none,(.store 2 (.t 4) (.t 23))⟩]) .ret) .skip))) (.seq (.reg [⟨some 24,none,.faddr 0 (.t 3)⟩,⟨some 25,none,.load false 1 (.t 24)⟩,⟨(some 26),none,(.build [(.str ⟨#[]⟩),.nil] [(0,(1,(.t 25)))])⟩,⟨none,none,(.store 2 (.t 4) (.t 26))⟩]) .ret)) .skip)) (.seq (.reg [⟨some 27,none,.faddr 0 (.t 3)⟩,⟨some 28,none,.load false 1 (.t 27)⟩,⟨(some 29),none,(.build [(.str ⟨#[]⟩),.nil] [(0,(1,(.t 28)))])⟩,⟨(some 6),none,(.alloc 26 [(.str ⟨#[]⟩),.nil])⟩,⟨none,none,(.store 2 (.t 6) (.t 29))⟩]) (.seq (.seq (.reg [⟨some 7,none,.mv (.c (.int .i64 0))⟩]) (.block 0 (.loop [0,0,1,1,1,0,1,1,0,0,0,0,0,0,0,0,0,0,0,0,0,0,0,0,0,0,0,0,0,0,0,0,0,0,0,0,0,0,0,0,0,0,0,0,0,0,0,0,0,0] (.seq (.seq (.reg [⟨some 30,none,.mv (.t 7)⟩,⟨some 31,none,.faddr 1 (.t 3)⟩,⟨some 32,none,.load false 1 (.t 31)⟩,⟨some 33,none,.len false (.t 32)⟩,⟨some 34,none,.bin .lss false (.t 30) (.t 33)⟩]) (.cond (.t 34) .skip (.exit 0))) (.seq (.block 1 (.dreg [[],[0],[],[],[3],[],[4,3,5],[6,4,3,5],[2,7,6,4,3,5],[8,2,7,6,4,3,5],[1,0,9,8,2,7,6,4,3,5],[0,1,2,3,4,5,6,7,8,9,10],[11,0,1,2,3,4,5,6,7,8,9,10]] [⟨some 37,none,.faddr 1 (.t 6)⟩,⟨some 38,none,.load false 1 (.t 37)⟩,⟨some 39,none,.load true 1 (.t 2)⟩,⟨some 40,none,.faddr 1 (.t 3)⟩,⟨some 41,none,.load false 1 (.t 40)⟩,⟨some 42,none,.mv (.t 7)⟩,⟨some 43,none,.iaddr 2 (.t 41) (.t 42)⟩,⟨some 44,none,.load true 2 (.t 43)⟩,⟨some 45,none,.call 55 [(.t 39),(.t 44)]⟩,⟨(some 46),none,(.mkrow 26 2 [(.str ⟨#[]⟩),.nil] 1 [(0,(.t 45))])⟩,⟨(some 47),none,(.append 26 2 40 [(.str ⟨#[]⟩),.nil] (.t 38) (.t 46))⟩,⟨some 48,none,.faddr 1 (.t 6)⟩,⟨none,none,(.store 1 (.t 48) (.t 47))⟩])) (.reg [⟨some 35,none,.mv (.t 7)⟩,⟨some 36,none,.bin .add false (.t 35) (.c (.int .i64 1))⟩,⟨some 7,none,.mv (.t 36)⟩])))))) (.seq (.reg [⟨some 49,none,.load true 2 (.t 6)⟩,⟨none,none,(.store 2 (.t 4) (.t 49))⟩]) .ret)))))
theorem F3:Ar Tryz.prog 55=some ⟨50,DS,[(.cell 4 true 2)]⟩:=by kernel_rfl
theorem BR:modes 55=⟨[],.frz,none,false⟩:=by unfold modes; rfl
theorem PG (s:Sb) (hs:s.fine) (ht:s.tame) (x:Tm) (hx:Bs x.name=true→x.args=[]) (hn:x.nodes≤1099511627776) (ih:∀ y∈x.args,E 48 [s.sv,y.sv] []=some ((y.ap s.look).osv,(y.ap s.look).obs)):E 48 [s.sv,x.sv] []=some ((x.ap s.look).osv,(x.ap s.look).obs):=by
 have hsl:=ht.1
 have hl:=Tm.length_le x.args
 have hne:=Tm.nodes_eq x
 rcases zK x.args.length with h0 | h0
 ·have hx0:x.args=[]:=zC h0
  cases hh:EC s.binds x.name with
  | true =>
   have hlt:=O0 hh
   have hc:=QK s hs.1 x.name hsl hh hlt
   have hd:=GP (s.binds[BY s.binds x.name]).term (Sb.tame_at ht hlt)
   have hv:Bs x.name=true:=by rw [←Wd hh hlt]; exact hs.2 _ (zE hlt)
   have e:x.ap s.look=(s.binds[BY s.binds x.name]).term:=by rw [Tm.H3,if_pos hv,Sb.Mb hh hlt]; rfl
   rw [e]
   refine Ai Cx AR (of_decide_eq_true rfl) ?_
   simp (disch:=omega) only [BX,go_sem,Ab,hx0,hc,hd,zJ,zZ,Cd,Da,Tm.osv,Tm.obs]
  | false =>
   have hc:=SI s hs.1 x.name hsl hh
   have e:x.ap s.look=.mk x.name []:=by
    rw [Tm.H3,Sb.KO hh,hx0]
    split
    ·rfl
    ·rw [Tm.apL]
   rw [e]
   have e1:(Tm.mk x.name []).osv=.agg [.str x.name,.ref 0]:=rfl
   have e2:(Tm.mk x.name []).obs=[.row 26 2 []]:=rfl
   rw [e1,e2]
   refine Ai Cx AR (of_decide_eq_true rfl) ?_
   simp (disch:=omega) only [BX,go_sem,Ab,hx0,hc,zJ,zZ,Cd]
 ·have hv:¬ Bs x.name=true:=fun h=>by rw [hx h] at h0; simp at h0
  have e:x.ap s.look=.mk x.name (x.args.map (Tm.ap s.look)):=by rw [Tm.H3,if_neg hv,Tm.GH]
  rw [e]
  have e1:(Tm.mk x.name (x.args.map (Tm.ap s.look))).osv=.agg [.str x.name,.ref 0]:=rfl
  have e2:(Tm.mk x.name (x.args.map (Tm.ap s.look))).obs=[.row 26 2 ((x.args.map (Tm.ap s.look)).map Tm.o)]:=rfl
  rw [e1,e2]
  have hrl:zH x.args.length ([.str ⟨#[]⟩,.ow []]:List OT)=Fw Tm.o [.str ⟨#[]⟩,.ow []] (x.args.map (Tm.ap s.look)) 0:=by rw [LE,zQ]
  refine Ai Cx AR (of_decide_eq_true rfl) ?_
  simp (disch:=omega) only [BX,go_sem,Ab]
  refine go_loop (α:=Int) (fun a=>⟨slots 51 0 [(2,.ptr 0 0),(4,.ptr 1 0),(7,.ptr 2 0),(35,.arr (x.args.map Tm.d)),(36,.int .i64 x.args.length),(37,.int .i64 a)],[.box 71 [.arr (s.binds.map Bd.d)],.box 26 [.str ⟨#[]⟩,.nil],.box 26 [.str x.name,.ref 3],.row 26 2 (Fw Tm.o [.str ⟨#[]⟩,.ow []] (x.args.map (Tm.ap s.look)) a.toNat)]⟩) (fun a=>∃ k:Nat,a=k∧k≤(x.args).length) (fun a=>(x.args).length-(a).toNat) 0 ⟨0,rfl,zP _⟩ (by simp (disch:=omega) only [go_sem,Ab,hrl,y0]) ?_
  rintro i ⟨k,hi,hk⟩
  have hni:i.toNat=k:=by omega
  have hni1:(i+1).toNat=k+1:=by omega
  rcases zD k (x.args).length with hlt | hge
  ·have hg:=get_at Tm.d hlt
   rw [Tm.d_eq] at hg
   have hltm:k<(x.args.map (Tm.ap s.look)).length:=by rw [zQ]; exact hlt
   have hz:=Nz Tm.o [.str ⟨#[]⟩,.ow []] hltm
   have hc:=ih x.args[k] (zE hlt)
   have hse:=N0 Tm.o [.str ⟨#[]⟩,.ow []] hltm
   rw [Tm.o_eq,yB] at hse
   simp (disch:=omega) only [go_sem,Ab,hni,hg,hc,hz,Nx,zQ,AR,Tm.osv,Tm.obs]
   refine ⟨i+1,⟨k+1,by omega,hlt⟩,by omega,?_⟩
   simp (disch:=omega) only [go_sem,Ab,hni1,hse]
  ·obtain rfl:k=x.args.length:=by omega
   have hend:Fw Tm.o [.str ⟨#[]⟩,.ow []] (x.args.map (Tm.ap s.look)) x.args.length=(x.args.map (Tm.ap s.look)).map Tm.o:=by
    have:=Ny Tm.o [.str ⟨#[]⟩,.ow []] (xs:=x.args.map (Tm.ap s.look))
    rwa [zQ] at this
   simp (disch:=omega) only [go_sem,Ab,hni,hend]
theorem RE (s:Sb) (hs:s.fine) (ht:s.tame) (x:Tm) (hx:x.names=true) (hn:x.nodes≤1099511627776):E 48 [s.sv,x.sv] []=some ((x.ap s.look).osv,(x.ap s.look).obs) :=
 PG s hs ht x (Tm.Ek hx) hn fun y hy=>RE s hs ht y (Tm.El hx hy) (by have:=Tm.nodes_mem hy; have:=Tm.nodes_eq x; omega)
termination_by SizeOf.sizeOf x
decreasing_by exact Tm.lt_of_mem hy
theorem QL (s:Sb) (hs:s.fine) (ht:s.tame) (x:Tm) (hn:x.nodes≤1099511627776) (ih:∀ y∈x.args,E 55 [s.sv,y.sv] []=some ((y.ap s.look).sv,[])):E 55 [s.sv,x.sv] []=some ((x.ap s.look).sv,[]):=by
 have hsl:=ht.1
 have hl:=Tm.length_le x.args
 have hne:=Tm.nodes_eq x
 have hf:=Uk s x.name hsl
 rw [Un hs.1] at hf
 cases hv:Bs x.name with
 | true =>
  cases hh:EC s.binds x.name with
  | true =>
   have hlt:=O0 hh
   have hg:=get_at Bd.d hlt
   rw [Bd.d_eq] at hg
   have hni:((BY s.binds x.name:Nat):Int).toNat=BY s.binds x.name:=yO _
   have hd:=KN (s.binds[BY s.binds x.name]).term (Sb.tame_at ht hlt)
   have e:x.ap s.look=(s.binds[BY s.binds x.name]).term:=by rw [Tm.H3,if_pos hv,Sb.Mb hh hlt]; rfl
   rw [hh,if_pos rfl] at hf
   rw [e]
   refine Ai F3 BR (of_decide_eq_true rfl) ?_
   simp (disch:=omega) only [DS,go_sem,Ab,hv,hf,hg,hni,hd,E0,Ak,CG,Dx]
  | false =>
   have e:x.ap s.look=.mk x.name []:=by rw [Tm.H3,if_pos hv,Sb.KO hh]; rfl
   rw [hh,if_neg (by simp)] at hf
   rw [e]
   have e1:(Tm.mk x.name []).sv=.agg [.str x.name,.arr []]:=rfl
   rw [e1]
   refine Ai F3 BR (of_decide_eq_true rfl) ?_
   simp (disch:=omega) only [DS,go_sem,Ab,hv,hf,E0,Ak,CG]
 | false =>
  have e:x.ap s.look=.mk x.name (x.args.map (Tm.ap s.look)):=by rw [Tm.H3,if_neg (by rw [hv]; simp),Tm.GH]
  rw [e]
  have e1:(Tm.mk x.name (x.args.map (Tm.ap s.look))).sv=.agg [.str x.name,.arr ((x.args.map (Tm.ap s.look)).map Tm.d)]:=rfl
  rw [e1]
  have h10:((1:Int)=0)=False:=by simp
  have hfu:=Tm.osh_full (x.args.map (Tm.ap s.look))
  have her:=Tm.osh_er (x.args.map (Tm.ap s.look))
  refine Ai F3 BR (of_decide_eq_true rfl) ?_
  simp (disch:=omega) only [DS,go_sem,Ab,hv,E0,Ak,CG]
  refine go_loop (α:=Int) (fun a=>⟨slots 50 0 [(2,.ptr 0 0),(3,.ptr 1 0),(4,.ptr 2 0),(6,.ptr 3 0),(7,.int .i64 a)],(if a=0 then [.box 71 [.arr (s.binds.map Bd.d)],.box 26 [.str x.name,.arr (x.args.map Tm.d)],.box 26 [.str ⟨#[]⟩,.nil],.box 26 [.str x.name,.nil]] else [.box 71 [.arr (s.binds.map Bd.d)],.box 26 [.str x.name,.arr (x.args.map Tm.d)],.box 26 [.str ⟨#[]⟩,.nil],.box 26 [.str x.name,.ref 4],.row 26 2 (((x.args.map (Tm.ap s.look)).take a.toNat).map Tm.osh)])⟩) (fun a=>∃ k:Nat,a=k∧k≤(x.args).length) (fun a=>(x.args).length-(a).toNat) 0 ⟨0,rfl,zP _⟩ (by simp (disch:=omega) only [go_sem,Ab,eq_self,if_true]) ?_
  rintro i ⟨k,hi,hk⟩
  have hni:i.toNat=k:=by omega
  have hni1:(i+1).toNat=k+1:=by omega
  rcases zD k (x.args).length with hlt | hge
  ·have hg:=get_at Tm.d hlt
   rw [Tm.d_eq] at hg
   have hltm:k<(x.args.map (Tm.ap s.look)).length:=by rw [zQ]; exact hlt
   have hc:=ih x.args[k] (zE hlt)
   have hse:=EB Tm.osh hltm
   rw [Tm.osh_eq,yB] at hse
   rcases zK k with h0 | h0
   ·subst h0
    obtain rfl:i=0:=hi
    rw [y9,zJ,yE] at hse
    simp (disch:=omega) only [go_sem,Ab,hni,hg,hc,BR,eq_self,if_true]
    refine ⟨1,⟨1,rfl,hlt⟩,by omega,?_⟩
    simp (disch:=omega) only [go_sem,Ab,h10,if_false,hse]
   ·have hi0:(i=0)=False:=by simp; omega
    have hi1:(i+1=0)=False:=by simp; omega
    have htl:((x.args.map (Tm.ap s.look)).take k).length=k:=by rw [y5]; omega
    simp (disch:=omega) only [go_sem,Ab,hni,hg,hc,BR,hi0,if_false,htl]
    refine ⟨i+1,⟨k+1,by omega,hlt⟩,by omega,?_⟩
    simp (disch:=omega) only [go_sem,Ab,hni1,hi1,if_false,hse]
  ·obtain rfl:k=x.args.length:=by omega
   have hta:(x.args.map (Tm.ap s.look)).take x.args.length=x.args.map (Tm.ap s.look):=by
    have:=List.take_length (l:=x.args.map (Tm.ap s.look))
    rwa [zQ] at this
   rcases zK x.args.length with h0 | h0
   ·have hx:x.args=[]:=zC h0
    obtain rfl:i=0:=by omega
    simp (disch:=omega) only [go_sem,Ab,hni,hx,eq_self,if_true,zJ,zZ]
   ·have hi0:(i=0)=False:=by simp; omega
    simp (disch:=omega) only [go_sem,Ab,hni,hi0,if_false,hta,hfu,her]
theorem JQ (s:Sb) (hs:s.fine) (ht:s.tame) (x:Tm) (hn:x.nodes≤1099511627776):E 55 [s.sv,x.sv] []=some ((x.ap s.look).sv,[]) :=
 QL s hs ht x hn fun y hy=>JQ s hs ht y (by have:=Tm.nodes_mem hy; have:=Tm.nodes_eq x; omega)
termination_by SizeOf.sizeOf x
decreasing_by exact Tm.lt_of_mem hy
theorem HC (n:ByteArray) (t:Tm) (m:ByteArray):(Sb.mk [⟨n,t⟩]).look m=if n=m then some t else none:=by
 by_cases hm:n=m
 ·subst hm
  have hl:BY [(⟨n,t⟩:Bd)] n=0:=by simp [BY,GN]
  have hh:EC [(⟨n,t⟩:Bd)] n=true:=by
   unfold EC
   rw [hl]
   exact A5 rfl
  rw [if_pos rfl,Sb.Mb (x:=⟨[⟨n,t⟩]⟩) hh (by show BY [(⟨n,t⟩:Bd)] n<1; omega)]
  congr 2
  show ([(⟨n,t⟩:Bd)][BY [(⟨n,t⟩:Bd)] n]'_).term=t
  simp [hl]
 ·have hh:EC [(⟨n,t⟩:Bd)] m=false:=by
   unfold EC
   cases hs:strLt n m with
   | true=>simp [BY,hs]
   | false =>
    simp only [BY,hs]
    exact An hm
  rw [if_neg hm,Sb.KO (x:=⟨[⟨n,t⟩]⟩) hh]
theorem HD {n:ByteArray} (t:Tm) (h:Bs n=true):(Sb.mk [⟨n,t⟩]).fine :=
 ⟨fun j k hj hk=>by
  have:k<1:=hk
  omega,fun b hb=>by
  have:b=⟨n,t⟩:=by simpa using hb
  rw [this]; exact h⟩
theorem QM:(Sb.mk []).fine:=⟨fun j k hj hk=>by
 have:k<0:=hk
 omega,fun b hb=>by cases hb⟩
theorem QN (m:ByteArray):(Sb.mk []).look m=none:=Sb.KO (x:=⟨[]⟩) rfl
theorem RF (n:ByteArray) (x:Tm):x.ap (Sb.mk [⟨n,.mk n []⟩]).look=x.ap (Sb.mk []).look:=by
 have ih:∀ y∈x.args,y.ap (Sb.mk [⟨n,.mk n []⟩]).look=y.ap (Sb.mk []).look:=fun y hy=>RF n y
 rw [Tm.H3,Tm.H3,HC,QN]
 by_cases hv:Bs x.name=true
 ·rw [if_pos hv,if_pos hv]
  by_cases h:n=x.name
  ·rw [if_pos h,h]; rfl
  ·rw [if_neg h]
 ·rw [if_neg hv,if_neg hv,Tm.GH,Tm.GH]
  congr 1
  exact yA ih
termination_by SizeOf.sizeOf x
decreasing_by exact Tm.lt_of_mem hy
noncomputable def Fm.stays (n:ByteArray) (x:Fm):Bool:=qB x.op&&(dec (x.var=n) || !dec (n∈x.fv []))
mutual
noncomputable def Fm.subP (n:ByteArray) (t:Tm):Fm→Fm × Bool
 | .mk op atom var parts=>bif Fm.stays n (.mk op atom var parts) then (.mk op atom var parts,true) else bif qB op&&dec (var∈t.vs) then (Fm.zero,false)
  else (.mk op (bif dec (op=3) then atom.ap (Sb.mk [⟨n,t⟩]).look else atom) var (Fm.Mc n t parts).1,(Fm.Mc n t parts).2)
noncomputable def Fm.Mc (n:ByteArray) (t:Tm):List Fm→List Fm × Bool
 | []=>([],true)
 | x :: xs=>((Fm.subP n t x).1 :: (Fm.Mc n t xs).1,(Fm.subP n t x).2&&(Fm.Mc n t xs).2)
end
theorem Fm.KP (n:ByteArray) (t:Tm) (x:Fm):x.subP n t=bif x.stays n then (x,true) else bif qB x.op&&dec (x.var∈t.vs) then (Fm.zero,false)
  else (.mk x.op (bif dec (x.op=3) then x.atom.ap (Sb.mk [⟨n,t⟩]).look else x.atom) x.var (x.parts.map fun y=>(y.subP n t).1),x.parts.all fun y=>(y.subP n t).2):=by
 have key:∀ xs:List Fm,Fm.Mc n t xs=(xs.map fun y=>(y.subP n t).1,xs.all fun y=>(y.subP n t).2):=by
  intro xs
  induction xs with
  | nil=>rw [Fm.Mc]; rfl
  | cons y ys ih=>rw [Fm.Mc,ih]; rfl
 obtain ⟨op,atom,var,parts⟩:=x
 rw [Fm.subP,key]; rfl
mutual
noncomputable def Fm.subS (n:ByteArray) (t:Tm):Fm→Fm × Bool
 | .mk op atom var parts=>bif dec (op=3) then (.mk op (atom.ap (Sb.mk [⟨n,t⟩]).look) var [],(atom.ap (Sb.mk [⟨n,t⟩]).look).atom)
  else bif Fm.stays n (.mk op atom var parts) then (.mk op atom var parts,true) else bif qB op&&dec (var∈t.vs) then (.mk op (.mk ⟨#[]⟩ []) var [],false)
  else (.mk op (.mk ⟨#[]⟩ []) var (Fm.BS n t parts).1,(Fm.BS n t parts).2)
noncomputable def Fm.BS (n:ByteArray) (t:Tm):List Fm→List Fm × Bool
 | []=>([],true)
 | x :: xs=>bif (Fm.subS n t x).2 then ((Fm.subS n t x).1 :: (Fm.BS n t xs).1,(Fm.BS n t xs).2) else ([],false)
end
theorem Fm.RG (n:ByteArray) (t:Tm) (x:Fm):x.subS n t=bif dec (x.op=3) then (.mk x.op (x.atom.ap (Sb.mk [⟨n,t⟩]).look) x.var [],(x.atom.ap (Sb.mk [⟨n,t⟩]).look).atom)
  else bif x.stays n then (x,true) else bif qB x.op&&dec (x.var∈t.vs) then (.mk x.op (.mk ⟨#[]⟩ []) x.var [],false)
  else (.mk x.op (.mk ⟨#[]⟩ []) x.var (Fm.BS n t x.parts).1,(Fm.BS n t x.parts).2):=by
 obtain ⟨op,atom,var,parts⟩:=x
 rw [Fm.subS]; rfl
theorem Fm.NE {x:Fm} (h:x.form=true) (a:Tm) (ps:List Fm) (hl:ps.length=x.parts.length) (ha:a=if x.op=3 then a else x.atom):(Fm.mk x.op a x.var ps).form=if x.op=3 then a.atom else true:=by
 by_cases h3:x.op=3
 ·rw [if_pos h3]
  have h4:=Fm.Dw h h3
  have hp:ps=[]:=zC (by rw [hl,h4.1]; rfl)
  unfold Fm.form
  simp only [Fm.LO,h3,h4.2.2,hp]
  simp [A5]
 ·rw [if_neg h3] at ha ⊢
  subst ha
  unfold Fm.form at h ⊢
  simp only [Fm.LO,hl]
  exact h
theorem Fm.Md (n:ByteArray) (t:Tm) (x:Fm) (hx:x.forms=true) :
  ((x.subS n t).2=true→x.subP n t=((x.subS n t).1,true)∧(x.subS n t).1.forms=true∧(x.subS n t).1.nodes=x.nodes) ∧
  ((x.subS n t).2=false→((x.subP n t).2=false∨(x.subP n t).1.forms=false)):=by
 have hf:=Fm.Cr hx
 have ih:∀ y∈x.parts,_:=fun y hy=>Fm.Md n t y (Fm.Co hx hy)
 have hS:=Fm.RG n t x
 have hP:=Fm.KP n t x
 by_cases h3:x.op=3
 ·have hp:=Fm.Dw hf h3
  have hq:qB x.op=false:=by unfold qB; rw [h3,An (by omega),An (by omega)]; rfl
  have hst:x.stays n=false:=by unfold Fm.stays; rw [hq]; rfl
  rw [A5 h3,cond_true] at hS
  rw [hst,hq,A5 h3,hp.1] at hP
  simp only [cond_false,cond_true,yI,zJ,List.all_nil] at hP
  rw [hS,hP]
  have hw:=Fm.NE hf (x.atom.ap (Sb.mk [⟨n,t⟩]).look) [] (by rw [hp.1]) (by rw [if_pos h3])
  rw [if_pos h3] at hw
  have hfo:(Fm.mk x.op (x.atom.ap (Sb.mk [⟨n,t⟩]).look) x.var []).forms=(x.atom.ap (Sb.mk [⟨n,t⟩]).look).atom:=by
   rw [Fm.CX,hw]
   simp [Fm.LO,Fm.EQ]
  dsimp only
  refine ⟨fun h=>⟨rfl,by rw [hfo]; exact h,?_⟩,fun h=>.inr (by rw [hfo]; exact h)⟩
  rw [Fm.nodes_eq,Fm.nodes_eq,hp.1]
  rfl
 ·rw [An h3,cond_false] at hS
  rw [An h3,cond_false] at hP
  cases hst:x.stays n with
  | true =>
   rw [hst] at hS hP
   simp only [cond_true] at hS hP
   rw [hS,hP]
   exact ⟨fun _=>⟨rfl,hx,rfl⟩,fun h=>by cases h⟩
  | false =>
   rw [hst] at hS hP
   simp only [cond_false] at hS hP
   cases hc:qB x.op&&dec (x.var∈t.vs) with
   | true =>
    rw [hc] at hS hP
    simp only [cond_true] at hS hP
    rw [hS,hP]
    exact ⟨fun h=>(by cases h),fun _=>.inl rfl⟩
   | false =>
    rw [hc] at hS hP
    simp only [cond_false] at hS hP
    have hat:=Fm.LP hf h3
    rw [hS,hP,hat]
    have key:∀ xs:List Fm,(∀ y∈xs,y∈x.parts) →
      ((Fm.BS n t xs).2=true→(xs.map fun y=>(y.subP n t).1)=(Fm.BS n t xs).1∧(xs.all fun y=>(y.subP n t).2)=true∧Fm.EQ (Fm.BS n t xs).1=true∧Fm.nodeS (Fm.BS n t xs).1=Fm.nodeS xs∧(Fm.BS n t xs).1.length=xs.length) ∧
      ((Fm.BS n t xs).2=false→(xs.all fun y=>(y.subP n t).2)=false∨Fm.EQ (xs.map fun y=>(y.subP n t).1)=false):=by
     intro xs
     induction xs with
     | nil =>
      intro _
      rw [Fm.BS]
      exact ⟨fun _=>⟨rfl,rfl,rfl,rfl,rfl⟩,fun h=>by cases h⟩
     | cons y ys ihy =>
      intro hm
      have h1:=ih y (hm y (by simp))
      have h2:=ihy fun z hz=>hm z (by simp [hz])
      rw [Fm.BS]
      cases hy:(y.subS n t).2 with
      | true =>
       obtain ⟨e1,e2,e3⟩:=h1.1 hy
       simp only [cond_true,zB,yS,e1,yF]
       refine ⟨fun h=>?_,fun h=>?_⟩
       ·obtain ⟨f1,f2,f3,f4,f5⟩:=h2.1 h
        refine ⟨by rw [f1],f2,by rw [Fm.EQ,e2,f3]; rfl,by rw [Fm.nodeS,Fm.nodeS,e3,f4],by simp [f5]⟩
       ·rcases h2.2 h with h | h
        ·exact .inl h
        ·right
         rw [Fm.EQ,h,yJ]
      | false =>
       simp only [cond_false,zB,yS]
       refine ⟨fun h=>(by cases h),fun _=>?_⟩
       rcases h1.2 hy with h | h
       ·left; rw [h,yI]
       ·right; rw [Fm.EQ,h,yI]
    have hk:=key x.parts fun y hy=>hy
    dsimp only
    refine ⟨fun h=>?_,fun h=>?_⟩
    ·obtain ⟨f1,f2,f3,f4,f5⟩:=hk.1 h
     refine ⟨by rw [f1,f2],?_,?_⟩
     ·have hw:=Fm.NE hf (.mk ⟨#[]⟩ []) (Fm.BS n t x.parts).1 f5 (by rw [if_neg h3,hat])
      rw [if_neg h3] at hw
      rw [Fm.CX,hw]
      simpa [Fm.LO] using f3
     ·rw [Fm.nodes_eq,Fm.nodes_eq]
      simp only [Fm.LO,f4]
    ·rcases hk.2 h with h | h
     ·exact .inl h
     ·right
      rw [Fm.CX]
      simp only [Fm.LO,h,yJ]
termination_by SizeOf.sizeOf x
decreasing_by exact Fm.lt_of_mem hy
theorem Fm.QO (n:ByteArray) {x p:Fm} (hx:x.form=true) (hq:qB x.op=true) (hp:x.parts=[p]):x.stays n=(dec (x.var=n) || !dec (n∈p.fv [])):=by
 unfold Fm.stays
 rw [hq,yF]
 by_cases hv:x.var=n
 ·rw [A5 hv]; rfl
 ·rw [An hv,y4,y4]
  congr 1
  have h3:dec (x.op=3)=false:=An (by
   unfold qB at hq
   rw [zY,Av,Av] at hq
   omega)
  have e:n∈x.fv [] ↔ n∈p.fv []:=by
   rw [Fm.K1,h3,hq,hp]
   simp only [cond_false,cond_true,yE,Fm.fvL,List.append_nil]
   rw [Fm.IR]
   exact ⟨fun h=>h.1,fun h=>⟨h,fun h2=>hv (by have h4:n=x.var:=(by simpa using h2); exact h4.symm)⟩⟩
  rw [propext e]
theorem SJ {s:ByteArray} (h:Bs s=true):DO s=false:=by
 unfold Bs at h
 rw [zA] at h
 have hsz:0<s.size:=by
  have h2:=h.2
  unfold inB at h2
  rw [zA,decide_eq_true_eq,decide_eq_true_eq] at h2
  omega
 have h0:=GM h.1 hsz
 unfold DO
 have h1:DN GX s s.size=false:=DI (k:=0) hsz (by
  unfold GY at h0
  unfold GX
  rw [zA] at h0
  have hu:L8 (Gu s 0)=true:=by simpa using h0.1
  have hlo:M3 (Gu s 0)=false:=by
   unfold L8 at hu
   unfold M3
   rw [zA,decide_eq_true_eq,decide_eq_true_eq] at hu
   rw [decide_eq_false (by omega)]
   rfl
  rw [hlo]
  rfl)
 rw [h1]
 rfl
noncomputable def upE (E:ByteArray→Int) (n:ByteArray) (v:Int):ByteArray→Int:=fun m=>bif dec (m=n) then v else E m
theorem ED (E:ByteArray→Int) (n:ByteArray) (v:Int):upE E n v n=v:=by unfold upE; rw [A5 rfl]; rfl
theorem Cz {E:ByteArray→Int} {n m:ByteArray} {v:Int} (h:m≠n):upE E n v m=E m:=by unfold upE; rw [An h]; rfl
theorem Uo {E:ByteArray→Int} {n m:ByteArray} {v w:Int} (h:n≠m):upE (upE E n v) m w=upE (upE E m w) n v:=by
 funext k
 by_cases h1:k=n
 ·subst h1
  rw [ED,Cz h,ED]
 ·by_cases h2:k=m
  ·subst h2
   rw [ED,Cz h1,ED]
  ·rw [Cz h2,Cz h1,Cz h1,Cz h2]
def Er (s:ByteArray):Nat→Int
 | 0=>17
 | k+1=>(31*Er s k+D0 s k).tmod 65521
def Gz (h:Int) (vs:List Int):Nat→Int
 | 0=>h
 | k+1=>(37*Gz h vs k+vs.getD k 0+1).tmod 65521
def Dg (l:List Int) (i:Int):Int:=if i<l.length then l.getD i.toNat 0 else (i*7+l.length).tmod 256
def O1 (l:List Int) (nm:ByteArray) (vs:List Int):Int:=(Gz (Er nm nm.size) vs vs.length+13*Dg l ((Gz (Er nm nm.size) vs vs.length).tmod 53)+Dg l ((Gz (Er nm nm.size) vs vs.length).tmod 89)).tdiv 3
mutual
noncomputable def Tm.val (l:List Int) (n:Int) (E:ByteArray→Int):Tm→Int
 | .mk nm args=>bif Bs nm then E nm else (O1 l nm (Tm.Up l n E args)).tmod n
noncomputable def Tm.Up (l:List Int) (n:Int) (E:ByteArray→Int):List Tm→List Int
 | []=>[]
 | x :: xs=>Tm.val l n E x :: Tm.Up l n E xs
end
section
variable {l:List Int} {n:Int} {E E':ByteArray→Int}
theorem Tm.PH:∀ xs:List Tm,Tm.Up l n E xs=xs.map (Tm.val l n E)
 | []=>by rw [Tm.Up]; rfl
 | x :: xs=>by rw [Tm.Up,Tm.PH xs]; rfl
theorem Tm.IS (x:Tm):x.val l n E=bif Bs x.name then E x.name else (O1 l x.name (x.args.map (Tm.val l n E))).tmod n:=by
 obtain ⟨nm,args⟩:=x
 rw [Tm.val,Tm.PH]; rfl
theorem Tm.Me (x:Tm) (h:∀ m∈x.vs,E m=E' m):x.val l n E=x.val l n E':=by
 rw [Tm.IS,Tm.IS]
 rw [Tm.N8] at h
 cases hv:Bs x.name with
 | true =>
  rw [hv,cond_true] at h
  exact h _ (by simp)
 | false =>
  rw [hv,cond_false] at h
  have:x.args.map (Tm.val l n E)=x.args.map (Tm.val l n E'):=yA fun y hy=>Tm.Me y fun m hm=>h m (Tm.KM.2 ⟨y,hy,hm⟩)
  rw [this]; rfl
termination_by SizeOf.sizeOf x
decreasing_by exact Tm.lt_of_mem hy
theorem Tm.Uq (s:ByteArray) (t:Tm) (x:Tm):(x.ap (Sb.mk [⟨s,t⟩]).look).val l n E=x.val l n (upE E s (t.val l n E)):=by
 have ih:∀ y∈x.args,(y.ap (Sb.mk [⟨s,t⟩]).look).val l n E=y.val l n (upE E s (t.val l n E)):=fun y hy=>Tm.Uq s t y
 rw [Tm.H3,Tm.IS x]
 cases hv:Bs x.name with
 | true =>
  rw [if_pos rfl,HC,cond_true]
  by_cases hs:s=x.name
  ·subst hs
   rw [if_pos rfl,ED]; rfl
  ·rw [if_neg hs,Cz (fun h=>hs h.symm)]
   show (Tm.mk x.name []).val l n E=_
   rw [Tm.IS]
   show (bif Bs x.name then E x.name else _)=_
   rw [hv]; rfl
 | false =>
  rw [if_neg (by simp),cond_false,Tm.IS]
  show (bif Bs x.name then E x.name else (O1 l x.name ((Tm.apL _ x.args).map _)).tmod n)=_
  rw [hv,cond_false,Tm.GH,z8]
  congr 2
  exact yA fun y hy=>ih y hy
termination_by SizeOf.sizeOf x
decreasing_by exact Tm.lt_of_mem hy
end
noncomputable def GQ (l:List Int) (n:Int) (E:ByteArray→Int) (a:Tm):Bool :=
 bif dec (a.name=⟨#[61]⟩)&&dec (a.args.length=2) then dec ((a.args.map (Tm.val l n E)).getD 0 0=(a.args.map (Tm.val l n E)).getD 1 0)
 else dec ((O1 l ((⟨#[126]⟩:ByteArray)++a.name) (a.args.map (Tm.val l n E))).tmod 2=1)
abbrev BF:=(ByteArray→Int)→Bool
def p0 (ps:List BF):BF:=ps.getD 0 fun _=>false
def p1 (ps:List BF):BF:=ps.getD 1 fun _=>false
noncomputable def vtF (l:List Int) (n:Int) (op:Int) (atom:Tm) (var:ByteArray) (ps:List BF) (E:ByteArray→Int):Bool :=
 bif dec (op=1) then true else bif dec (op=2) then false else bif dec (op=3) then GQ l n E atom else bif dec (op=4) then !p0 ps E
 else bif dec (op=5) then p0 ps E&&p1 ps E else bif dec (op=6) then p0 ps E || p1 ps E else bif dec (op=7) then !p0 ps E || p1 ps E
 else bif dec (op=8) then (xA n.toNat).all fun k=>p0 ps (upE E var (k:Nat)) else (xA n.toNat).any fun k=>p0 ps (upE E var (k:Nat))
mutual
noncomputable def Fm.vt (l:List Int) (n:Int):Fm→BF
 | .mk op atom var parts=>vtF l n op atom var (Fm.vtL l n parts)
noncomputable def Fm.vtL (l:List Int) (n:Int):List Fm→List BF
 | []=>[]
 | x :: xs=>Fm.vt l n x :: Fm.vtL l n xs
end
section
variable {l:List Int} {n:Int}
theorem Fm.RH:∀ xs:List Fm,Fm.vtL l n xs=xs.map (Fm.vt l n)
 | []=>by rw [Fm.vtL]; rfl
 | x :: xs=>by rw [Fm.vtL,Fm.RH xs]; rfl
theorem Fm.NF (x:Fm):x.vt l n=vtF l n x.op x.atom x.var (x.parts.map (Fm.vt l n)):=by
 obtain ⟨op,atom,var,parts⟩:=x
 rw [Fm.vt,Fm.RH]; rfl
theorem Fm.Jx {x:Fm} (h:x.form=true) (ho:x.op=5∨x.op=6∨x.op=7):∃ p q,x.parts=[p,q]:=by
 unfold Fm.form at h
 rw [if_neg (by omega),if_neg (by omega),if_neg (by omega),if_pos ho,zA,zA] at h
 have hl:x.parts.length=2:=by simpa using h.1.1
 match hq:x.parts,hl with
 | [p,q],_=>exact ⟨p,q,rfl⟩
theorem Fm.O2 {x:Fm} (h:x.form=true) (ho:x.op=4):∃ p,x.parts=[p]:=by
 unfold Fm.form at h
 rw [if_neg (by omega),if_neg (by omega),if_pos ho,zA,zA] at h
 have hl:x.parts.length=1:=by simpa using h.1.1
 match hq:x.parts,hl with
 | [p],_=>exact ⟨p,rfl⟩
theorem Fm.O3 {x:Fm} (h:x.form=true):x.op=1∨x.op=2∨x.op=3∨x.op=4∨(x.op=5∨x.op=6∨x.op=7)∨x.op=8∨x.op=9:=by
 unfold Fm.form at h
 rcases LM x.op with h1 | h1 | h1 | h1 | h1 | h1 | h1 | h1 | h1 | h1
 any_goals omega
 rw [if_neg (by omega),if_neg (by omega),if_neg (by omega),if_neg (by omega),if_neg (by omega)] at h
 cases h
variable {x p q:Fm} {E E':ByteArray→Int}
theorem Fm.Ur (h:x.op=1):x.vt l n E=true:=by rw [Fm.NF]; unfold vtF; rw [A5 h]; rfl
theorem Fm.Us (h:x.op=2):x.vt l n E=false:=by rw [Fm.NF]; unfold vtF; rw [An (by omega),A5 h]; rfl
theorem Fm.Ut (h:x.op=3):x.vt l n E=GQ l n E x.atom:=by rw [Fm.NF]; unfold vtF; rw [An (by omega),An (by omega),A5 h]; rfl
theorem Fm.Uu (h:x.op=4) (hp:x.parts=[p]):x.vt l n E=!p.vt l n E:=by rw [Fm.NF]; unfold vtF; rw [An (by omega),An (by omega),An (by omega),A5 h,hp]; rfl
noncomputable def PI (op:Int) (a b:Bool):Bool:=bif dec (op=5) then a&&b else bif dec (op=6) then a || b else !a || b
theorem Fm.QP (h:x.op=5∨x.op=6∨x.op=7) (hp:x.parts=[p,q]):x.vt l n E=PI x.op (p.vt l n E) (q.vt l n E):=by
 rw [Fm.NF]; unfold vtF PI
 rw [An (by omega),An (by omega),An (by omega),An (by omega),hp]
 rcases h with h | h | h
 ·rw [A5 h]; rfl
 ·rw [An (by omega),A5 h]; rfl
 ·rw [An (by omega),An (by omega),A5 h]; rfl
noncomputable def Mf (op:Int) (n:Int) (f:Int→Bool):Bool:=bif dec (op=8) then (xA n.toNat).all fun k=>f (k:Nat) else (xA n.toNat).any fun k=>f (k:Nat)
theorem Fm.SK (h:x.op=8∨x.op=9) (hp:x.parts=[p]):x.vt l n E=Mf x.op n fun k=>p.vt l n (upE E x.var k):=by
 rw [Fm.NF]; unfold vtF Mf
 rw [An (by omega),An (by omega),An (by omega),An (by omega),An (by omega),An (by omega),An (by omega),hp]
 rfl
theorem Tm.RI {x:Tm} (h:x.atom=true):Bs x.name=false:=by
 unfold Tm.atom at h
 split at h
 ·rename_i he
  exact Tm.R2 he
 ·rw [zA] at h
  cases hv:Bs x.name with
  | false=>rfl
  | true=>rw [SJ hv] at h; cases h.1
theorem PJ {a:Tm} (h:∀ y∈a.args,y.val l n E=y.val l n E'):GQ l n E a=GQ l n E' a:=by
 unfold GQ
 rw [yA h]
theorem Fm.RJ (x:Fm) (hx:x.forms=true):∀ E E':ByteArray→Int,(∀ m∈x.fv [],E m=E' m)→x.vt l n E=x.vt l n E':=by
 have ih:∀ y∈x.parts,∀ E E':ByteArray→Int,(∀ m∈y.fv [],E m=E' m)→y.vt l n E=y.vt l n E':=fun y hy=>Fm.RJ y (Fm.Co hx hy)
 intro E E' h
 have hf:=Fm.Cr hx
 rw [Fm.K1] at h
 rcases Fm.O3 hf with ho | ho | ho | ho | ho | ho
 ·rw [Fm.Ur ho,Fm.Ur ho]
 ·rw [Fm.Us ho,Fm.Us ho]
 ·rw [A5 ho,cond_true] at h
  rw [Fm.Ut ho,Fm.Ut ho]
  refine PJ fun y hy=>Tm.Me y fun m hm=>h m ?_
  rw [List.mem_filter]
  refine ⟨H8.2 (.inr ?_),by rw [An (by simp)]; rfl⟩
  rw [Tm.N8,Tm.RI (Fm.Dw hf ho).2.1,cond_false]
  exact Tm.KM.2 ⟨y,hy,hm⟩
 ·have hq:qB x.op=false:=by unfold qB; rw [An (by omega),An (by omega)]; rfl
  rw [An (by omega),cond_false,hq,cond_false] at h
  obtain ⟨p,hp⟩:=Fm.O2 hf ho
  rw [Fm.Uu ho hp,Fm.Uu ho hp,ih p (by rw [hp]; simp) E E' fun m hm=>h m (Fm.FN.2 ⟨p,by rw [hp]; simp,hm⟩)]
 ·have hq:qB x.op=false:=by unfold qB; rw [An (by omega),An (by omega)]; rfl
  rw [An (by omega),cond_false,hq,cond_false] at h
  obtain ⟨p,q,hp⟩:=Fm.Jx hf ho
  rw [Fm.QP ho hp,Fm.QP ho hp,ih p (by rw [hp]; simp) E E' fun m hm=>h m (Fm.FN.2 ⟨p,by rw [hp]; simp,hm⟩),ih q (by rw [hp]; simp) E E' fun m hm=>h m (Fm.FN.2 ⟨q,by rw [hp]; simp,hm⟩)]
 ·have hq:qB x.op=true:=by unfold qB; rcases ho with h | h <;> rw [h,A5 rfl] <;> simp
  rw [An (by omega),cond_false,hq,cond_true,yE] at h
  obtain ⟨_,p,hp⟩:=Fm.Dn hf hq
  rw [Fm.SK ho hp,Fm.SK ho hp]
  congr 1
  funext k
  refine ih p (by rw [hp]; simp) _ _ fun m hm=>?_
  by_cases hmv:m=x.var
  ·rw [hmv,ED,ED]
  ·rw [Cz hmv,Cz hmv]
   exact h m (Fm.FN.2 ⟨p,by rw [hp]; simp,(Fm.IR m p [x.var]).2 ⟨hm,by simpa using hmv⟩⟩)
termination_by SizeOf.sizeOf x
decreasing_by exact Fm.lt_of_mem hy
theorem Fm.Uv (s:ByteArray) (t:Tm) (x:Fm) (hx:x.forms=true):∀ E:ByteArray→Int,(x.subP s t).2=true→(x.subP s t).1.vt l n E=x.vt l n (upE E s (t.val l n E)):=by
 have ih:∀ y∈x.parts,∀ E:ByteArray→Int,(y.subP s t).2=true→(y.subP s t).1.vt l n E=y.vt l n (upE E s (t.val l n E)):=fun y hy=>Fm.Uv s t y (Fm.Co hx hy)
 intro E
 have hf:=Fm.Cr hx
 rw [Fm.KP]
 cases hst:x.stays s with
 | true =>
  rw [cond_true]
  intro _
  unfold Fm.stays at hst
  rw [zA,zY] at hst
  have hns:¬ s∈x.fv []:=by
   rcases hst.2 with h | h
   ·have hv:=Av.1 h
    obtain ⟨_,p,hp⟩:=Fm.Dn hf hst.1
    have ho3:¬ x.op=3:=by
     have:=hst.1
     unfold qB at this
     rw [zY,Av,Av] at this
     omega
    rw [Fm.K1,An ho3,cond_false,hst.1,cond_true,yE]
    intro hm
    obtain ⟨y,hy,hm⟩:=Fm.FN.1 hm
    exact ((Fm.IR s y [x.var]).1 hm).2 (by rw [hv]; simp)
   ·rw [Bool.not_eq_true'] at h
    exact DE.1 h
  exact Fm.RJ x hx _ _ fun m hm=>by
   rw [Cz]
   intro e
   exact hns (e▸hm)
 | false =>
  rw [cond_false]
  cases hcap:qB x.op&&dec (x.var∈t.vs) with
  | true=>rw [cond_true]; intro h; cases h
  | false =>
   rw [cond_false]
   intro hall
   have hall:(x.parts.all fun y=>(y.subP s t).2)=true:=hall
   rw [zS] at hall
   show Fm.vt l n (Fm.mk x.op (bif dec (x.op=3) then x.atom.ap (Sb.mk [⟨s,t⟩]).look else x.atom) x.var (x.parts.map fun y=>(y.subP s t).1)) E=_
   rcases Fm.O3 hf with ho | ho | ho | ho | ho | ho
   ·rw [Fm.Ur ho,Fm.Ur (x:=.mk x.op _ _ _) ho]
   ·rw [Fm.Us ho,Fm.Us (x:=.mk x.op _ _ _) ho]
   ·rw [Fm.Ut ho,Fm.Ut (x:=.mk x.op _ _ _) ho]
    show GQ l n E (bif dec (x.op=3) then _ else _)=_
    rw [A5 ho,cond_true]
    have hnv:=Tm.RI (Fm.Dw hf ho).2.1
    rw [Tm.H3,if_neg (by rw [hnv]; simp)]
    unfold GQ
    show (bif dec (x.atom.name=_)&&dec ((Tm.apL _ x.atom.args).length=2) then _ else _)=_
    have e1:(Tm.mk x.atom.name (Tm.apL (Sb.mk [⟨s,t⟩]).look x.atom.args)).args.map (Tm.val l n E)=x.atom.args.map (Tm.val l n (upE E s (t.val l n E))):=by
     show (Tm.apL _ x.atom.args).map _=_
     rw [Tm.GH,z8]
     exact yA fun y _=>Tm.Uq s t y
    rw [e1,Tm.R0]
    rfl
   ·obtain ⟨p,hp⟩:=Fm.O2 hf ho
    have e:(x.parts.map fun y=>(y.subP s t).1)=[(p.subP s t).1]:=by rw [hp]; rfl
    rw [Fm.Uu ho hp,Fm.Uu (x:=.mk x.op _ _ _) ho e,ih p (by rw [hp]; simp) E (hall p (by rw [hp]; simp))]
   ·obtain ⟨p,q,hp⟩:=Fm.Jx hf ho
    have e:(x.parts.map fun y=>(y.subP s t).1)=[(p.subP s t).1,(q.subP s t).1]:=by rw [hp]; rfl
    rw [Fm.QP ho hp,Fm.QP (x:=.mk x.op _ _ _) ho e,ih p (by rw [hp]; simp) E (hall p (by rw [hp]; simp)),ih q (by rw [hp]; simp) E (hall q (by rw [hp]; simp))]
    rfl
   ·have hq:qB x.op=true:=by unfold qB; rcases ho with h | h <;> rw [h,A5 rfl] <;> simp
    obtain ⟨_,p,hp⟩:=Fm.Dn hf hq
    have e:(x.parts.map fun y=>(y.subP s t).1)=[(p.subP s t).1]:=by rw [hp]; rfl
    rw [Fm.SK ho hp,Fm.SK (x:=.mk x.op _ _ _) ho e]
    show Mf x.op n _=_
    congr 1
    funext k
    rw [hq,yF] at hcap
    have hnv:=DE.1 hcap
    unfold Fm.stays at hst
    rw [hq,yF,yU] at hst
    have hne:=DE.1 hst.1
    show (p.subP s t).1.vt l n (upE E x.var k)=_
    rw [ih p (by rw [hp]; simp) _ (hall p (by rw [hp]; simp)),Uo hne]
    congr 2
    exact congrArg _ (Tm.Me t fun m hm=>Cz fun e=>hnv (e▸hm))
termination_by SizeOf.sizeOf x
decreasing_by exact Fm.lt_of_mem hy
end
def DT:SC:=(.seq (.reg [⟨some 2,none,.mv (.c (.int .i64 0))⟩]) (.seq (.reg [⟨some 3,none,.mv (.c (.int .i64 0))⟩]) (.seq (.seq (.dreg [[],[0],[1,0],[2,1,0],[],[4],[5,4],[6,5,4],[7,6,5,4],[3,2,1,0,8,7,6,5,4]] [⟨some 4,none,.mv (.t 0)⟩,⟨some 5,none,.nilchk (.t 4)⟩,⟨some 6,none,.faddr 1 (.t 5)⟩,⟨some 7,none,.load false 1 (.t 6)⟩,⟨some 8,none,.mv (.t 0)⟩,⟨some 9,none,.nilchk (.t 8)⟩,⟨some 10,none,.faddr 0 (.t 9)⟩,⟨some 11,none,.load false 1 (.t 10)⟩,⟨some 12,none,.len false (.t 11)⟩,⟨some 13,none,.bin .lss false (.t 7) (.t 12)⟩]) (.cond (.t 13) (.dreg [[],[0],[1,0],[2,1,0],[],[4],[5,4],[6,5,4],[3,2,1,0,7,6,5,4],[8,3,2,1,0,7,6,5,4],[9,8,3,2,1,0,7,6,5,4],[10,9,8,3,2,1,0,7,6,5,4]] [⟨some 14,none,.mv (.t 0)⟩,⟨some 15,none,.nilchk (.t 14)⟩,⟨some 16,none,.faddr 0 (.t 15)⟩,⟨some 17,none,.load false 1 (.t 16)⟩,⟨some 18,none,.mv (.t 0)⟩,⟨some 19,none,.nilchk (.t 18)⟩,⟨some 20,none,.faddr 1 (.t 19)⟩,⟨some 21,none,.load false 1 (.t 20)⟩,⟨some 22,none,.iaddr 1 (.t 17) (.t 21)⟩,⟨some 23,none,.load false 1 (.t 22)⟩,⟨some 24,none,.conv .i64 (.t 23)⟩,⟨some 3,none,.mv (.t 24)⟩]) .skip)) (.seq (.reg [⟨some 25,none,.mv (.t 0)⟩,⟨some 26,none,.nilchk (.t 25)⟩,⟨some 27,none,.faddr 1 (.t 26)⟩,⟨some 28,none,.load false 1 (.t 27)⟩,⟨some 29,none,.bin .add false (.t 28) (.c (.int .i64 1))⟩,⟨some 30,none,.nilchk (.t 25)⟩,⟨some 31,none,.faddr 1 (.t 30)⟩,⟨none,none,(.store 1 (.t 31) (.t 29))⟩]) (.seq (.reg [⟨some 32,none,.mv (.t 0)⟩,⟨some 33,none,.mv (.t 0)⟩,⟨some 34,none,.nilchk (.t 33)⟩,⟨some 35,none,.faddr 2 (.t 34)⟩,⟨some 36,none,.load false 1 (.t 35)⟩,⟨some 37,none,.bin .mul false (.t 36) (.c (.int .u64 6364136223846793005))⟩,⟨some 38,none,.mv (.t 3)⟩,⟨some 39,none,.conv .u64 (.t 38)⟩,⟨some 40,none,.bin .add false (.t 37) (.t 39)⟩,⟨some 41,none,.bin .add false (.t 40) (.c (.int .u64 892892))⟩,⟨some 42,none,.nilchk (.t 32)⟩,⟨some 43,none,.faddr 2 (.t 42)⟩,⟨none,none,(.store 1 (.t 43) (.t 41))⟩]) (.seq (.seq (.dreg [[],[0],[1,0],[2,1,0],[],[4],[5,4],[6,5,4],[7,6,5,4],[3,2,1,0,8,7,6,5,4]] [⟨some 44,none,.mv (.t 0)⟩,⟨some 45,none,.nilchk (.t 44)⟩,⟨some 46,none,.faddr 1 (.t 45)⟩,⟨some 47,none,.load false 1 (.t 46)⟩,⟨some 48,none,.mv (.t 0)⟩,⟨some 49,none,.nilchk (.t 48)⟩,⟨some 50,none,.faddr 0 (.t 49)⟩,⟨some 51,none,.load false 1 (.t 50)⟩,⟨some 52,none,.len false (.t 51)⟩,⟨some 53,none,.bin .leq false (.t 47) (.t 52)⟩]) (.cond (.t 53) (.seq (.reg [⟨some 54,none,.mv (.t 3)⟩,⟨some 2,none,.mv (.t 54)⟩]) .ret) .skip)) (.seq (.reg [⟨some 55,none,.mv (.t 0)⟩,⟨some 56,none,.nilchk (.t 55)⟩,⟨some 57,none,.faddr 2 (.t 56)⟩,⟨some 58,none,.load false 1 (.t 57)⟩,⟨some 59,none,.bin .shr false (.t 58) (.c (.int .u64 40))⟩,⟨some 60,none,.bin .and false (.t 59) (.c (.int .u64 255))⟩,⟨some 61,none,.conv .i64 (.t 60)⟩,⟨some 2,none,.mv (.t 61)⟩]) .ret)))))))
theorem FO:Ar Tryz.prog 63=some ⟨62,DT,[(.tmp 2)]⟩:=by kernel_rfl
theorem DU:modes 63=⟨[],.asis,none,false⟩:=by unfold modes; rfl
def DV:SC:=(.seq (.reg [⟨some 4,none,.mv (.c (.int .i64 0))⟩]) (.seq (.seq (.reg [⟨some 6,none,.mv (.t 1)⟩,⟨some 7,none,.bin .leq false (.t 6) (.c (.int .i64 1))⟩]) (.cond (.t 7) (.seq (.reg [⟨some 4,none,.mv (.c (.int .i64 0))⟩]) .ret) .skip)) (.seq (.reg [⟨some 8,none,.mv (.t 0)⟩,⟨some 9,none,.call 63 [(.t 8)]⟩,⟨some 5,none,.mv (.t 9)⟩]) (.seq (.seq (.reg [⟨some 10,none,.mv (.t 1)⟩,⟨some 11,none,.bin .gtr false (.t 10) (.c (.int .i64 200))⟩]) (.cond (.t 11) (.reg [⟨some 12,none,.mv (.t 5)⟩,⟨some 13,none,.bin .mul false (.t 12) (.c (.int .i64 256))⟩,⟨some 14,none,.mv (.t 0)⟩,⟨some 15,none,.call 63 [(.t 14)]⟩,⟨some 16,none,.bin .add false (.t 13) (.t 15)⟩,⟨some 5,none,.mv (.t 16)⟩]) .skip)) (.seq (.reg [⟨some 17,none,.mv (.t 5)⟩,⟨some 18,none,.mv (.t 1)⟩,⟨some 19,none,.bin .rem false (.t 17) (.t 18)⟩,⟨some 4,none,.mv (.t 19)⟩]) .ret)))))
theorem FP:Ar Tryz.prog 28=some ⟨20,DV,[(.tmp 4)]⟩:=by kernel_rfl
theorem Ao:modes 28=⟨[],.asis,none,false⟩:=by unfold modes; rfl
def G0:SC:=(.seq (.reg [⟨some 4,none,.mv (.c (.bool false))⟩]) (.seq (.reg [⟨some 5,none,.mv (.t 0)⟩,⟨some 6,none,.mv (.t 1)⟩,⟨some 7,none,.call 28 [(.t 5),(.t 6)]⟩,⟨some 8,none,.bin .eql false (.t 7) (.c (.int .i64 0))⟩,⟨some 4,none,.mv (.t 8)⟩]) .ret))
theorem JR:Ar Tryz.prog 65=some ⟨9,G0,[(.tmp 4)]⟩:=by kernel_rfl
theorem A9:modes 65=⟨[],.asis,none,false⟩:=by unfold modes; rfl
def Ha:SC:=(.seq (.reg [⟨(some 4),none,(.mv (.c (.str ⟨#[]⟩)))⟩]) (.seq (.reg [⟨some 5,none,.mv (.t 1)⟩,⟨some 6,none,.mv (.t 0)⟩,⟨some 7,none,.mv (.t 1)⟩,⟨some 8,none,.len false (.t 7)⟩,⟨some 9,none,.call 28 [(.t 6),(.t 8)]⟩,⟨some 10,none,.iaddr 1 (.t 5) (.t 9)⟩,⟨some 11,none,.load false 1 (.t 10)⟩,⟨some 4,none,.mv (.t 11)⟩]) .ret))
theorem KC:Ar Tryz.prog 13=some ⟨12,Ha,[(.tmp 4)]⟩:=by kernel_rfl
theorem Au:modes 13=⟨[],.asis,none,false⟩:=by unfold modes; rfl
def F4:SC:=(.seq (.reg [⟨some 4,none,.mv (.c (.int .i64 0))⟩]) (.seq (.reg [⟨some 5,none,.mv (.t 1)⟩,⟨some 6,none,.mv (.t 0)⟩,⟨some 7,none,.mv (.t 1)⟩,⟨some 8,none,.len false (.t 7)⟩,⟨some 9,none,.call 28 [(.t 6),(.t 8)]⟩,⟨some 10,none,.iaddr 1 (.t 5) (.t 9)⟩,⟨some 11,none,.load false 1 (.t 10)⟩,⟨some 4,none,.mv (.t 11)⟩]) .ret))
theorem IT:Ar Tryz.prog 91=some ⟨12,F4,[(.tmp 4)]⟩:=by kernel_rfl
theorem Cu:modes 91=⟨[],.asis,none,false⟩:=by unfold modes; rfl
theorem XH {α:Type} {a:α} {Q:α→Prop}:(∃ out,a=out∧Q out)=Q a:=propext ⟨fun ⟨o,h,q⟩=>by subst h; exact q,fun q=>⟨a,rfl,q⟩⟩
attribute [go_sem] XH
abbrev by_ (b:Int):List D:=[D.byte b]
def Bytes (l:List Int):Prop:=∀ b∈l,0≤b∧b≤255
abbrev cur (l:List Int) (p s:Int):Ob:=.box 45 [.arr (l.map by_),.int .i64 p,.int .u64 s]
theorem Xh (a:Int):0≤bits .and .u64 a 255∧bits .and .u64 a 255≤255:=by
 have h:(BitVec.ofInt 64 a &&& BitVec.ofInt 64 255).toNat≤255:=by
  rw [BitVec.toNat_and]
  exact Nat.and_le_right
 have e:bits .and .u64 a 255=(((BitVec.ofInt 64 a &&& BitVec.ofInt 64 255).toNat:Nat):Int):=by
  show IntKind.u64.wrap _=_
  refine KX ⟨?_,?_⟩
  ·show (0:Int)≤_; omega
  ·show _≤(18446744073709551615:Int)
   have:(BitVec.ofInt 64 a &&& BitVec.ofInt 64 255).toNat≤255:=h
   show (((BitVec.ofInt 64 a &&& BitVec.ofInt 64 255).toNat:Nat):Int)≤_
   omega
 rw [e]
 omega
theorem Xi (l:List Int) (hl:Bytes l) (hn:l.length≤1099511627776) (p s:Int) (hp0:0≤p) (hp:p≤1099511627776):∃ v s',E 63 [.ptr 0 0] [cur l p s]=some (.int .i64 v,[cur l (p+1) s'])∧0≤v∧v≤255:=by
 obtain ⟨Q,hQ⟩:∃ Q:SV × List Ob→Prop,Q=fun out=>∃ v s',out=(.int .i64 v,[cur l (p+1) s'])∧0≤v∧v≤255:=⟨_,rfl⟩
 suffices h:∃ out,E 63 [.ptr 0 0] [cur l p s]=some out∧Q out by
  obtain ⟨out,h1,h2⟩:=h
  rw [hQ] at h2
  obtain ⟨v,s',rfl,h3⟩:=h2
  exact ⟨v,s',h1,h3⟩
 by_cases hlt:p<l.length
 ·have hg:=get_at by_ (show p.toNat<l.length by omega)
  have hb:=hl _ (zE (show p.toNat<l.length by omega))
  have hi:dec (inK .i64 l[p.toNat])=true:=BA (by omega) (by omega)
  have h1:(p<(l.length:Int))=True:=eq_true (by omega)
  have h2:(p+1≤(l.length:Int))=True:=eq_true (by omega)
  refine AS FO DU (of_decide_eq_true rfl) ?_
  simp (disch:=omega) only [DT,go_sem,Ab,hg,hi,h1,h2]
  rw [hQ]
  exact ⟨_,_,rfl,hb⟩
 ·have h1:(p<(l.length:Int))=False:=eq_false (by omega)
  have h2:(p+1≤(l.length:Int))=False:=eq_false (by omega)
  have hb:=fun a=>Xh a
  have hi:∀ a,dec (inK .i64 (bits .and .u64 a 255))=true:=fun a=>BA (by have:=hb a; omega) (by have:=hb a; omega)
  refine AS FO DU (of_decide_eq_true rfl) ?_
  simp (disch:=omega) only [DT,go_sem,Ab,hi,h1,h2]
  rw [hQ]
  exact ⟨_,_,rfl,hb _⟩
theorem Es (l:List Int) (hl:Bytes l) (hn:l.length≤1099511627776) (n:Int) (h1:1≤n) (h2:n≤200) (p s:Int) (hp0:0≤p) (hp:p≤1099511627776):∃ v p' s',E 28 [.ptr 0 0,.int .i64 n] [cur l p s]=some (.int .i64 v,[cur l p' s'])∧(0≤v∧v<n)∧p≤p'∧p'≤p+1:=by
 by_cases hn1:n≤1
 ·refine ⟨0,p,s,?_,by omega,by omega,by omega⟩
  have q1:(n≤1)=True:=eq_true hn1
  refine Ai FP Ao (of_decide_eq_true rfl) ?_
  simp (disch:=omega) only [DV,go_sem,Ab,q1]
 ·obtain ⟨v,s',hv,hv1,hv2⟩:=Xi l hl hn p s hp0 hp
  have hm1:=Int.emod_nonneg v (show n≠0 by omega)
  have hm2:=Int.emod_lt_of_pos v (show 0<n by omega)
  have hm3:v.tmod n=v % n:=Int.tmod_eq_emod_of_nonneg hv1
  refine ⟨v.tmod n,p+1,s',?_,by omega,by omega,by omega⟩
  have q1:(n≤1)=False:=eq_false hn1
  have q2:(200<n)=False:=eq_false (by omega)
  have q3:(n=0)=False:=eq_false (by omega)
  refine Ai FP Ao (of_decide_eq_true rfl) ?_
  simp (disch:=omega) only [DV,go_sem,Ab,q1,q2,q3,hv,DU]
theorem NG (l:List Int) (hl:Bytes l) (hn:l.length≤1099511627776) (n:Int) (h1:1≤n) (h2:n≤200) (p s:Int) (hp0:0≤p) (hp:p≤1099511627776):∃ b p' s',E 65 [.ptr 0 0,.int .i64 n] [cur l p s]=some (.bool b,[cur l p' s'])∧p≤p'∧p'≤p+1:=by
 obtain ⟨v,p',s',hv,_,h3,h4⟩:=Es l hl hn n h1 h2 p s hp0 hp
 refine ⟨dec (v=0),p',s',?_,h3,h4⟩
 refine Ai JR A9 (of_decide_eq_true rfl) ?_
 simp (disch:=omega) only [G0,go_sem,Ab,hv,Ao]
theorem PK (l:List Int) (hl:Bytes l) (hn:l.length≤1099511627776) (xs:List ByteArray) (h1:1≤xs.length) (h2:xs.length≤200) (p s:Int) (hp0:0≤p) (hp:p≤1099511627776):∃ x p' s',E 13 [.ptr 0 0,.arr (xs.map fun s=>[D.str s])] [cur l p s]=some (.str x,[cur l p' s'])∧x∈xs∧p≤p'∧p'≤p+1:=by
 obtain ⟨v,p',s',hv,⟨hv0,hv1⟩,h3,h4⟩:=Es l hl hn xs.length (by omega) (by omega) p s hp0 hp
 have hg:=get_at (fun s=>[D.str s]) (show v.toNat<xs.length by omega)
 refine ⟨xs[v.toNat],p',s',?_,zE _,h3,h4⟩
 refine Ai KC Au (of_decide_eq_true rfl) ?_
 simp (disch:=omega) only [Ha,go_sem,Ab,hv,hg,Ao]
theorem We (l:List Int) (hl:Bytes l) (hn:l.length≤1099511627776) (xs:List Int) (h1:1≤xs.length) (h2:xs.length≤200) (p s:Int) (hp0:0≤p) (hp:p≤1099511627776):∃ x p' s',E 91 [.ptr 0 0,.arr (xs.map fun n=>[D.int n])] [cur l p s]=some (.int .i64 x,[cur l p' s'])∧x∈xs∧p≤p'∧p'≤p+1:=by
 obtain ⟨v,p',s',hv,⟨hv0,hv1⟩,h3,h4⟩:=Es l hl hn xs.length (by omega) (by omega) p s hp0 hp
 have hg:=get_at (fun n=>[D.int n]) (show v.toNat<xs.length by omega)
 refine ⟨xs[v.toNat],p',s',?_,zE _,h3,h4⟩
 refine Ai IT Cu (of_decide_eq_true rfl) ?_
 simp (disch:=omega) only [F4,go_sem,Ab,hv,hg,Ao]
def Cb:SC:=(.seq (.reg [⟨(some 4),none,(.alloc 26 [(.str ⟨#[]⟩),.nil])⟩]) (.seq (.seq (.reg [⟨some 5,none,.mv (.t 1)⟩,⟨some 6,none,.bin .leq false (.t 5) (.c (.int .i64 1))⟩,⟨some 7,none,.mv (.t 6)⟩,⟨(some 8),(some (7,false)),(.mv (.t 0))⟩,⟨(some 9),(some (7,false)),(.call 65 [(.t 8),(.c (.int .i64 3))])⟩,⟨some 10,none,.pick (.t 7) (.c (.bool true)) (.t 9)⟩]) (.cond (.t 10) (.seq (.reg [⟨some 11,none,.mv (.t 0)⟩,⟨(some 12),none,(.mkrow 9 1 [(.str ⟨#[]⟩)] 7 [(0,(.c (.str ⟨#[88]⟩))),(1,(.c (.str ⟨#[89]⟩))),(2,(.c (.str ⟨#[90]⟩))),(3,(.c (.str ⟨#[97]⟩))),(4,(.c (.str ⟨#[98]⟩))),(5,(.c (.str ⟨#[88]⟩))),(6,(.c (.str ⟨#[97]⟩)))])⟩,⟨some 13,none,.call 13 [(.t 11),(.t 12)]⟩,⟨(some 14),none,(.build [(.str ⟨#[]⟩),.nil] [(0,(1,(.t 13)))])⟩,⟨none,none,(.store 2 (.t 4) (.t 14))⟩]) .ret) .skip)) (.seq (.seq (.reg [⟨some 15,none,.mv (.t 0)⟩,⟨some 16,none,.call 65 [(.t 15),(.c (.int .i64 2))]⟩]) (.cond (.t 16) (.seq (.reg [⟨some 17,none,.mv (.t 0)⟩,⟨some 18,none,.mv (.t 1)⟩,⟨some 19,none,.bin .sub false (.t 18) (.c (.int .i64 1))⟩,⟨some 20,none,.call 64 [(.t 17),(.t 19)]⟩,⟨(some 21),none,(.mkrow 26 2 [(.str ⟨#[]⟩),.nil] 1 [(0,(.t 20))])⟩,⟨(some 22),none,(.build [(.str ⟨#[]⟩),.nil] [(0,(1,(.c (.str ⟨#[102]⟩)))),(1,(1,(.t 21)))])⟩,⟨none,none,(.store 2 (.t 4) (.t 22))⟩]) .ret) .skip)) (.seq (.reg [⟨some 23,none,.mv (.t 0)⟩,⟨some 24,none,.mv (.t 1)⟩,⟨some 25,none,.bin .sub false (.t 24) (.c (.int .i64 1))⟩,⟨some 26,none,.call 64 [(.t 23),(.t 25)]⟩,⟨some 27,none,.mv (.t 0)⟩,⟨some 28,none,.mv (.t 1)⟩,⟨some 29,none,.bin .sub false (.t 28) (.c (.int .i64 1))⟩,⟨some 30,none,.call 64 [(.t 27),(.t 29)]⟩,⟨(some 31),none,(.mkrow 26 2 [(.str ⟨#[]⟩),.nil] 2 [(0,(.t 26)),(1,(.t 30))])⟩,⟨(some 32),none,(.build [(.str ⟨#[]⟩),.nil] [(0,(1,(.c (.str ⟨#[103]⟩)))),(1,(1,(.t 31)))])⟩,⟨none,none,(.store 2 (.t 4) (.t 32))⟩]) .ret))))
theorem Cv:Ar Tryz.prog 64=some ⟨33,Cb,[(.cell 4 true 2)]⟩:=by kernel_rfl
theorem AF:modes 64=⟨[],.half [none,some (26,2)],none,false⟩:=by unfold modes; rfl
def FQ:SC:=(.seq (.reg [⟨(some 2),none,(.alloc 26 [(.str ⟨#[]⟩),.nil])⟩]) (.seq (.reg [⟨some 3,none,.mv (.t 0)⟩,⟨some 4,none,.mv (.t 0)⟩,⟨some 5,none,.call 28 [(.t 4),(.c (.int .i64 3))]⟩,⟨some 6,none,.bin .add false (.c (.int .i64 1)) (.t 5)⟩,⟨some 7,none,.call 64 [(.t 3),(.t 6)]⟩,⟨none,none,(.store 2 (.t 2) (.t 7))⟩]) .ret))
theorem Jy:Ar Tryz.prog 30=some ⟨8,FQ,[(.cell 2 true 2)]⟩:=by kernel_rfl
theorem AJ:modes 30=⟨[],.half [none,some (26,2)],none,false⟩:=by unfold modes; rfl
def BT:SC:=(.seq (.reg [⟨(some 2),none,(.alloc 26 [(.str ⟨#[]⟩),.nil])⟩]) (.seq (.seq (.reg [⟨some 3,none,.mv (.t 0)⟩,⟨some 4,none,.call 28 [(.t 3),(.c (.int .i64 8))]⟩]) (.block 0 (.seq (.seq (.reg [⟨some 6,none,.bin .eql false (.t 4) (.c (.int .i64 0))⟩,⟨some 5,none,.mv (.t 6)⟩]) (.cond (.t 5) .skip (.reg [⟨some 7,none,.bin .eql false (.t 4) (.c (.int .i64 1))⟩,⟨some 5,none,.mv (.t 7)⟩]))) (.cond (.t 5) (.seq (.reg [⟨some 8,none,.mv (.t 0)⟩,⟨some 9,none,.call 30 [(.t 8)]⟩,⟨some 10,none,.mv (.t 0)⟩,⟨some 11,none,.call 30 [(.t 10)]⟩,⟨(some 12),none,(.mkrow 26 2 [(.str ⟨#[]⟩),.nil] 2 [(0,(.t 9)),(1,(.t 11))])⟩,⟨(some 13),none,(.build [(.str ⟨#[]⟩),.nil] [(0,(1,(.c (.str ⟨#[61]⟩)))),(1,(1,(.t 12)))])⟩,⟨none,none,(.store 2 (.t 2) (.t 13))⟩]) .ret) (.seq (.reg [⟨some 15,none,.bin .eql false (.t 4) (.c (.int .i64 2))⟩,⟨some 14,none,.mv (.t 15)⟩]) (.cond (.t 14) (.seq (.reg [⟨(some 16),none,(.build [(.str ⟨#[]⟩),.nil] [(0,(1,(.c (.str ⟨#[114]⟩))))])⟩,⟨none,none,(.store 2 (.t 2) (.t 16))⟩]) .ret) (.seq (.seq (.reg [⟨some 18,none,.bin .eql false (.t 4) (.c (.int .i64 3))⟩,⟨some 17,none,.mv (.t 18)⟩]) (.cond (.t 17) .skip (.reg [⟨some 19,none,.bin .eql false (.t 4) (.c (.int .i64 4))⟩,⟨some 17,none,.mv (.t 19)⟩]))) (.cond (.t 17) (.seq (.reg [⟨some 20,none,.mv (.t 0)⟩,⟨some 21,none,.call 64 [(.t 20),(.c (.int .i64 2))]⟩,⟨some 22,none,.mv (.t 0)⟩,⟨some 23,none,.call 64 [(.t 22),(.c (.int .i64 2))]⟩,⟨(some 24),none,(.mkrow 26 2 [(.str ⟨#[]⟩),.nil] 2 [(0,(.t 21)),(1,(.t 23))])⟩,⟨(some 25),none,(.build [(.str ⟨#[]⟩),.nil] [(0,(1,(.c (.str ⟨#[113]⟩)))),(1,(1,(.t 24)))])⟩,⟨none,none,(.store 2 (.t 2) (.t 25))⟩]) .ret) .skip)))))))) (.seq (.reg [⟨some 26,none,.mv (.t 0)⟩,⟨some 27,none,.call 64 [(.t 26),(.c (.int .i64 2))]⟩,⟨(some 28),none,(.mkrow 26 2 [(.str ⟨#[]⟩),.nil] 1 [(0,(.t 27))])⟩,⟨(some 29),none,(.build [(.str ⟨#[]⟩),.nil] [(0,(1,(.c (.str ⟨#[112]⟩)))),(1,(1,(.t 28)))])⟩,⟨none,none,(.store 2 (.t 2) (.t 29))⟩]) .ret)))
theorem Cn:Ar Tryz.prog 90=some ⟨30,BT,[(.cell 2 true 2)]⟩:=by kernel_rfl
theorem AX:modes 90=⟨[],.half [none,some (26,2)],none,false⟩:=by unfold modes; rfl
def Tm.oh (x:Tm):List OT:=[.str x.name,.ow (x.args.map Tm.osh)]
theorem Tm.Uw (x:Tm):x.oh=[.str x.name,.ow (x.args.map Tm.osh)]:=rfl
theorem Tm.PL:∀ xs:List Tm,OT.Cq (xs.map Tm.osh)=xs.map Tm.osh
 | []=>rfl
 | x :: xs=>by rw [zB,Tm.osh_eq]; simp only [OT.Cq,OT.Ii,OT.half,Tm.PL xs]
theorem Tm.RK:∀ xs:List Tm,OT.AH (xs.map Tm.oh)=true
 | []=>rfl
 | x :: xs=>by rw [zB,Tm.Uw]; simp only [OT.AH,OT.CR,OT.full,Tm.osh_full,Tm.RK xs,zL]
theorem Tm.RL:∀ xs:List Tm,OT.Cq (xs.map Tm.oh)=xs.map Tm.osh
 | []=>rfl
 | x :: xs=>by rw [zB,zB,Tm.Uw,Tm.osh_eq]; simp only [OT.Cq,OT.Ii,OT.half,Tm.osh_er,Tm.RL xs]
theorem Tm.Wt:∀ xs:List Tm,OT.erss (xs.map Tm.oh)=xs.map Tm.d
 | []=>rfl
 | x :: xs=>by rw [zB,zB,Tm.Uw,Tm.d_eq]; simp only [OT.erss,OT.ers,OT.er,Tm.osh_er,Tm.Wt xs]
theorem Tm.QQ:∀ xs:List Tm,OT.Cq (xs.map Tm.o)=xs.map Tm.osh
 | []=>rfl
 | x :: xs=>by rw [zB,zB,Tm.o_eq,Tm.osh_eq]; simp only [OT.Cq,OT.Ii,OT.half,Tm.erss,Tm.QQ xs]
theorem OT.Mg:∀ a b:List (List OT),OT.AH (a++b)=(OT.AH a&&OT.AH b)
 | [],b=>by simp [OT.AH]
 | x :: a,b=>by simp only [yK,OT.AH,OT.Mg a b,Bool.and_assoc]
theorem OT.Mh:∀ a b:List (List OT),OT.Cq (a++b)=OT.Cq a++OT.Cq b
 | [],b=>by simp [OT.Cq]
 | x :: a,b=>by simp only [yK,OT.Cq,OT.Mh a b]
theorem OT.PM:∀ a b:List (List OT),OT.erss (a++b)=OT.erss a++OT.erss b
 | [],b=>by simp [OT.erss]
 | x :: a,b=>by simp only [yK,OT.erss,OT.PM a b]
attribute [go_sem] OT.Mg OT.Mh OT.PM Tm.osh_full Tm.osh_er Tm.PL Tm.RK Tm.Wt Tm.RL Tm.QQ
abbrev tmH (t:Tm) (g:Nat):SV:=.agg [.str t.name,.ref g]
abbrev JS (t:Tm):Ob:=.row 26 2 (t.args.map Tm.osh)
theorem O4 (l:List Int) (hl:Bytes l) (hn:l.length≤1099511627776):∀ (d:Nat) (m:Int),m=d→d≤20→∀ p s:Int,0≤p→p+(4*2 ^ d:Nat)≤1099000000000→∃ t p' s',E 64 [.ptr 0 0,.int .i64 m] [cur l p s]=some (tmH t 1,[cur l p' s',JS t])∧(p≤p'∧p'+2≤p+(4*2 ^ d:Nat))∧t.nodes+1≤2*2 ^ d:=by
 intro d
 have leaf:∀ (p1 s1:Int),0≤p1→p1≤1099500000000→∃ x p2 s2,E 13 [.ptr 0 0,.arr [[D.str ⟨#[88]⟩],[D.str ⟨#[89]⟩],[D.str ⟨#[90]⟩],[D.str ⟨#[97]⟩],[D.str ⟨#[98]⟩],[D.str ⟨#[88]⟩],[D.str ⟨#[97]⟩]]] [cur l p1 s1]=some (.str x,[cur l p2 s2])∧p1≤p2∧p2≤p1+1:=fun p1 s1 a b=>by
  obtain ⟨x,p2,s2,ho,_,h2,h3⟩:=PK l hl hn [⟨#[88]⟩,⟨#[89]⟩,⟨#[90]⟩,⟨#[97]⟩,⟨#[98]⟩,⟨#[88]⟩,⟨#[97]⟩] (by decide) (by decide) p1 s1 a (by omega)
  simp only [zB,zJ] at ho
  exact ⟨x,p2,s2,ho,h2,h3⟩
 have n1:∀ x,(Tm.mk x []).nodes=1:=fun x=>by rw [Tm.nodes_eq]; rfl
 induction d with
 | zero =>
  rintro m rfl _ p s h0 h1
  rw [show 2 ^ 0=1 by rfl] at h1
  obtain ⟨x,p1,s1,ho,h2,h3⟩:=leaf p s h0 (by omega)
  rw [show 2 ^ 0=1 by rfl]
  obtain ⟨Q,hQ⟩:∃ Q:SV × List Ob→Prop,Q=fun out=>∃ t p' s',out=(tmH t 1,[cur l p' s',JS t])∧(p≤p'∧p'+2≤p+(4*1:Nat))∧t.nodes+1≤2*1:=⟨_,rfl⟩
  suffices hq0:∃ out,E 64 [.ptr 0 0,.int .i64 ((0:Nat):Int)] [cur l p s]=some out∧Q out by
   obtain ⟨out,hq1,hq2⟩:=hq0
   rw [hQ] at hq2
   obtain ⟨t,p',s',rfl,hq3⟩:=hq2
   exact ⟨t,p',s',hq1,hq3⟩
  refine AS Cv AF (of_decide_eq_true rfl) ?_
  simp (disch:=omega) only [Cb,go_sem,Ab,ho,Au]
  rw [hQ]
  exact ⟨.mk x [],p1,s1,rfl,by omega,by rw [n1]; decide⟩
 | succ e ih =>
  intro m hm hd p s h0 h1
  have hpe:2 ^ (e+1)=2*2 ^ e:=by rw [Nat.pow_succ,Nat.mul_comm]
  have hp1:1≤2 ^ e:=Nat.one_le_two_pow
  have hp2:2 ^ e≤2 ^ 20:=Nat.pow_le_pow_right (by omega) (by omega)
  have hp3:(2:Nat) ^ 20=1048576:=by decide
  have ih:=ih (m-1) (by omega) (by omega)
  rw [hpe] at h1 ⊢
  generalize 2 ^ e=q at *
  generalize hq2:2*q=q2 at *
  obtain ⟨Q,hQ⟩:∃ Q:SV × List Ob→Prop,Q=fun out=>∃ t p' s',out=(tmH t 1,[cur l p' s',JS t])∧(p≤p'∧p'+2≤p+(4*q2:Nat))∧t.nodes+1≤2*q2:=⟨_,rfl⟩
  suffices hq0:∃ out,E 64 [.ptr 0 0,.int .i64 m] [cur l p s]=some out∧Q out by
   obtain ⟨out,hq1,hq2⟩:=hq0
   rw [hQ] at hq2
   obtain ⟨t,p',s',rfl,hq3⟩:=hq2
   exact ⟨t,p',s',hq1,hq3⟩
  by_cases hm1:m≤1
  ·have q1:(m≤1)=True:=eq_true hm1
   obtain ⟨x,p1,s1,ho,h2,h3⟩:=leaf p s h0 (by omega)
   refine AS Cv AF (of_decide_eq_true rfl) ?_
   simp (disch:=omega) only [Cb,go_sem,Ab,ho,q1,Au]
   rw [hQ]
   exact ⟨.mk x [],p1,s1,rfl,by omega,by rw [n1]; omega⟩
  ·have q1:(m≤1)=False:=eq_false hm1
   obtain ⟨b1,p1,s1,hb1,g1,g2⟩:=NG l hl hn 3 (by omega) (by omega) p s h0 (by omega)
   cases b1 with
   | true =>
    obtain ⟨x,p2,s2,ho,h2,h3⟩:=leaf p1 s1 (by omega) (by omega)
    refine AS Cv AF (of_decide_eq_true rfl) ?_
    simp (disch:=omega) only [Cb,go_sem,Ab,q1,hb1,ho,Au,A9]
    rw [hQ]
    exact ⟨.mk x [],p2,s2,rfl,by omega,by rw [n1]; omega⟩
   | false =>
    obtain ⟨b2,p2,s2,hb2,g3,g4⟩:=NG l hl hn 2 (by omega) (by omega) p1 s1 (by omega) (by omega)
    obtain ⟨t3,p3,s3,h3,⟨g5,g6⟩,g7⟩:=ih p2 s2 (by omega) (by omega)
    cases b2 with
    | true =>
     have e1:(Tm.mk ⟨#[102]⟩ [t3]).nodes=1+(t3.nodes+0):=by rw [Tm.nodes_eq]; rfl
     refine AS Cv AF (of_decide_eq_true rfl) ?_
     simp (disch:=omega) only [Cb,go_sem,Ab,q1,hb1,hb2,h3,Au,A9,AF]
     rw [hQ]
     exact ⟨.mk ⟨#[102]⟩ [t3],p3,s3,rfl,by omega,by rw [e1]; omega⟩
    | false =>
     obtain ⟨t4,p4,s4,h4,⟨g8,g9⟩,g10⟩:=ih p3 s3 (by omega) (by omega)
     have e1:(Tm.mk ⟨#[103]⟩ [t3,t4]).nodes=1+(t3.nodes+(t4.nodes+0)):=by rw [Tm.nodes_eq]; rfl
     refine AS Cv AF (of_decide_eq_true rfl) ?_
     simp (disch:=omega) only [Cb,go_sem,Ab,q1,hb1,hb2,h3,h4,Au,A9,AF]
     rw [hQ]
     exact ⟨.mk ⟨#[103]⟩ [t3,t4],p4,s4,rfl,by omega,by rw [e1]; omega⟩
theorem JT (l:List Int) (hl:Bytes l) (hn:l.length≤1099511627776) (p s:Int) (h0:0≤p) (h1:p≤1098000000000):∃ t p' s',E 30 [.ptr 0 0] [cur l p s]=some (tmH t 1,[cur l p' s',JS t])∧(p≤p'∧p'≤p+40)∧t.nodes≤20:=by
 obtain ⟨v,p1,s1,hv,⟨v0,v1⟩,g1,g2⟩:=Es l hl hn 3 (by omega) (by omega) p s h0 (by omega)
 have hp3:(2:Nat) ^ (1+v).toNat≤2 ^ 3:=Nat.pow_le_pow_right (by omega) (by omega)
 obtain ⟨t,p2,s2,ht,⟨g3,g4⟩,g5⟩:=O4 l hl hn (1+v).toNat (1+v) (by omega) (by omega) p1 s1 (by omega) (by omega)
 have hp4:(2:Nat) ^ 3=8:=by decide
 refine ⟨t,p2,s2,?_,by omega,by omega⟩
 have hi:dec (inK .i64 (1+v))=true:=BA (by omega) (by omega)
 refine Ai Jy AJ (of_decide_eq_true rfl) ?_
 simp (disch:=omega) only [FQ,go_sem,Ab,hv,ht,hi,Ao,AF]
theorem Xj (l:List Int) (hl:Bytes l) (hn:l.length≤1099511627776) (p s:Int) (h0:0≤p) (h1:p≤1097000000000):∃ t p' s',E 90 [.ptr 0 0] [cur l p s]=some (tmH t 1,[cur l p' s',JS t])∧(p≤p'∧p'≤p+100)∧t.nodes≤50:=by
 obtain ⟨Q,hQ⟩:∃ Q:SV × List Ob→Prop,Q=fun out=>∃ t p' s',out=(tmH t 1,[cur l p' s',JS t])∧(p≤p'∧p'≤p+100)∧t.nodes≤50:=⟨_,rfl⟩
 suffices hq0:∃ out,E 90 [.ptr 0 0] [cur l p s]=some out∧Q out by
  obtain ⟨out,hq1,hq2⟩:=hq0
  rw [hQ] at hq2
  obtain ⟨t,p',s',rfl,hq3⟩:=hq2
  exact ⟨t,p',s',hq1,hq3⟩
 have hp4:(2:Nat) ^ 2=4:=by decide
 have e1:∀ x a,(Tm.mk x [a]).nodes=1+(a.nodes+0):=fun x a=>by rw [Tm.nodes_eq]; rfl
 have e2:∀ x a b,(Tm.mk x [a,b]).nodes=1+(a.nodes+(b.nodes+0)):=fun x a b=>by rw [Tm.nodes_eq]; rfl
 obtain ⟨v,p1,s1,hv,⟨v0,v1⟩,g1,g2⟩:=Es l hl hn 8 (by omega) (by omega) p s h0 (by omega)
 obtain ⟨ta,p2,s2,ha,⟨a3,a4⟩,a5⟩:=JT l hl hn p1 s1 (by omega) (by omega)
 obtain ⟨tb,p3,s3,hb,⟨b3,b4⟩,b5⟩:=JT l hl hn p2 s2 (by omega) (by omega)
 obtain ⟨tc,p4,s4,hc,⟨c3,c4⟩,c5⟩:=O4 l hl hn 2 2 rfl (by omega) p1 s1 (by omega) (by omega)
 obtain ⟨td,p5,s5,hd,⟨d3,d4⟩,d5⟩:=O4 l hl hn 2 2 rfl (by omega) p4 s4 (by omega) (by omega)
 rw [hp4] at c4 c5 d4 d5
 rcases (show v=0∨v=1∨v=2∨v=3∨v=4∨(¬ v=0∧¬ v=1∧¬ v=2∧¬ v=3∧¬ v=4) by omega) with rfl | rfl | rfl | rfl | rfl | ⟨k0,k1,k2,k3,k4⟩
 ·refine AS Cn AX (of_decide_eq_true rfl) ?_
  simp (disch:=omega) only [BT,go_sem,Ab,hv,ha,hb,hc,hd,Ao,AF,AJ]
  rw [hQ]
  exact ⟨.mk ⟨#[61]⟩ [ta,tb],p3,s3,rfl,by omega,by rw [e2]; omega⟩
 ·refine AS Cn AX (of_decide_eq_true rfl) ?_
  simp (disch:=omega) only [BT,go_sem,Ab,hv,ha,hb,hc,hd,Ao,AF,AJ]
  rw [hQ]
  exact ⟨.mk ⟨#[61]⟩ [ta,tb],p3,s3,rfl,by omega,by rw [e2]; omega⟩
 ·refine AS Cn AX (of_decide_eq_true rfl) ?_
  simp (disch:=omega) only [BT,go_sem,Ab,hv,ha,hb,hc,hd,Ao,AF,AJ]
  rw [hQ]
  exact ⟨.mk ⟨#[114]⟩ [],p1,s1,rfl,by omega,by rw [Tm.nodes_eq]; show 1+0≤_; omega⟩
 ·refine AS Cn AX (of_decide_eq_true rfl) ?_
  simp (disch:=omega) only [BT,go_sem,Ab,hv,ha,hb,hc,hd,Ao,AF,AJ]
  rw [hQ]
  exact ⟨.mk ⟨#[113]⟩ [tc,td],p5,s5,rfl,by omega,by rw [e2]; omega⟩
 ·refine AS Cn AX (of_decide_eq_true rfl) ?_
  simp (disch:=omega) only [BT,go_sem,Ab,hv,ha,hb,hc,hd,Ao,AF,AJ]
  rw [hQ]
  exact ⟨.mk ⟨#[113]⟩ [tc,td],p5,s5,rfl,by omega,by rw [e2]; omega⟩
 ·have k0:=eq_false k0
  have k1:=eq_false k1
  have k2:=eq_false k2
  have k3:=eq_false k3
  have k4:=eq_false k4
  refine AS Cn AX (of_decide_eq_true rfl) ?_
  simp (disch:=omega) only [BT,go_sem,Ab,hv,hc,k0,k1,k2,k3,k4,Ao,AF,AJ]
  rw [hQ]
  exact ⟨.mk ⟨#[112]⟩ [tc],p4,s4,rfl,by omega,by rw [e1]; omega⟩
def F5:SC:=(.seq (.reg [⟨(some 4),none,(.alloc 26 [(.str ⟨#[]⟩),.nil])⟩]) (.seq (.reg [⟨some 6,none,.mv (.t 0)⟩,⟨(some 7),none,(.mkrow 9 1 [(.str ⟨#[]⟩)] 2 [(0,(.c (.str ⟨#[88]⟩))),(1,(.c (.str ⟨#[97]⟩)))])⟩,⟨some 8,none,.call 13 [(.t 6),(.t 7)]⟩,⟨(some 9),none,(.build [(.str ⟨#[]⟩),.nil] [(0,(1,(.t 8)))])⟩,⟨(some 5),none,(.alloc 26 [(.str ⟨#[]⟩),.nil])⟩,⟨none,none,(.store 2 (.t 5) (.t 9))⟩]) (.seq (.block 0 (.loop [0,1,0,0,1,1,0,0,0,0,0,0,0,0,0,0,0,0] (.seq (.seq (.reg [⟨some 10,none,.mv (.t 1)⟩,⟨some 11,none,.bin .gtr false (.t 10) (.c (.int .i64 1))⟩]) (.cond (.t 11) .skip (.exit 0))) (.seq (.block 1 (.reg [⟨some 14,none,.load true 2 (.t 5)⟩,⟨(some 15),none,(.mkrow 26 2 [(.str ⟨#[]⟩),.nil] 1 [(0,(.t 14))])⟩,⟨(some 16),none,(.build [(.str ⟨#[]⟩),.nil] [(0,(1,(.c (.str ⟨#[102]⟩)))),(1,(1,(.t 15)))])⟩,⟨none,none,(.store 2 (.t 5) (.t 16))⟩])) (.reg [⟨some 12,none,.mv (.t 1)⟩,⟨some 13,none,.bin .sub false (.t 12) (.c (.int .i64 1))⟩,⟨some 1,none,.mv (.t 13)⟩]))))) (.seq (.reg [⟨some 17,none,.load true 2 (.t 5)⟩,⟨none,none,(.store 2 (.t 4) (.t 17))⟩]) .ret))))
theorem IU:Ar Tryz.prog 31=some ⟨18,F5,[(.cell 4 true 2)]⟩:=by kernel_rfl
theorem B6:modes 31=⟨[],.half [none,some (26,2)],none,false⟩:=by unfold modes; rfl
def FR:SC:=(.seq (.reg [⟨(some 2),none,(.alloc 26 [(.str ⟨#[]⟩),.nil])⟩]) (.seq (.reg [⟨(some 7),none,(.build [(.str ⟨#[]⟩),.nil] [(0,(1,(.c (.str ⟨#[103]⟩))))])⟩,⟨(some 3),none,(.alloc 26 [(.str ⟨#[]⟩),.nil])⟩,⟨none,none,(.store 2 (.t 3) (.t 7))⟩]) (.seq (.seq (.reg [⟨some 4,none,.mv (.c (.int .i64 0))⟩]) (.block 0 (.loop [1,0,1,1,1,0,0,0,0,0,0,0,0,0,0,0,0,0,0,0,0,0,0,0,0,0,0,0,0,0,0,0,0,0,0,0,0,0,0,0,0,0,0,0,0,0,0,0,0,0,0,0,0,0] (.seq (.seq (.reg [⟨some 8,none,.mv (.t 4)⟩,⟨some 9,none,.bin .lss false (.t 8) (.c (.int .i64 4))⟩]) (.cond (.t 9) .skip (.exit 0))) (.seq (.block 1 (.seq (.reg [⟨(some 12),none,(.build [(.str ⟨#[]⟩),.nil] [(0,(1,(.c (.str ⟨#[104]⟩))))])⟩,⟨(some 5),none,(.alloc 26 [(.str ⟨#[]⟩),.nil])⟩,⟨none,none,(.store 2 (.t 5) (.t 12))⟩]) (.seq (.seq (.reg [⟨some 6,none,.mv (.c (.int .i64 0))⟩]) (.block 2 (.loop [1,0,1,1,1,1,1,0,0,0,0,0,0,0,0,0,0,0,0,0,0,0,0,0,0,0,0,0,0,0,0,0,0,0,0,0,0,0,0,0,0,0,0,0,0,0,0,0,0,0,0,0,0,0] (.seq (.seq (.reg [⟨some 13,none,.mv (.t 6)⟩,⟨some 14,none,.bin .lss false (.t 13) (.c (.int .i64 4))⟩]) (.cond (.t 14) .skip (.exit 2))) (.seq (.block 3 (.reg [⟨some 17,none,.faddr 1 (.t 5)⟩,⟨some 18,none,.load false 1 (.t 17)⟩,⟨(some 19),none,(.build [(.str ⟨#[]⟩),.nil] [(0,(1,(.c (.str ⟨#[97]⟩))))])⟩,⟨(some 20),none,(.mkrow 26 2 [(.str ⟨#[]⟩),.nil] 1 [(0,(.t 19))])⟩,⟨(some 21),none,(.build [(.str ⟨#[]⟩),.nil] [(0,(1,(.c (.str ⟨#[102]⟩)))),(1,(1,(.t 20)))])⟩,⟨(some 22),none,(.mkrow 26 2 [(.str ⟨#[]⟩),.nil] 1 [(0,(.t 21))])⟩,⟨(some 23),none,(.append 26 2 40 [(.str ⟨#[]⟩),.nil] (.t 18) (.t 22))⟩,⟨some 24,none,.faddr 1 (.t 5)⟩,⟨none,none,(.store 1 (.t 24) (.t 23))⟩])) (.reg [⟨some 15,none,.mv (.t 6)⟩,⟨some 16,none,.bin .add false (.t 15) (.c (.int .i64 1))⟩,⟨some 6,none,.mv (.t 16)⟩])))))) (.reg [⟨some 25,none,.faddr 1 (.t 3)⟩,⟨some 26,none,.load false 1 (.t 25)⟩,⟨some 27,none,.load true 2 (.t 5)⟩,⟨(some 28),none,(.mkrow 26 2 [(.str ⟨#[]⟩),.nil] 1 [(0,(.t 27))])⟩,⟨(some 29),none,(.append 26 2 40 [(.str ⟨#[]⟩),.nil] (.t 26) (.t 28))⟩,⟨some 30,none,.faddr 1 (.t 3)⟩,⟨none,none,(.store 1 (.t 30) (.t 29))⟩])))) (.reg [⟨some 10,none,.mv (.t 4)⟩,⟨some 11,none,.bin .add false (.t 10) (.c (.int .i64 1))⟩,⟨some 4,none,.mv (.t 11)⟩])))))) (.seq (.seq (.reg [⟨some 31,none,.mv (.t 0)⟩,⟨some 32,none,.call 65 [(.t 31),(.c (.int .i64 2))]⟩]) (.cond (.t 32) (.reg [⟨some 33,none,.faddr 1 (.t 3)⟩,⟨some 34,none,.load false 1 (.t 33)⟩,⟨some 35,none,.slice false 2 (.t 34) none (some (.c (.int .i64 3)))⟩,⟨some 36,none,.faddr 1 (.t 3)⟩,⟨none,none,(.store 1 (.t 36) (.t 35))⟩]) .skip)) (.seq (.seq (.reg [⟨some 37,none,.mv (.t 0)⟩,⟨some 38,none,.call 65 [(.t 37),(.c (.int .i64 2))]⟩,⟨some 39,none,.mv (.t 38)⟩,⟨(some 40),(some (39,true)),(.faddr 1 (.t 3))⟩,⟨(some 41),(some (39,true)),(.load false 1 (.t 40))⟩,⟨(some 42),(some (39,true)),(.len false (.t 41))⟩,⟨(some 43),(some (39,true)),(.bin .eql false (.t 42) (.c (.int .i64 3)))⟩,⟨some 44,none,.pick (.t 39) (.t 43) (.c (.bool false))⟩]) (.cond (.t 44) (.reg [⟨some 45,none,.faddr 1 (.t 3)⟩,⟨some 46,none,.load false 1 (.t 45)⟩,⟨(some 47),none,(.build [(.str ⟨#[]⟩),.nil] [(0,(1,(.c (.str ⟨#[98]⟩))))])⟩,⟨(some 48),none,(.mkrow 26 2 [(.str ⟨#[]⟩),.nil] 1 [(0,(.t 47))])⟩,⟨(some 49),none,(.build [(.str ⟨#[]⟩),.nil] [(0,(1,(.c (.str ⟨#[102]⟩)))),(1,(1,(.t 48)))])⟩,⟨(some 50),none,(.mkrow 26 2 [(.str ⟨#[]⟩),.nil] 1 [(0,(.t 49))])⟩,⟨(some 51),none,(.append 26 2 40 [(.str ⟨#[]⟩),.nil] (.t 46) (.t 50))⟩,⟨some 52,none,.faddr 1 (.t 3)⟩,⟨none,none,(.store 1 (.t 52) (.t 51))⟩]) .skip)) (.seq (.reg [⟨some 53,none,.load true 2 (.t 3)⟩,⟨none,none,(.store 2 (.t 2) (.t 53))⟩]) .ret))))))
theorem Jz:Ar Tryz.prog 32=some ⟨54,FR,[(.cell 2 true 2)]⟩:=by kernel_rfl
theorem BB:modes 32=⟨[],.half [none,some (26,2)],none,false⟩:=by unfold modes; rfl
def Bt:SC:=(.seq (.reg [⟨(some 2),none,(.alloc 26 [(.str ⟨#[]⟩),.nil])⟩]) (.seq (.reg [⟨some 4,none,.mv (.t 0)⟩,⟨some 5,none,.call 30 [(.t 4)]⟩,⟨(some 3),none,(.alloc 26 [(.str ⟨#[]⟩),.nil])⟩,⟨none,none,(.store 2 (.t 3) (.t 5))⟩]) (.seq (.seq (.reg [⟨some 6,none,.mv (.t 0)⟩,⟨some 7,none,.call 28 [(.t 6),(.c (.int .i64 24))]⟩]) (.block 0 (.seq (.reg [⟨some 9,none,.bin .eql false (.t 7) (.c (.int .i64 0))⟩,⟨some 8,none,.mv (.t 9)⟩]) (.cond (.t 8) (.reg [⟨some 10,none,.mv (.t 0)⟩,⟨(some 11),none,(.mkrow 9 1 [(.str ⟨#[]⟩)] 14 [(0,(.c (.str ⟨#[]⟩))),(1,(.c (.str ⟨#[116,114,117,101]⟩))),(2,(.c (.str ⟨#[116,114,117,116,104]⟩))),(3,(.c (.str ⟨#[105,102]⟩))),(4,(.c (.str ⟨#[88,121,122,57]⟩))),(5,(.c (.str ⟨#[88,121,122,57,57]⟩))),(6,(.c (.str ⟨#[120,65]⟩))),(7,(.c (.str ⟨#[97,95,98]⟩))),(8,(.c (.str ⟨#[97,98,99,100,101,102]⟩))),(9,(.c (.str ⟨#[97,98,99,100,101,102,103]⟩))),(10,(.c (.str ⟨#[95,97]⟩))),(11,(.c (.str ⟨#[57]⟩))),(12,(.c (.str ⟨#[88,95]⟩))),(13,(.c (.str ⟨#[61]⟩)))])⟩,⟨some 12,none,.call 13 [(.t 10),(.t 11)]⟩,⟨some 13,none,.faddr 0 (.t 3)⟩,⟨none,none,(.store 1 (.t 13) (.t 12))⟩]) (.seq (.reg [⟨some 15,none,.bin .eql false (.t 7) (.c (.int .i64 1))⟩,⟨some 14,none,.mv (.t 15)⟩]) (.cond (.t 14) (.seq (.reg [⟨some 16,none,.mv (.t 0)⟩,⟨some 17,none,.mv (.t 0)⟩,⟨some 18,none,.call 28 [(.t 17),(.c (.int .i64 3))]⟩,⟨some 19,none,.bin .add false (.c (.int .i64 7)) (.t 18)⟩,⟨some 20,none,.call 31 [(.t 16),(.t 19)]⟩,⟨none,none,(.store 2 (.t 2) (.t 20))⟩]) .ret) (.seq (.reg [⟨some 22,none,.bin .eql false (.t 7) (.c (.int .i64 2))⟩,⟨some 21,none,.mv (.t 22)⟩]) (.cond (.t 21) (.seq (.reg [⟨some 23,none,.mv (.t 0)⟩,⟨some 24,none,.call 32 [(.t 23)]⟩,⟨none,none,(.store 2 (.t 2) (.t 24))⟩]) .ret) (.seq (.reg [⟨some 26,none,.bin .eql false (.t 7) (.c (.int .i64 3))⟩,⟨some 25,none,.mv (.t 26)⟩]) (.cond (.t 25) (.dreg [[],[0],[],[2],[],[4,3,2],[],[6,5,4,3,2],[3,2,5,4,7,6],[1,0,8,3,2,5,4,7,6],[0,1,2,3,4,5,6,7,8,9],[10,0,1,2,3,4,5,6,7,8,9]] [⟨some 27,none,.faddr 1 (.t 3)⟩,⟨some 28,none,.load false 1 (.t 27)⟩,⟨some 29,none,.mv (.t 0)⟩,⟨some 30,none,.call 30 [(.t 29)]⟩,⟨some 31,none,.mv (.t 0)⟩,⟨some 32,none,.call 30 [(.t 31)]⟩,⟨some 33,none,.mv (.t 0)⟩,⟨some 34,none,.call 30 [(.t 33)]⟩,⟨(some 35),none,(.mkrow 26 2 [(.str ⟨#[]⟩),.nil] 3 [(0,(.t 30)),(1,(.t 32)),(2,(.t 34))])⟩,⟨(some 36),none,(.append 26 2 40 [(.str ⟨#[]⟩),.nil] (.t 28) (.t 35))⟩,⟨some 37,none,.faddr 1 (.t 3)⟩,⟨none,none,(.store 1 (.t 37) (.t 36))⟩]) (.seq (.reg [⟨some 39,none,.bin .eql false (.t 7) (.c (.int .i64 4))⟩,⟨some 38,none,.mv (.t 39)⟩]) (.cond (.t 38) (.seq (.reg [⟨some 40,none,.faddr 1 (.t 3)⟩,⟨some 41,none,.load false 1 (.t 40)⟩,⟨some 42,none,.len false (.t 41)⟩,⟨some 43,none,.bin .gtr false (.t 42) (.c (.int .i64 0))⟩]) (.cond (.t 43) (.dreg [[],[0],[],[],[2,3],[],[5],[6,5],[7,6,5],[8,7,6,5],[4,2,3,9,8,7,6,5],[1,0,2,3,4,5,6,7,8,9,10],[11,1,0,2,3,4,5,6,7,8,9,10]] [⟨some 44,none,.faddr 1 (.t 3)⟩,⟨some 45,none,.load false 1 (.t 44)⟩,⟨some 46,none,.mv (.t 0)⟩,⟨(some 47),none,(.mkrow 9 1 [(.str ⟨#[]⟩)] 4 [(0,(.c (.str ⟨#[61]⟩))),(1,(.c (.str ⟨#[]⟩))),(2,(.c (.str ⟨#[81,49]⟩))),(3,(.c (.str ⟨#[98,50]⟩)))])⟩,⟨some 48,none,.call 13 [(.t 46),(.t 47)]⟩,⟨some 49,none,.faddr 1 (.t 3)⟩,⟨some 50,none,.load false 1 (.t 49)⟩,⟨some 51,none,.iaddr 2 (.t 50) (.c (.int .i64 0))⟩,⟨some 52,none,.faddr 1 (.t 51)⟩,⟨some 53,none,.load false 1 (.t 52)⟩,⟨(some 54),none,(.build [(.str ⟨#[]⟩),.nil] [(0,(1,(.t 48))),(1,(1,(.t 53)))])⟩,⟨some 55,none,.iaddr 2 (.t 45) (.c (.int .i64 0))⟩,⟨none,none,(.store 2 (.t 55) (.t 54))⟩]) .skip)) .skip)))))))))))) (.seq (.reg [⟨some 56,none,.load true 2 (.t 3)⟩,⟨none,none,(.store 2 (.t 2) (.t 56))⟩]) .ret))))
theorem B7:Ar Tryz.prog 14=some ⟨57,Bt,[(.cell 2 true 2)]⟩:=by kernel_rfl
theorem A1:modes 14=⟨[],.half [none,some (26,2)],none,false⟩:=by unfold modes; rfl
def twr (x:ByteArray):Nat→Tm
 | 0=>.mk x []
 | k+1=>.mk ⟨#[102]⟩ [twr x k]
theorem NH (x:ByteArray):∀ k,(twr x k).nodes=k+1
 | 0=>by rw [twr,Tm.nodes_eq]; rfl
 | k+1=>by
  have:(twr x (k+1)).nodes=1+((twr x k).nodes+0):=by rw [twr,Tm.nodes_eq]; rfl
  rw [this,NH x k]; omega
theorem Wu (x:ByteArray):[[OT.str x,OT.ow []]]=[Tm.mk x []].map Tm.o:=by rw [zB,zJ,Tm.o_eq]; rfl
theorem XD (x:ByteArray) (l:List Tm):[[OT.str x,OT.ow (l.map Tm.o)]]=[Tm.mk x l].map Tm.o:=by rw [zB,zJ,Tm.o_eq]; rfl
theorem Tm.Wg (x:Tm):OT.Ii x.o=x.osh:=by
 have:=Tm.QQ [x]
 simp only [zB,zJ,OT.Cq,List.cons.injEq,and_true] at this
 exact this
theorem Tm.Wh (x:Tm):OT.CR x.o=true:=by
 have:=Tm.fus [x]
 simp only [zB,zJ,OT.AH,zW] at this
 exact this
theorem Tm.ER (x:Tm):x.o.length=2:=by rw [Tm.o_eq]; rfl
abbrev tZ:Ob:=.box 26 [.str ⟨#[]⟩,.nil]
theorem Wi (l:List Int) (hl:Bytes l) (hn:l.length≤1099511627776) (m:Int) (hm:1≤m) (hm2:m≤100) (p s:Int) (h0:0≤p) (h1:p≤1099000000000):∃ t p' s',E 31 [.ptr 0 0,.int .i64 m] [cur l p s]=some (tmH t 1,[cur l p' s',JS t])∧(p≤p'∧p'≤p+1)∧t.nodes≤150:=by
 obtain ⟨Q,hQ⟩:∃ Q:SV × List Ob→Prop,Q=fun out=>∃ t p' s',out=(tmH t 1,[cur l p' s',JS t])∧(p≤p'∧p'≤p+1)∧t.nodes≤150:=⟨_,rfl⟩
 suffices hq0:∃ out,E 31 [.ptr 0 0,.int .i64 m] [cur l p s]=some out∧Q out by
  obtain ⟨out,hq1,hq2⟩:=hq0
  rw [hQ] at hq2
  obtain ⟨t,p',s',rfl,hq3⟩:=hq2
  exact ⟨t,p',s',hq1,hq3⟩
 obtain ⟨x,p1,s1,ho,_,g1,g2⟩:=PK l hl hn [⟨#[88]⟩,⟨#[97]⟩] (by decide) (by decide) p s h0 (by omega)
 simp only [zB,zJ] at ho
 refine AS IU B6 (of_decide_eq_true rfl) ?_
 simp (disch:=omega) only [F5,go_sem,Ab,ho,Au]
 refine go_loop (α:=Nat) (fun k=>⟨slots 18 0 [(1,.int .i64 (m-(k:Nat))),(4,.ptr 1 0),(5,.ptr 2 0)],(if k=0 then [cur l p1 s1,tZ,.box 26 [.str x,.nil]] else [cur l p1 s1,tZ,.box 26 [.str ⟨#[102]⟩,.ref 3],.row 26 2 ([twr x (k-1)].map Tm.o)])⟩) (fun k=>(k:Int)≤m-1) (fun k=>(m-k).toNat) 0 (by omega) (by simp (disch:=omega) only [go_sem,Ab,eq_self,if_true,Int.natCast_zero,Int.sub_zero]) ?_
 intro k hk
 by_cases hlt:1<m-(k:Int)
 ·have q1:(1<m-(k:Int))=True:=eq_true hlt
  have hi:dec (inK .i64 (m-(k:Int)-1))=true:=BA (by omega) (by omega)
  have q4:m-(k:Int)-1=m-((k+1:Nat):Int):=by omega
  have q5:(k+1=0)=False:=by simp
  have q6:k+1-1=k:=by omega
  rcases zK k with hk0 | hk0
  ·subst hk0
   have hs:=Wu x
   have q7:m-((0:Nat):Int)-1=m-((0+1:Nat):Int):=by omega
   simp (disch:=omega) only [go_sem,Ab,q1,hi,eq_self,if_true]
   refine ⟨0+1,by omega,by omega,?_⟩
   simp (disch:=omega) only [go_sem,Ab,q5,if_false,q7]
   first | rfl | (rw [hs]; rfl)
  ·obtain ⟨j,rfl⟩:∃ j,k=j+1:=⟨k-1,by omega⟩
   have hs:=XD ⟨#[102]⟩ [twr x j]
   have q8:(j+1=0)=False:=by simp
   have q9:j+1-1=j:=by omega
   simp (disch:=omega) only [go_sem,Ab,q1,hi,q8,q9,if_false]
   refine ⟨j+1+1,by omega,by omega,?_⟩
   simp (disch:=omega) only [go_sem,Ab,q5,q6,if_false,q4]
   first | rfl | (rw [hs]; rfl)
 ·have q1:(1<m-(k:Int))=False:=eq_false hlt
  have hnd:=NH x k
  rcases zK k with hk0 | hk0
  ·subst hk0
   simp (disch:=omega) only [go_sem,Ab,q1,eq_self,if_true]
   rw [hQ]
   exact ⟨twr x 0,p1,s1,rfl,by omega,by omega⟩
  ·obtain ⟨j,rfl⟩:∃ j,k=j+1:=⟨k-1,by omega⟩
   have q8:(j+1=0)=False:=by simp
   have q9:j+1-1=j:=by omega
   have hh:=Tm.Wg (twr x j)
   have hf:=Tm.Wh (twr x j)
   simp (disch:=omega) only [go_sem,Ab,q1,q8,q9,if_false,hh,hf]
   rw [hQ]
   exact ⟨twr x (j+1),p1,s1,rfl,by omega,by omega⟩
def wdF:Tm:=.mk ⟨#[102]⟩ [.mk ⟨#[97]⟩ []]
def wdP:Tm:=.mk ⟨#[104]⟩ (zH 4 wdF)
theorem ES:[OT.str ⟨#[102]⟩,OT.ow [[OT.str ⟨#[97]⟩,OT.ow []]]]=wdF.o:=by
 rw [wdF,Tm.o_eq]
 show _=[OT.str ⟨#[102]⟩,OT.ow ([Tm.mk ⟨#[97]⟩ []].map Tm.o)]
 rw [←Wu]
theorem ET:[OT.str ⟨#[104]⟩,OT.ow [wdF.o,wdF.o,wdF.o,wdF.o]]=wdP.o:=by rw [wdP,Tm.o_eq]; rfl
theorem Mi {α β:Type} (f:α→β) (x:α) (n:Nat):(zH n x).map f++[f x]=(zH (n+1) x).map f:=by
 rw [List.replicate_succ',yD]; rfl
theorem SL:wdF.nodes=2:=by rw [wdF,Tm.nodes_eq]; show 1+((Tm.mk _ []).nodes+0)=2; rw [Tm.nodes_eq]; rfl
theorem JU:wdP.nodes=9:=by
 rw [wdP,Tm.nodes_eq]
 show 1+(wdF.nodes+(wdF.nodes+(wdF.nodes+(wdF.nodes+0))))=9
 rw [SL]
theorem Xk (l:List Int) (hl:Bytes l) (hn:l.length≤1099511627776) (p s:Int) (h0:0≤p) (h1:p≤1099000000000):∃ t p' s',E 32 [.ptr 0 0] [cur l p s]=some (tmH t 1,[cur l p' s',JS t])∧(p≤p'∧p'≤p+2)∧t.nodes≤150:=by
 obtain ⟨Q,hQ⟩:∃ Q:SV × List Ob→Prop,Q=fun out=>∃ t p' s',out=(tmH t 1,[cur l p' s',JS t])∧(p≤p'∧p'≤p+2)∧t.nodes≤150:=⟨_,rfl⟩
 suffices hq0:∃ out,E 32 [.ptr 0 0] [cur l p s]=some out∧Q out by
  obtain ⟨out,hq1,hq2⟩:=hq0
  rw [hQ] at hq2
  obtain ⟨t,p',s',rfl,hq3⟩:=hq2
  exact ⟨t,p',s',hq1,hq3⟩
 have h10:((1:Int)=0)=False:=by simp
 refine AS Jz BB (of_decide_eq_true rfl) ?_
 simp (disch:=omega) only [FR,go_sem,Ab]
 refine go_loop (α:=Int) (fun i=>⟨slots 54 0 [(0,.ptr 0 0),(2,.ptr 1 0),(3,.ptr 2 0),(4,.int .i64 i)],(if i=0 then [cur l p s,tZ,.box 26 [.str ⟨#[103]⟩,.nil]] else [cur l p s,tZ,.box 26 [.str ⟨#[103]⟩,.ref 3],.row 26 2 ((zH i.toNat wdP).map Tm.o)])⟩) (fun i=>∃ k:Nat,i=k∧k≤4) (fun i=>(4-i).toNat) 0 ⟨0,rfl,by omega⟩ (by simp (disch:=omega) only [go_sem,Ab,eq_self,if_true]) ?_
 rintro i ⟨k,hi,hk⟩
 have hni:i.toNat=k:=by omega
 have hni1:(i+1).toNat=k+1:=by omega
 rcases zD k 4 with hlt | hge
 ·have q1:(i<4)=True:=eq_true (by omega)
  have hi1:(i+1=0)=False:=by simp; omega
  have hsP:=Mi Tm.o wdP k
  rcases zK k with hk0 | hk0
  ·subst hk0
   obtain rfl:i=0:=hi
   simp (disch:=omega) only [go_sem,Ab,q1,eq_self,if_true,ES,ET,zF,Tm.ER]
   refine go_loop (α:=Int) (fun j=>⟨slots 54 0 [(0,.ptr 0 0),(2,.ptr 1 0),(3,.ptr 2 0),(4,.int .i64 0),(5,.ptr 3 0),(6,.int .i64 j)],(if (0:Int)=0 then (if j=0 then [cur l p s,tZ,.box 26 [.str ⟨#[103]⟩,.nil],.box 26 [.str ⟨#[104]⟩,.nil]] else [cur l p s,tZ,.box 26 [.str ⟨#[103]⟩,.nil],.box 26 [.str ⟨#[104]⟩,.ref 4],.row 26 2 ((zH j.toNat wdF).map Tm.o)]) else (if j=0 then [cur l p s,tZ,.box 26 [.str ⟨#[103]⟩,.ref 4],.box 26 [.str ⟨#[104]⟩,.nil],.row 26 2 ((zH (0:Int).toNat wdP).map Tm.o)] else [cur l p s,tZ,.box 26 [.str ⟨#[103]⟩,.ref 4],.box 26 [.str ⟨#[104]⟩,.ref 5],.row 26 2 ((zH (0:Int).toNat wdP).map Tm.o),.row 26 2 ((zH j.toNat wdF).map Tm.o)]))⟩) (fun j=>∃ k:Nat,j=k∧k≤4) (fun j=>(4-j).toNat) 0 ⟨0,rfl,by omega⟩ (by simp (disch:=omega) only [go_sem,Ab,eq_self,if_true,ES,ET,zF,Tm.ER]) ?_
   rintro j ⟨n,hj,hn4⟩
   have hnj:j.toNat=n:=by omega
   have hnj1:(j+1).toNat=n+1:=by omega
   have hj1:(j+1=0)=False:=by simp; omega
   rcases zD n 4 with hlt2 | hge2
   ·have q2:(j<4)=True:=eq_true (by omega)
    have hsF:=Mi Tm.o wdF n
    rcases zK n with hn0 | hn0
    ·subst hn0
     obtain rfl:j=0:=hj
     simp (disch:=omega) only [go_sem,Ab,q2,eq_self,if_true,ES,ET,zF,Tm.ER]
     refine ⟨1,⟨1,rfl,by omega⟩,by omega,?_⟩
     simp (disch:=omega) only [go_sem,Ab,eq_self,if_true,h10,if_false,ES,ET,zF,Tm.ER]
    ·have hj0:(j=0)=False:=by simp; omega
     simp (disch:=omega) only [go_sem,Ab,q2,eq_self,if_true,hj0,if_false,hnj,ES,ET,zF,Tm.ER]
     refine ⟨j+1,⟨n+1,by omega,by omega⟩,by omega,?_⟩
     simp (disch:=omega) only [go_sem,Ab,eq_self,if_true,hj1,if_false,hnj,hnj1,hsF,ES,ET,zF,Tm.ER]
   ·obtain rfl:n=4:=by omega
    have hj4:j=4:=hj
    subst hj4
    have q2:((4:Int)=0)=False:=by simp
    simp (disch:=omega) only [go_sem,Ab,q2,eq_self,if_true,if_false,ES,ET,zF,Tm.ER]
    refine ⟨1,⟨1,rfl,by omega⟩,by omega,?_⟩
    simp (disch:=omega) only [go_sem,Ab,h10,if_false,ES,ET,zF,Tm.ER]
  ·have hi0:(i=0)=False:=by simp; omega
   simp (disch:=omega) only [go_sem,Ab,q1,hi0,if_false,ES,ET,zF,Tm.ER]
   refine go_loop (α:=Int) (fun j=>⟨slots 54 0 [(0,.ptr 0 0),(2,.ptr 1 0),(3,.ptr 2 0),(4,.int .i64 i),(5,.ptr 3 0),(6,.int .i64 j)],(if i=0 then (if j=0 then [cur l p s,tZ,.box 26 [.str ⟨#[103]⟩,.nil],.box 26 [.str ⟨#[104]⟩,.nil]] else [cur l p s,tZ,.box 26 [.str ⟨#[103]⟩,.nil],.box 26 [.str ⟨#[104]⟩,.ref 4],.row 26 2 ((zH j.toNat wdF).map Tm.o)]) else (if j=0 then [cur l p s,tZ,.box 26 [.str ⟨#[103]⟩,.ref 4],.box 26 [.str ⟨#[104]⟩,.nil],.row 26 2 ((zH i.toNat wdP).map Tm.o)] else [cur l p s,tZ,.box 26 [.str ⟨#[103]⟩,.ref 4],.box 26 [.str ⟨#[104]⟩,.ref 5],.row 26 2 ((zH i.toNat wdP).map Tm.o),.row 26 2 ((zH j.toNat wdF).map Tm.o)]))⟩) (fun j=>∃ k:Nat,j=k∧k≤4) (fun j=>(4-j).toNat) 0 ⟨0,rfl,by omega⟩ (by simp (disch:=omega) only [go_sem,Ab,hi0,if_false,eq_self,if_true,ES,ET,zF,Tm.ER]) ?_
   rintro j ⟨n,hj,hn4⟩
   have hnj:j.toNat=n:=by omega
   have hnj1:(j+1).toNat=n+1:=by omega
   have hj1:(j+1=0)=False:=by simp; omega
   rcases zD n 4 with hlt2 | hge2
   ·have q2:(j<4)=True:=eq_true (by omega)
    have hsF:=Mi Tm.o wdF n
    rcases zK n with hn0 | hn0
    ·subst hn0
     obtain rfl:j=0:=hj
     simp (disch:=omega) only [go_sem,Ab,q2,hi0,if_false,eq_self,if_true,ES,ET,zF,Tm.ER]
     refine ⟨1,⟨1,rfl,by omega⟩,by omega,?_⟩
     simp (disch:=omega) only [go_sem,Ab,hi0,h10,if_false,ES,ET,zF,Tm.ER]
    ·have hj0:(j=0)=False:=by simp; omega
     simp (disch:=omega) only [go_sem,Ab,q2,hi0,hj0,if_false,hnj,ES,ET,zF,Tm.ER]
     refine ⟨j+1,⟨n+1,by omega,by omega⟩,by omega,?_⟩
     simp (disch:=omega) only [go_sem,Ab,hi0,hj1,if_false,hnj,hnj1,hsF,ES,ET,zF,Tm.ER]
   ·obtain rfl:n=4:=by omega
    have hj4:j=4:=hj
    subst hj4
    have q2:((4:Int)=0)=False:=by simp
    simp (disch:=omega) only [go_sem,Ab,q2,hi0,if_false,hni,ES,ET,zF,Tm.ER]
    refine ⟨i+1,⟨k+1,by omega,by omega⟩,by omega,?_⟩
    simp (disch:=omega) only [go_sem,Ab,hi1,if_false,hni1,hsP,ES,ET,zF,Tm.ER]
 ·obtain rfl:k=4:=by omega
  have hi4:i=4:=hi
  subst hi4
  have q2:((4:Int)=0)=False:=by simp
  obtain ⟨b1,p1,s1,hb1,g1,g2⟩:=NG l hl hn 2 (by omega) (by omega) p s h0 (by omega)
  obtain ⟨b2,p2,s2,hb2,g3,g4⟩:=NG l hl hn 2 (by omega) (by omega) p1 s1 (by omega) (by omega)
  have n4:(Tm.mk ⟨#[103]⟩ (zH 4 wdP)).nodes=37:=by
   rw [Tm.nodes_eq]
   show 1+(wdP.nodes+(wdP.nodes+(wdP.nodes+(wdP.nodes+0))))=37
   rw [JU]
  have n3:(Tm.mk ⟨#[103]⟩ (zH 3 wdP)).nodes=28:=by
   rw [Tm.nodes_eq]
   show 1+(wdP.nodes+(wdP.nodes+(wdP.nodes+0)))=28
   rw [JU]
  have n5:(Tm.mk ⟨#[103]⟩ (zH 3 wdP++[.mk ⟨#[102]⟩ [.mk ⟨#[98]⟩ []]])).nodes=30:=by
   rw [Tm.nodes_eq]
   show 1+(wdP.nodes+(wdP.nodes+(wdP.nodes+((Tm.mk _ [.mk _ []]).nodes+0))))=30
   rw [JU,Tm.nodes_eq]
   show 1+(9+(9+(9+(1+((Tm.mk _ []).nodes+0)+0))))=30
   rw [Tm.nodes_eq]; rfl
  cases b1 <;> cases b2
  ·simp (disch:=omega) only [go_sem,Ab,q2,if_false,hb1,hb2,A9]
   rw [hQ]
   exact ⟨.mk ⟨#[103]⟩ (zH 4 wdP),p2,s2,rfl,by omega,by omega⟩
  ·simp (disch:=omega) only [go_sem,Ab,q2,if_false,hb1,hb2,A9]
   rw [hQ]
   exact ⟨.mk ⟨#[103]⟩ (zH 4 wdP),p2,s2,rfl,by omega,by omega⟩
  ·simp (disch:=omega) only [go_sem,Ab,q2,if_false,hb1,hb2,A9]
   rw [hQ]
   exact ⟨.mk ⟨#[103]⟩ (zH 3 wdP),p2,s2,rfl,by omega,by omega⟩
  ·simp (disch:=omega) only [go_sem,Ab,q2,if_false,hb1,hb2,A9]
   rw [hQ]
   exact ⟨.mk ⟨#[103]⟩ (zH 3 wdP++[.mk ⟨#[102]⟩ [.mk ⟨#[98]⟩ []]]),p2,s2,rfl,by omega,by omega⟩
theorem Tm.nodes_mk (x:ByteArray) (l:List Tm):(Tm.mk x l).nodes=1+Tm.nodeS l:=Tm.nodes_eq _
theorem Tm.nodeS_app:∀ (a b:List Tm),Tm.nodeS (a++b)=Tm.nodeS a+Tm.nodeS b
 | [],b=>by simp [Tm.nodeS]
 | x :: a,b=>by simp only [yK,Tm.nodeS,Tm.nodeS_app a b]; omega
theorem Tm.Xl (a b c:Tm):Tm.nodeS [a,b,c]=a.nodes+(b.nodes+(c.nodes+0)):=rfl
theorem Tm.Ux (t:Tm):t.args.length+1≤t.nodes:=by
 rw [Tm.nodes_eq]
 have:=Tm.length_le t.args
 omega
theorem NI (l:List Int) (hl:Bytes l) (hn:l.length≤1099511627776) (p s:Int) (h0:0≤p) (h1:p≤1096000000000):∃ t p' s',E 14 [.ptr 0 0] [cur l p s]=some (tmH t 1,[cur l p' s',JS t])∧(p≤p'∧p'≤p+400)∧t.nodes≤150:=by
 obtain ⟨Q,hQ⟩:∃ Q:SV × List Ob→Prop,Q=fun out=>∃ t p' s',out=(tmH t 1,[cur l p' s',JS t])∧(p≤p'∧p'≤p+400)∧t.nodes≤150:=⟨_,rfl⟩
 suffices hq0:∃ out,E 14 [.ptr 0 0] [cur l p s]=some out∧Q out by
  obtain ⟨out,hq1,hq2⟩:=hq0
  rw [hQ] at hq2
  obtain ⟨t,p',s',rfl,hq3⟩:=hq2
  exact ⟨t,p',s',hq1,hq3⟩
 obtain ⟨t,p1,s1,ht,⟨g1,g2⟩,g3⟩:=JT l hl hn p s h0 (by omega)
 obtain ⟨v,p2,s2,hv,⟨v0,v1⟩,g4,g5⟩:=Es l hl hn 24 (by omega) (by omega) p1 s1 (by omega) (by omega)
 have hal:=Tm.Ux t
 rcases (show v=0∨v=1∨v=2∨v=3∨v=4∨(¬ v=0∧¬ v=1∧¬ v=2∧¬ v=3∧¬ v=4) by omega) with rfl | rfl | rfl | rfl | rfl | ⟨k0,k1,k2,k3,k4⟩
 ·obtain ⟨x,p3,s3,ho,_,g6,g7⟩:=PK l hl hn [⟨#[]⟩,⟨#[116,114,117,101]⟩,⟨#[116,114,117,116,104]⟩,⟨#[105,102]⟩,⟨#[88,121,122,57]⟩,⟨#[88,121,122,57,57]⟩,⟨#[120,65]⟩,⟨#[97,95,98]⟩,⟨#[97,98,99,100,101,102]⟩,⟨#[97,98,99,100,101,102,103]⟩,⟨#[95,97]⟩,⟨#[57]⟩,⟨#[88,95]⟩,⟨#[61]⟩] (by decide) (by decide) p2 s2 (by omega) (by omega)
  simp only [zB,zJ] at ho
  refine AS B7 A1 (of_decide_eq_true rfl) ?_
  simp (disch:=omega) only [Bt,go_sem,Ab,ht,hv,ho,Ao,AJ,Au,B6,BB]
  rw [hQ]
  exact ⟨.mk x t.args,p3,s3,rfl,by omega,by rw [Tm.nodes_mk]; have:=Tm.nodes_eq t; omega⟩
 ·obtain ⟨u,p3,s3,hu,⟨u0,u1⟩,g6,g7⟩:=Es l hl hn 3 (by omega) (by omega) p2 s2 (by omega) (by omega)
  have hi:dec (inK .i64 (7+u))=true:=BA (by omega) (by omega)
  obtain ⟨t2,p4,s4,ho,⟨g8,g9⟩,g10⟩:=Wi l hl hn (7+u) (by omega) (by omega) p3 s3 (by omega) (by omega)
  refine AS B7 A1 (of_decide_eq_true rfl) ?_
  simp (disch:=omega) only [Bt,go_sem,Ab,ht,hv,hu,hi,ho,Ao,AJ,Au,B6,BB]
  rw [hQ]
  exact ⟨t2,p4,s4,rfl,by omega,g10⟩
 ·obtain ⟨t2,p3,s3,ho,⟨g8,g9⟩,g10⟩:=Xk l hl hn p2 s2 (by omega) (by omega)
  refine AS B7 A1 (of_decide_eq_true rfl) ?_
  simp (disch:=omega) only [Bt,go_sem,Ab,ht,hv,ho,Ao,AJ,Au,B6,BB]
  rw [hQ]
  exact ⟨t2,p3,s3,rfl,by omega,g10⟩
 ·obtain ⟨t2,p3,s3,hu,⟨a1,a2⟩,a3⟩:=JT l hl hn p2 s2 (by omega) (by omega)
  obtain ⟨t3,p4,s4,hw,⟨b1,b2⟩,b3⟩:=JT l hl hn p3 s3 (by omega) (by omega)
  obtain ⟨t4,p5,s5,hx,⟨c1,c2⟩,c3⟩:=JT l hl hn p4 s4 (by omega) (by omega)
  refine AS B7 A1 (of_decide_eq_true rfl) ?_
  simp (disch:=omega) only [Bt,go_sem,Ab,ht,hv,hu,hw,hx,Ao,AJ,Au,B6,BB]
  rw [hQ]
  refine ⟨.mk t.name (t.args++[t2,t3,t4]),p5,s5,?_,by omega,by rw [Tm.nodes_mk,Tm.nodeS_app,Tm.Xl]; have:=Tm.nodes_eq t; omega⟩
  show _=(tmH (.mk t.name (t.args++[t2,t3,t4])) 1,[cur l p5 s5,.row 26 2 ((t.args++[t2,t3,t4]).map Tm.osh)])
  rw [yD]
  rfl
 ·rcases hc:t.args with _ | ⟨a0,ar⟩
  ·have q0:((0:Int)<(t.args.length:Int))=False:=eq_false (by rw [hc]; simp)
   rw [←hc] at *
   refine AS B7 A1 (of_decide_eq_true rfl) ?_
   simp (disch:=omega) only [Bt,go_sem,Ab,ht,hv,q0,Ao,AJ,Au,B6,BB]
   rw [hQ]
   exact ⟨t,p2,s2,rfl,by omega,by omega⟩
  ·have q0:((0:Int)<(t.args.length:Int))=True:=eq_true (by rw [hc]; simp)
   obtain ⟨x,p3,s3,ho,_,g6,g7⟩:=PK l hl hn [⟨#[61]⟩,⟨#[]⟩,⟨#[81,49]⟩,⟨#[98,50]⟩] (by decide) (by decide) p2 s2 (by omega) (by omega)
   simp only [zB,zJ] at ho
   have hm:t.args.map Tm.osh=[.str a0.name,.sh (a0.args.map Tm.d)] :: ar.map Tm.osh:=by rw [hc]; rfl
   have hgl:(t.args.map Tm.osh)[0]?=some [.str a0.name,.sh (a0.args.map Tm.d)]:=by rw [hm]; rfl
   have hst:∀ y,(t.args.map Tm.osh).set 0 y=y :: ar.map Tm.osh:=fun y=>by rw [hm]; rfl
   have q1:0<t.args.length:=by rw [hc]; simp
   have hnn:t.nodes=1+(a0.nodes+Tm.nodeS ar):=by rw [Tm.nodes_eq,hc]; rfl
   refine AS B7 A1 (of_decide_eq_true rfl) ?_
   simp (disch:=omega) only [Bt,go_sem,Ab,ht,hv,q0,ho,hgl,hst,q1,Ao,AJ,Au,B6,BB]
   rw [hQ]
   refine ⟨.mk t.name (.mk x a0.args :: ar),p3,s3,?_,by omega,?_⟩
   ·rfl
   ·rw [Tm.nodes_mk]
    show 1+((Tm.mk x a0.args).nodes+Tm.nodeS ar)≤_
    rw [Tm.nodes_mk]
    have:=Tm.nodes_eq a0
    omega
 ·have k0:=eq_false k0
  have k1:=eq_false k1
  have k2:=eq_false k2
  have k3:=eq_false k3
  have k4:=eq_false k4
  refine AS B7 A1 (of_decide_eq_true rfl) ?_
  simp (disch:=omega) only [Bt,go_sem,Ab,ht,hv,k0,k1,k2,k3,k4,Ao,AJ,Au,B6,BB]
  rw [hQ]
  exact ⟨t,p2,s2,rfl,by omega,by omega⟩
abbrev iD (n:Int):List D:=[D.int n]
abbrev iO (n:Int):List OT:=[OT.int n]
theorem Mj:∀ p:List Int,OT.erss (p.map iO)=p.map iD
 | []=>rfl
 | x :: p=>by simp only [zB,OT.erss,OT.ers,OT.er,Mj p]
theorem GR:∀ p:List Int,OT.AH (p.map iO)=true
 | []=>rfl
 | x :: p=>by simp only [zB,OT.AH,OT.CR,OT.full,GR p,zL]
theorem NJ (p:List Int):(p.map iD).map (·.map D.ot)=p.map iO:=by rw [z8]; rfl
theorem JV (p:List Int):((p.map iO).all fun e=>e.length == 1)=true:=by rw [y7,zS]; intro x _; rfl
theorem JW (p:List Int):((p.map iD).all fun e=>e.length == 1)=true:=by rw [y7,zS]; intro x _; rfl
end Go.Proofs.YtkmenhhapfombaaGreat
