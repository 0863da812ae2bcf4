/-
  Texts of this claim, one behind the other, each built on those ahead of it. No condition.
-/
import Derived.Test.YtfgkiemoglcppaaGreatDoorK38b
import Derived.Shelf.Lays2
import Derived.Test.YtfgkiemoglcppaaGreatDoorChecked
import Derived.Shelf.Slices.Clone
import Derived.Shelf.Sort.Plain
import Derived.Sort.EncStr
import Derived.Shelf.Lays
import Derived.Shelf.Slices.In.SortNone
import Derived.Shelf.LaysM
import Derived.Shelf.Strconv.Itoa3
set_option maxHeartbeats 16000000
open Bool renaming and_eq_true → zA, or_eq_true → zU, and_self → zV, eq_false_iff → yQ, and_true → yR, true_and → yS, false_and → yZ
open List renaming eq_nil_of_length_eq_zero → zB, mem_cons → zC, map_cons → zD, drop_eq_getElem_cons → zE, getElem_mem → zG, drop_eq_nil_of_le → zI, drop_zero → zK, length_cons → zL, map_nil → zN, all_eq_true → zO, length_map → zQ, foldl_cons → zR, length_nil → zT, length_append → zW, pairwise_cons → zX, getD_eq_getElem?_getD → zZ, mem_map → z8, getElem?_eq_getElem → yB, any_cons → yC, map_append → yD, map_map → yF, take_succ_eq_append_getElem → yG, getElem_cons_succ → yH, length_filter_le → yI, getElem_map → yJ, all_cons → yL, append_nil → yM, getElem_of_mem → yN, take_succ_cons → yO, headD_cons → yW, nil_append → yX, range → y0
open Nat renaming lt_or_ge → zF, zero_le → zM, eq_zero_or_pos → zS, le_refl → z6, lt_of_lt_of_le → yE, add_zero → yT, zero_add → yU, mul_one → yY
open Option.some renaming inj → zH, injEq → zJ
open Prod.mk renaming injEq → zP, inj → z7
open Array renaming getD_eq_getD_getElem? → zY, getElem?_eq_getElem → yA, getElem?_eq_some_iff → yP
open Option renaming getD_some → yK
open Int renaming lt_or_le → yV
set_option maxRecDepth 100000
namespace Go.Proofs.YtfgkiemoglcppaaGreatDoor
open Go.Shelf
def so_CloneS_ren:Go.Shelf.Ren:=⟨fun | 16=>42 | n=>n,fun | 24=>36 | 9=>9 | 4=>4 | n=>n,fun | n=>n⟩
theorem KM:Go.Proofs.Lays2.n16 Tryz.prog so_CloneS_ren:={
 mixed:=by kernel_rfl,
 f16:=Tryz.func42.trans (congrArg some (by kernel_rfl)),
 t4:=Tryz.underlying4,
 a4:=Tryz.isAgg4,
 z4:=Tryz.sizeOf4,
 v4:=Tryz.zeroValue4,
 t9:=Tryz.underlying9,
 a9:=Tryz.isAgg9,
 z9:=Tryz.sizeOf9,
 v9:=Tryz.zeroValue9,
 t24:=Tryz.underlying36,
 a24:=Tryz.isAgg36,
 z24:=Tryz.sizeOf36,
 v24:=Tryz.zeroValue36,
 i9:=by kernel_rfl }
end Go.Proofs.YtfgkiemoglcppaaGreatDoor
set_option maxRecDepth 100000
set_option linter.unusedSimpArgs false
set_option linter.unusedVariables false
set_option linter.unusedSectionVars false
namespace Go.Proofs.YtfgkiemoglcppaaGreatDoor
open Go.RowKit
theorem Ig {w w':World} {I:Nat→Prop} {V:Nat→Option Value} {B:Nat→Nat→Prop} (hwf:Wf w I V B (Aw [])) (hbel:Below w.heap.size w w') {v:Value} {t:TypeId} {os:List OT} {vals:List Value} (hl:vals.length=os.length)
  (hown:w'.ownsRow w.heap.size t 1 v os.length vals) (hv:∀ i (h:i<os.length),ORep w' I (fun _=>False) os[i] (vals.getD i undef)) :
  ∃ V' B',RepV w' I V' (.ref 0) v∧FunPost w I V B [] [.row t 1 (os.map fun o=>[o])] w' I V' B':=by
 have hV0:V 0=none:=hwf.fr 0 rfl
 have hn:=hbel.size
 have gS:∀ (e:List (List OT)) (g:Nat),Aw [Ob.row t 1 e] (g+1)=.free:=fun _ _=>rfl
 obtain ⟨hx,hform⟩:=hown
 let B':Nat→Nat→Prop:=fun g b=>g=0∧w.heap.size≤b∧b<w'.heap.size∧∃ o n c,v=.slice (some ⟨b,o,none⟩) n c
 have hform2:∃ a n c,v=.slice a n c:=by
  rcases hform with ⟨rfl,_⟩ | ⟨g,cap,cur,rfl,_⟩
  ·exact ⟨_,_,_,rfl⟩
  ·exact ⟨_,_,_,rfl⟩
 have hrow:RowR w' I (B' 0) t 1 (os.map fun o=>[o]) v:=by
  rcases hform with ⟨rfl,h0⟩ | ⟨g,cap,cur,rfl,hg,hb,h1,h2,h3,h4⟩
  ·left
   have:os=[]:=zB h0
   subst this
   exact ⟨rfl,rfl⟩
  ·right
   have hlt:=(yP.1 hb).1
   refine ⟨g,cap,cur,fun _ _ _=>False,by rw [zQ],⟨rfl,hg,hlt,_,_,_,rfl⟩,hb,by rw [zQ]; exact h1,by unfold maxLen at h2; omega,h3,fun i hi=>by simp,fun _ _ _ h=>h.elim,fun _ _ _ _ _ h=>h.elim,fun i j hi hj=>?_⟩
   have hi':i<os.length:=by simpa using hi
   have hj0:j=0:=by simpa using hj
   subst hj0
   have e:cur.getD (i*1+0) undef=vals.getD i undef:=by
    have hc:i<cur.size:=by omega
    rw [←h4,yY,yT,zY,zZ,List.getElem?_take]
    simp only [yY,hi',if_true,Array.getElem?_toList]
   rw [e]
   have:=hv i hi'
   simpa using this
 refine ⟨fun g=>if g=0 then some v else V g,B',?_,?_⟩
 ·simp only [RepV]
  exact ⟨by simp,by obtain ⟨a,n,c,e⟩:=hform2; rw [e]; rfl⟩
 ·refine ⟨⟨hbel.os,⟨hbel.tape,fun h=>False.elim h⟩,hbel.output,hn,fun x hx _=>hbel.block x hx⟩,fun x hx=>hx,fun x hx=>.inl hx,fun g u hu=>?_,⟨fun x hx=>yE (hwf.ilt x hx) hn,fun g hl=>?_,fun g b hl hb=>hb.2.2.1,fun g b hl hb hI=>?_,fun g g' b hl hl' hb hb'=>?_,fun g hg=>?_,hwf.gl.keep ⟨hn,fun x _ hlt=>hbel.block x hlt⟩ fun _ h=>h⟩,fun g b hl hb=>.inr hb.2.1⟩
  ·by_cases h0:g=0
   ·subst h0; rw [hV0] at hu; cases hu
   ·simp only [if_neg h0]; exact hu
  ·cases g with
   | zero=>exact ⟨v,by simp,hrow⟩
   | succ g=>rw [gS] at hl; exact hl.elim
  ·have:=hwf.ilt b hI
   have:=hb.2.1
   omega
  ·rw [hb.1,hb'.1]
  ·cases g with
   | zero=>cases hg
   | succ g=>simp only [Nat.add_eq_zero_iff,Nat.succ_ne_self,and_false,if_false]; exact hwf.fr (g+1) rfl
theorem R7 {w:World} {I:Nat→Prop} {es:List (List D)} {v:Value} (h:DRep false w I (.arr es) v) (hsz:∀ e∈es,e.length=1) :
  (es=[]∧∃ a c,v=.slice a 0 c)∨∃ b off cap,v=.slice (some ⟨b,off,none⟩) es.length cap∧∀ i (hi:i<es.length),∃ u,w.cell? ⟨b,off+i,none⟩=some u∧∃ S,DRep false w S (es[i].headD (.int 0)) u:=by
 cases h with
 | arr S sz es a cap f Sub h1 h2 h3 h4 h5 h6 h7 =>
  rcases h3 with h3 | ⟨b,off,rfl,hS,hb,hc,_⟩
  ·left
   have he:es=[]:=zB h3
   subst he
   exact ⟨rfl,_,_,rfl⟩
  ·rcases zS es.length with h0 | h0
   ·left
    have he:es=[]:=zB h0
    subst he
    exact ⟨rfl,_,_,rfl⟩
   ·right
    have hs1:sz=1:=by rw [←h4 0 h0]; exact hsz _ (zG h0)
    subst hs1
    refine ⟨b,off,cap,rfl,fun i hi=>⟨f i 0,by have:=hc i 0 hi (by omega); simpa using this,Sub i 0,?_⟩⟩
    have hl:=hsz _ (zG hi)
    have:=h7 i 0 hi (by omega)
    have key:∀ (l:List D) (h:0<l.length),l.headD (.int 0)=l[0]:=fun l h=>by
     cases l with
     | nil=>cases h
     | cons d r=>rfl
    have e:=key es[i] (by omega)
    rw [e]
    exact this
def unS:List D→ByteArray
 | D.str s :: _=>s
 | _=>⟨#[]⟩
noncomputable def KN (xs:List SV) (ob:List Ob):Option (SV × List Ob) :=
 match xs,ob with
 | [.arr es],[]=>bif dec ((∀ e∈es,∃ s,e=[D.str s])∧es.length≤1048576) then some (.ref 0,[.row 9 1 (es.map fun e=>[OT.str (unS e)])]) else none
 | _,_=>none
theorem Q0 {xs:List SV} {ob:List Ob} {r:SV} {ob':List Ob} (h:KN xs ob=some (r,ob')):Fun Tryz.prog 42 xs ob r ob':=by
 unfold KN at h
 split at h
 ·rename_i es
  obtain ⟨h1,h2⟩:=Ay h
  obtain ⟨k1,k2⟩:=Az.1 h1
  simp only [zJ,zP] at h2
  obtain ⟨rfl,rfl⟩:=h2
  intro w I V B vs hwf hvs
  obtain ⟨v,q,rfl,hv,hvs⟩:=EC hvs
  obtain rfl:=Mv hvs
  simp only [RepV] at hv
  have hsz:∀ e∈es,e.length=1:=fun e he=>by obtain ⟨s,rfl⟩:=k1 e he; rfl
  have hmap:(es.map fun e=>[OT.str (unS e)])=((es.map fun e=>OT.str (unS e)).map fun o=>[o]):=by rw [yF]; rfl
  rcases R7 hv hsz with ⟨rfl,a,c,rfl⟩ | ⟨b,off,cap,rfl,hcell⟩
  ·cases a with
   | none =>
    have hcon:=Any.slices_Clone_string_nil KM 0 c w
    change Calls Tryz.prog 42 _ _ _ at hcon
    refine hcon.mono ?_
    rintro e w' ⟨rfl,rfl⟩
    obtain ⟨V',B',h3,h4⟩:=Ig (t:=9) (os:=[]) (vals:=[]) hwf (Below.refl _ _) rfl ⟨rfl,.inl ⟨rfl,rfl⟩⟩ (fun i h=>absurd h (by simp))
    exact ⟨_,I,V',B',rfl,h3,h4⟩
   | some a =>
    have hcon:=Any.slices_Clone_string_zero KM a c w
    change Calls Tryz.prog 42 _ _ _ at hcon
    refine hcon.mono ?_
    rintro e w' ⟨v',rfl,hown,_,hbel⟩
    obtain ⟨V',B',h3,h4⟩:=Ig (t:=9) (os:=[]) (vals:=[]) hwf hbel rfl hown (fun i h=>absurd h (by simp))
    exact ⟨_,I,V',B',rfl,h3,h4⟩
  ·obtain ⟨zs,hzs⟩:∃ zs,zs=es.map unS:=⟨_,rfl⟩
   have hzl:zs.length=es.length:=by rw [hzs,zQ]
   have hcz:∀ j (hj:j<es.length),w.cell? ⟨b,off+j,none⟩=some (Value.string (unS es[j]))∧(unS es[j]).size≤9223372036854775807:=fun j hj=>by
    obtain ⟨u,hu,S,hd⟩:=hcell j hj
    obtain ⟨s,he⟩:=k1 es[j] (zG hj)
    rw [he] at hd ⊢
    simp only [yW] at hd
    cases hd
    exact ⟨hu,by assumption⟩
   have hcon:=Any.slices_Clone_string KM b off es.length cap zs w (by omega) (by omega) (fun j hj=>by
    have hj':j<es.length:=by omega
    rw [(hcz j hj').1]
    rw [zZ,yB hj]
    simp [hzs])
   change Calls Tryz.prog 42 _ _ _ at hcon
   refine hcon.mono ?_
   rintro e w' ⟨v',rfl,hown,_,hbel⟩
   have ht:zs.take es.length=zs:=List.take_of_length_le (by omega)
   rw [ht] at hown
   have hown2:w'.ownsRow w.heap.size 9 1 v' (es.map fun e=>OT.str (unS e)).length (zs.map Value.string):=by rw [zQ]; exact hown
   obtain ⟨V',B',h3,h4⟩:=Ig (t:=9) (os:=es.map fun e=>OT.str (unS e)) (vals:=zs.map Value.string) hwf hbel (by simp [hzl]) hown2 (fun i hi=>by
    have hi':i<es.length:=by simpa using hi
    have e:(zs.map Value.string).getD i undef=Value.string (unS es[i]):=by
     rw [zZ,List.getElem?_map,yB (by omega)]
     simp [hzs]
    rw [e,yJ]
    exact .str _ _ (hcz i hi').2)
   rw [hmap]
   exact ⟨_,I,V',B',rfl,h3,h4⟩
 ·cases h
end Go.Proofs.YtfgkiemoglcppaaGreatDoor
set_option maxRecDepth 100000
set_option linter.unusedSimpArgs false
set_option linter.unusedVariables false
set_option linter.unusedSectionVars false
namespace Go.Proofs.YtfgkiemoglcppaaGreatDoor
open Go.RowKit Go.Shelf Go.Lib Go.Sort
theorem WV {w w':World} {I:Nat→Prop} {V:Nat→Option Value} {B:Nat→Nat→Prop} {t:TypeId} {sz:Nat} {es es':List (List OT)} {b cap:Nat} {cur cur':Array Value} (Sub:Nat→Nat→Nat→Prop)
  (hwf:Wf w I V B (Aw [.row t sz es])) (hv:V 0=some (.slice (some ⟨b,0,none⟩) es.length cap)) (hn:es'.length=es.length) (hs:B 0 b) (hb:w.heap[b]?=some (.cells cur t (0,0)))
  (h1:es.length≤cap) (h2:cap≤9223372036854775807) (h3:cur.size=cap*sz) (h4:∀ i (h:i<es'.length),es'[i].length=sz) (h5:∀ i j x,Sub i j x→B 0 x∧x≠b)
  (h6:∀ i j i' j' x,Sub i j x→Sub i' j' x→i=i'∧j=j')
  (hos:w'.os=w.os) (htape:TapeOk w w') (hout:w'.output=w.output) (hsz:w.heap.size≤w'.heap.size) (hblk:∀ x,x<w.heap.size→x≠b→w'.heap[x]?=w.heap[x]?)
  (hb':w'.heap[b]?=some (.cells cur' t (0,0))) (hcs:cur'.size=cur.size)
  (h7:∀ i j (h:i<es'.length) (h':j<es'[i].length),ORep w' I (Sub i j) (es'[i][j]) (cur'.getD (i*sz+j) undef)) :
  FunPost w I V B [.row t sz es] [.row t sz es'] w' I V B:=by
 have g0:∀ (e:List (List OT)),Aw [Ob.row t sz e] 0=.row t sz e:=fun _=>rfl
 have gS:∀ (e:List (List OT)) (g:Nat),Aw [Ob.row t sz e] (g+1)=.free:=fun _ _=>rfl
 have lv:∀ (e e':List (List OT)) (g:Nat),(Aw [Ob.row t sz e] g).live→(Aw [Ob.row t sz e'] g).live:=fun e e' g h=>by
  cases g with
  | zero=>trivial
  | succ g=>rw [gS] at h; exact h.elim
 have hbS:∀ x,B 0 x→HB B [Ob.row t sz es] x:=fun x hx=>⟨0,trivial,hx⟩
 refine ⟨⟨hos,htape,hout,hsz,fun x hx hn=>hblk x hx fun e=>hn (hbS x (e▸hs))⟩,fun _ h=>h,fun _ h=>.inl h,VLe.refl _,?_,fun g x hl hx=>.inl ⟨g,lv _ _ g hl,hx⟩⟩
 refine ⟨fun x hx=>yE (hwf.ilt x hx) hsz,fun g hl=>?_,fun g x hl hx=>yE (hwf.lt g x (lv _ _ g hl) hx) hsz,fun g x hl hx=>hwf.dI g x (lv _ _ g hl) hx,fun g g' x hl hl' hx hx'=>hwf.dO g g' x (lv _ _ g hl) (lv _ _ g' hl') hx hx',fun g hf=>?_,hwf.gl.keep ⟨hsz,fun x hx hlt=>hblk x hlt fun e=>hwf.dI 0 x trivial (e▸hs) hx⟩ fun _ h=>h⟩
 ·cases g with
  | zero =>
   refine ⟨_,hv,.inr ⟨b,cap,cur',Sub,by rw [hn],hs,hb',by rw [hn]; exact h1,h2,by rw [hcs]; exact h3,h4,h5,h6,h7⟩⟩
  | succ g=>rw [gS] at hl; exact hl.elim
 ·cases g with
  | zero=>cases hf
  | succ g=>exact hwf.fr (g+1) rfl
theorem UP {w:World} {I:Nat→Prop} {V:Nat→Option Value} {B:Nat→Nat→Prop} {ob:List Ob} (hwf:Wf w I V B (Aw ob)):FunPost w I V B ob ob w I V B :=
 ⟨⟨rfl,TapeOk.mk' rfl rfl,rfl,z6 _,fun _ _ _=>rfl⟩,fun _ h=>h,fun _ h=>.inl h,VLe.refl _,hwf,fun g b hl hb=>.inl ⟨g,hl,hb⟩⟩
def R8:List OT→ByteArray
 | .str s :: _=>s
 | _=>⟨#[]⟩
end Go.Proofs.YtfgkiemoglcppaaGreatDoor
set_option maxRecDepth 100000
namespace Go.Proofs.YtfgkiemoglcppaaGreatDoor
open Go.Shelf
def so_SortS_ren:Go.Shelf.Ren:=⟨fun | 190=>61 | 125=>92 | 258=>91 | 128=>117 | 129=>118 | 302=>108 | 303=>109 | 304=>110 | 305=>111 | 306=>112 | 307=>113 | 308=>114 | 309=>115 | 310=>116 | 333=>127 | 329=>128 | 330=>129 | 334=>130 | 335=>131 | 336=>132 | 344=>136 | n=>n,fun | 31=>36 | 9=>9 | 3=>3 | 46=>98 | 0=>0 | 51=>116 | 53=>49 | 4=>4 | 183=>108 | 182=>107 | 131=>113 | 5=>5 | 218=>119 | 222=>123 | 228=>127 | 229=>128 | n=>n,fun | n=>n⟩
theorem Q1:Go.Proofs.Lays.n190 Tryz.prog so_SortS_ren:={
 mixed:=by kernel_rfl,
 f125:=Tryz.func92.trans (congrArg some (by kernel_rfl)),
 f128:=Tryz.func117.trans (congrArg some (by kernel_rfl)),
 f129:=Tryz.func118.trans (congrArg some (by kernel_rfl)),
 f190:=Tryz.func61.trans (congrArg some (by kernel_rfl)),
 f258:=Tryz.func91.trans (congrArg some (by kernel_rfl)),
 f302:=Tryz.func108.trans (congrArg some (by kernel_rfl)),
 f303:=Tryz.func109.trans (congrArg some (by kernel_rfl)),
 f304:=Tryz.func110.trans (congrArg some (by kernel_rfl)),
 f305:=Tryz.func111.trans (congrArg some (by kernel_rfl)),
 f306:=Tryz.func112.trans (congrArg some (by kernel_rfl)),
 f307:=Tryz.func113.trans (congrArg some (by kernel_rfl)),
 f308:=Tryz.func114.trans (congrArg some (by kernel_rfl)),
 f309:=Tryz.func115.trans (congrArg some (by kernel_rfl)),
 f310:=Tryz.func116.trans (congrArg some (by kernel_rfl)),
 f329:=Tryz.func128.trans (congrArg some (by kernel_rfl)),
 f330:=Tryz.func129.trans (congrArg some (by kernel_rfl)),
 f333:=Tryz.func127.trans (congrArg some (by kernel_rfl)),
 f334:=Tryz.func130.trans (congrArg some (by kernel_rfl)),
 f335:=Tryz.func131.trans (congrArg some (by kernel_rfl)),
 f336:=Tryz.func132.trans (congrArg some (by kernel_rfl)),
 f344:=Tryz.func136.trans (congrArg some (by kernel_rfl)),
 t0:=Tryz.underlying0,
 a0:=Tryz.isAgg0,
 z0:=Tryz.sizeOf0,
 v0:=Tryz.zeroValue0,
 t3:=Tryz.underlying3,
 a3:=Tryz.isAgg3,
 z3:=Tryz.sizeOf3,
 v3:=Tryz.zeroValue3,
 t4:=Tryz.underlying4,
 a4:=Tryz.isAgg4,
 z4:=Tryz.sizeOf4,
 v4:=Tryz.zeroValue4,
 t5:=Tryz.underlying5,
 a5:=Tryz.isAgg5,
 z5:=Tryz.sizeOf5,
 v5:=Tryz.zeroValue5,
 t9:=Tryz.underlying9,
 a9:=Tryz.isAgg9,
 z9:=Tryz.sizeOf9,
 v9:=Tryz.zeroValue9,
 t31:=Tryz.underlying36,
 a31:=Tryz.isAgg36,
 z31:=Tryz.sizeOf36,
 v31:=Tryz.zeroValue36,
 t46:=Tryz.underlying98,
 a46:=Tryz.isAgg98,
 z46:=Tryz.sizeOf98,
 v46:=Tryz.zeroValue98,
 t51:=Tryz.underlying116,
 a51:=Tryz.isAgg116,
 z51:=Tryz.sizeOf116,
 v51:=Tryz.zeroValue116,
 t53:=Tryz.underlying49,
 a53:=Tryz.isAgg49,
 z53:=Tryz.sizeOf49,
 v53:=Tryz.zeroValue49,
 t131:=Tryz.underlying113,
 a131:=Tryz.isAgg113,
 z131:=Tryz.sizeOf113,
 v131:=Tryz.zeroValue113,
 t182:=Tryz.underlying107,
 a182:=Tryz.isAgg107,
 z182:=Tryz.sizeOf107,
 v182:=Tryz.zeroValue107,
 t183:=Tryz.underlying108,
 a183:=Tryz.isAgg108,
 z183:=Tryz.sizeOf108,
 v183:=Tryz.zeroValue108,
 t218:=Tryz.underlying119,
 a218:=Tryz.isAgg119,
 z218:=Tryz.sizeOf119,
 v218:=Tryz.zeroValue119,
 t222:=Tryz.underlying123,
 a222:=Tryz.isAgg123,
 z222:=Tryz.sizeOf123,
 v222:=Tryz.zeroValue123,
 t228:=Tryz.underlying127,
 a228:=Tryz.isAgg127,
 z228:=Tryz.sizeOf127,
 v228:=Tryz.zeroValue127,
 t229:=Tryz.underlying128,
 a229:=Tryz.isAgg128,
 z229:=Tryz.sizeOf128,
 v229:=Tryz.zeroValue128 }
end Go.Proofs.YtfgkiemoglcppaaGreatDoor
set_option maxRecDepth 100000
set_option linter.unusedSimpArgs false
set_option linter.unusedVariables false
set_option linter.unusedSectionVars false
namespace Go.Proofs.YtfgkiemoglcppaaGreatDoor
open Go.RowKit Go.Shelf Go.Lib Go.Sort
theorem O2 (w:World) (b m:Nat) (ss:List (List UInt8)) (os:Array Obj) (x:Nat) (hx:x<w.heap.size) :
  (Sort.grow (putRow encStr (Sort.ahead w m) b 0 ss.toArray) os).heap[x]?=if b=x then (w.heap[x]?).map (onCells (putCells encStr 0 ss.toArray)) else w.heap[x]?:=by
 unfold Sort.grow putRow mapBlock Sort.ahead
 have hx':x<(w.heap.modify b (onCells (putCells encStr 0 ss.toArray))).size:=by simpa using hx
 simp only [Array.getElem?_append,Array.size_modify,hx,if_true,Array.getElem?_modify]
def srt (ss:List (List UInt8)):List (List UInt8):=ss.mergeSort fun x y=>decide (x≤y)
def SB (l:List UInt8):List OT:=[.str ⟨l.toArray⟩]
noncomputable def sortStr (xs:List SV) (ob:List Ob):Option (SV × List Ob) :=
 match xs,ob with
 | [.ref 0],[.row t sz es]=>bif dec (sz=1∧(∀ e∈es,∃ s,e=[.str s])∧es.length≤1099511627776) then some (.tup [],[.row t sz ((srt (es.map fun e=>(R8 e).toList)).map SB)]) else none
 | _,_=>none
theorem ORep.Zy {w:World} {I S:Nat→Prop} {s:ByteArray} {v:Value} (h:ORep w I S (.str s) v):v=.string s∧s.size≤9223372036854775807:=by
 cases h with
 | str _ _ hz=>exact ⟨rfl,hz⟩
theorem JB (s:ByteArray):(⟨s.toList.toArray⟩:ByteArray)=s:=KF (by rw [ByteArray.toList_eq])
theorem Pr {xs:List SV} {ob:List Ob} {r:SV} {ob':List Ob} (h:sortStr xs ob=some (r,ob')):Fun Tryz.prog 61 xs ob r ob':=by
 unfold sortStr at h
 split at h
 ·rename_i t sz es
  obtain ⟨h1,h2⟩:=Ay h
  obtain ⟨rfl,hk1,hk3⟩:=Az.1 h1
  simp only [zJ,zP] at h2
  obtain ⟨rfl,rfl⟩:=h2
  intro w I V B vs hwf hvs
  obtain ⟨v,q,rfl,hv,hvs⟩:=EC hvs
  obtain rfl:=Mv hvs
  simp only [RepV] at hv
  obtain ⟨val,hval,hrow⟩:=hwf.obj 0 trivial
  rw [hv.1] at hval
  obtain rfl:=zH hval
  have hv0:=hv.1
  have hrow:RowR w I (B 0) t 1 es v:=hrow
  rcases zS es.length with h0 | h0
  ·have he:es=[]:=zB h0
   subst he
   obtain ⟨a,c,rfl,_⟩:=hrow.form
   have hcon:=Any.slices_Sort_string_none Q1 a c w
   change Calls Tryz.prog 61 _ _ _ at hcon
   refine hcon.mono ?_
   rintro e w' ⟨rfl,rfl⟩
   have e0:(srt ([].map fun e:List OT=>(R8 e).toList)).map SB=[]:=by simp [srt]
   rw [e0]
   exact ⟨_,I,V,B,rfl,by simp only [RepV,RepVs]; exact ⟨[],rfl,rfl⟩,UP hwf⟩
  ·rcases hrow with ⟨he,_⟩ | ⟨b,cap,cur,Sub,rfl,hs,hb,g1,g2,g3,g4,g5,g6,g7⟩
   ·subst he; simp at h0
   have hblt:=(yP.1 hb).1
   obtain ⟨ss,hss⟩:∃ ss,ss=es.map fun e=>(R8 e).toList:=⟨_,rfl⟩
   have hsl:ss.length=es.length:=by rw [hss]; simp
   rw [←hss]
   have cellv:∀ i (hi:i<es.length),cur[i]?=some (.string (R8 es[i]))∧(R8 es[i]).size≤9223372036854775807:=fun i hi=>by
    obtain ⟨s,he⟩:=hk1 es[i] (zG hi)
    have hlt:i<cur.size:=by rw [g3]; omega
    have l0:=g7 i 0 hi (by rw [g4 i hi]; omega)
    simp only [he,List.getElem_cons_zero,yY,yT,zY,yA hlt,yK] at l0
    rw [yA hlt,he]
    obtain ⟨z1,z2⟩:=ORep.Zy l0
    exact ⟨by rw [z1]; rfl,z2⟩
   have hH:Holds encStr w b 0 ss.toArray:=by
    intro j hj
    have hj1:j<ss.length:=by simpa using hj
    have hj':j<es.length:=by rw [←hsl]; exact hj1
    refine ⟨?_,?_⟩
    ·rw [yU,cell_of_row w b _ _ _ _ hb,(cellv j hj').1,getElem!_pos ss.toArray j hj]
     simp only [List.getElem_toArray,hss,yJ,encStr,JB]
    ·unfold World.frozen?
     rw [hb]
     simp
   have hcon:=Any.slices_Sort_string Q1 b 0 cap ss w hH hblt (by rw [hsl]; omega)
   change Calls Tryz.prog 61 _ _ _ at hcon
   rw [hsl] at hcon
   refine hcon.mono ?_
   rintro e w' ⟨rfl,m,os,rfl⟩
   refine ⟨_,I,V,B,rfl,by simp only [RepV,RepVs]; exact ⟨[],rfl,rfl⟩,?_⟩
   have hper:(srt ss).Perm ss:=List.mergeSort_perm _ _
   have hsl2:(srt ss).length=es.length:=by rw [hper.length_eq,hsl]
   have hgrow:∀ x,x<w.heap.size→x≠b→(Sort.grow (putRow encStr (Sort.ahead w m) b 0 (srt ss).toArray) os).heap[x]?=w.heap[x]?:=fun x hx hne=>by
    rw [O2 w b m _ os x hx,if_neg (fun e=>hne e.symm)]
   have hbl:(Sort.grow (putRow encStr (Sort.ahead w m) b 0 (srt ss).toArray) os).heap[b]?=some (.cells (putCells encStr 0 (srt ss).toArray cur) t (0,0)):=by
    rw [O2 w b m _ os b hblt,if_pos rfl,hb]; rfl
   have hsz:w.heap.size≤(Sort.grow (putRow encStr (Sort.ahead w m) b 0 (srt ss).toArray) os).heap.size:=by
    unfold Sort.grow
    simp [putRow,mapBlock,Sort.ahead]
   have hmem:∀ l∈ss,∃ e∈es,(R8 e).toList=l:=by
    rw [hss]
    intro l h
    exact z8.1 h
   have hstr:∀ i (hi:i<(srt ss).length),(⟨(srt ss)[i].toArray⟩:ByteArray).size≤9223372036854775807:=fun i hi=>by
    obtain ⟨e,he,heq⟩:=hmem _ (hper.mem_iff.1 (zG hi))
    obtain ⟨k,hk,rfl⟩:=yN he
    have:=(cellv k hk).2
    rw [←heq,JB]
    exact this
   refine WV (fun _ _ _=>False) hwf hv0 (by rw [zQ,hsl2]) hs hb g1 g2 g3 (fun i hi=>by rw [yJ]; rfl) (fun i j x h=>h.elim) (fun i j i' j' x h h'=>h.elim) rfl ⟨rfl,fun h=>False.elim h⟩ rfl hsz hgrow hbl (by simp [putCells]) (fun i j hi hj=>?_)
   have hi':i<(srt ss).length:=by simpa using hi
   have hj':j<1:=by simpa [SB] using hj
   obtain rfl:j=0:=by omega
   have hlt:i<cur.size:=by rw [g3]; omega
   have hc:(putCells encStr 0 (srt ss).toArray cur).getD (i*1+0) undef=.string ⟨(srt ss)[i].toArray⟩:=by
    simp only [yY,yT,putCells,zY,Array.getElem?_mapIdx,yA hlt,Option.map_some,yK,zM,true_and,yU,List.size_toArray,hi',if_true,Nat.sub_zero]
    rw [getElem!_pos (srt ss).toArray i (by simpa using hi')]
    rfl
   rw [hc]
   simp only [yJ,SB,List.getElem_cons_zero]
   exact .str _ _ (hstr i hi')
 ·cases h
end Go.Proofs.YtfgkiemoglcppaaGreatDoor
set_option maxRecDepth 100000
namespace Go.Proofs.YtfgkiemoglcppaaGreatDoor
open Go.Shelf
def so_Itoa_ren:Go.Shelf.Ren:=⟨fun | 171=>93 | 243=>119 | 246=>133 | 283=>137 | 284=>138 | 285=>139 | 286=>140 | 129=>118 | 317=>142 | 318=>143 | 319=>144 | 320=>145 | 337=>146 | 338=>147 | n=>n,fun | 3=>3 | 9=>9 | 2=>2 | 4=>4 | 171=>130 | 0=>0 | 53=>49 | 37=>22 | 5=>5 | 173=>132 | 212=>136 | 51=>116 | 20=>20 | 213=>137 | 46=>98 | 232=>138 | 233=>139 | n=>n,fun | 17=>0 | 18=>1 | 19=>2 | n=>n⟩
theorem WW:Go.Proofs.LaysM.n171 Tryz.prog so_Itoa_ren:={
 mixed:=by kernel_rfl,
 f129:=Tryz.func118.trans (congrArg some (by kernel_rfl)),
 f171:=Tryz.func93.trans (congrArg some (by kernel_rfl)),
 f243:=Tryz.func119.trans (congrArg some (by kernel_rfl)),
 f246:=Tryz.func133.trans (congrArg some (by kernel_rfl)),
 f283:=Tryz.func137.trans (congrArg some (by kernel_rfl)),
 f284:=Tryz.func138.trans (congrArg some (by kernel_rfl)),
 f285:=Tryz.func139.trans (congrArg some (by kernel_rfl)),
 f286:=Tryz.func140.trans (congrArg some (by kernel_rfl)),
 f317:=Tryz.func142.trans (congrArg some (by kernel_rfl)),
 f318:=Tryz.func143.trans (congrArg some (by kernel_rfl)),
 f319:=Tryz.func144.trans (congrArg some (by kernel_rfl)),
 f320:=Tryz.func145.trans (congrArg some (by kernel_rfl)),
 f337:=Tryz.func146.trans (congrArg some (by kernel_rfl)),
 f338:=Tryz.func147.trans (congrArg some (by kernel_rfl)),
 t0:=Tryz.underlying0,
 a0:=Tryz.isAgg0,
 z0:=Tryz.sizeOf0,
 v0:=Tryz.zeroValue0,
 t2:=Tryz.underlying2,
 a2:=Tryz.isAgg2,
 z2:=Tryz.sizeOf2,
 v2:=Tryz.zeroValue2,
 t3:=Tryz.underlying3,
 a3:=Tryz.isAgg3,
 z3:=Tryz.sizeOf3,
 v3:=Tryz.zeroValue3,
 t4:=Tryz.underlying4,
 a4:=Tryz.isAgg4,
 z4:=Tryz.sizeOf4,
 v4:=Tryz.zeroValue4,
 t5:=Tryz.underlying5,
 a5:=Tryz.isAgg5,
 z5:=Tryz.sizeOf5,
 v5:=Tryz.zeroValue5,
 t9:=Tryz.underlying9,
 a9:=Tryz.isAgg9,
 z9:=Tryz.sizeOf9,
 v9:=Tryz.zeroValue9,
 t20:=Tryz.underlying20,
 a20:=Tryz.isAgg20,
 z20:=Tryz.sizeOf20,
 v20:=Tryz.zeroValue20,
 t37:=Tryz.underlying22,
 a37:=Tryz.isAgg22,
 z37:=Tryz.sizeOf22,
 v37:=Tryz.zeroValue22,
 t46:=Tryz.underlying98,
 a46:=Tryz.isAgg98,
 z46:=Tryz.sizeOf98,
 v46:=Tryz.zeroValue98,
 t51:=Tryz.underlying116,
 a51:=Tryz.isAgg116,
 z51:=Tryz.sizeOf116,
 v51:=Tryz.zeroValue116,
 t53:=Tryz.underlying49,
 a53:=Tryz.isAgg49,
 z53:=Tryz.sizeOf49,
 v53:=Tryz.zeroValue49,
 t171:=Tryz.underlying130,
 a171:=Tryz.isAgg130,
 z171:=Tryz.sizeOf130,
 v171:=Tryz.zeroValue130,
 t173:=Tryz.underlying132,
 a173:=Tryz.isAgg132,
 z173:=Tryz.sizeOf132,
 v173:=Tryz.zeroValue132,
 t212:=Tryz.underlying136,
 a212:=Tryz.isAgg136,
 z212:=Tryz.sizeOf136,
 v212:=Tryz.zeroValue136,
 t213:=Tryz.underlying137,
 a213:=Tryz.isAgg137,
 z213:=Tryz.sizeOf137,
 t232:=Tryz.underlying138,
 a232:=Tryz.isAgg138,
 z232:=Tryz.sizeOf138,
 v232:=Tryz.zeroValue138,
 t233:=Tryz.underlying139,
 a233:=Tryz.isAgg139,
 z233:=Tryz.sizeOf139,
 v233:=Tryz.zeroValue139,
 g17:=by kernel_rfl,
 g18:=by kernel_rfl,
 g19:=by kernel_rfl,
 i0:=by kernel_rfl,
 i2:=by kernel_rfl,
 i3:=by kernel_rfl,
 i4:=by kernel_rfl,
 i5:=by kernel_rfl,
 i9:=by kernel_rfl,
 i20:=by kernel_rfl,
 i37:=by kernel_rfl,
 i46:=by kernel_rfl,
 i51:=by kernel_rfl,
 i53:=by kernel_rfl,
 i171:=by kernel_rfl,
 i173:=by kernel_rfl,
 i212:=by kernel_rfl,
 i232:=by kernel_rfl,
 i233:=by kernel_rfl,
 m17:=by kernel_rfl,
 m18:=by kernel_rfl,
 m19:=by kernel_rfl }
end Go.Proofs.YtfgkiemoglcppaaGreatDoor
set_option maxRecDepth 100000
set_option linter.unusedSimpArgs false
set_option linter.unusedVariables false
set_option linter.unusedSectionVars false
namespace Go.Proofs.YtfgkiemoglcppaaGreatDoor
open Go.RowKit
def Q2 (n:Int):ByteArray:=⟨(Lib.itoa n).toArray⟩
noncomputable def O3:List SV→Option SV
 | [.int .i64 n]=>bif dec (0≤n∧n≤1099511627776) then some (.str (Q2 n)) else none
 | _=>none
theorem O4 {n:Int} (h0:0≤n) (h1:n≤1099511627776):(Q2 n).size≤20:=by
 obtain ⟨u,rfl⟩:∃ u:Nat,n=u:=⟨n.toNat,by omega⟩
 show (Lib.itoa u).toArray.size≤20
 rw [Lib.itoa_nonneg,List.size_toArray,Lib.decDigits_length]
 rcases zS u with rfl | hu
 ·rw [Lib.nDigits_small (by omega)]; omega
 ·have:=Lib.numDigits_eq u hu (by omega)
  split at this <;> omega
theorem R9 {xs:List SV} {r:SV} (h:O3 xs=some r):Fun Tryz.prog 93 xs [] r []:=by
 unfold O3 at h
 split at h
 ·rename_i n
  obtain ⟨h1,h2⟩:=Ay h
  obtain ⟨k1,k2⟩:=Az.1 h1
  obtain rfl:=zH h2
  intro w I V B vs hwf hvs
  obtain ⟨v,q,rfl,hv,hvs⟩:=EC hvs
  obtain rfl:=Mv hvs
  obtain rfl:=WB hv
  have hcon:=Any.strconv_Itoa WW n (by omega) (by omega) w hwf.gl.2.2
  change Calls Tryz.prog 93 _ _ _ at hcon
  refine hcon.mono ?_
  rintro e w' ⟨rfl,k,os,rfl⟩
  have hsz:w.heap.size≤(Sort.grow (w.drewN k) os).heap.size:=by simp [Sort.grow,World.drewN]
  have hbl:∀ x,x<w.heap.size→(Sort.grow (w.drewN k) os).heap[x]?=w.heap[x]?:=fun x hx=>by
   simp only [Sort.grow,World.drewN]
   rw [Array.getElem?_append_left hx]
  have hno:∀ g,¬ (Aw ([]:List Ob) g).live:=fun g h=>by
   have e:Aw ([]:List Ob) g=.free:=rfl
   rw [e] at h
   exact h
  refine ⟨_,I,V,B,rfl,?_,⟨⟨rfl,⟨rfl,fun h=>False.elim h⟩,rfl,hsz,fun x hx _=>hbl x hx⟩,fun _ h=>h,fun _ h=>.inl h,VLe.refl _,⟨fun x hx=>yE (hwf.ilt x hx) hsz,fun g hl=>(hno g hl).elim,fun g x hl=>(hno g hl).elim,fun g x hl=>(hno g hl).elim,fun g g' x hl=>(hno g hl).elim,fun g hg=>hwf.fr g rfl,hwf.gl.keep ⟨hsz,fun x _ hx=>hbl x hx⟩ fun _ h=>h⟩,fun g x hl=>(hno g hl).elim⟩⟩
  have:=O4 k1 k2
  simp only [RepV]
  exact ⟨rfl,by omega⟩
 ·cases h
def SD:List (Nat × FM)→Nat→FM
 | [],_=>⟨[],.asis,none,false⟩
 | (f,m) :: r,g=>bif f == g then m else SD r g
theorem T0 {l:List (Nat × FM)} {f:Nat} {g:List SV→List Ob→Option (SV × List Ob)} (h:(SD l f).ext=some g):∃ m,(f,m)∈l∧m.ext=some g:=by
 induction l with
 | nil=>cases h
 | cons x r ih =>
  obtain ⟨f',m⟩:=x
  simp only [SD] at h
  cases e:f' == f with
  | true =>
   rw [e] at h
   obtain rfl:f'=f:=by simpa using e
   exact ⟨m,by simp,h⟩
  | false =>
   rw [e] at h
   obtain ⟨m',h1,h2⟩:=ih h
   exact ⟨m',by simp [h1],h2⟩
noncomputable def Z3:List SV→Option SV
 | [.int .i64 k]=>bif dec (1≤k)&&dec (k≤1099511627776) then some (.str (Zf k)) else none
 | _=>none
def UQ:List SV→Option SV
 | [.str s]=>some (.bool (Bz s))
 | _=>none
theorem T1 {xs:List SV} {r:SV} (h:UQ xs=some r):Fun Tryz.prog 55 xs [] r []:=by
 unfold UQ at h
 split at h
 ·rename_i s
  obtain rfl:=zH h
  refine Fun.of_same (rv:=.bool (Bz s)) (fun w I V=>by simp only [RepV]) fun w I V vs h=>?_
  obtain ⟨v,r,rfl,h3,h⟩:=EC h
  obtain rfl:=Mv h
  obtain ⟨rfl,h4⟩:=LR h3
  exact My s w h4
 ·cases h
def UR:List SV→Option SV
 | [.str s]=>some (.bool (Bz s))
 | _=>none
theorem T2 {xs:List SV} {r:SV} (h:UR xs=some r):Fun Tryz.prog 96 xs [] r []:=by
 unfold UR at h
 split at h
 ·rename_i s
  obtain rfl:=zH h
  refine Fun.of_same (rv:=.bool (Bz s)) (fun w I V=>by simp only [RepV]) fun w I V vs h=>?_
  obtain ⟨v,r,rfl,h3,h⟩:=EC h
  obtain rfl:=Mv h
  obtain ⟨rfl,h4⟩:=LR h3
  exact Tz s w h4
 ·cases h
def US:List SV→Option SV
 | [.str s]=>some (.bool (Ep s))
 | _=>none
theorem T3 {xs:List SV} {r:SV} (h:US xs=some r):Fun Tryz.prog 86 xs [] r []:=by
 unfold US at h
 split at h
 ·rename_i s
  obtain rfl:=zH h
  refine Fun.U7 (rv:=.bool (Ep s)) (fun w I V=>by simp only [RepV]) fun w I V vs h=>?_
  obtain ⟨v,r,rfl,h3,h⟩:=EC h
  obtain rfl:=Mv h
  obtain ⟨rfl,h4⟩:=LR h3
  exact Pp s w h4
 ·cases h
def UT:List SV→Option SV
 | [.str s]=>some (.bool (Ep s))
 | _=>none
theorem T4 {xs:List SV} {r:SV} (h:UT xs=some r):Fun Tryz.prog 122 xs [] r []:=by
 unfold UT at h
 split at h
 ·rename_i s
  obtain rfl:=zH h
  refine Fun.of_same (rv:=.bool (Ep s)) (fun w I V=>by simp only [RepV]) fun w I V vs h=>?_
  obtain ⟨v,r,rfl,h3,h⟩:=EC h
  obtain rfl:=Mv h
  obtain ⟨rfl,h4⟩:=LR h3
  exact Pq s w h4
 ·cases h
noncomputable def modes:FuncId→FM:=SD [(55,⟨[],.asis,some (Ke UQ),false⟩),(96,⟨[],.asis,some (Ke UR),false⟩),(86,⟨[],.asis,some (Ke US),false⟩),(122,⟨[],.asis,some (Ke UT),false⟩),(61,⟨[true],.asis,some sortStr,false⟩),(42,⟨[],.asis,some KN,false⟩),(93,⟨[],.asis,some (Ke O3),false⟩),(88,⟨[],.own [some (26,2)],none,false⟩),(67,⟨[],.frz,none,false⟩),(8,⟨[],.frz,none,false⟩),(106,⟨[true],.asis,none,false⟩),(31,⟨[],.own [none,none,some (26,2),none,some (29,5)],none,false⟩),(28,⟨[],.own [none,none,some (26,2),none,some (29,5)],none,false⟩),(18,⟨[],.own [none,none,some (26,2),none,some (29,5)],none,false⟩),(29,⟨[true],.own [none,none,some (26,2),none,some (29,5)],none,false⟩),(62,⟨[true],.own [none,none,some (26,2),none,some (29,5)],none,false⟩),(30,⟨[false,true,true],.own [none,none,some (26,2),none,some (29,5)],none,false⟩),(17,⟨[true],.own [none,none,some (26,2),none,some (29,5),none],none,false⟩),(6,⟨[],.own [none,none,some (26,2),none,some (29,5),none],none,false⟩),(37,⟨[],.frz,none,false⟩),(38,⟨[],.frz,none,false⟩),(39,⟨[],.frz,none,false⟩),(21,⟨[],.frz,none,false⟩),(60,⟨[true],.asis,none,false⟩),(63,⟨[],.own [none,some (26,2)],none,false⟩),(34,⟨[],.own [none,none,some (26,2),none,some (29,5)],none,false⟩),(65,⟨[],.own [none,none,some (26,2),none,some (29,5)],none,false⟩),(19,⟨[],.own [none,none,some (26,2),none,some (29,5)],none,false⟩),(7,⟨[],.own [none,none,some (26,2),none,some (29,5),none],none,false⟩),(100,⟨[],.half [none,some (26,2)],none,false⟩),(76,⟨[],.half [none,some (26,2)],none,false⟩),(98,⟨[],.half [none,some (26,2)],none,false⟩),(77,⟨[],.half [none,some (26,2)],none,false⟩),(78,⟨[],.half [none,some (26,2)],none,false⟩),(52,⟨[],.half [none,some (26,2)],none,false⟩),(74,⟨[],.half [none,none,some (26,2),none,some (29,5)],none,false⟩),(49,⟨[],.half [none,none,some (26,2),none,some (29,5)],none,false⟩),(25,⟨[],.half [none,none,some (26,2),none,some (29,5)],none,false⟩),(15,⟨[],.frz,none,false⟩),(11,⟨[],.frz,none,false⟩),(5,⟨[],.frz,none,false⟩)]
theorem noExt {l:List (Nat × FM)} (h:(l.all fun p=>p.2.ext.isNone)=true) {f:Nat} {m:FM} {g:List SV→List Ob→Option (SV × List Ob)} (h1:(f,m)∈l) (h2:m.ext=some g):False:=by
 have h3:=zO.1 h _ h1
 rw [h2] at h3
 cases h3
theorem RA:LS Tryz.prog modes:=by
 intro f g xs ob r ob' hg hx
 obtain ⟨m,h1,h2⟩:=T0 hg
 rcases zC.1 h1 with h1 | h1
 ·obtain ⟨rfl,rfl⟩:=z7 h1
  obtain rfl:=zH h2
  exact Ha T1 hx
 rcases zC.1 h1 with h1 | h1
 ·obtain ⟨rfl,rfl⟩:=z7 h1
  obtain rfl:=zH h2
  exact Ha T2 hx
 rcases zC.1 h1 with h1 | h1
 ·obtain ⟨rfl,rfl⟩:=z7 h1
  obtain rfl:=zH h2
  exact Ha T3 hx
 rcases zC.1 h1 with h1 | h1
 ·obtain ⟨rfl,rfl⟩:=z7 h1
  obtain rfl:=zH h2
  exact Ha T4 hx
 rcases zC.1 h1 with h1 | h1
 ·obtain ⟨rfl,rfl⟩:=z7 h1
  obtain rfl:=zH h2
  exact Pr hx
 rcases zC.1 h1 with h1 | h1
 ·obtain ⟨rfl,rfl⟩:=z7 h1
  obtain rfl:=zH h2
  exact Q0 hx
 rcases zC.1 h1 with h1 | h1
 ·obtain ⟨rfl,rfl⟩:=z7 h1
  obtain rfl:=zH h2
  exact Ha R9 hx
 exact (noExt rfl h1 h2).elim
noncomputable def E:FEnv:=ev Tryz.prog modes
noncomputable def calls:CallF:=De modes E
theorem Yb {f:FuncId} {xs:List SV} {ob:List Ob} {r:SV} {ob':List Ob} (h:E f xs ob=some (r,ob')):Fun Tryz.prog f xs ob r ob':=WU XX RA f xs ob r ob' h
noncomputable def run (n0:Nat):SC→St→Option (X × St):=fr Tryz.prog calls (JA n0)
def go (n0:Nat) (sc:SC) (st:St) (K:X→St→Prop):Prop:=∃ x st',run n0 sc st=some (x,st')∧K x st'
def WX (n0:Nat) (b:SC) (K:X→St→Prop):X→St→Prop
 | .normal,st=>go n0 b st K
 | .exit i,st=>K (.exit i) st
 | .ret,st=>K .ret st
def blk (id:Nat) (K:X→St→Prop):X→St→Prop
 | .normal,st=>K .normal st
 | .exit i,st=>if i=id then K .normal st else K (.exit i) st
 | .ret,st=>K .ret st
def UU (r:Option St) (k:X→St→Prop):Prop :=
 match r with
 | some st=>k .normal st
 | none=>False
def UV (anc:List (List Nat)) (r:Option (List Ent × St)) (k:X→St→Prop):Prop :=
 match r with
 | some (es,st)=>obB anc [] (Jy es) 0=true∧k .normal st
 | none=>False
def MJ (v:SV) (a b:Unit→Prop):Prop :=
 match v with
 | .bool true=>a ()
 | .bool false=>b ()
 | _=>False
noncomputable def RB (ops:List SOper) (st:St):Option St:=M0 Tryz.prog calls ops st
noncomputable def RC (ops:List SOper) (acc:List Ent) (st:St):Option (List Ent × St):=GU Tryz.prog calls ops acc st
section
variable {n0:Nat} {st:St} {K:X→St→Prop}
theorem go_skip:go n0 .skip st K=K .normal st:=by
 refine propext ⟨fun ⟨x,st',h,k⟩=>?_,fun k=>⟨_,_,rfl,k⟩⟩
 obtain ⟨rfl,rfl⟩:X.normal=x∧st=st':=by simpa [run,fr] using h
 exact k
theorem WY {i:Nat}:go n0 (.exit i) st K=K (.exit i) st:=by
 refine propext ⟨fun ⟨x,st',h,k⟩=>?_,fun k=>⟨_,_,rfl,k⟩⟩
 obtain ⟨rfl,rfl⟩:X.exit i=x∧st=st':=by simpa [run,fr] using h
 exact k
theorem go_ret:go n0 .ret st K=K .ret st:=by
 refine propext ⟨fun ⟨x,st',h,k⟩=>?_,fun k=>⟨_,_,rfl,k⟩⟩
 obtain ⟨rfl,rfl⟩:X.ret=x∧st=st':=by simpa [run,fr] using h
 exact k
theorem Yc {ops:List SOper}:go n0 (.reg ops) st K=UU (RB ops st) K:=by
 unfold UU RB
 refine propext ⟨fun ⟨x,st',h,k⟩=>?_,fun k=>?_⟩
 ·simp only [run,fr] at h
  split at h
  ·rename_i s hs
   simp only [zJ,zP] at h
   obtain ⟨rfl,rfl⟩:=h
   first | exact k | (simp only [hs]; exact k)
  ·cases h
 ·split at k
  ·rename_i s hs
   exact ⟨.normal,s,by simp only [run,fr,hs],k⟩
  ·exact k.elim
theorem WZ {anc:List (List Nat)} {ops:List SOper}:go n0 (.dreg anc ops) st K=UV anc (RC ops [] st) K:=by
 unfold UV RC
 refine propext ⟨fun ⟨x,st',h,k⟩=>?_,fun k=>?_⟩
 ·simp only [run,fr] at h
  split at h
  ·rename_i es s hs
   obtain ⟨h1,h2⟩:=Ay h
   simp only [zJ,zP] at h2
   obtain ⟨rfl,rfl⟩:=h2
   first | exact ⟨h1,k⟩ | (simp only [hs]; exact ⟨h1,k⟩)
  ·cases h
 ·split at k
  ·rename_i es s hs
   exact ⟨.normal,s,by simp only [run,fr,hs,k.1,cond_true],k.2⟩
  ·exact k.elim
theorem Yd {a b:SC}:go n0 (.seq a b) st K=go n0 a st (WX n0 b K):=by
 refine propext ⟨fun ⟨x,st',h,k⟩=>?_,fun ⟨x,st',h,k⟩=>?_⟩
 ·simp only [run,fr,CV] at h
  split at h
  ·rename_i s hs
   exact ⟨.normal,s,hs,x,st',h,k⟩
  ·rename_i i s hs
   simp only [zJ,zP] at h
   obtain ⟨rfl,rfl⟩:=h
   exact ⟨_,_,hs,k⟩
  ·rename_i s hs
   simp only [zJ,zP] at h
   obtain ⟨rfl,rfl⟩:=h
   exact ⟨_,_,hs,k⟩
  ·cases h
 ·simp only [run] at h
  cases x with
  | normal =>
   obtain ⟨x2,st2,h2,k2⟩:=k
   exact ⟨x2,st2,by simp only [run,fr,CV,h]; exact h2,k2⟩
  | exit i=>exact ⟨_,st',by simp only [run,fr,CV,h],k⟩
  | ret=>exact ⟨_,st',by simp only [run,fr,CV,h],k⟩
theorem UW {id:Nat} {b:SC}:go n0 (.block id b) st K=go n0 b st (blk id K):=by
 refine propext ⟨fun ⟨x,st',h,k⟩=>?_,fun ⟨x,st',h,k⟩=>?_⟩
 ·simp only [run,fr,Hz] at h
  split at h
  ·rename_i s hs
   simp only [zJ,zP] at h
   obtain ⟨rfl,rfl⟩:=h
   exact ⟨.normal,s,hs,k⟩
  ·rename_i i s hs
   refine ⟨.exit i,s,hs,?_⟩
   simp only [blk]
   by_cases hi:i=id
   ·simp only [if_pos hi,zJ,zP] at h ⊢
    obtain ⟨rfl,rfl⟩:=h
    exact k
   ·simp only [if_neg hi,zJ,zP] at h ⊢
    obtain ⟨rfl,rfl⟩:=h
    exact k
  ·rename_i s hs
   simp only [zJ,zP] at h
   obtain ⟨rfl,rfl⟩:=h
   exact ⟨_,s,hs,k⟩
  ·cases h
 ·simp only [run] at h
  cases x with
  | normal=>exact ⟨_,st',by simp only [run,fr,Hz,h],k⟩
  | exit i =>
   simp only [blk] at k
   by_cases hi:i=id
   ·simp only [if_pos hi] at k
    exact ⟨.normal,st',by simp only [run,fr,Hz,h,if_pos hi],k⟩
   ·simp only [if_neg hi] at k
    exact ⟨.exit i,st',by simp only [run,fr,Hz,h,if_neg hi],k⟩
  | ret=>exact ⟨_,st',by simp only [run,fr,Hz,h],k⟩
theorem Ab {q:SX} {a b:SC}:go n0 (.cond q a b) st K=MJ (AC (gets st.sl) q) (fun _=>go n0 a st K) (fun _=>go n0 b st K):=by
 unfold MJ
 refine propext ⟨fun ⟨x,st',h,k⟩=>?_,fun k=>?_⟩
 ·simp only [run,fr] at h
  split at h
  ·rename_i t ht
   simp only [ht]
   cases t with
   | true=>exact ⟨x,st',h,k⟩
   | false=>exact ⟨x,st',h,k⟩
  ·cases h
 ·split at k
  ·rename_i ht
   obtain ⟨x,st',h,k⟩:=k
   exact ⟨x,st',by simp only [run,fr,ht,cond_true]; exact h,k⟩
  ·rename_i ht
   obtain ⟨x,st',h,k⟩:=k
   exact ⟨x,st',by simp only [run,fr,ht,cond_false]; exact h,k⟩
  ·exact k.elim
theorem Xa {a b:Unit→Prop}:MJ (.bool true) a b=a ():=rfl
theorem Xb {a b:Unit→Prop}:MJ (.bool false) a b=b ():=rfl
theorem Xc {t:Bool} {a b:Unit→Prop}:MJ (.bool (!t)) a b=MJ (.bool t) b a:=by cases t <;> rfl
theorem A2 {q:SX} {a b:SC} (h:AC (gets st.sl) q=.bool true) (k:go n0 a st K):go n0 (.cond q a b) st K:=by rw [Ab,h]; exact k
theorem A3 {q:SX} {a b:SC} (h:AC (gets st.sl) q=.bool false) (k:go n0 b st K):go n0 (.cond q a b) st K:=by rw [Ab,h]; exact k
theorem Q3 {t:Bool} {a b:Unit→Prop} (h1:t=true→a ()) (h2:t=false→b ()):MJ (.bool t) a b:=by
 cases t with
 | true=>exact h1 rfl
 | false=>exact h2 rfl
theorem Ye {b:SC}:WX n0 b K .normal st=go n0 b st K:=rfl
theorem Yf {b:SC} {i:Nat}:WX n0 b K (.exit i) st=K (.exit i) st:=rfl
theorem Yg {b:SC}:WX n0 b K .ret st=K .ret st:=rfl
theorem Zg {id:Nat}:blk id K .normal st=K .normal st:=rfl
theorem Zh {id i:Nat}:blk id K (.exit i) st=if i=id then K .normal st else K (.exit i) st:=rfl
theorem Zi {id:Nat}:blk id K .ret st=K .ret st:=rfl
theorem Xd:UU (some st) K=K .normal st:=rfl
def quiet:List Ent→Bool
 | []=>true
 | ⟨_,_,[],_⟩ :: r=>quiet r
 | ⟨_,_,_ :: _,_⟩ :: _=>false
theorem ML {anc:List (List Nat)} {rd:List Nat} {j:Nat}:∀ {l:List Ent} {i:Nat},quiet l=true→Rf anc rd [] j (Jy l) i=true
 | [],i,_=>rfl
 | ⟨_,_,[],rdi⟩ :: r,i,h=>by
  have:=ML (anc:=anc) (rd:=rd) (j:=j) (l:=r) (i:=i+1) h
  simp only [Jy,zD,zN] at this ⊢
  simp only [Rf,this,yR]
  have e1:meets [] (rd++[])=false:=rfl
  have e2:meets rdi []=false:=by cases rdi <;> simp [meets]
  rw [e1,e2]; rfl
theorem T5 {l l':List Ent} (h:quiet l=true) (h':quiet l'=true):quiet (l++l')=true:=by
 induction l with
 | nil=>exact h'
 | cons x r ih =>
  obtain ⟨a,b,c,d⟩:=x
  cases c with
  | nil=>exact ih h
  | cons _ _=>cases h
theorem O5 {anc:List (List Nat)}:∀ {l pre:List Ent} {j:Nat},quiet pre=true→quiet l=true→obB anc (Jy pre) (Jy l) j=true
 | [],pre,j,_,_=>rfl
 | ⟨a,b,[],rd⟩ :: r,pre,j,hp,h=>by
  have e:=O5 (anc:=anc) (l:=r) (pre:=pre++[⟨a,b,[],rd⟩]) (j:=j+1) (T5 hp rfl) h
  have e2:=ML (anc:=anc) (rd:=rd) (j:=j) (i:=0) hp
  simp only [Jy,yD,zD,zN] at e e2 ⊢
  simp only [obB,e2,e,zV]
theorem Xe {anc:List (List Nat)} {es:List Ent}:UV anc (some (es,st)) K=match quiet es with
  | true=>K .normal st
  | false=>obB anc [] (Jy es) 0=true∧K .normal st:=by
 show (obB anc [] (Jy es) 0=true∧K .normal st)=_
 cases h:quiet es with
 | true=>exact propext ⟨fun h=>h.2,fun h'=>⟨O5 (pre:=[]) rfl h,h'⟩⟩
 | false=>rfl
noncomputable def Yh (r:List SOper) (e:Option (Ent × St)):Option St :=
 match e with
 | some (_,st)=>RB r st
 | none=>none
noncomputable def Yi (r:List SOper) (acc:List Ent) (e:Option (Ent × St)):Option (List Ent × St) :=
 match e with
 | some (x,st)=>RC r (acc++[x]) st
 | none=>none
noncomputable def opF (so:SOp) (sl:List SV) (ob:List Ob):Option R3:=fOp Tryz.prog calls so sl ob
theorem UX:RB [] st=some st:=rfl
theorem T6 {d:Option Tmp} {so:SOp} {r:List SOper} {sl:List SV} {ob:List Ob}:RB (⟨d,none,so⟩ :: r) ⟨sl,ob⟩=Yh r (IR d ⟨sl,ob⟩ (opF so sl ob)):=rfl
noncomputable def gdF (d:Option Tmp) (so:SOp) (want:Bool) (sl:List SV) (ob:List Ob) (v:SV):Option (Ent × St) :=
 match v with
 | .bool b=>bif Rs b want then IR d ⟨sl,ob⟩ (opF so sl ob) else some (⟨false,.tup [],[],[]⟩,⟨FP sl d (.tup []),ob⟩)
 | .tup []=>some (⟨false,.tup [],[],[]⟩,⟨FP sl d (.tup []),ob⟩)
 | _=>none
theorem Xf {d:Option Tmp} {k:Nat} {want:Bool} {so:SOp} {r:List SOper} {sl:List SV} {ob:List Ob}:RB (⟨d,some (k,want),so⟩ :: r) ⟨sl,ob⟩=Yh r (gdF d so want sl ob (gets sl k)):=rfl
theorem UY {acc:List Ent}:RC [] acc st=some (acc,st):=rfl
theorem T7 {d:Option Tmp} {so:SOp} {r:List SOper} {acc:List Ent} {sl:List SV} {ob:List Ob}:RC (⟨d,none,so⟩ :: r) acc ⟨sl,ob⟩=Yi r acc (IR d ⟨sl,ob⟩ (opF so sl ob)):=rfl
theorem Xg {d:Option Tmp} {k:Nat} {want:Bool} {so:SOp} {r:List SOper} {acc:List Ent} {sl:List SV} {ob:List Ob}:RC (⟨d,some (k,want),so⟩ :: r) acc ⟨sl,ob⟩=Yi r acc (gdF d so want sl ob (gets sl k)):=rfl
theorem Yj {r:List SOper} {e:Ent}:Yh r (some (e,st))=RB r st:=rfl
theorem Yk {r:List SOper} {acc:List Ent} {e:Ent}:Yi r acc (some (e,st))=RC r (acc++[e]) st:=rfl
theorem Zj {d:Option Tmp} {so:SOp} {sl:List SV} {ob:List Ob}:gdF d so true sl ob (.bool true)=IR d ⟨sl,ob⟩ (opF so sl ob):=rfl
theorem Yl {d:Option Tmp} {so:SOp} {sl:List SV} {ob:List Ob}:gdF d so false sl ob (.bool false)=IR d ⟨sl,ob⟩ (opF so sl ob):=rfl
theorem Ym {d:Option Tmp} {so:SOp} {sl:List SV} {ob:List Ob}:gdF d so true sl ob (.bool false)=some (⟨false,.tup [],[],[]⟩,⟨FP sl d (.tup []),ob⟩):=rfl
theorem Yn {d:Option Tmp} {so:SOp} {sl:List SV} {ob:List Ob}:gdF d so false sl ob (.bool true)=some (⟨false,.tup [],[],[]⟩,⟨FP sl d (.tup []),ob⟩):=rfl
theorem Zk {d:Option Tmp} {so:SOp} {want:Bool} {sl:List SV} {ob:List Ob}:gdF d so want sl ob (.tup [])=some (⟨false,.tup [],[],[]⟩,⟨FP sl d (.tup []),ob⟩):=rfl
theorem Yo {d:Option Tmp} {x:SV} {rd:List Nat}:IR d st (some (x,[],rd))=some (⟨true,x,[],rd⟩,⟨FP st.sl d x,st.ob⟩):=rfl
theorem Yp {d:Option Tmp} {x:SV} {q:Nat × Ob} {u:List (Nat × Ob)} {rd:List Nat}:IR d st (some (x,q :: u,rd))=bif Tq (D7 st.ob (q :: u)).length (q :: u) then some (⟨true,x,q :: u,rd⟩,⟨FP st.sl d x,D7 st.ob (q :: u)⟩) else none:=rfl
def Q4 (ob:List Ob) (xs:List SV) (sel:List Nat) (r:Option (SV × List Ob)) (n:Nat):Option R3 :=
 match r with
 | some (r,fob')=>bif decide (n≤fob'.length) then some (Gw sel (BI sel xs) ob.length r fob') else none
 | none=>none
def Yq (hd:List Bool) (f:FuncId) (xs:List SV) (ob:List Ob) (sel:List Nat) (e:List SV→List Ob→Option (SV × List Ob)) (b:Option (List Ob)):Option R3 :=
 match b with
 | some fob=>bif nodupB sel&&J7 ob.length sel&&Hx fob.length fob then Q4 ob xs sel (e (Gv hd (Aw ob) sel xs) fob) fob.length else none
 | none=>none
def UZ (hd:List Bool) (f:FuncId) (xs:List SV) (ob:List Ob) (sel:List Nat) (e:List SV→List Ob→Option (SV × List Ob)):Option R3:=Yq hd f xs ob sel e (F7 sel ob sel)
theorem Va {f:FuncId} {xs:List SV} {ob:List Ob}:calls f xs ob=Fi (modes f).res (UZ (modes f).hand f xs ob (reach ob 64 (GY (modes f).hand xs) []) (E f)):=rfl
theorem Yr {r:Option R3}:Fi .asis r=r:=rfl
theorem Ys {r:Option R3}:Fi .frz r=r:=rfl
theorem Yt {l:List (Option (Nat × Nat))} {r:Option R3}:Fi (.own l) r=r:=rfl
theorem Yu {l:List (Option (Nat × Nat))} {r:Option R3}:Fi (.half l) r=r:=rfl
theorem Yv {l:List (Option (Nat × Nat))} {r:Option R3}:Fi (.tr l) r=r:=rfl
theorem Yw {l:List Nat} {r:Option R3}:Fi (.frl l) r=r:=rfl
theorem Yx {r:R3}:Fi .late (some r)=Qp r:=rfl
theorem JC:∀ u:List (Nat × Ob),DO [] u=u
 | []=>rfl
 | (g,o) :: u=>by rw [DO,JC u]; rfl
theorem Yy {m:RM} {b:Bool} {u:List (Nat × Ob)} {rd:List Nat}:Fi m (some (.bool b,u,rd))=some (.bool b,u,rd):=by
 cases m <;> first | rfl | (show some (SV.bool b,DO [] u,rd)=_; rw [JC])
theorem Yz {m:RM} {k:IntKind} {n:Int} {u:List (Nat × Ob)} {rd:List Nat}:Fi m (some (.int k n,u,rd))=some (.int k n,u,rd):=by
 cases m <;> first | rfl | (show some (SV.int k n,DO [] u,rd)=_; rw [JC])
theorem T8 {hd:List Bool} {f:FuncId} {xs:List SV} {ob:List Ob} {e:List SV→List Ob→Option (SV × List Ob)}:UZ hd f xs ob [] e=Q4 ob xs [] (e (Gv hd (Aw ob) [] xs) []) 0:=rfl
theorem RD {hd:List Bool} {f:FuncId} {xs:List SV} {ob:List Ob} {g:Nat} {r:List Nat} {e:List SV→List Ob→Option (SV × List Ob)}:UZ hd f xs ob (g :: r) e=Yq hd f xs ob (g :: r) e (F7 (g :: r) ob (g :: r)):=rfl
theorem Xh {ob:List Ob} {xs:List SV} {r:SV} {fob':List Ob}:Q4 ob xs [] (some (r,fob')) 0=some (Gw [] (BI [] xs) ob.length r fob'):=rfl
theorem Xi {ob:List Ob} {xs:List SV} {sel:List Nat} {r:SV} {fob':List Ob} {n:Nat}:Q4 ob xs sel (some (r,fob')) n=bif decide (n≤fob'.length) then some (Gw sel (BI sel xs) ob.length r fob') else none:=rfl
theorem Y0 {hd:List Bool} {f:FuncId} {xs:List SV} {ob:List Ob} {sel:List Nat} {fob:List Ob} {e:List SV→List Ob→Option (SV × List Ob)}:Yq hd f xs ob sel e (some fob)=bif nodupB sel&&J7 ob.length sel&&Hx fob.length fob then Q4 ob xs sel (e (Gv hd (Aw ob) sel xs) fob) fob.length else none:=rfl
theorem T9 {p:Nat} {r:SV}:Gw [] [] p r []=(r.ren (sgp [] p),[],[]):=rfl
def Ps {α:Type} (n0:Nat) (keep:List Nat) (H:α→St) (R:α→Prop) (μ:α→Nat) (a:α) (K:X→St→Prop):X→St→Prop
 | .normal,st'=>∃ y,R y∧μ y < μ a∧canon n0 keep st'=H y
 | .exit i,st'=>K (.exit i) st'
 | .ret,st'=>K .ret st'
theorem Vb {α:Type} {keep:List Nat} {H:α→St} {R:α→Prop} {μ:α→Nat} {a:α} {st':St}:Ps n0 keep H R μ a K .normal st'=∃ y,R y∧μ y < μ a∧canon n0 keep st'=H y:=rfl
theorem Vd {α:Type} {keep:List Nat} {H:α→St} {R:α→Prop} {μ:α→Nat} {a:α} {i:Nat} {st':St}:Ps n0 keep H R μ a K (.exit i) st'=K (.exit i) st':=rfl
theorem Ve {α:Type} {keep:List Nat} {H:α→St} {R:α→Prop} {μ:α→Nat} {a:α} {st':St}:Ps n0 keep H R μ a K .ret st'=K .ret st':=rfl
theorem go_loop {α:Type} {keep:List Nat} {b:SC} (H:α→St) (R:α→Prop) (μ:α→Nat) (a0:α) (hR:R a0) (h0:canon n0 keep st=H a0) (round:∀ a,R a→go n0 b (H a) (Ps n0 keep H R μ a K)):go n0 (.loop keep b) st K:=by
 have key:∀ (n:Nat) (a:α) (st:St),μ a≤n→R a→canon n0 keep st=H a→∃ x st',Oy n0 keep (run n0 b) st=some (x,st')∧K x st':=by
  intro n
  induction n with
  | zero =>
   intro a st hn hR hc
   obtain ⟨x,st',h,k⟩:=round a hR
   cases x with
   | normal =>
    obtain ⟨y,_,h2,_⟩:=k
    omega
   | exit i=>exact ⟨_,st',by rw [If,hc,h]; rfl,k⟩
   | ret=>exact ⟨_,st',by rw [If,hc,h]; rfl,k⟩
  | succ n ih =>
   intro a st hn hR hc
   obtain ⟨x,st',h,k⟩:=round a hR
   cases x with
   | normal =>
    obtain ⟨y,h1,h2,h3⟩:=k
    obtain ⟨x2,st2,h4,k2⟩:=ih y st' (by omega) h1 h3
    exact ⟨x2,st2,by rw [If,hc,h]; exact h4,k2⟩
   | exit i=>exact ⟨_,st',by rw [If,hc,h]; rfl,k⟩
   | ret=>exact ⟨_,st',by rw [If,hc,h]; rfl,k⟩
 exact key (μ a0) a0 st (z6 _) hR h0
def LT (n0:Nat) (keep keepO:List Nat) (H:EL→St) (F:X × St) (p:EL):X→St→Prop
 | .normal,st'=>canon n0 keep st'=H p
 | .exit i,st'=>F=(.exit i,canon n0 keepO st')
 | .ret,st'=>F=(.ret,canon n0 keepO st')
def Vf (n0:Nat) (keepO:List Nat) (F:X × St):X→St→Prop
 | .normal,_=>False
 | .exit i,st'=>F=(.exit i,canon n0 keepO st')
 | .ret,st'=>F=(.ret,canon n0 keepO st')
theorem TA {keep keepO:List Nat} {H:EL→St} {F:X × St} {p:EL} {st':St}:LT n0 keep keepO H F p .normal st'=(canon n0 keep st'=H p):=rfl
theorem TB {keep keepO:List Nat} {H:EL→St} {F:X × St} {p:EL} {i:Nat} {st':St}:LT n0 keep keepO H F p (.exit i) st'=(F=(.exit i,canon n0 keepO st')):=rfl
theorem TC {keep keepO:List Nat} {H:EL→St} {F:X × St} {p:EL} {st':St}:LT n0 keep keepO H F p .ret st'=(F=(.ret,canon n0 keepO st')):=rfl
theorem Xj {keepO:List Nat} {F:X × St} {i:Nat} {st':St}:Vf n0 keepO F (.exit i) st'=(F=(.exit i,canon n0 keepO st')):=rfl
theorem Xk {keepO:List Nat} {F:X × St} {st':St}:Vf n0 keepO F .ret st'=(F=(.ret,canon n0 keepO st')):=rfl
theorem Vg {keep keepO:List Nat} {it:SX} {nx more:Nat} {b:SC} (f:MF) (hfin:∃ l,Enum f l) (F:X × St) (hF:K F.1 F.2) (H:EL→St) (g:Nat) (ks:Bool)
  (h0:canon n0 keep st=H []) (hit:∀ p:EL,Pl it (H p)=some (g,ks,f,(p.map (·.1)).reverse))
  (round:∀ (p:EL) (k:MK) (x:MV),(p.map (·.1)).Nodup→(∀ e,e∈p→f e.1=some e.2)→f k=some x→k ∉ p.map (·.1)→go n0 b (Fw nx more (H p) true [(g,.it ks f (k :: (p.map (·.1)).reverse) (some (k,x)))]) (LT n0 keep keepO H F (p++[(k,x)])))
  (fin:∀ p:EL,Enum f p→go n0 b (Fw nx more (H p) false []) (Vf n0 keepO F)):go n0 (.mloop keep keepO it nx more b) st K:=by
 have key:∀ (l p:EL) (s:St),Enum f (p++l)→canon n0 keep s=H p→MA n0 keepO (Fj n0 ⟨keepO,it,nx,more⟩ keep (run n0 b) f l (p.map (·.1)).reverse s)=some F:=by
  intro l
  induction l with
  | nil =>
   intro p s hE hs
   rw [yM] at hE
   unfold Fj
   rw [hs,hit p]
   simp only
   try rw [Au (p:=f=f) rfl,Au (p:=(p.map (·.1)).reverse=(p.map (·.1)).reverse) rfl]
   simp only [Au True.intro,zV,cond_true]
   obtain ⟨x,st',h1,h2⟩:=fin p hE
   rw [h1]
   cases x with
   | normal=>exact h2.elim
   | exit i=>have h2:F=_:=h2; rw [h2]; rfl
   | ret=>have h2:F=_:=h2; rw [h2]; rfl
  | cons e l ih =>
   intro p s hE hs
   obtain ⟨k,x⟩:=e
   have hnd:=hE.nd
   rw [yD,List.nodup_append] at hnd
   have hpm:∀ e,e∈p→f e.1=some e.2:=fun e he=>(hE.mem e.1 e.2).1 (by simp [he])
   have hk:f k=some x:=(hE.mem k x).1 (by simp)
   have hn:k ∉ p.map (·.1):=fun hm=>hnd.2.2 k hm k (by simp) rfl
   obtain ⟨x1,st1,h1,h2⟩:=round p k x hnd.1 hpm hk hn
   unfold Fj
   rw [hs,hit p]
   simp only
   try rw [Au (p:=f=f) rfl,Au (p:=(p.map (·.1)).reverse=(p.map (·.1)).reverse) rfl]
   simp only [Au True.intro,zV,cond_true]
   rw [h1]
   cases x1 with
   | normal =>
    have h2:canon n0 keep st1=H (p++[(k,x)]):=h2
    have:=ih (p++[(k,x)]) st1 (by rw [List.append_assoc]; exact hE) h2
    have hrev:((p++[(k,x)]).map (·.1)).reverse=k :: (p.map (·.1)).reverse:=by simp
    rw [hrev] at this
    exact this
   | exit i=>have h2:F=_:=h2; rw [h2]; rfl
   | ret=>have h2:F=_:=h2; rw [h2]; rfl
 refine ⟨F.1,F.2,?_,hF⟩
 have:GZ n0 ⟨keepO,it,nx,more⟩ keep (run n0 b) st=some F:=by
  unfold GZ
  rw [h0,hit []]
  exact EG.2 ⟨hfin,fun l hl=>key l [] st (by simpa using hl) h0⟩
 exact this
end
def slots:Nat→Nat→List (Nat × SV)→List SV
 | 0,_,_=>[]
 | n+1,k,[]=>.any :: slots n (k+1) []
 | n+1,k,(j,x) :: r=>bif j == k then x :: slots n (k+1) r else .any :: slots n (k+1) ((j,x) :: r)
def Xl (res:RM) (n0:Nat) (rs:List RX) (out:SV × List Ob) (x:X) (st:St):Prop:=fin res n0 rs x st=some out
def Y1 (res:RM) (n0:Nat) (r:Option (SV × List Ob)):Option (SV × List Ob) :=
 match r with
 | some (r,ob)=>order res n0 r ob
 | none=>none
def Q5 (res:RM) (n0:Nat) (ob:List Ob) (r:Option SV):Option (SV × List Ob) :=
 match r with
 | some r0=>Y1 res n0 (gc n0 r0 ob)
 | none=>none
theorem Y2 {res:RM} {n0:Nat} {rs:List RX} {out:SV × List Ob} {sl:List SV} {ob:List Ob}:Xl res n0 rs out .ret ⟨sl,ob⟩=(Q5 res n0 ob (N9 ⟨sl,ob⟩ rs)=some out):=rfl
theorem Y3 {res:RM} {n0:Nat} {rs:List RX} {out:SV × List Ob} {sl:List SV} {ob:List Ob}:Xl res n0 rs out .normal ⟨sl,ob⟩=(Q5 res n0 ob (N9 ⟨sl,ob⟩ rs)=some out):=rfl
theorem Xm {res:RM} {n0:Nat} {ob:List Ob} {r:SV}:Q5 res n0 ob (some r)=Y1 res n0 (gc n0 r ob):=rfl
theorem Y4 {n0:Nat} {r:SV} {ob:List Ob} {res:RM}:Y1 res n0 (some (r,ob))=order res n0 r ob:=rfl
theorem Aj {f:FuncId} {fc:FC} {hand:List Bool} {res:RM} {tr:Bool} {xs:List SV} {ob:List Ob} {out:SV × List Ob} (hc:codeOf Tryz.prog f=some fc) (hr:modes f=⟨hand,res,none,tr⟩) (hn:xs.length≤fc.nt) (h:go ob.length (Gx res fc.sc) ⟨xs++Ka (fc.nt-xs.length),entry tr ob⟩ (Xl res ob.length fc.rs out)):E f xs ob=some out:=by
 obtain ⟨x,st',h1,h2⟩:=h
 unfold E
 rw [XF]
 unfold Gy
 rw [hc,hr]
 simp only
 rw [decide_eq_true hn,cond_true]
 have h1:fr Tryz.prog (De modes (ev Tryz.prog modes)) (JA ob.length) (Gx res fc.sc) ⟨xs++Ka (fc.nt-xs.length),entry tr ob⟩=some (x,st'):=h1
 rw [h1]
 exact h2
theorem RE {f:FuncId} {g:List SV→List Ob→Option (SV × List Ob)} {xs:List SV} {ob:List Ob} (hg:(modes f).ext=some g):E f xs ob=g xs ob:=by
 unfold E
 rw [XF]
 unfold Gy
 rw [hg]
theorem Q6 {f:FuncId} {g:List SV→Option SV} {xs:List SV} {r:SV} (hg:(modes f).ext=some (Ke g)) (h:g xs=some r):E f xs []=some (r,[]):=by
 rw [RE hg]
 simp only [Ke,h]
theorem Ae:modes 55=⟨[],.asis,some (Ke UQ),false⟩:=by unfold modes; rfl
theorem Dl (s:ByteArray):E 55 [.str s] []=some (.bool (Bz s),[]):=Q6 (g:=UQ) (congrArg FM.ext Ae) rfl
theorem Ar:modes 96=⟨[],.asis,some (Ke UR),false⟩:=by unfold modes; rfl
theorem IE (s:ByteArray):E 96 [.str s] []=some (.bool (Bz s),[]):=Q6 (g:=UR) (congrArg FM.ext Ar) rfl
theorem BO:modes 86=⟨[],.asis,some (Ke US),false⟩:=by unfold modes; rfl
theorem MM (s:ByteArray):E 86 [.str s] []=some (.bool (Ep s),[]):=Q6 (g:=US) (congrArg FM.ext BO) rfl
theorem BP:modes 122=⟨[],.asis,some (Ke UT),false⟩:=by unfold modes; rfl
theorem MN (s:ByteArray):E 122 [.str s] []=some (.bool (Ep s),[]):=Q6 (g:=UT) (congrArg FM.ext BP) rfl
theorem BQ {n:Int} (h1:-9223372036854775808≤n) (h2:n≤9223372036854775807):dec (inK .i64 n)=true:=Au (WA.2 ⟨h1,h2⟩)
theorem get_at {α β:Type} (f:α→β) {xs:List α} {k:Nat} (h:k<xs.length):(xs.map f)[k]?=some (f xs[k]):=by rw [List.getElem?_map,yB h]; rfl
theorem XG:dec True=true:=Au trivial
theorem XH:dec False=false:=Ai fun h=>h
attribute [go_sem] pfx F0 Jc OT.CE OT.Jb OT.half Yu WR Gv Qe SV.isNil Ob.idsB SV.idsB SV.Lu List.getElem?_cons_zero List.getElem?_cons_succ OT.AS OT.DI OT.full entry toTree S8 Qt S7 F8 GX EB UA NY UJ OT.erss OT.ers OT.er OT.D1 OT.Gu OT.noSh quiet obB Rf Jy meets HS go_skip WY go_ret Yc WZ Yd UW Xa Xb Xc Ye Yf Yg Zg Zh Zi Xd Xe UX T6 Xf UY T7 Xg Yj Yk Zj Yl Ym Yn Zk Yo Yp Va Yr Ys Yt Yv Yw Yx Yy Yz Qp Qo DO seen T8 RD Xh Xi Y0 T9 Gw Vb Vd Ve Y2 Y3 Xm Y4 order opF fOp Fh S3 WH S1 S2 U9 HZ eqK AC gets Aw N8 FP D7 JT Mo Ba Tq SV.cellsN SV.one IX splice DR PP IW JR DD Cd Cx Cc GJ HE Rh eOp.mkEs eOp.addS D.sv OT.sv D.ot GS nodupB reach SV.refs SV.Ol SV.ptrs SV.Om Ob.refs Ob.liveB GY F7 SV.back SV.Ly Ob.back GP HF CN BI BK J7 Hx SV.ren SV.JX Ob.ren mkU sgp gc L3 names Kc WK WL WM M7 UK WN WO WP WQ WS WT SC.mark Or FT slots N9 Rp rxV Ka Qn SV.noSh SV.Lq Ob.noSh SV.own SV.Pk FS cond_true cond_false zL zT zD zN List.drop_succ_cons zK List.drop_nil yO List.take_zero List.take_nil yM yX List.cons_append yL List.all_nil List.getD_cons_zero List.getD_cons_succ yC List.any_nil List.contains_cons List.contains_nil List.isEmpty_nil List.isEmpty_cons List.flatten_cons List.flatten_nil List.replicate_succ List.replicate_zero List.set_cons_zero List.set_cons_succ yT yU z6 zM yR yS zV Bool.or_false Bool.false_or Bool.true_or Bool.or_true Bool.not_true Bool.not_false yZ Bool.and_false decide_true decide_false beq_self_eq_true if_true if_false Option.map_some Option.map_none zJ yK Option.getD_none Int.toNat_natCast true_and and_true and_self eq_self_iff_true zQ Bool.false_eq_true Bool.true_eq_false zP SV.int.injEq SV.bool.injEq SV.str.injEq SV.agg.injEq SV.tup.injEq SV.arr.injEq List.cons.injEq St.mk.injEq Int.zero_add XG XH BQ Au Ai YZ svK svD Uo svM MV.sv So UC Qk UD Fw St.app Pl MK.sv TA TB TC Xj Xk
attribute [go_sem_proc] Nat.reduceAdd Nat.reduceSub Nat.reduceLT Nat.reduceLeDiff Nat.reduceEqDiff Nat.reduceBEq Nat.reduceBneDiff Nat.reduceMul Int.reduceToNat Int.reduceNeg Int.reduceAdd reduceCtorEq
attribute [go_sem_proc ↓] reduceIte
theorem SE:∀ xs:List ByteArray,OT.AS (xs.map fun s=>[OT.str s])=true
 | []=>rfl
 | x :: xs=>by simp only [zD,OT.AS,OT.DI,OT.full,SE xs,zV]
theorem SF:∀ xs:List Int,OT.AS (xs.map fun n=>[OT.int n])=true
 | []=>rfl
 | x :: xs=>by simp only [zD,OT.AS,OT.DI,OT.full,SF xs,zV]
theorem Tm.fu_of:∀ xs:List Tm,(∀ x∈xs,OT.DI (Tm.o x)=true)→OT.AS (xs.map Tm.o)=true
 | [],_=>rfl
 | x :: xs,h=>by
  simp only [zD,OT.AS]
  rw [h x (by simp),Tm.fu_of xs fun y hy=>h y (by simp [hy])]; rfl
theorem Tm.fu (x:Tm):OT.DI (Tm.o x)=true:=by
 have h:=Tm.fu_of x.args fun y hy=>Tm.fu y
 rw [Tm.o_eq]
 simp only [OT.DI,OT.full,h,zV,yR]
termination_by SizeOf.sizeOf x
decreasing_by exact Tm.lt_of_mem hy
theorem Tm.fus (xs:List Tm):OT.AS (xs.map Tm.o)=true:=Tm.fu_of xs fun x _=>Tm.fu x
theorem Fm.fu_of:∀ xs:List Fm,(∀ x∈xs,OT.DI (Fm.o x)=true)→OT.AS (xs.map Fm.o)=true
 | [],_=>rfl
 | x :: xs,h=>by
  simp only [zD,OT.AS]
  rw [h x (by simp),Fm.fu_of xs fun y hy=>h y (by simp [hy])]; rfl
theorem Fm.fu (x:Fm):OT.DI (Fm.o x)=true:=by
 have h:=Fm.fu_of x.parts fun y hy=>Fm.fu y
 rw [Fm.o_eq]
 simp only [OT.DI,OT.full,h,Tm.fus,zV,yR]
termination_by SizeOf.sizeOf x
decreasing_by exact Fm.lt_of_mem hy
theorem Fm.fus (xs:List Fm):OT.AS (xs.map Fm.o)=true:=Fm.fu_of xs fun x _=>Fm.fu x
attribute [go_sem] SE SF WC WD WE WF Tm.fus Tm.erss Tm.noss Fm.fus Fm.erss Fm.noss
def HJ {α β:Type} (f:α→β) (z:β) (xs:List α) (k:Nat):List β:=(xs.take k).map f++List.replicate (xs.length-k) z
section
variable {α β:Type} (f:α→β) (z:β) {xs:List α} {k:Nat}
theorem RF:HJ f z xs 0=List.replicate xs.length z:=by simp [HJ]
theorem TD:(HJ f z xs k).length=xs.length:=by simp [HJ]; omega
theorem TE:HJ f z xs xs.length=xs.map f:=by simp [HJ]
theorem TF (h:k<xs.length):(HJ f z xs k)[k]?=some z:=by
 have hl:((xs.take k).map f).length=k:=by simp; omega
 unfold HJ
 rw [List.getElem?_append_right (by omega),hl,Nat.sub_self,List.getElem?_replicate]
 simp; omega
theorem TG (h:k<xs.length):(HJ f z xs k).set k (f xs[k])=HJ f z xs (k+1):=by
 have hl:((xs.take k).map f).length=k:=by simp; omega
 have e:List.take (k+1) xs=List.take k xs++[xs[k]]:=yG h
 unfold HJ
 rw [List.set_append_right _ _ (by omega),hl,Nat.sub_self,e,yD,List.append_assoc]
 congr 1
 rw [show xs.length-k=(xs.length-(k+1))+1 by omega,List.replicate_succ,List.set_cons_zero]
 rfl
end
theorem Xn (a b:Int):(bif dec (a<b) then b else a)=max a b:=by
 by_cases h:a<b
 ·rw [Au h,cond_true,Int.max_eq_right (by omega)]
 ·rw [Ai h,cond_false,Int.max_eq_left (by omega)]
def GB {α:Type} (p:α→Bool):List α→Int→Int
 | [],_=>-1
 | x :: xs,i=>if p x then i else GB p xs (i+1)
theorem MO {α:Type} (p:α→Bool):∀ (xs:List α),dec (0≤GB p xs 0)=xs.any p:=by
 have key:∀ (xs:List α) (i:Int),0≤i→(0≤GB p xs i ↔ xs.any p=true):=by
  intro xs
  induction xs with
  | nil=>intro i h; simp [GB]
  | cons x xs ih =>
   intro i h
   simp only [GB,yC,zU]
   by_cases hp:p x=true
   ·simp [hp,h]
   ·rw [if_neg hp,ih (i+1) (by omega)]; simp [hp]
 intro xs
 cases h:xs.any p with
 | true=>exact Au ((key xs 0 (by omega)).2 h)
 | false=>exact Ai fun h'=>by rw [(key xs 0 (by omega)).1 h'] at h; cases h
mutual
def Tm.nodes:Tm→Nat
 | .mk _ args=>1+Tm.nodeS args
def Tm.nodeS:List Tm→Nat
 | []=>0
 | x :: xs=>Tm.nodes x+Tm.nodeS xs
end
theorem Tm.nodes_eq (x:Tm):x.nodes=1+Tm.nodeS x.args:=by
 obtain ⟨name,args⟩:=x
 rw [Tm.nodes]; rfl
theorem Tm.nodes_pos (x:Tm):1≤x.nodes:=by rw [Tm.nodes_eq]; omega
theorem Tm.nodes_le:∀ (xs:List Tm) (k:Nat) (h:k<xs.length),xs[k].nodes≤Tm.nodeS xs
 | [],k,h=>absurd h (by simp)
 | x :: xs,0,_=>by rw [Tm.nodeS]; simp
 | x :: xs,k+1,h=>by
  have:=Tm.nodes_le xs k (by simpa using h)
  rw [Tm.nodeS]; simp only [yH]; omega
mutual
def Tm.deep:Tm→Nat
 | .mk _ args=>Tm.Es args+1
def Tm.Es:List Tm→Nat
 | []=>0
 | x :: xs=>max (Tm.deep x) (Tm.Es xs)
end
theorem Tm.Kf (x:Tm):x.deep=Tm.Es x.args+1:=by
 obtain ⟨name,args⟩:=x
 rw [Tm.deep]; rfl
theorem Tm.Ih:∀ xs:List Tm,(∀ y∈xs,y.deep≤y.nodes)→Tm.Es xs≤Tm.nodeS xs
 | [],_=>by simp [Tm.Es]
 | x :: xs,h=>by
  have h1:=h x (by simp)
  have h2:=Tm.Ih xs fun y hy=>h y (by simp [hy])
  rw [Tm.Es,Tm.nodeS]; omega
theorem Tm.GC (x:Tm):x.deep≤x.nodes:=by
 rw [Tm.Kf,Tm.nodes_eq]
 have:=Tm.Ih x.args fun y hy=>Tm.GC y
 omega
termination_by SizeOf.sizeOf x
decreasing_by exact Tm.lt_of_mem hy
mutual
def Tm.names:Tm→Bool
 | .mk name args=>if Bz name then args.length == 0 else Ep name&&decide (args.length≤4)&&Tm.FW args
def Tm.FW:List Tm→Bool
 | []=>true
 | x :: xs=>Tm.names x&&Tm.FW xs
end
theorem Tm.Fk (x:Tm):x.names=if Bz x.name then x.args.length == 0 else Ep x.name&&decide (x.args.length≤4)&&Tm.FW x.args:=by
 obtain ⟨name,args⟩:=x
 rw [Tm.names]; rfl
theorem Tm.Ej:∀ xs:List Tm,Tm.FW xs=xs.all Tm.names
 | []=>rfl
 | x :: xs=>by rw [Tm.FW,Tm.Ej xs]; rfl
theorem Tm.length_le:∀ xs:List Tm,xs.length≤Tm.nodeS xs
 | []=>z6 _
 | x :: xs=>by
  have:=Tm.length_le xs
  have:=Tm.nodes_pos x
  rw [Tm.nodeS]; simp only [zL]; omega
theorem Tm.nodes_mem {xs:List Tm} {y:Tm} (h:y∈xs):y.nodes≤Tm.nodeS xs:=by
 obtain ⟨k,hk,rfl⟩:=yN h
 exact Tm.nodes_le xs k hk
def Tm.small (x:Tm):Bool:=decide (x.nodes≤30)&&decide (x.deep≤8)
def Tm.valid (x:Tm):Bool:=x.small&&x.names
noncomputable def Tm.eqn (x:Tm):Bool:=dec (x.name=⟨#[61]⟩)
noncomputable def Tm.atom (x:Tm):Bool:=if x.eqn then x.args.length == 2&&x.small&&Tm.FW x.args else Ep x.name&&x.valid
theorem O6 {xs:List Tm} (h:xs.length=2):Tm.FW xs=((xs[0]'(by omega)).names&&(xs[1]'(by omega)).names):=by
 match xs,h with
 | [a,b],_=>simp [Tm.FW]
mutual
def Tm.cap:Tm→Int
 | .mk _ xs=>Tm.capL xs 1
def Tm.capL:List Tm→Int→Int
 | [],n=>n
 | x :: xs,n=>if 30 < n then n else Tm.capL xs (n+Tm.cap x)
end
theorem Tm.cap_eq (x:Tm):x.cap=Tm.capL x.args 1:=by
 obtain ⟨n,xs⟩:=x
 rw [Tm.cap]; rfl
theorem Tm.capL_spec:∀ (xs:List Tm) (n:Int),(∀ x∈xs,1≤x.cap∧x.cap≤x.nodes∧(x.cap≤30→x.cap=x.nodes))→1≤n→n≤Tm.capL xs n∧Tm.capL xs n≤n+Tm.nodeS xs∧(Tm.capL xs n≤30→Tm.capL xs n=n+Tm.nodeS xs)
 | [],n,_,h=>by simp [Tm.capL,Tm.nodeS]
 | x :: xs,n,hx,h=>by
  rw [Tm.capL,Tm.nodeS]
  have h1:=hx x (by simp)
  split
  ·omega
  ·have:=Tm.capL_spec xs (n+x.cap) (fun y hy=>hx y (by simp [hy])) (by omega)
   omega
theorem Tm.cap_spec (x:Tm):1≤x.cap∧x.cap≤x.nodes∧(x.cap≤30→x.cap=x.nodes):=by
 rw [Tm.cap_eq,Tm.nodes_eq]
 have:=Tm.capL_spec x.args 1 (fun y hy=>Tm.cap_spec y) (by omega)
 omega
termination_by SizeOf.sizeOf x
decreasing_by exact Tm.lt_of_mem hy
mutual
def Tm.many:Tm→Int→Int
 | .mk _ xs,m=>Tm.manyL xs m 1
def Tm.manyL:List Tm→Int→Int→Int
 | [],_,n=>n
 | x :: xs,m,n=>if n≤m then Tm.manyL xs m (n+Tm.many x (m-n)) else n
end
theorem Tm.many_eq (x:Tm) (m:Int):x.many m=Tm.manyL x.args m 1:=by
 obtain ⟨n,xs⟩:=x
 rw [Tm.many]; rfl
theorem Tm.manyL_spec (m:Int):∀ (xs:List Tm) (n:Int),(∀ x∈xs,∀ m,0≤m→1≤x.many m∧x.many m≤x.nodes∧(x.many m≤m→x.many m=x.nodes))→1≤n→n≤Tm.manyL xs m n∧Tm.manyL xs m n≤n+Tm.nodeS xs∧(Tm.manyL xs m n≤m→Tm.manyL xs m n=n+Tm.nodeS xs)
 | [],n,_,h=>by simp [Tm.manyL,Tm.nodeS]
 | x :: xs,n,hx,h=>by
  rw [Tm.manyL,Tm.nodeS]
  split
  ·have h1:=hx x (by simp) (m-n) (by omega)
   have:=Tm.manyL_spec m xs (n+x.many (m-n)) (fun y hy=>hx y (by simp [hy])) (by omega)
   omega
  ·omega
theorem Tm.many_spec (x:Tm) (m:Int):1≤x.many m∧x.many m≤x.nodes∧(x.many m≤m→x.many m=x.nodes):=by
 rw [Tm.many_eq,Tm.nodes_eq]
 have:=Tm.manyL_spec m x.args 1 (fun y hy m _=>Tm.many_spec y m) (by omega)
 omega
termination_by SizeOf.sizeOf x
decreasing_by exact Tm.lt_of_mem hy
mutual
noncomputable def Tm.ap (f:ByteArray→Option Tm):Tm→Tm
 | .mk name args=>if Bz name then (f name).getD (.mk name []) else .mk name (Tm.apL f args)
noncomputable def Tm.apL (f:ByteArray→Option Tm):List Tm→List Tm
 | []=>[]
 | x :: xs=>Tm.ap f x :: Tm.apL f xs
end
theorem Tm.FH {x:Tm} (h:x.names=true) (hv:Bz x.name=true):x.args=[]:=by
 rw [Tm.Fk,if_pos hv] at h
 exact zB (by simpa using h)
theorem Tm.Ek {x:Tm} (h:x.names=true) {y:Tm} (hy:y∈x.args):y.names=true:=by
 rw [Tm.Fk] at h
 split at h
 ·have:x.args=[]:=zB (by simpa using h)
  rw [this] at hy; cases hy
 ·rw [zA,Tm.Ej,zO] at h
  exact h.2 y hy
def L5:SC:=(.seq (.reg [⟨some 1,none,.boxv 26 2 (.t 0)⟩,⟨some 2,none,.mv (.c (.int .i64 0))⟩]) (.seq (.reg [⟨some 3,none,.mv (.c (.int .i64 1))⟩]) (.seq (.seq (.reg [⟨some 6,none,.faddr 1 (.t 1)⟩,⟨some 7,none,.load false 1 (.t 6)⟩,⟨some 8,none,.len false (.t 7)⟩,⟨some 9,none,.mv (.c (.int .i64 0))⟩]) (.block 0 (.loop [0,0,0,1,0,0,0,1,1,1,0,0,0,0,0,0,0,0,0,0,0,0] (.seq (.reg [⟨some 10,none,.bin .lss false (.t 9) (.t 8)⟩]) (.seq (.cond (.t 10) .skip (.exit 0)) (.seq (.block 1 (.seq (.reg [⟨some 11,none,.iaddr 2 (.t 7) (.t 9)⟩,⟨some 12,none,.load true 2 (.t 11)⟩,⟨(some 5),none,(.alloc 26 [(.str ⟨#[]⟩),.nil])⟩,⟨none,none,(.store 2 (.t 5) (.t 12))⟩]) (.seq (.seq (.reg [⟨some 13,none,.mv (.t 3)⟩,⟨some 14,none,.bin .gtr false (.t 13) (.c (.int .i64 30))⟩]) (.cond (.t 14) (.seq (.reg [⟨some 15,none,.mv (.t 3)⟩,⟨some 2,none,.mv (.t 15)⟩]) .ret) .skip)) (.reg [⟨some 16,none,.mv (.t 3)⟩,⟨some 17,none,.load true 2 (.t 5)⟩,⟨some 18,none,.call 101 [(.t 17)]⟩,⟨some 19,none,.bin .add false (.t 16) (.t 18)⟩,⟨some 3,none,.mv (.t 19)⟩])))) (.reg [⟨some 20,none,.bin .add false (.t 9) (.c (.int .i64 1))⟩,⟨some 9,none,.mv (.t 20)⟩]))))))) (.seq (.reg [⟨some 21,none,.mv (.t 3)⟩,⟨some 2,none,.mv (.t 21)⟩]) .ret))))
theorem Q7:codeOf Tryz.prog 101=some ⟨22,L5,[(.tmp 2)]⟩:=by kernel_rfl
theorem Fl:modes 101=⟨[],.asis,none,false⟩:=by unfold modes; rfl
theorem Xo (x:Tm) (hn:x.nodes≤1099511627776) (ih:∀ y∈x.args,E 101 [y.sv] []=some (.int .i64 y.cap,[])):E 101 [x.sv] []=some (.int .i64 x.cap,[]):=by
 have hl:=Tm.length_le x.args
 have hx:=Tm.nodes_eq x
 rw [Tm.cap_eq]
 refine Aj Q7 Fl (of_decide_eq_true rfl) ?_
 simp (disch:=omega) only [L5,go_sem,Ab]
 refine go_loop (α:=Int × Int) (fun a=>⟨slots 22 0 [(3,.int .i64 a.2),(7,.arr (x.args.map Tm.d)),(8,.int .i64 x.args.length),(9,.int .i64 a.1)],[]⟩) (fun a=>∃ k:Nat,a.1=k∧k≤x.args.length∧1≤a.2∧a.2+Tm.nodeS (x.args.drop k)≤x.nodes∧Tm.capL (x.args.drop k) a.2=Tm.capL x.args 1) (fun a=>x.args.length-a.1.toNat) (0,1) ⟨0,rfl,zM _,by dsimp only; omega,by rw [zK]; dsimp only; omega,rfl⟩ (by simp (disch:=omega) only [go_sem,Ab]) ?_
 rintro ⟨i,n⟩ ⟨k,hi,hk,hn0,hn1,hs⟩
 dsimp only at hi hn0 hn1 hs
 have hni:i.toNat=k:=by omega
 rcases zF k x.args.length with hlt | hge
 ·have hg:=get_at Tm.d hlt
  rw [Tm.d_eq] at hg
  have hd:x.args.drop k=x.args[k] :: x.args.drop (k+1):=zE hlt
  have hc:=ih x.args[k] (zG hlt)
  have hp:=Tm.cap_spec x.args[k]
  rw [hd,Tm.capL] at hs
  rw [hd,Tm.nodeS] at hn1
  rcases yV 30 n with h30 | h30
  ·rw [if_pos h30] at hs
   simp (disch:=omega) only [go_sem,Ab,hni,hg,hc,Fl]
   exact hs
  ·rw [if_neg (by omega)] at hs
   simp (disch:=omega) only [go_sem,Ab,hni,hg,hc,Fl]
   refine ⟨(i+1,n+x.args[k].cap),⟨k+1,by dsimp only; omega,hlt,by dsimp only; omega,by dsimp only; omega,hs⟩,by dsimp only; omega,?_⟩
   simp only [and_self]
 ·have hd:x.args.drop k=[]:=zI hge
  rw [hd,Tm.capL] at hs
  simp (disch:=omega) only [go_sem,Ab,hni]
  exact hs
theorem Vh (x:Tm) (hn:x.nodes≤1099511627776):E 101 [x.sv] []=some (.int .i64 x.cap,[]) :=
 Xo x hn fun y hy=>Vh y (by have:=Tm.nodes_mem hy; have:=Tm.nodes_eq x; omega)
termination_by SizeOf.sizeOf x
decreasing_by exact Tm.lt_of_mem hy
def Jd:SC:=(.seq (.reg [⟨some 2,none,.boxv 26 2 (.t 0)⟩,⟨some 4,none,.mv (.c (.int .i64 0))⟩]) (.seq (.reg [⟨some 5,none,.mv (.c (.int .i64 1))⟩]) (.seq (.seq (.reg [⟨some 6,none,.mv (.c (.int .i64 0))⟩]) (.block 0 (.loop [0,1,1,0,0,1,1,0,0,0,0,0,0,0,0,0,0,0,0,0,0,0,0,0,0,0,0,0,0,0,0] (.seq (.seq (.reg [⟨some 7,none,.mv (.t 6)⟩,⟨some 8,none,.faddr 1 (.t 2)⟩,⟨some 9,none,.load false 1 (.t 8)⟩,⟨some 10,none,.len false (.t 9)⟩,⟨some 11,none,.bin .lss false (.t 7) (.t 10)⟩,⟨some 12,none,.mv (.t 11)⟩,⟨(some 13),(some (12,true)),(.mv (.t 5))⟩,⟨(some 14),(some (12,true)),(.mv (.t 1))⟩,⟨(some 15),(some (12,true)),(.bin .leq false (.t 13) (.t 14))⟩,⟨some 16,none,.pick (.t 12) (.t 15) (.c (.bool false))⟩]) (.cond (.t 16) .skip (.exit 0))) (.seq (.block 1 (.reg [⟨some 19,none,.mv (.t 5)⟩,⟨some 20,none,.faddr 1 (.t 2)⟩,⟨some 21,none,.load false 1 (.t 20)⟩,⟨some 22,none,.mv (.t 6)⟩,⟨some 23,none,.iaddr 2 (.t 21) (.t 22)⟩,⟨some 24,none,.load true 2 (.t 23)⟩,⟨some 25,none,.mv (.t 1)⟩,⟨some 26,none,.mv (.t 5)⟩,⟨some 27,none,.bin .sub false (.t 25) (.t 26)⟩,⟨some 28,none,.call 134 [(.t 24),(.t 27)]⟩,⟨some 29,none,.bin .add false (.t 19) (.t 28)⟩,⟨some 5,none,.mv (.t 29)⟩])) (.reg [⟨some 17,none,.mv (.t 6)⟩,⟨some 18,none,.bin .add false (.t 17) (.c (.int .i64 1))⟩,⟨some 6,none,.mv (.t 18)⟩])))))) (.seq (.reg [⟨some 30,none,.mv (.t 5)⟩,⟨some 4,none,.mv (.t 30)⟩]) .ret))))
theorem NE:codeOf Tryz.prog 134=some ⟨31,Jd,[(.tmp 4)]⟩:=by kernel_rfl
theorem DT:modes 134=⟨[],.asis,none,false⟩:=by unfold modes; rfl
theorem Xp (x:Tm) (m:Int) (hm:0≤m) (hm1:m≤1099511627776) (hn:x.nodes≤1099511627776) (ih:∀ y∈x.args,∀ m:Int,0≤m→m≤1099511627776→E 134 [y.sv,.int .i64 m] []=some (.int .i64 (y.many m),[])):E 134 [x.sv,.int .i64 m] []=some (.int .i64 (x.many m),[]):=by
 have hl:=Tm.length_le x.args
 have hx:=Tm.nodes_eq x
 rw [Tm.many_eq]
 refine Aj NE DT (of_decide_eq_true rfl) ?_
 simp (disch:=omega) only [Jd,go_sem,Ab]
 refine go_loop (α:=Int × Int) (fun a=>⟨slots 31 0 [(1,.int .i64 m),(2,.ptr 0 0),(5,.int .i64 a.2),(6,.int .i64 a.1)],[.box 26 [.str x.name,.arr (x.args.map Tm.d)]]⟩) (fun a=>∃ k:Nat,a.1=k∧k≤x.args.length∧1≤a.2∧a.2+Tm.nodeS (x.args.drop k)≤x.nodes∧Tm.manyL (x.args.drop k) m a.2=Tm.manyL x.args m 1) (fun a=>x.args.length-a.1.toNat) (0,1) ⟨0,rfl,zM _,by dsimp only; omega,by rw [zK]; dsimp only; omega,rfl⟩ (by simp (disch:=omega) only [go_sem,Ab]) ?_
 rintro ⟨i,n⟩ ⟨k,hi,hk,hn0,hn1,hs⟩
 dsimp only at hi hn0 hn1 hs
 have hni:i.toNat=k:=by omega
 rcases zF k x.args.length with hlt | hge
 ·have hg:=get_at Tm.d hlt
  rw [Tm.d_eq] at hg
  have hd:x.args.drop k=x.args[k] :: x.args.drop (k+1):=zE hlt
  rw [hd,Tm.manyL] at hs
  rw [hd,Tm.nodeS] at hn1
  rcases yV m n with h30 | h30
  ·rw [if_neg (by omega)] at hs
   simp (disch:=omega) only [go_sem,Ab,hni,hg,DT]
   exact hs
  ·rw [if_pos h30] at hs
   have hc:=ih x.args[k] (zG hlt) (m-n) (by omega) (by omega)
   have hp:=Tm.many_spec x.args[k] (m-n)
   simp (disch:=omega) only [go_sem,Ab,hni,hg,hc,DT]
   refine ⟨(i+1,n+x.args[k].many (m-n)),⟨k+1,by dsimp only; omega,hlt,by dsimp only; omega,by dsimp only; omega,hs⟩,by dsimp only; omega,?_⟩
   simp only [and_self]
 ·have hd:x.args.drop k=[]:=zI hge
  rw [hd,Tm.manyL] at hs
  simp (disch:=omega) only [go_sem,Ab,hni]
  exact hs
theorem Vi (x:Tm) (m:Int) (hm:0≤m) (hm1:m≤1099511627776) (hn:x.nodes≤1099511627776):E 134 [x.sv,.int .i64 m] []=some (.int .i64 (x.many m),[]) :=
 Xp x m hm hm1 hn fun y hy m hm hm1=>Vi y m hm hm1 (by have:=Tm.nodes_mem hy; have:=Tm.nodes_eq x; omega)
termination_by SizeOf.sizeOf x
decreasing_by exact Tm.lt_of_mem hy
def Kg:SC:=(.seq (.reg [⟨some 1,none,.boxv 26 2 (.t 0)⟩,⟨some 2,none,.mv (.c (.int .i64 0))⟩]) (.seq (.reg [⟨some 3,none,.mv (.c (.int .i64 0))⟩]) (.seq (.seq (.reg [⟨some 6,none,.faddr 1 (.t 1)⟩,⟨some 7,none,.load false 1 (.t 6)⟩,⟨some 8,none,.len false (.t 7)⟩,⟨some 9,none,.mv (.c (.int .i64 0))⟩]) (.block 0 (.loop [0,0,0,1,0,0,0,1,1,1,0,0,0,0,0,0,0,0,0,0] (.seq (.reg [⟨some 10,none,.bin .lss false (.t 9) (.t 8)⟩]) (.seq (.cond (.t 10) .skip (.exit 0)) (.seq (.block 1 (.seq (.reg [⟨some 11,none,.iaddr 2 (.t 7) (.t 9)⟩,⟨some 12,none,.load true 2 (.t 11)⟩,⟨(some 5),none,(.alloc 26 [(.str ⟨#[]⟩),.nil])⟩,⟨none,none,(.store 2 (.t 5) (.t 12))⟩]) (.reg [⟨some 13,none,.mv (.t 3)⟩,⟨some 14,none,.load true 2 (.t 5)⟩,⟨some 15,none,.call 102 [(.t 14)]⟩,⟨some 16,none,.minmax true (.t 13) (.t 15)⟩,⟨some 3,none,.mv (.t 16)⟩]))) (.reg [⟨some 17,none,.bin .add false (.t 9) (.c (.int .i64 1))⟩,⟨some 9,none,.mv (.t 17)⟩]))))))) (.seq (.reg [⟨some 18,none,.mv (.t 3)⟩,⟨some 19,none,.bin .add false (.t 18) (.c (.int .i64 1))⟩,⟨some 2,none,.mv (.t 19)⟩]) .ret))))
theorem Pt:codeOf Tryz.prog 102=some ⟨20,Kg,[(.tmp 2)]⟩:=by kernel_rfl
theorem FA:modes 102=⟨[],.asis,none,false⟩:=by unfold modes; rfl
def Je:SC:=(.seq (.reg [⟨some 4,none,.mv (.c (.int .i64 0))⟩]) (.seq (.seq (.reg [⟨some 5,none,.mv (.t 0)⟩,⟨some 6,none,.mv (.t 1)⟩,⟨some 7,none,.bin .gtr false (.t 5) (.t 6)⟩]) (.cond (.t 7) (.seq (.reg [⟨some 8,none,.mv (.t 0)⟩,⟨some 4,none,.mv (.t 8)⟩]) .ret) .skip)) (.seq (.reg [⟨some 9,none,.mv (.t 1)⟩,⟨some 4,none,.mv (.t 9)⟩]) .ret)))
theorem NF:codeOf Tryz.prog 141=some ⟨10,Je,[(.tmp 4)]⟩:=by kernel_rfl
theorem Jf:modes 141=⟨[],.asis,none,false⟩:=by unfold modes; rfl
def Ii:SC:=(.seq (.reg [⟨some 1,none,.boxv 26 2 (.t 0)⟩,⟨some 2,none,.mv (.c (.int .i64 0))⟩]) (.seq (.reg [⟨some 3,none,.mv (.c (.int .i64 0))⟩]) (.seq (.seq (.reg [⟨some 4,none,.mv (.c (.int .i64 0))⟩]) (.block 0 (.loop [0,1,0,1,1,0,0,0,0,0,0,0,0,0,0,0,0,0,0,0,0,0] (.seq (.seq (.reg [⟨some 5,none,.mv (.t 4)⟩,⟨some 6,none,.faddr 1 (.t 1)⟩,⟨some 7,none,.load false 1 (.t 6)⟩,⟨some 8,none,.len false (.t 7)⟩,⟨some 9,none,.bin .lss false (.t 5) (.t 8)⟩]) (.cond (.t 9) .skip (.exit 0))) (.seq (.block 1 (.reg [⟨some 12,none,.mv (.t 3)⟩,⟨some 13,none,.faddr 1 (.t 1)⟩,⟨some 14,none,.load false 1 (.t 13)⟩,⟨some 15,none,.mv (.t 4)⟩,⟨some 16,none,.iaddr 2 (.t 14) (.t 15)⟩,⟨some 17,none,.load true 2 (.t 16)⟩,⟨some 18,none,.call 135 [(.t 17)]⟩,⟨some 19,none,.call 141 [(.t 12),(.t 18)]⟩,⟨some 3,none,.mv (.t 19)⟩])) (.reg [⟨some 10,none,.mv (.t 4)⟩,⟨some 11,none,.bin .add false (.t 10) (.c (.int .i64 1))⟩,⟨some 4,none,.mv (.t 11)⟩])))))) (.seq (.reg [⟨some 20,none,.mv (.t 3)⟩,⟨some 21,none,.bin .add false (.t 20) (.c (.int .i64 1))⟩,⟨some 2,none,.mv (.t 21)⟩]) .ret))))
theorem MP:codeOf Tryz.prog 135=some ⟨22,Ii,[(.tmp 2)]⟩:=by kernel_rfl
theorem Et:modes 135=⟨[],.asis,none,false⟩:=by unfold modes; rfl
theorem Vj (a b:Int):E 141 [.int .i64 a,.int .i64 b] []=some (.int .i64 (max a b),[]):=by
 refine Aj NF Jf (of_decide_eq_true rfl) ?_
 simp (disch:=omega) only [Je,go_sem,Ab]
 repeat' (refine Q3 (fun hq=>?_) (fun hq=>?_) <;> (first | replace hq:=Az.1 hq | replace hq:=F6.1 hq) <;> (try simp (disch:=omega) only [go_sem,Ab]))
 all_goals omega
theorem Vk (x:Tm) (hn:x.nodes≤1099511627776) (ih:∀ y∈x.args,E 102 [y.sv] []=some (.int .i64 y.deep,[])):E 102 [x.sv] []=some (.int .i64 x.deep,[]):=by
 have hl:=Tm.length_le x.args
 have hx:=Tm.nodes_eq x
 have hd1:=Tm.Kf x
 have hd2:=Tm.GC x
 refine Aj Pt FA (of_decide_eq_true rfl) ?_
 simp (disch:=omega) only [Kg,go_sem,Ab]
 refine go_loop (α:=Int × (Int)) (fun a=>⟨slots 20 0 [(3,.int .i64 (a.2)),(7,.arr (x.args.map Tm.d)),(8,.int .i64 x.args.length),(9,.int .i64 (a.1))],[]⟩) (fun a=>∃ k:Nat,a.1=k∧k≤(x.args).length∧0≤(a.2)∧max (a.2) (Tm.Es (x.args.drop k):Nat)=(Tm.Es x.args:Nat)) (fun a=>(x.args).length-(a.1).toNat) (0,0) ⟨0,rfl,zM _,by dsimp only; omega,by rw [zK]; dsimp only; omega⟩ (by simp (disch:=omega) only [go_sem,Ab]) ?_
 rintro ⟨i,n⟩ ⟨k,hi,hk,hR⟩
 dsimp only at hi hR
 have hni:i.toNat=k:=by omega
 have hni1:(i+1).toNat=k+1:=by omega
 rcases zF k (x.args).length with hlt | hge
 ·have hg:=get_at Tm.d hlt
  rw [Tm.d_eq] at hg
  have hc:=ih x.args[k] (zG hlt)
  rw [zE hlt,Tm.Es] at hR
  simp (disch:=omega) only [go_sem,Ab,hni,hg,hc,FA,Xn]
  refine ⟨(i+1,max n (x.args[k].deep:Int)),⟨k+1,by dsimp only; omega,hlt,by dsimp only; omega⟩,by dsimp only; omega,?_⟩
  simp only [and_self]
 ·rw [zI hge,Tm.Es] at hR
  simp (disch:=omega) only [go_sem,Ab,hni]
  omega
theorem SG (x:Tm) (hn:x.nodes≤1099511627776):E 102 [x.sv] []=some (.int .i64 x.deep,[]) :=
 Vk x hn fun y hy=>SG y (by have:=Tm.nodes_mem hy; have:=Tm.nodes_eq x; omega)
termination_by SizeOf.sizeOf x
decreasing_by exact Tm.lt_of_mem hy
theorem RG (x:Tm) (hn:x.nodes≤1099511627776) (ih:∀ y∈x.args,E 135 [y.sv] []=some (.int .i64 y.deep,[])):E 135 [x.sv] []=some (.int .i64 x.deep,[]):=by
 have hl:=Tm.length_le x.args
 have hx:=Tm.nodes_eq x
 have hd1:=Tm.Kf x
 have hd2:=Tm.GC x
 refine Aj MP Et (of_decide_eq_true rfl) ?_
 simp (disch:=omega) only [Ii,go_sem,Ab]
 refine go_loop (α:=Int × (Int)) (fun a=>⟨slots 22 0 [(1,.ptr 0 0),(3,.int .i64 (a.2)),(4,.int .i64 (a.1))],[.box 26 [.str x.name,.arr (x.args.map Tm.d)]]⟩) (fun a=>∃ k:Nat,a.1=k∧k≤(x.args).length∧0≤(a.2)∧max (a.2) (Tm.Es (x.args.drop k):Nat)=(Tm.Es x.args:Nat)) (fun a=>(x.args).length-(a.1).toNat) (0,0) ⟨0,rfl,zM _,by dsimp only; omega,by rw [zK]; dsimp only; omega⟩ (by simp (disch:=omega) only [go_sem,Ab]) ?_
 rintro ⟨i,n⟩ ⟨k,hi,hk,hR⟩
 dsimp only at hi hR
 have hni:i.toNat=k:=by omega
 have hni1:(i+1).toNat=k+1:=by omega
 rcases zF k (x.args).length with hlt | hge
 ·have hg:=get_at Tm.d hlt
  rw [Tm.d_eq] at hg
  have hc:=ih x.args[k] (zG hlt)
  rw [zE hlt,Tm.Es] at hR
  simp (disch:=omega) only [go_sem,Ab,hni,hg,hc,Et,Vj,Jf]
  refine ⟨(i+1,max n (x.args[k].deep:Int)),⟨k+1,by dsimp only; omega,hlt,by dsimp only; omega⟩,by dsimp only; omega,?_⟩
  simp only [and_self]
 ·rw [zI hge,Tm.Es] at hR
  simp (disch:=omega) only [go_sem,Ab,hni]
  omega
theorem O7 (x:Tm) (hn:x.nodes≤1099511627776):E 135 [x.sv] []=some (.int .i64 x.deep,[]) :=
 RG x hn fun y hy=>O7 y (by have:=Tm.nodes_mem hy; have:=Tm.nodes_eq x; omega)
termination_by SizeOf.sizeOf x
decreasing_by exact Tm.lt_of_mem hy
def Cy:SC:=(.seq (.reg [⟨some 4,none,.mv (.c (.int .i64 0))⟩]) (.seq (.seq (.reg [⟨some 6,none,.mv (.t 0)⟩,⟨some 7,none,.len false (.t 6)⟩,⟨some 8,none,.mv (.c (.int .i64 0))⟩]) (.block 0 (.loop [1,1,0,0,0,0,0,1,1,0,0,0,0,0,0,0,0,0,0] (.seq (.reg [⟨some 9,none,.bin .lss false (.t 8) (.t 7)⟩]) (.seq (.cond (.t 9) .skip (.exit 0)) (.seq (.block 1 (.seq (.reg [⟨some 10,none,.mv (.t 8)⟩,⟨some 5,none,.mv (.t 10)⟩]) (.seq (.reg [⟨some 11,none,.mv (.t 1)⟩,⟨some 12,none,.mv (.t 0)⟩,⟨some 13,none,.mv (.t 5)⟩,⟨some 14,none,.iaddr 2 (.t 12) (.t 13)⟩,⟨some 15,none,.load true 2 (.t 14)⟩,⟨some 16,none,.callv (.t 11) [(.t 15)]⟩]) (.cond (.t 16) (.seq (.reg [⟨some 17,none,.mv (.t 5)⟩,⟨some 4,none,.mv (.t 17)⟩]) .ret) .skip)))) (.reg [⟨some 18,none,.bin .add false (.t 8) (.c (.int .i64 1))⟩,⟨some 8,none,.mv (.t 18)⟩]))))))) (.seq (.reg [⟨some 4,none,.mv (.c (.int .i64 (-(0+1))))⟩]) .ret)))
theorem D8:codeOf Tryz.prog 126=some ⟨19,Cy,[(.tmp 4)]⟩:=by kernel_rfl
theorem Cz:modes 126=⟨[],.asis,none,false⟩:=by unfold modes; rfl
def Cj:SC:=(.seq (.reg [⟨some 4,none,.mv (.c (.bool false))⟩]) (.seq (.reg [⟨some 5,none,.mv (.t 0)⟩,⟨some 6,none,.mv (.t 1)⟩,⟨some 7,none,.call 126 [(.t 5),(.t 6)]⟩,⟨some 8,none,.bin .geq false (.t 7) (.c (.int .i64 0))⟩,⟨some 4,none,.mv (.t 8)⟩]) .ret))
theorem Dt:codeOf Tryz.prog 103=some ⟨9,Cj,[(.tmp 4)]⟩:=by kernel_rfl
theorem Ck:modes 103=⟨[],.asis,none,false⟩:=by unfold modes; rfl
theorem LH (fid:Nat) (p:Tm→Bool) (xs:List Tm) (hl:xs.length≤1099511627776) (hg:Fu Tryz.prog fid=true) (hm:(modes fid).hand=[]) (hE:∀ x∈xs,E fid [x.sv] []=some (.bool (p x),[])):E 126 [.arr (xs.map Tm.d),.fn fid []] []=some (.int .i64 (GB p xs 0),[]):=by
 refine Aj D8 Cz (of_decide_eq_true rfl) ?_
 simp (disch:=omega) only [Cy,go_sem,Ab]
 refine go_loop (α:=Int) (fun a=>⟨slots 19 0 [(0,.arr (xs.map Tm.d)),(1,.fn fid []),(7,.int .i64 xs.length),(8,.int .i64 a)],[]⟩) (fun a=>∃ k:Nat,a=k∧k≤(xs).length∧GB p (xs.drop k) a=GB p xs 0) (fun a=>(xs).length-(a).toNat) 0 ⟨0,rfl,zM _,by rw [zK]⟩ (by simp (disch:=omega) only [go_sem,Ab]) ?_
 rintro i ⟨k,hi,hk,hR⟩
 have hni:i.toNat=k:=by omega
 have hni1:(i+1).toNat=k+1:=by omega
 rcases zF k (xs).length with hlt | hge
 ·have hg':=get_at Tm.d hlt
  rw [Tm.d_eq] at hg'
  have hc:=hE xs[k] (zG hlt)
  rw [zE hlt,GB] at hR
  cases hp:p xs[k] with
  | true =>
   rw [hp] at hc hR
   simp (disch:=omega) only [go_sem,Ab,hni,hg',hc,hg,hm]
   simpa using hR
  | false =>
   rw [hp] at hc hR
   simp (disch:=omega) only [go_sem,Ab,hni,hg',hc,hg,hm]
   exact ⟨i+1,⟨k+1,by omega,hlt,by simpa using hR⟩,by omega,by first | trivial | rfl⟩
 ·rw [zI hge,GB] at hR
  simp (disch:=omega) only [go_sem,Ab,hni]
  exact hR
theorem JD (fid:Nat) (p:Tm→Bool) (xs:List Tm) (hl:xs.length≤1099511627776) (hg:Fu Tryz.prog fid=true) (hm:(modes fid).hand=[]) (hE:∀ x∈xs,E fid [x.sv] []=some (.bool (p x),[])):E 103 [.arr (xs.map Tm.d),.fn fid []] []=some (.bool (xs.any p),[]):=by
 have h:=LH fid p xs hl hg hm hE
 refine Aj Dt Ck (of_decide_eq_true rfl) ?_
 simp (disch:=omega) only [Cj,go_sem,Ab,h,Cz]
 rw [MO]
def Du:SC:=(.seq (.reg [⟨some 1,none,.boxv 26 2 (.t 0)⟩,⟨some 2,none,.mv (.c (.bool false))⟩]) (.seq (.seq (.reg [⟨some 3,none,.faddr 0 (.t 1)⟩,⟨some 4,none,.load false 1 (.t 3)⟩,⟨some 5,none,.call 55 [(.t 4)]⟩]) (.cond (.t 5) (.seq (.reg [⟨some 6,none,.faddr 1 (.t 1)⟩,⟨some 7,none,.load false 1 (.t 6)⟩,⟨some 8,none,.len false (.t 7)⟩,⟨some 9,none,.bin .eql false (.t 8) (.c (.int .i64 0))⟩,⟨some 2,none,.mv (.t 9)⟩]) .ret) .skip)) (.seq (.reg [⟨some 10,none,.faddr 0 (.t 1)⟩,⟨some 11,none,.load false 1 (.t 10)⟩,⟨some 12,none,.call 86 [(.t 11)]⟩,⟨some 13,none,.mv (.t 12)⟩,⟨(some 14),(some (13,true)),(.faddr 1 (.t 1))⟩,⟨(some 15),(some (13,true)),(.load false 1 (.t 14))⟩,⟨(some 16),(some (13,true)),(.len false (.t 15))⟩,⟨(some 17),(some (13,true)),(.bin .leq false (.t 16) (.c (.int .i64 4)))⟩,⟨some 18,none,.pick (.t 13) (.t 17) (.c (.bool false))⟩,⟨some 19,none,.mv (.t 18)⟩,⟨(some 20),(some (19,true)),(.faddr 1 (.t 1))⟩,⟨(some 21),(some (19,true)),(.load false 1 (.t 20))⟩,⟨(some 22),(some (19,true)),(.call 103 [(.t 21),(.c (.fn 104 []))])⟩,⟨(some 23),(some (19,true)),(.un .not (.t 22))⟩,⟨some 24,none,.pick (.t 19) (.t 23) (.c (.bool false))⟩,⟨some 2,none,.mv (.t 24)⟩]) .ret)))
theorem Ec:codeOf Tryz.prog 85=some ⟨25,Du,[(.tmp 2)]⟩:=by kernel_rfl
theorem Bp:modes 85=⟨[],.asis,none,false⟩:=by unfold modes; rfl
def Gz:SC:=(.seq (.reg [⟨some 1,none,.boxv 26 2 (.t 0)⟩,⟨some 2,none,.mv (.c (.bool false))⟩]) (.seq (.reg [⟨some 3,none,.load true 2 (.t 1)⟩,⟨some 4,none,.call 85 [(.t 3)]⟩,⟨some 5,none,.un .not (.t 4)⟩,⟨some 2,none,.mv (.t 5)⟩]) .ret))
theorem Kh:codeOf Tryz.prog 104=some ⟨6,Gz,[(.tmp 2)]⟩:=by kernel_rfl
theorem G0:modes 104=⟨[],.asis,none,false⟩:=by unfold modes; rfl
theorem Ki:Fu Tryz.prog 104=true:=by kernel_rfl
theorem Tm.any_not (xs:List Tm):(!xs.any fun y=>!y.names)=Tm.FW xs:=by
 rw [Tm.Ej]
 induction xs with
 | nil=>rfl
 | cons x xs ih=>simp only [yC,yL,Bool.not_or,Bool.not_not,ih]
theorem Q8 (x:Tm) (hn:x.nodes≤1099511627776) (ih:∀ y∈x.args,E 85 [y.sv] []=some (.bool y.names,[])):E 85 [x.sv] []=some (.bool x.names,[]):=by
 have hl:=Tm.length_le x.args
 have hx:=Tm.nodes_eq x
 have h1:∀ y∈x.args,E 104 [y.sv] []=some (.bool (!y.names),[]):=fun y hy=>by
  have h:=ih y hy
  refine Aj Kh G0 (of_decide_eq_true rfl) ?_
  simp (disch:=omega) only [Gz,go_sem,Ab,h,Bp]
 have h2:=JD 104 (fun y=>!y.names) x.args (by omega) Ki (by rw [G0]) h1
 rw [Tm.Fk,← Tm.any_not]
 cases hv:Bz x.name with
 | true =>
  have h3:=Dl x.name
  rw [hv] at h3
  refine Aj Ec Bp (of_decide_eq_true rfl) ?_
  simp (disch:=omega) only [Du,go_sem,Ab,h3,Ae]
  rw [J6]; cases x.args <;> simp <;> omega
 | false =>
  have h3:=Dl x.name
  rw [hv] at h3
  have h4:=MM x.name
  cases hs:Ep x.name with
  | false =>
   rw [hs] at h4
   refine Aj Ec Bp (of_decide_eq_true rfl) ?_
   simp (disch:=omega) only [Du,go_sem,Ab,h2,h3,h4,Ae,BO]
  | true =>
   rw [hs] at h4
   rcases zF 4 x.args.length with h5 | h5
   ·refine Aj Ec Bp (of_decide_eq_true rfl) ?_
    simp (disch:=omega) only [Du,go_sem,Ab,h2,h3,h4,Ae,BO]
    simp; omega
   ·refine Aj Ec Bp (of_decide_eq_true rfl) ?_
    simp (disch:=omega) only [Du,go_sem,Ab,h2,h3,h4,Ae,BO,Ck]
    simp [h5]
theorem H2 (x:Tm) (hn:x.nodes≤1099511627776):E 85 [x.sv] []=some (.bool x.names,[]) :=
 Q8 x hn fun y hy=>H2 y (by have:=Tm.nodes_mem hy; have:=Tm.nodes_eq x; omega)
termination_by SizeOf.sizeOf x
decreasing_by exact Tm.lt_of_mem hy
def D9:SC:=(.seq (.reg [⟨some 1,none,.boxv 26 2 (.t 0)⟩,⟨some 2,none,.mv (.c (.bool false))⟩]) (.seq (.seq (.reg [⟨some 4,none,.faddr 0 (.t 1)⟩,⟨some 5,none,.load false 1 (.t 4)⟩,⟨some 6,none,.call 96 [(.t 5)]⟩]) (.cond (.t 6) (.seq (.reg [⟨some 7,none,.faddr 1 (.t 1)⟩,⟨some 8,none,.load false 1 (.t 7)⟩,⟨some 9,none,.len false (.t 8)⟩,⟨some 10,none,.bin .eql false (.t 9) (.c (.int .i64 0))⟩,⟨some 2,none,.mv (.t 10)⟩]) .ret) .skip)) (.seq (.seq (.reg [⟨some 11,none,.faddr 0 (.t 1)⟩,⟨some 12,none,.load false 1 (.t 11)⟩,⟨some 13,none,.call 122 [(.t 12)]⟩,⟨some 14,none,.un .not (.t 13)⟩,⟨some 15,none,.mv (.t 14)⟩,⟨(some 16),(some (15,false)),(.faddr 1 (.t 1))⟩,⟨(some 17),(some (15,false)),(.load false 1 (.t 16))⟩,⟨(some 18),(some (15,false)),(.len false (.t 17))⟩,⟨(some 19),(some (15,false)),(.bin .gtr false (.t 18) (.c (.int .i64 4)))⟩,⟨some 20,none,.pick (.t 15) (.c (.bool true)) (.t 19)⟩]) (.cond (.t 20) (.seq (.reg [⟨some 2,none,.mv (.c (.bool false))⟩]) .ret) .skip)) (.seq (.seq (.reg [⟨some 3,none,.mv (.c (.int .i64 0))⟩]) (.block 0 (.loop [0,1,0,1,0,0,0,0,0,0,0,0,0,0,0,0,0,0,0,0,0,0,0,0,0,0,0,0,0,0,0,0,0,0,0] (.seq (.seq (.reg [⟨some 21,none,.mv (.t 3)⟩,⟨some 22,none,.faddr 1 (.t 1)⟩,⟨some 23,none,.load false 1 (.t 22)⟩,⟨some 24,none,.len false (.t 23)⟩,⟨some 25,none,.bin .lss false (.t 21) (.t 24)⟩]) (.cond (.t 25) .skip (.exit 0))) (.seq (.block 1 (.seq (.reg [⟨some 28,none,.faddr 1 (.t 1)⟩,⟨some 29,none,.load false 1 (.t 28)⟩,⟨some 30,none,.mv (.t 3)⟩,⟨some 31,none,.iaddr 2 (.t 29) (.t 30)⟩,⟨some 32,none,.load true 2 (.t 31)⟩,⟨some 33,none,.call 121 [(.t 32)]⟩,⟨some 34,none,.un .not (.t 33)⟩]) (.cond (.t 34) (.seq (.reg [⟨some 2,none,.mv (.c (.bool false))⟩]) .ret) .skip))) (.reg [⟨some 26,none,.mv (.t 3)⟩,⟨some 27,none,.bin .add false (.t 26) (.c (.int .i64 1))⟩,⟨some 3,none,.mv (.t 27)⟩])))))) (.seq (.reg [⟨some 2,none,.mv (.c (.bool true))⟩]) .ret)))))
theorem Eu:codeOf Tryz.prog 121=some ⟨35,D9,[(.tmp 2)]⟩:=by kernel_rfl
theorem Br:modes 121=⟨[],.asis,none,false⟩:=by unfold modes; rfl
theorem RH (x:Tm) (hn:x.nodes≤1099511627776) (ih:∀ y∈x.args,E 121 [y.sv] []=some (.bool y.names,[])):E 121 [x.sv] []=some (.bool x.names,[]):=by
 have hl:=Tm.length_le x.args
 have hx:=Tm.nodes_eq x
 have h3:=IE x.name
 have h4:=MN x.name
 rw [Tm.Fk]
 cases hv:Bz x.name with
 | true =>
  rw [hv] at h3
  refine Aj Eu Br (of_decide_eq_true rfl) ?_
  simp (disch:=omega) only [D9,go_sem,Ab,h3,Ar]
  rw [J6]; cases x.args <;> simp <;> omega
 | false =>
  rw [hv] at h3
  cases hs:Ep x.name with
  | false =>
   rw [hs] at h4
   refine Aj Eu Br (of_decide_eq_true rfl) ?_
   simp (disch:=omega) only [D9,go_sem,Ab,h3,h4,Ar,BP]
  | true =>
   rw [hs] at h4
   rcases zF 4 x.args.length with h5 | h5
   ·refine Aj Eu Br (of_decide_eq_true rfl) ?_
    simp (disch:=omega) only [D9,go_sem,Ab,h3,h4,Ar,BP]
    simp; omega
   ·refine Aj Eu Br (of_decide_eq_true rfl) ?_
    simp (disch:=omega) only [D9,go_sem,Ab,h3,h4,Ar,BP]
    refine go_loop (α:=Int) (fun a=>⟨slots 35 0 [(1,.ptr 0 0),(3,.int .i64 a)],[.box 26 [.str x.name,.arr (x.args.map Tm.d)]]⟩) (fun a=>∃ k:Nat,a=k∧k≤(x.args).length∧Tm.FW (x.args.drop k)=Tm.FW x.args) (fun a=>(x.args).length-(a).toNat) 0 ⟨0,rfl,zM _,by rw [zK]⟩ (by simp (disch:=omega) only [go_sem,Ab]) ?_
    rintro i ⟨k,hi,hk,hR⟩
    have hni:i.toNat=k:=by omega
    have hni1:(i+1).toNat=k+1:=by omega
    rcases zF k (x.args).length with hlt | hge
    ·have hg:=get_at Tm.d hlt
     rw [Tm.d_eq] at hg
     have hc:=ih x.args[k] (zG hlt)
     rw [zE hlt,Tm.FW] at hR
     cases hp:x.args[k].names with
     | true =>
      rw [hp] at hc hR
      simp (disch:=omega) only [go_sem,Ab,hni,hg,hc,Br]
      exact ⟨i+1,⟨k+1,by omega,hlt,by simpa using hR⟩,by omega,by first | trivial | rfl⟩
     | false =>
      rw [hp] at hc hR
      simp (disch:=omega) only [go_sem,Ab,hni,hg,hc,Br]
      simp at hR ⊢; exact fun _=>hR
    ·rw [zI hge,Tm.FW] at hR
     simp (disch:=omega) only [go_sem,Ab,hni]
     simp [h5,← hR]
theorem IF (x:Tm) (hn:x.nodes≤1099511627776):E 121 [x.sv] []=some (.bool x.names,[]) :=
 RH x hn fun y hy=>IF y (by have:=Tm.nodes_mem hy; have:=Tm.nodes_eq x; omega)
termination_by SizeOf.sizeOf x
decreasing_by exact Tm.lt_of_mem hy
def FX:SC:=(.seq (.reg [⟨some 1,none,.boxv 26 2 (.t 0)⟩,⟨some 2,none,.mv (.c (.bool false))⟩]) (.seq (.reg [⟨some 3,none,.load true 2 (.t 1)⟩,⟨some 4,none,.call 101 [(.t 3)]⟩,⟨some 5,none,.bin .leq false (.t 4) (.c (.int .i64 30))⟩,⟨some 6,none,.mv (.t 5)⟩,⟨(some 7),(some (6,true)),(.load true 2 (.t 1))⟩,⟨(some 8),(some (6,true)),(.call 102 [(.t 7)])⟩,⟨(some 9),(some (6,true)),(.bin .leq false (.t 8) (.c (.int .i64 8)))⟩,⟨some 10,none,.pick (.t 6) (.t 9) (.c (.bool false))⟩,⟨some 2,none,.mv (.t 10)⟩]) .ret))
theorem Ij:codeOf Tryz.prog 84=some ⟨11,FX,[(.tmp 2)]⟩:=by kernel_rfl
theorem BT:modes 84=⟨[],.asis,none,false⟩:=by unfold modes; rfl
def GD:SC:=(.seq (.reg [⟨some 1,none,.boxv 26 2 (.t 0)⟩,⟨some 2,none,.mv (.c (.bool false))⟩]) (.seq (.reg [⟨some 3,none,.load true 2 (.t 1)⟩,⟨some 4,none,.call 134 [(.t 3),(.c (.int .i64 30))]⟩,⟨some 5,none,.bin .leq false (.t 4) (.c (.int .i64 30))⟩,⟨some 6,none,.mv (.t 5)⟩,⟨(some 7),(some (6,true)),(.load true 2 (.t 1))⟩,⟨(some 8),(some (6,true)),(.call 135 [(.t 7)])⟩,⟨(some 9),(some (6,true)),(.bin .leq false (.t 8) (.c (.int .i64 8)))⟩,⟨some 10,none,.pick (.t 6) (.t 9) (.c (.bool false))⟩,⟨some 2,none,.mv (.t 10)⟩]) .ret))
theorem Jg:codeOf Tryz.prog 120=some ⟨11,GD,[(.tmp 2)]⟩:=by kernel_rfl
theorem Ce:modes 120=⟨[],.asis,none,false⟩:=by unfold modes; rfl
def Eg:SC:=(.seq (.reg [⟨some 1,none,.boxv 26 2 (.t 0)⟩,⟨some 2,none,.mv (.c (.bool false))⟩]) (.seq (.reg [⟨some 3,none,.load true 2 (.t 1)⟩,⟨some 4,none,.call 84 [(.t 3)]⟩,⟨some 5,none,.mv (.t 4)⟩,⟨(some 6),(some (5,true)),(.load true 2 (.t 1))⟩,⟨(some 7),(some (5,true)),(.call 85 [(.t 6)])⟩,⟨some 8,none,.pick (.t 5) (.t 7) (.c (.bool false))⟩,⟨some 2,none,.mv (.t 8)⟩]) .ret))
theorem FY:codeOf Tryz.prog 87=some ⟨9,Eg,[(.tmp 2)]⟩:=by kernel_rfl
theorem BL:modes 87=⟨[],.asis,none,false⟩:=by unfold modes; rfl
def GE:SC:=(.seq (.reg [⟨some 1,none,.boxv 26 2 (.t 0)⟩,⟨some 2,none,.mv (.c (.bool false))⟩]) (.seq (.reg [⟨some 3,none,.load true 2 (.t 1)⟩,⟨some 4,none,.call 120 [(.t 3)]⟩,⟨some 5,none,.mv (.t 4)⟩,⟨(some 6),(some (5,true)),(.load true 2 (.t 1))⟩,⟨(some 7),(some (5,true)),(.call 121 [(.t 6)])⟩,⟨some 8,none,.pick (.t 5) (.t 7) (.c (.bool false))⟩,⟨some 2,none,.mv (.t 8)⟩]) .ret))
theorem Jh:codeOf Tryz.prog 123=some ⟨9,GE,[(.tmp 2)]⟩:=by kernel_rfl
theorem CB:modes 123=⟨[],.asis,none,false⟩:=by unfold modes; rfl
def G1:SC:=(.seq (.reg [⟨some 1,none,.boxv 26 2 (.t 0)⟩,⟨some 2,none,.mv (.c (.bool false))⟩]) (.seq (.reg [⟨some 3,none,.faddr 0 (.t 1)⟩,⟨some 4,none,.load false 1 (.t 3)⟩,⟨(some 5),none,(.bin .eql false (.t 4) (.c (.str ⟨#[61]⟩)))⟩,⟨some 2,none,.mv (.t 5)⟩]) .ret))
theorem Kj:codeOf Tryz.prog 83=some ⟨6,G1,[(.tmp 2)]⟩:=by kernel_rfl
theorem Cf:modes 83=⟨[],.asis,none,false⟩:=by unfold modes; rfl
def BV:SC:=(.seq (.reg [⟨some 1,none,.boxv 26 2 (.t 0)⟩,⟨some 2,none,.mv (.c (.bool false))⟩]) (.seq (.seq (.reg [⟨some 3,none,.load true 2 (.t 1)⟩,⟨some 4,none,.call 83 [(.t 3)]⟩]) (.cond (.t 4) (.seq (.reg [⟨some 5,none,.faddr 1 (.t 1)⟩,⟨some 6,none,.load false 1 (.t 5)⟩,⟨some 7,none,.len false (.t 6)⟩,⟨some 8,none,.bin .eql false (.t 7) (.c (.int .i64 2))⟩,⟨some 9,none,.mv (.t 8)⟩,⟨(some 10),(some (9,true)),(.load true 2 (.t 1))⟩,⟨(some 11),(some (9,true)),(.call 84 [(.t 10)])⟩,⟨some 12,none,.pick (.t 9) (.t 11) (.c (.bool false))⟩,⟨some 13,none,.mv (.t 12)⟩,⟨(some 14),(some (13,true)),(.faddr 1 (.t 1))⟩,⟨(some 15),(some (13,true)),(.load false 1 (.t 14))⟩,⟨(some 16),(some (13,true)),(.iaddr 2 (.t 15) (.c (.int .i64 0)))⟩,⟨(some 17),(some (13,true)),(.load true 2 (.t 16))⟩,⟨(some 18),(some (13,true)),(.call 85 [(.t 17)])⟩,⟨some 19,none,.pick (.t 13) (.t 18) (.c (.bool false))⟩,⟨some 20,none,.mv (.t 19)⟩,⟨(some 21),(some (20,true)),(.faddr 1 (.t 1))⟩,⟨(some 22),(some (20,true)),(.load false 1 (.t 21))⟩,⟨(some 23),(some (20,true)),(.iaddr 2 (.t 22) (.c (.int .i64 1)))⟩,⟨(some 24),(some (20,true)),(.load true 2 (.t 23))⟩,⟨(some 25),(some (20,true)),(.call 85 [(.t 24)])⟩,⟨some 26,none,.pick (.t 20) (.t 25) (.c (.bool false))⟩,⟨some 2,none,.mv (.t 26)⟩]) .ret) .skip)) (.seq (.reg [⟨some 27,none,.faddr 0 (.t 1)⟩,⟨some 28,none,.load false 1 (.t 27)⟩,⟨some 29,none,.call 86 [(.t 28)]⟩,⟨some 30,none,.mv (.t 29)⟩,⟨(some 31),(some (30,true)),(.load true 2 (.t 1))⟩,⟨(some 32),(some (30,true)),(.call 87 [(.t 31)])⟩,⟨some 33,none,.pick (.t 30) (.t 32) (.c (.bool false))⟩,⟨some 2,none,.mv (.t 33)⟩]) .ret)))
theorem Cq:codeOf Tryz.prog 56=some ⟨34,BV,[(.tmp 2)]⟩:=by kernel_rfl
theorem Ad:modes 56=⟨[],.asis,none,false⟩:=by unfold modes; rfl
def CS:SC:=(.seq (.reg [⟨some 1,none,.boxv 26 2 (.t 0)⟩,⟨some 2,none,.mv (.c (.bool false))⟩]) (.seq (.seq (.reg [⟨some 3,none,.faddr 0 (.t 1)⟩,⟨some 4,none,.load false 1 (.t 3)⟩,⟨(some 5),none,(.bin .eql false (.t 4) (.c (.str ⟨#[61]⟩)))⟩]) (.cond (.t 5) (.seq (.reg [⟨some 6,none,.faddr 1 (.t 1)⟩,⟨some 7,none,.load false 1 (.t 6)⟩,⟨some 8,none,.len false (.t 7)⟩,⟨some 9,none,.bin .eql false (.t 8) (.c (.int .i64 2))⟩,⟨some 10,none,.mv (.t 9)⟩,⟨(some 11),(some (10,true)),(.load true 2 (.t 1))⟩,⟨(some 12),(some (10,true)),(.call 120 [(.t 11)])⟩,⟨some 13,none,.pick (.t 10) (.t 12) (.c (.bool false))⟩,⟨some 14,none,.mv (.t 13)⟩,⟨(some 15),(some (14,true)),(.faddr 1 (.t 1))⟩,⟨(some 16),(some (14,true)),(.load false 1 (.t 15))⟩,⟨(some 17),(some (14,true)),(.iaddr 2 (.t 16) (.c (.int .i64 0)))⟩,⟨(some 18),(some (14,true)),(.load true 2 (.t 17))⟩,⟨(some 19),(some (14,true)),(.call 121 [(.t 18)])⟩,⟨some 20,none,.pick (.t 14) (.t 19) (.c (.bool false))⟩,⟨some 21,none,.mv (.t 20)⟩,⟨(some 22),(some (21,true)),(.faddr 1 (.t 1))⟩,⟨(some 23),(some (21,true)),(.load false 1 (.t 22))⟩,⟨(some 24),(some (21,true)),(.iaddr 2 (.t 23) (.c (.int .i64 1)))⟩,⟨(some 25),(some (21,true)),(.load true 2 (.t 24))⟩,⟨(some 26),(some (21,true)),(.call 121 [(.t 25)])⟩,⟨some 27,none,.pick (.t 21) (.t 26) (.c (.bool false))⟩,⟨some 2,none,.mv (.t 27)⟩]) .ret) .skip)) (.seq (.reg [⟨some 28,none,.faddr 0 (.t 1)⟩,⟨some 29,none,.load false 1 (.t 28)⟩,⟨some 30,none,.call 122 [(.t 29)]⟩,⟨some 31,none,.mv (.t 30)⟩,⟨(some 32),(some (31,true)),(.load true 2 (.t 1))⟩,⟨(some 33),(some (31,true)),(.call 123 [(.t 32)])⟩,⟨some 34,none,.pick (.t 31) (.t 33) (.c (.bool false))⟩,⟨some 2,none,.mv (.t 34)⟩]) .ret)))
theorem Dy:codeOf Tryz.prog 95=some ⟨35,CS,[(.tmp 2)]⟩:=by kernel_rfl
theorem An:modes 95=⟨[],.asis,none,false⟩:=by unfold modes; rfl
theorem O8 (x:Tm) (hn:x.nodes≤1099511627776):E 84 [x.sv] []=some (.bool x.small,[]):=by
 have h1:=Vh x hn
 have h2:=SG x hn
 have h3:=Tm.cap_spec x
 have h4:=Tm.many_spec x 30
 unfold Tm.small
 rcases zF 30 x.nodes with h5 | h5
 ·rw [decide_eq_false (by omega),yZ]
  refine Aj Ij BT (of_decide_eq_true rfl) ?_
  simp (disch:=omega) only [FX,go_sem,Ab,h1,h2,Fl,FA]
 ·rw [decide_eq_true h5,yS]
  refine Aj Ij BT (of_decide_eq_true rfl) ?_
  simp (disch:=omega) only [FX,go_sem,Ab,h1,h2,Fl,FA]
  rcases zF 8 x.deep with h6 | h6
  ·rw [decide_eq_false (by omega),Ai (by omega)]
  ·rw [decide_eq_true h6,Au (by omega)]
theorem Q9 (x:Tm) (hn:x.nodes≤1099511627776):E 120 [x.sv] []=some (.bool x.small,[]):=by
 have h1:=Vi x 30 (by omega) (by omega) hn
 have h2:=O7 x hn
 have h3:=Tm.cap_spec x
 have h4:=Tm.many_spec x 30
 unfold Tm.small
 rcases zF 30 x.nodes with h5 | h5
 ·rw [decide_eq_false (by omega),yZ]
  refine Aj Jg Ce (of_decide_eq_true rfl) ?_
  simp (disch:=omega) only [GD,go_sem,Ab,h1,h2,DT,Et]
 ·rw [decide_eq_true h5,yS]
  refine Aj Jg Ce (of_decide_eq_true rfl) ?_
  simp (disch:=omega) only [GD,go_sem,Ab,h1,h2,DT,Et]
  rcases zF 8 x.deep with h6 | h6
  ·rw [decide_eq_false (by omega),Ai (by omega)]
  ·rw [decide_eq_true h6,Au (by omega)]
theorem NG (x:Tm) (hn:x.nodes≤1099511627776):E 87 [x.sv] []=some (.bool x.valid,[]):=by
 have h1:=O8 x hn
 have h2:=H2 x hn
 unfold Tm.valid
 cases h3:x.small <;> rw [h3] at h1
 ·refine Aj FY BL (of_decide_eq_true rfl) ?_
  simp (disch:=omega) only [Eg,go_sem,Ab,h1,h2,BT,Bp]
 ·refine Aj FY BL (of_decide_eq_true rfl) ?_
  simp (disch:=omega) only [Eg,go_sem,Ab,h1,h2,BT,Bp]
theorem Vl (x:Tm) (hn:x.nodes≤1099511627776):E 123 [x.sv] []=some (.bool x.valid,[]):=by
 have h1:=Q9 x hn
 have h2:=IF x hn
 unfold Tm.valid
 cases h3:x.small <;> rw [h3] at h1
 ·refine Aj Jh CB (of_decide_eq_true rfl) ?_
  simp (disch:=omega) only [GE,go_sem,Ab,h1,h2,Ce,Br]
 ·refine Aj Jh CB (of_decide_eq_true rfl) ?_
  simp (disch:=omega) only [GE,go_sem,Ab,h1,h2,Ce,Br]
theorem Kk (x:Tm):E 83 [x.sv] []=some (.bool x.eqn,[]):=by
 unfold Tm.eqn
 refine Aj Kj Cf (of_decide_eq_true rfl) ?_
 simp (disch:=omega) only [G1,go_sem,Ab]
theorem NH (x:Tm) (hn:x.nodes≤1099511627776):E 56 [x.sv] []=some (.bool x.atom,[]):=by
 have hl:=Tm.length_le x.args
 have hx:=Tm.nodes_eq x
 have h0:=Kk x
 have h1:=O8 x hn
 have h2:=MM x.name
 have h3:=NG x hn
 have hE:dec (x.name=⟨#[61]⟩)=x.eqn:=rfl
 unfold Tm.atom
 cases he:x.eqn <;> rw [he] at h0 hE
 ·rw [if_neg (by simp)]
  cases hs:Ep x.name <;> rw [hs] at h2
  ·refine Aj Cq Ad (of_decide_eq_true rfl) ?_
   simp (disch:=omega) only [BV,go_sem,Ab,h0,h1,h2,h3,hE,BT,Bp,BO,BL,Cf]
  ·refine Aj Cq Ad (of_decide_eq_true rfl) ?_
   simp (disch:=omega) only [BV,go_sem,Ab,h0,h1,h2,h3,hE,BT,Bp,BO,BL,Cf]
 ·rw [if_pos rfl]
  by_cases hc:x.args.length=2
  ·have hlt0:0<x.args.length:=by omega
   have hlt1:1<x.args.length:=by omega
   have hg0:=get_at Tm.d hlt0
   have hg1:=get_at Tm.d hlt1
   rw [Tm.d_eq] at hg0 hg1
   have hb0:=Tm.nodes_le x.args 0 hlt0
   have hb1:=Tm.nodes_le x.args 1 hlt1
   have hn0:=H2 x.args[0] (by omega)
   have hn1:=H2 x.args[1] (by omega)
   rw [O6 hc,show (x.args.length == 2)=true by simpa using hc]
   cases hs:x.small <;> rw [hs] at h1
   ·refine Aj Cq Ad (of_decide_eq_true rfl) ?_
    simp (disch:=omega) only [BV,go_sem,Ab,h0,h1,h2,h3,hE,hg0,hg1,hn0,hn1,hc,BT,Bp,BO,BL,Cf]
    try simp
   ·cases hq:(x.args[0]'hlt0).names <;> rw [hq] at hn0
    ·refine Aj Cq Ad (of_decide_eq_true rfl) ?_
     simp (disch:=omega) only [BV,go_sem,Ab,h0,h1,h2,h3,hE,hg0,hg1,hn0,hn1,hc,BT,Bp,BO,BL,Cf]
     try simp
    ·refine Aj Cq Ad (of_decide_eq_true rfl) ?_
     simp (disch:=omega) only [BV,go_sem,Ab,h0,h1,h2,h3,hE,hg0,hg1,hn0,hn1,hc,BT,Bp,BO,BL,Cf]
     try simp
  ·refine Aj Cq Ad (of_decide_eq_true rfl) ?_
   simp (disch:=omega) only [BV,go_sem,Ab,h0,h1,h2,h3,hE,BT,Bp,BO,BL,Cf]
   rw [show (x.args.length == 2)=false by simpa using hc]
   try simp
theorem Vm (x:Tm) (hn:x.nodes≤1099511627776):E 95 [x.sv] []=some (.bool x.atom,[]):=by
 have hl:=Tm.length_le x.args
 have hx:=Tm.nodes_eq x
 have h0:=Kk x
 have h1:=Q9 x hn
 have h2:=MN x.name
 have h3:=Vl x hn
 have hE:dec (x.name=⟨#[61]⟩)=x.eqn:=rfl
 unfold Tm.atom
 cases he:x.eqn <;> rw [he] at h0 hE
 ·rw [if_neg (by simp)]
  cases hs:Ep x.name <;> rw [hs] at h2
  ·refine Aj Dy An (of_decide_eq_true rfl) ?_
   simp (disch:=omega) only [CS,go_sem,Ab,h0,h1,h2,h3,hE,Ce,Br,BP,CB]
  ·refine Aj Dy An (of_decide_eq_true rfl) ?_
   simp (disch:=omega) only [CS,go_sem,Ab,h0,h1,h2,h3,hE,Ce,Br,BP,CB]
 ·rw [if_pos rfl]
  by_cases hc:x.args.length=2
  ·have hlt0:0<x.args.length:=by omega
   have hlt1:1<x.args.length:=by omega
   have hg0:=get_at Tm.d hlt0
   have hg1:=get_at Tm.d hlt1
   rw [Tm.d_eq] at hg0 hg1
   have hb0:=Tm.nodes_le x.args 0 hlt0
   have hb1:=Tm.nodes_le x.args 1 hlt1
   have hn0:=IF x.args[0] (by omega)
   have hn1:=IF x.args[1] (by omega)
   rw [O6 hc,show (x.args.length == 2)=true by simpa using hc]
   cases hs:x.small <;> rw [hs] at h1
   ·refine Aj Dy An (of_decide_eq_true rfl) ?_
    simp (disch:=omega) only [CS,go_sem,Ab,h0,h1,h2,h3,hE,hg0,hg1,hn0,hn1,hc,Ce,Br,BP,CB]
    try simp
   ·cases hq:(x.args[0]'hlt0).names <;> rw [hq] at hn0
    ·refine Aj Dy An (of_decide_eq_true rfl) ?_
     simp (disch:=omega) only [CS,go_sem,Ab,h0,h1,h2,h3,hE,hg0,hg1,hn0,hn1,hc,Ce,Br,BP,CB]
     try simp
    ·refine Aj Dy An (of_decide_eq_true rfl) ?_
     simp (disch:=omega) only [CS,go_sem,Ab,h0,h1,h2,h3,hE,hg0,hg1,hn0,hn1,hc,Ce,Br,BP,CB]
     try simp
  ·refine Aj Dy An (of_decide_eq_true rfl) ?_
   simp (disch:=omega) only [CS,go_sem,Ab,h0,h1,h2,h3,hE,Ce,Br,BP,CB]
   rw [show (x.args.length == 2)=false by simpa using hc]
   try simp
noncomputable def Tm.expr (x:Tm):Bool:=x.valid || x.atom
theorem Tm.RI {x:Tm} (h:x.expr=true):x.small=true:=by
 unfold Tm.expr Tm.atom Tm.valid at h
 cases hs:x.small with
 | true=>rfl
 | false =>
  rw [hs] at h
  split at h <;> simp at h
theorem Tm.RJ {x:Tm} (h:x.expr=true):x.nodes≤30:=by
 have:=Tm.RI h
 unfold Tm.small at this
 rw [zA,decide_eq_true_eq] at this
 exact this.1
theorem Tm.Xq {x:Tm} (h:x.eqn=true):Bz x.name=false:=by
 unfold Tm.eqn at h
 rw [Az.1 h]
 kernel_rfl
theorem TH {s:ByteArray} (h:Bz s=true):s.size≤6:=by
 unfold Bz inB at h
 simp at h
 omega
theorem O9 {s:ByteArray} (h:Ep s=true):s.size≤6:=by
 unfold Ep inB at h
 simp at h
 omega
mutual
def Fm.nodes:Fm→Nat
 | .mk _ _ _ args=>1+Fm.nodeS args
def Fm.nodeS:List Fm→Nat
 | []=>0
 | x :: xs=>Fm.nodes x+Fm.nodeS xs
end
theorem Fm.nodes_eq (x:Fm):x.nodes=1+Fm.nodeS x.parts:=by
 obtain ⟨op,atom,var,parts⟩:=x
 rw [Fm.nodes]; rfl
theorem Fm.nodes_pos (x:Fm):1≤x.nodes:=by rw [Fm.nodes_eq]; omega
theorem Fm.nodes_le:∀ (xs:List Fm) (k:Nat) (h:k<xs.length),xs[k].nodes≤Fm.nodeS xs
 | [],k,h=>absurd h (by simp)
 | x :: xs,0,_=>by rw [Fm.nodeS]; simp
 | x :: xs,k+1,h=>by
  have:=Fm.nodes_le xs k (by simpa using h)
  rw [Fm.nodeS]; simp only [yH]; omega
theorem Fm.MQ:∀ (xs:List Fm) (k:Nat) (h:k<xs.length),Fm.nodeS (xs.take (k+1))=Fm.nodeS (xs.take k)+xs[k].nodes
 | [],k,h=>absurd h (by simp)
 | x :: xs,0,_=>by simp [Fm.nodeS]
 | x :: xs,k+1,h=>by
  have:=Fm.MQ xs k (by simpa using h)
  simp only [yO,Fm.nodeS,yH,this]; omega
theorem Fm.NI (xs:List Fm) (k:Nat):Fm.nodeS (xs.take k)≤Fm.nodeS xs:=by
 induction xs generalizing k with
 | nil=>simp [Fm.nodeS]
 | cons x xs ih =>
  cases k with
  | zero=>simp [Fm.nodeS]
  | succ k=>simp only [yO,Fm.nodeS]; have:=ih k; omega
theorem Fm.nodes_mem {xs:List Fm} {y:Fm} (h:y∈xs):y.nodes≤Fm.nodeS xs:=by
 obtain ⟨k,hk,rfl⟩:=yN h
 exact Fm.nodes_le xs k hk
mutual
def Fm.cap:Fm→Int
 | .mk _ _ _ xs=>Fm.capL xs 1
def Fm.capL:List Fm→Int→Int
 | [],n=>n
 | x :: xs,n=>if 40 < n then n else Fm.capL xs (n+Fm.cap x)
end
theorem Fm.cap_eq (x:Fm):x.cap=Fm.capL x.parts 1:=by
 obtain ⟨op,atom,var,xs⟩:=x
 rw [Fm.cap]; rfl
theorem Fm.capL_spec:∀ (xs:List Fm) (n:Int),(∀ x∈xs,1≤x.cap∧x.cap≤x.nodes∧(x.cap≤40→x.cap=x.nodes))→1≤n→n≤Fm.capL xs n∧Fm.capL xs n≤n+Fm.nodeS xs∧(Fm.capL xs n≤40→Fm.capL xs n=n+Fm.nodeS xs)
 | [],n,_,h=>by simp [Fm.capL,Fm.nodeS]
 | x :: xs,n,hx,h=>by
  rw [Fm.capL,Fm.nodeS]
  have h1:=hx x (by simp)
  split
  ·omega
  ·have:=Fm.capL_spec xs (n+x.cap) (fun y hy=>hx y (by simp [hy])) (by omega)
   omega
theorem Fm.cap_spec (x:Fm):1≤x.cap∧x.cap≤x.nodes∧(x.cap≤40→x.cap=x.nodes):=by
 rw [Fm.cap_eq,Fm.nodes_eq]
 have:=Fm.capL_spec x.parts 1 (fun y hy=>Fm.cap_spec y) (by omega)
 omega
termination_by SizeOf.sizeOf x
decreasing_by exact Fm.lt_of_mem hy
mutual
def Fm.many:Fm→Int→Int
 | .mk _ _ _ xs,m=>Fm.manyL xs m 1
def Fm.manyL:List Fm→Int→Int→Int
 | [],_,n=>n
 | x :: xs,m,n=>if n≤m then Fm.manyL xs m (n+Fm.many x (m-n)) else n
end
theorem Fm.many_eq (x:Fm) (m:Int):x.many m=Fm.manyL x.parts m 1:=by
 obtain ⟨op,atom,var,xs⟩:=x
 rw [Fm.many]; rfl
theorem Fm.manyL_spec (m:Int):∀ (xs:List Fm) (n:Int),(∀ x∈xs,∀ m,0≤m→1≤x.many m∧x.many m≤x.nodes∧(x.many m≤m→x.many m=x.nodes))→1≤n→n≤Fm.manyL xs m n∧Fm.manyL xs m n≤n+Fm.nodeS xs∧(Fm.manyL xs m n≤m→Fm.manyL xs m n=n+Fm.nodeS xs)
 | [],n,_,h=>by simp [Fm.manyL,Fm.nodeS]
 | x :: xs,n,hx,h=>by
  rw [Fm.manyL,Fm.nodeS]
  split
  ·have h1:=hx x (by simp) (m-n) (by omega)
   have:=Fm.manyL_spec m xs (n+x.many (m-n)) (fun y hy=>hx y (by simp [hy])) (by omega)
   omega
  ·omega
theorem Fm.many_spec (x:Fm) (m:Int):1≤x.many m∧x.many m≤x.nodes∧(x.many m≤m→x.many m=x.nodes):=by
 rw [Fm.many_eq,Fm.nodes_eq]
 have:=Fm.manyL_spec m x.parts 1 (fun y hy m _=>Fm.many_spec y m) (by omega)
 omega
termination_by SizeOf.sizeOf x
decreasing_by exact Fm.lt_of_mem hy
noncomputable def Tm.isZ (x:Tm):Bool:=dec (x.name=⟨#[]⟩)&&x.args.length == 0
noncomputable def Fm.form (x:Fm):Bool :=
 if x.op=1∨x.op=2 then x.parts.length == 0&&x.atom.isZ&&dec (x.var=⟨#[]⟩)
 else if x.op=3 then x.parts.length == 0&&x.atom.atom&&dec (x.var=⟨#[]⟩)
 else if x.op=4 then x.parts.length == 1&&x.atom.isZ&&dec (x.var=⟨#[]⟩)
 else if x.op=5∨x.op=6∨x.op=7 then x.parts.length == 2&&x.atom.isZ&&dec (x.var=⟨#[]⟩)
 else if x.op=8∨x.op=9 then x.parts.length == 1&&x.atom.isZ&&Bz x.var
 else false
theorem Kl (n:Int):n=1∨n=2∨n=3∨n=4∨n=5∨n=6∨n=7∨n=8∨n=9∨(n≠1∧n≠2∧n≠3∧n≠4∧n≠5∧n≠6∧n≠7∧n≠8∧n≠9):=by omega
mutual
noncomputable def Fm.forms:Fm→Bool
 | .mk op atom var parts=>Fm.form (.mk op atom var parts)&&Fm.Ji parts
noncomputable def Fm.Ji:List Fm→Bool
 | []=>true
 | x :: xs=>Fm.forms x&&Fm.Ji xs
end
theorem Fm.DU (x:Fm):x.forms=(x.form&&Fm.Ji x.parts):=by
 obtain ⟨op,atom,var,parts⟩:=x
 rw [Fm.forms]; rfl
theorem Fm.IG:∀ xs:List Fm,Fm.Ji xs=xs.all Fm.forms
 | []=>rfl
 | x :: xs=>by rw [Fm.Ji,Fm.IG xs]; rfl
theorem Fm.any_not (xs:List Fm):(!xs.any fun y=>!y.forms)=Fm.Ji xs:=by
 rw [Fm.IG]
 induction xs with
 | nil=>rfl
 | cons x xs ih=>simp only [yC,yL,Bool.not_or,Bool.not_not,ih]
noncomputable def Fm.valid (x:Fm):Bool:=decide (x.nodes≤40)&&x.forms
theorem Fm.length_le:∀ xs:List Fm,xs.length≤Fm.nodeS xs
 | []=>by simp
 | x :: xs=>by
  have h:=Fm.length_le xs
  have h1:=Fm.nodes_pos x
  rw [Fm.nodeS,zL]; omega
mutual
def Fm.tame:Fm→Prop
 | .mk _ atom _ parts=>atom.nodes≤1099511627776∧Fm.C0 parts
def Fm.C0:List Fm→Prop
 | []=>True
 | x :: xs=>Fm.tame x∧Fm.C0 xs
end
theorem Fm.H3 (x:Fm):x.tame=(x.atom.nodes≤1099511627776∧Fm.C0 x.parts):=by
 obtain ⟨op,atom,var,parts⟩:=x
 rw [Fm.tame]; rfl
theorem Fm.OA:∀ {xs:List Fm},Fm.C0 xs→∀ y∈xs,y.tame
 | [],_,y,hy=>by cases hy
 | x :: xs,h,y,hy=>by
  rw [Fm.C0] at h
  rcases zC.1 hy with rfl | hy
  ·exact h.1
  ·exact Fm.OA h.2 y hy
theorem Fm.IH {x:Fm} (h:x.tame):x.atom.nodes≤1099511627776:=by rw [Fm.H3] at h; exact h.1
theorem Fm.II {x y:Fm} (h:x.tame) (hy:y∈x.parts):y.tame:=by rw [Fm.H3] at h; exact Fm.OA h.2 y hy
theorem DA {x:Fm} (h:x.valid=true):x.nodes≤40∧x.forms=true:=by
 unfold Fm.valid at h
 rw [zA,decide_eq_true_eq] at h
 exact h
theorem Tm.TI {x:Tm} (h:x.atom=true):x.expr=true:=by unfold Tm.expr; rw [h,Bool.or_true]
theorem Tm.MR {x:Tm} (h:x.atom=true):x.nodes≤30:=Tm.RJ (Tm.TI h)
theorem Tm.Pu {x:Tm} (h:x.isZ=true):x=.mk ⟨#[]⟩ []:=by
 obtain ⟨n,a⟩:=x
 unfold Tm.isZ at h
 rw [zA] at h
 have h1:n=⟨#[]⟩:=Az.1 h.1
 have h3:(a.length == 0)=true:=h.2
 have h2:a=[]:=zB (by simpa using h3)
 rw [h1,h2]
theorem Fm.DE {x:Fm} (h:x.form=true) (ho:x.op=3):x.parts=[]∧x.atom.atom=true∧x.var=⟨#[]⟩:=by
 unfold Fm.form at h
 simp only [ho] at h
 simp at h
 exact ⟨h.1.1,h.1.2,Az.1 h.2⟩
theorem Fm.EM {x:Fm} (h:x.form=true) (ho:¬ x.op=3):x.atom=.mk ⟨#[]⟩ []:=by
 unfold Fm.form at h
 split at h
 ·rw [zA,zA] at h; exact Tm.Pu h.1.2
 ·try rw [if_neg ho] at h
  split at h
  ·rw [zA,zA] at h; exact Tm.Pu h.1.2
  ·split at h
   ·rw [zA,zA] at h; exact Tm.Pu h.1.2
   ·split at h
    ·rw [zA,zA] at h; exact Tm.Pu h.1.2
    ·cases h
theorem Fm.Dm {x:Fm} (h:x.form=true) (ho:qB x.op=true):Bz x.var=true∧∃ p,x.parts=[p]:=by
 unfold qB at ho
 rw [zU,Az,Az] at ho
 unfold Fm.form at h
 rw [if_neg (by omega),if_neg (by omega),if_neg (by omega),if_neg (by omega),if_pos (by omega),zA,zA] at h
 refine ⟨h.2,?_⟩
 have hl:x.parts.length=1:=by simpa using h.1.1
 match hq:x.parts,hl with
 | [p],_=>exact ⟨p,rfl⟩
theorem Fm.BE {x y:Fm} (h:x.forms=true) (hy:y∈x.parts):y.forms=true:=by
 rw [Fm.DU,zA,Fm.IG,zO] at h
 exact h.2 y hy
theorem Fm.B8 {x:Fm} (h:x.forms=true):x.form=true:=by
 rw [Fm.DU,zA] at h
 exact h.1
theorem Fm.EW {x:Fm} (h:x.form=true):x.atom.nodes≤30:=by
 by_cases ho:x.op=3
 ·exact Tm.MR (Fm.DE h ho).2.1
 ·rw [Fm.EM h ho,Tm.nodes_eq]
  simp [Tm.args,Tm.nodeS]
theorem Fm.H4 (x:Fm) (h:x.forms=true):x.tame:=by
 have key:∀ xs:List Fm,(∀ y∈xs,y.tame)→Fm.C0 xs:=by
  intro xs
  induction xs with
  | nil=>intro _; rw [Fm.C0]; trivial
  | cons y ys ih=>intro hh; rw [Fm.C0]; exact ⟨hh y (by simp),ih fun z hz=>hh z (by simp [hz])⟩
 have h1:=Fm.EW (Fm.B8 h)
 rw [Fm.H3]
 exact ⟨by omega,key _ fun y hy=>Fm.H4 y (Fm.BE h hy)⟩
termination_by SizeOf.sizeOf x
decreasing_by exact Fm.lt_of_mem hy
def Jj (s:ByteArray):Bool:=decide (0<s.size)&&(Mw (GR s 0) == Bz s)
mutual
def Tm.cok:Tm→Bool
 | .mk n xs=>Jj n&&Tm.RK xs
def Tm.RK:List Tm→Bool
 | []=>true
 | x :: xs=>Tm.cok x&&Tm.RK xs
end
theorem Tm.KO (x:Tm):x.cok=(Jj x.name&&Tm.RK x.args):=by
 obtain ⟨n,xs⟩:=x
 rw [Tm.cok]; rfl
theorem Tm.MS {xs:List Tm} (h:Tm.RK xs=true) {y:Tm} (hy:y∈xs):y.cok=true:=by
 induction xs with
 | nil=>cases hy
 | cons x xs ih =>
  rw [Tm.RK,zA] at h
  rcases zC.1 hy with rfl | hy
  ·exact h.1
  ·exact ih h.2 hy
structure Ord3 {α:Type} (c:α→α→Int) (a b d:α):Prop where
 anti:c b a=- c a b
 zero:c a b=0 ↔ a=b
 trans:c a b<0→c b d<0→c a d<0
theorem H5 {p:Nat→Int→Bool} {s:ByteArray} (h:Eo p s s.size=true) (hs:0<s.size):p 0 (GR s 0)=true:=by
 unfold Eo at h
 rw [zO] at h
 exact h 0 (List.mem_range.2 hs)
theorem TJ {s:ByteArray} (h:Bz s=true):Jj s=true:=by
 have h0:=h
 unfold Bz inB at h
 rw [zA,zA,decide_eq_true_eq,decide_eq_true_eq] at h
 have hs:0<s.size:=by omega
 have h1:=H5 h.1 hs
 unfold HH at h1
 unfold Jj
 rw [h0]
 simp at h1
 simp [hs,h1]
theorem OB {s:ByteArray} (hs:0<s.size) (h:Mw (GR s 0)=false):Jj s=true:=by
 have hv:Bz s=false:=by
  rw [yQ]
  intro hv
  unfold Bz at hv
  rw [zA] at hv
  have h1:=H5 hv.1 hs
  unfold HH at h1
  rw [h] at h1
  simp at h1
 unfold Jj
 rw [hv,h]
 simp [hs]
theorem TK {s:ByteArray} (h:Ep s=true):Jj s=true:=by
 unfold Ep inB at h
 rw [zA,zA,zA,decide_eq_true_eq,decide_eq_true_eq] at h
 have hs:0<s.size:=by omega
 refine OB hs ?_
 have h1:=H5 h.1.1 hs
 unfold HG at h1
 simp at h1
 have h2:=h1.1
 unfold NA at h2
 unfold Mw
 simp at h2 ⊢
 omega
theorem TL {s:ByteArray} (h:s.toList=[61]):Jj s=true:=by
 have hs:s.size=1:=by
  have:=congrArg List.length h
  rw [ByteArray.toList_eq] at this
  simpa using this
 refine OB (by omega) ?_
 unfold GR
 rw [h]
 rfl
mutual
theorem Tm.IJ:∀ x:Tm,x.names=true→x.cok=true
 | .mk n xs,h=>by
  rw [Tm.names] at h
  rw [Tm.cok,zA]
  split at h
  ·rename_i hv
   have:xs=[]:=by
    rw [beq_iff_eq] at h
    exact zB h
   subst this
   exact ⟨TJ hv,rfl⟩
  ·rw [zA,zA] at h
   exact ⟨TK h.1.1,Tm.JE xs h.2⟩
theorem Tm.JE:∀ xs:List Tm,Tm.FW xs=true→Tm.RK xs=true
 | [],_=>rfl
 | x :: xs,h=>by
  rw [Tm.FW,zA] at h
  rw [Tm.RK,zA]
  exact ⟨Tm.IJ x h.1,Tm.JE xs h.2⟩
end
theorem Tm.MT {x:Tm} (h:x.atom=true):x.cok=true:=by
 unfold Tm.atom at h
 rcases he:x.eqn with _ | _
 ·rw [he,if_neg (by simp),zA] at h
  unfold Tm.valid at h
  rw [zA] at h
  exact Tm.IJ x h.2.2
 ·rw [he,if_pos rfl,zA,zA] at h
  unfold Tm.eqn at he
  rw [Az] at he
  rw [Tm.KO,zA]
  exact ⟨TL (by rw [he,ByteArray.toList_eq]),Tm.JE _ h.2⟩
theorem TM {s:ByteArray} {k:Nat} (h:k<s.size):DN s k=GR s k:=by
 rw [←ED h]
 unfold DN
 rw [show s[k]?=some s[k] from getElem?_pos s k h]; rfl
theorem OC {s:ByteArray} (h:Jj s=true):0<s.size∧(dec (65≤DN s 0)&&dec (DN s 0≤90))=Bz s:=by
 unfold Jj at h
 rw [zA,decide_eq_true_eq,beq_iff_eq] at h
 refine ⟨h.1,?_⟩
 rw [←h.2,TM h.1,J6,J6]
 unfold Mw
 rfl
theorem RL (a:ByteArray):strLt a a=false:=by
 unfold strLt
 have key:∀ l:List UInt8,Op.bytesLess l l=false:=by
  intro l
  induction l with
  | nil=>rfl
  | cons x l ih=>simp [Op.bytesLess,ih]
 exact key _
def FZ:SC:=(.seq (.reg [⟨some 2,none,.mv (.c (.bool false))⟩]) (.seq (.reg [⟨some 3,none,.mv (.t 0)⟩,⟨some 4,none,.bin .geq false (.t 3) (.c (.int .u8 65))⟩,⟨some 5,none,.mv (.t 4)⟩,⟨(some 6),(some (5,true)),(.mv (.t 0))⟩,⟨(some 7),(some (5,true)),(.bin .leq false (.t 6) (.c (.int .u8 90)))⟩,⟨some 8,none,.pick (.t 5) (.t 7) (.c (.bool false))⟩,⟨some 2,none,.mv (.t 8)⟩]) .ret))
theorem Ik:codeOf Tryz.prog 79=some ⟨9,FZ,[(.tmp 2)]⟩:=by kernel_rfl
theorem Ga:modes 79=⟨[],.asis,none,false⟩:=by unfold modes; rfl
def Km:SC:=(.seq (.reg [⟨some 1,none,.boxv 26 2 (.t 0)⟩,⟨some 2,none,.mv (.c (.bool false))⟩]) (.seq (.reg [⟨some 3,none,.faddr 0 (.t 1)⟩,⟨some 4,none,.load false 1 (.t 3)⟩,⟨some 5,none,.idx (.t 4) (.c (.int .i64 0))⟩,⟨some 6,none,.call 79 [(.t 5)]⟩,⟨some 2,none,.mv (.t 6)⟩]) .ret))
theorem Pv:codeOf Tryz.prog 68=some ⟨7,Km,[(.tmp 2)]⟩:=by kernel_rfl
theorem B9:modes 68=⟨[],.asis,none,false⟩:=by unfold modes; rfl
theorem TN (n:Int):E 79 [.int .u8 n] []=some (.bool (dec (65≤n)&&dec (n≤90)),[]):=by
 cases h1:dec (65≤n)
 ·refine Aj Ik Ga (of_decide_eq_true rfl) ?_
  simp (disch:=omega) only [FZ,go_sem,Ab,h1]
 ·refine Aj Ik Ga (of_decide_eq_true rfl) ?_
  simp (disch:=omega) only [FZ,go_sem,Ab,h1]
theorem Pw (x:Tm) (h:x.cok=true):E 68 [x.sv] []=some (.bool (Bz x.name),[]):=by
 rw [Tm.KO,zA] at h
 obtain ⟨h1,h2⟩:=OC h.1
 have h3:=TN (DN x.name 0)
 rw [h2] at h3
 refine Aj Pv B9 (of_decide_eq_true rfl) ?_
 simp (disch:=omega) only [Km,go_sem,Ab,h3,Ga]
theorem Tm.KP {x:Tm} (h:x.atom=true):(Bz x.name=true→x.args=[])∧∀ y∈x.args,y.names=true:=by
 unfold Tm.atom at h
 cases he:x.eqn with
 | true =>
  rw [he,if_pos rfl,zA,zA] at h
  have h2:=h.2
  rw [Tm.Ej,zO] at h2
  refine ⟨fun hv=>?_,h2⟩
  have hn:=Az.1 he
  have hnv0:Bz ⟨#[61]⟩=false:=by kernel_rfl
  rw [hn,hnv0] at hv
  cases hv
 | false =>
  rw [he,if_neg (by simp),zA] at h
  have hnm:x.names=true:=by have h3:=h.2; unfold Tm.valid at h3; rw [zA] at h3; exact h3.2
  exact ⟨fun hv=>Tm.FH hnm hv,fun y hy=>Tm.Ek hnm hy⟩
theorem Tm.QA (x:Tm):x.vs=bif Bz x.name then [x.name] else Tm.vsL x.args:=by
 obtain ⟨n,a⟩:=x
 rw [Tm.vs]; rfl
theorem Tm.LU {v:ByteArray}:∀ {xs:List Tm},v∈Tm.vsL xs ↔ ∃ x∈xs,v∈x.vs
 | []=>by simp [Tm.vsL]
 | x :: xs=>by rw [Tm.vsL,List.mem_append,Tm.LU (xs:=xs)]; simp
theorem Tm.SH:∀ xs:List Tm,(∀ x∈xs,x.vs.length≤x.nodes)→(Tm.vsL xs).length≤Tm.nodeS xs
 | [],_=>by simp [Tm.vsL]
 | x :: xs,h=>by
  have h1:=h x (by simp)
  have h2:=Tm.SH xs fun y hy=>h y (by simp [hy])
  rw [Tm.vsL,Tm.nodeS,zW]; omega
theorem Tm.KQ (x:Tm):x.vs.length≤x.nodes:=by
 have h:=Tm.SH x.args fun y hy=>Tm.KQ y
 rw [Tm.QA,Tm.nodes_eq]
 cases Bz x.name with
 | true=>simp
 | false=>simp only [cond_false]; omega
termination_by SizeOf.sizeOf x
decreasing_by exact Tm.lt_of_mem hy
noncomputable def H6 (l:List ByteArray) (n:ByteArray):List ByteArray:=bif dec (n∈l) then l else l++[n]
theorem Vn (l:List ByteArray) (n:ByteArray):(H6 l n).length≤l.length+1:=by
 unfold H6
 cases dec (n∈l) <;> simp
theorem Vo {l:List ByteArray} {n m:ByteArray}:m∈H6 l n ↔ m∈l∨m=n:=by
 unfold H6
 by_cases h:n∈l
 ·rw [Au h,cond_true]
  exact ⟨.inl,fun h'=>h'.elim id fun e=>e▸h⟩
 ·rw [Ai h,cond_false]
  simp
theorem RN {l:List ByteArray} {n:ByteArray} (h:l.Nodup):(H6 l n).Nodup:=by
 unfold H6
 by_cases k:n∈l
 ·rw [Au k]; exact h
 ·rw [Ai k,cond_false,List.nodup_append]
  exact ⟨h,by simp,fun a ha b hb e=>by simp at hb; subst hb; subst e; exact k ha⟩
noncomputable def CD (l ns:List ByteArray):List ByteArray:=ns.foldl H6 l
theorem He:∀ (ns l:List ByteArray),(CD l ns).length≤l.length+ns.length
 | [],l=>by simp [CD]
 | n :: ns,l=>by
  have h:=He ns (H6 l n)
  have h2:=Vn l n
  simp only [CD,zR,zL] at h ⊢
  omega
theorem QB:∀ {ns l:List ByteArray} {m:ByteArray},m∈CD l ns ↔ m∈l∨m∈ns
 | [],l,m=>by simp [CD]
 | n :: ns,l,m=>by
  have h:=QB (ns:=ns) (l:=H6 l n) (m:=m)
  simp only [CD,zR] at h ⊢
  rw [h,Vo]
  simp only [zC]
  exact or_assoc
theorem MU:∀ {ns l:List ByteArray},l.Nodup→(CD l ns).Nodup
 | [],l,h=>h
 | n :: ns,l,h=>MU (ns:=ns) (RN h)
theorem MW (l a b:List ByteArray):CD l (a++b)=CD (CD l a) b:=List.foldl_append
def Dv:SC:=(.seq (.reg [⟨some 4,none,.mv (.c (.int .i64 0))⟩]) (.seq (.seq (.reg [⟨some 6,none,.mv (.t 0)⟩,⟨some 7,none,.len false (.t 6)⟩,⟨some 8,none,.mv (.c (.int .i64 0))⟩]) (.block 0 (.loop [1,1,0,0,0,0,0,1,1,0,0,0,0,0,0,0,0,0,0] (.seq (.reg [⟨some 9,none,.bin .lss false (.t 8) (.t 7)⟩]) (.seq (.cond (.t 9) .skip (.exit 0)) (.seq (.block 1 (.seq (.reg [⟨some 10,none,.mv (.t 8)⟩,⟨some 5,none,.mv (.t 10)⟩]) (.seq (.reg [⟨some 11,none,.mv (.t 1)⟩,⟨some 12,none,.mv (.t 0)⟩,⟨some 13,none,.mv (.t 5)⟩,⟨some 14,none,.iaddr 1 (.t 12) (.t 13)⟩,⟨some 15,none,.load false 1 (.t 14)⟩,⟨some 16,none,.bin .eql false (.t 11) (.t 15)⟩]) (.cond (.t 16) (.seq (.reg [⟨some 17,none,.mv (.t 5)⟩,⟨some 4,none,.mv (.t 17)⟩]) .ret) .skip)))) (.reg [⟨some 18,none,.bin .add false (.t 8) (.c (.int .i64 1))⟩,⟨some 8,none,.mv (.t 18)⟩]))))))) (.seq (.reg [⟨some 4,none,.mv (.c (.int .i64 (-(0+1))))⟩]) .ret)))
theorem Fx:codeOf Tryz.prog 107=some ⟨19,Dv,[(.tmp 4)]⟩:=by kernel_rfl
theorem Dw:modes 107=⟨[],.asis,none,false⟩:=by unfold modes; rfl
def CW:SC:=(.seq (.reg [⟨some 4,none,.mv (.c (.bool false))⟩]) (.seq (.reg [⟨some 5,none,.mv (.t 0)⟩,⟨some 6,none,.mv (.t 1)⟩,⟨some 7,none,.call 107 [(.t 5),(.t 6)]⟩,⟨some 8,none,.bin .geq false (.t 7) (.c (.int .i64 0))⟩,⟨some 4,none,.mv (.t 8)⟩]) .ret))
theorem E7:codeOf Tryz.prog 90=some ⟨9,CW,[(.tmp 4)]⟩:=by kernel_rfl
theorem AK:modes 90=⟨[],.asis,none,false⟩:=by unfold modes; rfl
theorem Vp (xs:List ByteArray) (n:ByteArray) (hl:xs.length≤1099511627776):E 107 [.arr (xs.map fun s=>[D.str s]),.str n] []=some (.int .i64 (GB (fun s=>dec (n=s)) xs 0),[]):=by
 refine Aj Fx Dw (of_decide_eq_true rfl) ?_
 simp (disch:=omega) only [Dv,go_sem,Ab]
 refine go_loop (α:=Int) (fun a=>⟨slots 19 0 [(0,.arr (xs.map fun s=>[D.str s])),(1,.str n),(7,.int .i64 xs.length),(8,.int .i64 a)],[]⟩) (fun a=>∃ k:Nat,a=k∧k≤(xs).length∧GB (fun s=>dec (n=s)) (xs.drop k) a=GB (fun s=>dec (n=s)) xs 0) (fun a=>(xs).length-(a).toNat) 0 ⟨0,rfl,zM _,by rw [zK]⟩ (by simp (disch:=omega) only [go_sem,Ab]) ?_
 rintro i ⟨k,hi,hk,hR⟩
 have hni:i.toNat=k:=by omega
 have hni1:(i+1).toNat=k+1:=by omega
 rcases zF k (xs).length with hlt | hge
 ·have hg:=get_at (fun s=>[D.str s]) hlt
  rw [zE hlt,GB] at hR
  cases hp:dec (n=xs[k]) with
  | true =>
   rw [hp] at hR
   simp (disch:=omega) only [go_sem,Ab,hni,hg,hp]
   simpa using hR
  | false =>
   rw [hp] at hR
   simp (disch:=omega) only [go_sem,Ab,hni,hg,hp]
   exact ⟨i+1,⟨k+1,by omega,hlt,by simpa using hR⟩,by omega,by first | trivial | rfl⟩
 ·rw [zI hge,GB] at hR
  simp (disch:=omega) only [go_sem,Ab,hni]
  exact hR
theorem G2 (xs:List ByteArray) (n:ByteArray) (hl:xs.length≤1099511627776):E 90 [.arr (xs.map fun s=>[D.str s]),.str n] []=some (.bool (dec (n∈xs)),[]):=by
 have h:=Vp xs n hl
 have e:dec (n∈xs)=dec (0≤GB (fun s=>dec (n=s)) xs 0):=by
  rw [MO]
  by_cases hm:n∈xs
  ·rw [Au hm]
   exact (List.any_eq_true.2 ⟨n,hm,Au rfl⟩).symm
  ·rw [Ai hm]
   refine Eq.symm (yQ.2 fun h=>?_)
   obtain ⟨x,h1,h2⟩:=List.any_eq_true.1 h
   have e:=Az.1 h2
   subst e
   exact hm h1
 rw [e]
 refine Aj E7 AK (of_decide_eq_true rfl) ?_
 simp (disch:=omega) only [CW,go_sem,Ab,h,Dw]
theorem IK:∀ (ns l:List ByteArray),l.length≤(CD l ns).length
 | [],l=>by simp [CD]
 | n :: ns,l=>by
  have h:=IK ns (H6 l n)
  have h2:l.length≤(H6 l n).length:=by unfold H6; cases dec (n∈l) <;> simp
  simp only [CD,zR] at h ⊢
  omega
def DB:SC:=(.seq (.reg [⟨some 3,none,.boxv 26 2 (.t 1)⟩,⟨some 4,none,.mv (.c .nil)⟩]) (.seq (.seq (.reg [⟨some 7,none,.faddr 1 (.t 3)⟩,⟨some 8,none,.load false 1 (.t 7)⟩,⟨some 9,none,.len false (.t 8)⟩,⟨some 10,none,.bin .eql false (.t 9) (.c (.int .i64 0))⟩,⟨some 11,none,.mv (.t 10)⟩,⟨(some 12),(some (11,true)),(.load true 2 (.t 3))⟩,⟨(some 13),(some (11,true)),(.call 68 [(.t 12)])⟩,⟨some 14,none,.pick (.t 11) (.t 13) (.c (.bool false))⟩]) (.cond (.t 14) (.seq (.seq (.reg [⟨some 15,none,.mv (.t 0)⟩,⟨some 16,none,.faddr 0 (.t 3)⟩,⟨some 17,none,.load false 1 (.t 16)⟩,⟨some 18,none,.call 90 [(.t 15),(.t 17)]⟩,⟨some 19,none,.un .not (.t 18)⟩]) (.cond (.t 19) (.reg [⟨some 20,none,.mv (.t 0)⟩,⟨some 21,none,.faddr 0 (.t 3)⟩,⟨some 22,none,.load false 1 (.t 21)⟩,⟨(some 23),none,(.mkrow 9 1 [(.str ⟨#[]⟩)] 1 [(0,(.t 22))])⟩,⟨(some 24),none,(.append 9 1 16 [(.str ⟨#[]⟩)] (.t 20) (.t 23))⟩,⟨some 0,none,.mv (.t 24)⟩]) .skip)) (.seq (.reg [⟨some 25,none,.mv (.t 0)⟩,⟨some 4,none,.mv (.t 25)⟩]) .ret)) .skip)) (.seq (.seq (.reg [⟨some 26,none,.faddr 1 (.t 3)⟩,⟨some 27,none,.load false 1 (.t 26)⟩,⟨some 28,none,.len false (.t 27)⟩,⟨some 29,none,.mv (.c (.int .i64 0))⟩]) (.block 0 (.loop [1,0,0,0,0,0,0,0,0,0,0,0,0,0,0,0,0,0,0,0,0,0,0,0,0,0,0,1,1,1,0,0,0,0,0,0,0,0] (.seq (.reg [⟨some 30,none,.bin .lss false (.t 29) (.t 28)⟩]) (.seq (.cond (.t 30) .skip (.exit 0)) (.seq (.block 1 (.seq (.reg [⟨some 31,none,.iaddr 2 (.t 27) (.t 29)⟩,⟨some 32,none,.load true 2 (.t 31)⟩,⟨(some 6),none,(.alloc 26 [(.str ⟨#[]⟩),.nil])⟩,⟨none,none,(.store 2 (.t 6) (.t 32))⟩]) (.reg [⟨some 33,none,.mv (.t 0)⟩,⟨some 34,none,.load true 2 (.t 6)⟩,⟨some 35,none,.call 106 [(.t 33),(.t 34)]⟩,⟨some 0,none,.mv (.t 35)⟩]))) (.reg [⟨some 36,none,.bin .add false (.t 29) (.c (.int .i64 1))⟩,⟨some 29,none,.mv (.t 36)⟩]))))))) (.seq (.reg [⟨some 37,none,.mv (.t 0)⟩,⟨some 4,none,.mv (.t 37)⟩]) .ret))))
theorem Ew:codeOf Tryz.prog 106=some ⟨38,DB,[(.tmp 4)]⟩:=by kernel_rfl
theorem CF:modes 106=⟨[true],.asis,none,false⟩:=by unfold modes; rfl
abbrev Vq (x:Tm):Prop:=∀ l:List ByteArray,l.length+x.nodes≤1048576→E 106 [.ref 0,x.sv] [.row 9 1 (l.map fun s=>[OT.str s])]=some ((bif dec (l.length<(CD l x.vs).length) then .ref 1 else .ref 0),(bif dec (l.length<(CD l x.vs).length) then [.gone,.row 9 1 ((CD l x.vs).map fun s=>[OT.str s])] else [.row 9 1 ((CD l x.vs).map fun s=>[OT.str s])]))
theorem MX (x:Tm) (hva:Bz x.name=true→x.args=[]) (hc:x.cok=true) (ih:∀ y∈x.args,Vq y):Vq x:=by
 intro l hn
 have hl:=Tm.length_le x.args
 have hne:=Tm.nodes_eq x
 have hv:=Pw x hc
 have hvs:=Tm.QA x
 rcases zS x.args.length with h0 | h0
 ·have hx0:x.args=[]:=zB h0
  have hz:((x.args.length:Int)=0)=True:=by rw [hx0]; simp
  cases hvv:Bz x.name with
  | true =>
   rw [hvv] at hv hvs
   have h1:=G2 l x.name (by omega)
   rw [hvs]
   cases hm:dec (x.name∈l) with
   | true =>
    have e:CD l [x.name]=l:=by simp only [CD,zR,List.foldl_nil,H6,hm,cond_true]
    rw [hm] at h1
    simp only [cond_true,e]
    refine Aj Ew CF (of_decide_eq_true rfl) ?_
    simp (disch:=omega) only [DB,go_sem,Ab,hz,hv,h1,B9,AK]
   | false =>
    have e:CD l [x.name]=l++[x.name]:=by simp only [CD,zR,List.foldl_nil,H6,hm,cond_false]
    have hg:l.length<(l++[x.name]).length:=by simp
    rw [hm] at h1
    simp only [cond_true,e,Au hg]
    refine Aj Ew CF (of_decide_eq_true rfl) ?_
    simp (disch:=omega) only [DB,go_sem,Ab,hz,hv,h1,B9,AK]
    simp only [yD,zD,zN]
  | false =>
   rw [hvv] at hv hvs
   have e:CD l x.vs=l:=by rw [hvs,hx0]; simp only [cond_false,Tm.vsL]; rfl
   rw [e]
   refine Aj Ew CF (of_decide_eq_true rfl) ?_
   simp (disch:=omega) only [DB,go_sem,Ab,hz,hv,B9]
   refine go_loop (α:=Int) (fun a=>⟨slots 38 0 [(0,.ref 0),(27,.arr (x.args.map Tm.d)),(28,.int .i64 x.args.length),(29,.int .i64 a)],[.row 9 1 (l.map fun s=>[OT.str s])]⟩) (fun a=>∃ k:Nat,a=k∧k≤(x.args).length) (fun a=>(x.args).length-(a).toNat) 0 ⟨0,rfl,zM _⟩ (by simp (disch:=omega) only [go_sem,Ab]) ?_
   rintro i ⟨k,hi,hk⟩
   have hni:i.toNat=k:=by omega
   have hni1:(i+1).toNat=k+1:=by omega
   rcases zF k (x.args).length with hlt | hge
   ·omega
   ·simp (disch:=omega) only [go_sem,Ab,hni]
 ·have hz:((x.args.length:Int)=0)=False:=eq_false (by omega)
  have hvv:Bz x.name=false:=by
   cases h:Bz x.name with
   | false=>rfl
   | true=>rw [hva h] at h0; simp at h0
  rw [hvv] at hvs
  simp only [cond_false] at hvs
  rw [hvs]
  refine Aj Ew CF (of_decide_eq_true rfl) ?_
  simp (disch:=omega) only [DB,go_sem,Ab,hz]
  refine go_loop (α:=Int × (List ByteArray)) (fun a=>⟨slots 38 0 [(0,(bif dec (l.length<(a.2).length) then .ref 1 else .ref 0)),(27,.arr (x.args.map Tm.d)),(28,.int .i64 x.args.length),(29,.int .i64 (a.1))],(bif dec (l.length<(a.2).length) then [.gone,.row 9 1 ((a.2).map fun s=>[OT.str s])] else [.row 9 1 ((a.2).map fun s=>[OT.str s])])⟩) (fun a=>∃ k:Nat,a.1=k∧k≤(x.args).length∧CD (a.2) (Tm.vsL (x.args.drop k))=CD l (Tm.vsL x.args)∧(a.2).length+Tm.nodeS (x.args.drop k)≤1048576∧l.length≤(a.2).length) (fun a=>(x.args).length-(a.1).toNat) (0,l) ⟨0,rfl,zM _,by rw [zK],by rw [zK]; dsimp only; omega,z6 _⟩ (by simp (disch:=omega) only [go_sem,Ab]) ?_
  rintro ⟨i,acc⟩ ⟨k,hi,hk,hR⟩
  dsimp only at hi hR
  have hni:i.toNat=k:=by omega
  have hni1:(i+1).toNat=k+1:=by omega
  rcases zF k (x.args).length with hlt | hge
  ·have hg:=get_at Tm.d hlt
   rw [Tm.d_eq] at hg
   obtain ⟨hR1,hR2,hR3⟩:=hR
   rw [zE hlt,Tm.vsL,MW] at hR1
   rw [zE hlt,Tm.nodeS] at hR2
   have hc:=ih x.args[k] (zG hlt) acc (by omega)
   have hlen:=He x.args[k].vs acc
   have hgr:=IK x.args[k].vs acc
   have hvl:=Tm.KQ x.args[k]
   obtain ⟨acc2,ha2⟩:∃ a,a=CD acc x.args[k].vs:=⟨_,rfl⟩
   rw [←ha2] at hc hlen hgr hR1
   rcases zF l.length acc.length with q1 | q1 <;> rcases zF acc.length acc2.length with q2 | q2
   all_goals
    first
     |rw [Au q2] at hc
     |rw [Ai (Nat.not_lt.2 q2)] at hc
    simp only [cond_true,cond_false] at hc
    simp (disch:=omega) only [go_sem,Ab,hni,hg,hc,CF]
    refine ⟨(i+1,acc2),⟨k+1,by dsimp only; omega,hlt,hR1,by dsimp only; omega,by dsimp only; omega⟩,by dsimp only; omega,?_⟩
    first | done | simp (disch:=omega) only [go_sem,Ab]
  ·rw [zI hge,Tm.vsL] at hR
   obtain ⟨hR1,hR2,hR3⟩:=hR
   have hR1:acc=CD l (Tm.vsL x.args):=hR1
   rw [←hR1]
   rcases zF l.length acc.length with q1 | q1
   ·simp (disch:=omega) only [go_sem,Ab,hni]
   ·simp (disch:=omega) only [go_sem,Ab,hni]
theorem OD (x:Tm) (hx:x.names=true) (hc:x.cok=true):Vq x :=
 MX x (fun h=>Tm.FH hx h) hc fun y hy=>OD y (Tm.Ek hx hy) (by rw [Tm.KO,zA] at hc; exact Tm.MS hc.2 hy)
termination_by SizeOf.sizeOf x
decreasing_by exact Tm.lt_of_mem hy
noncomputable def Px (l:List ByteArray):List ByteArray:=(srt (l.map (·.toList))).map fun x=>⟨x.toArray⟩
theorem TO (l:List ByteArray):(Px l).Perm l:=by
 unfold Px
 have h:(srt (l.map (·.toList))).Perm (l.map (·.toList)):=List.mergeSort_perm _ _
 have h2:=h.map fun x:List UInt8=>(⟨x.toArray⟩:ByteArray)
 rw [yF] at h2
 have e:((fun x:List UInt8=>(⟨x.toArray⟩:ByteArray)) ∘ fun x:ByteArray=>x.toList)=id:=by
  funext x
  exact JB x
 rw [e,List.map_id] at h2
 exact h2
theorem BH:modes 61=⟨[true],.asis,some sortStr,false⟩:=by unfold modes; rfl
theorem SI (l:List ByteArray) (hl:l.length≤1099511627776):E 61 [.ref 0] [.row 9 1 (l.map fun s=>[OT.str s])]=some (.tup [],[.row 9 1 ((Px l).map fun s=>[OT.str s])]):=by
 rw [RE (g:=sortStr) (congrArg FM.ext BH)]
 unfold sortStr
 simp only
 rw [Au ⟨by first | trivial | rfl,fun e he=>by obtain ⟨s,_,rfl⟩:=z8.1 he; exact ⟨s,rfl⟩,by simpa using hl⟩,cond_true]
 have e1:(l.map fun s=>[OT.str s]).map (fun e=>(R8 e).toList)=l.map (·.toList):=by rw [yF]; rfl
 rw [e1]
 unfold Px
 rw [yF]
 rfl
noncomputable def Tm.vars (x:Tm):List ByteArray:=Px (CD [] x.vs)
def EN:SC:=(.seq (.reg [⟨some 1,none,.boxv 26 2 (.t 0)⟩,⟨some 2,none,.mv (.c .nil)⟩]) (.seq (.reg [⟨(some 4),none,(.mkrow 9 1 [(.str ⟨#[]⟩)] 0 [])⟩,⟨some 5,none,.load true 2 (.t 1)⟩,⟨some 6,none,.call 106 [(.t 4),(.t 5)]⟩,⟨some 3,none,.mv (.t 6)⟩]) (.seq (.reg [⟨some 7,none,.mv (.t 3)⟩,⟨some 8,none,.call 61 [(.t 7)]⟩]) (.seq (.reg [⟨some 9,none,.mv (.t 3)⟩,⟨some 2,none,.mv (.t 9)⟩]) .ret))))
theorem Hf:codeOf Tryz.prog 89=some ⟨10,EN,[(.tmp 2)]⟩:=by kernel_rfl
theorem EO:modes 89=⟨[],.asis,none,false⟩:=by unfold modes; rfl
theorem Py (x:Tm) (hcol:Vq x) (hn:x.nodes≤1048576):E 89 [x.sv] []=some (.ref 0,[.row 9 1 (x.vars.map fun s=>[OT.str s])]):=by
 have h1:=hcol [] (by simpa using hn)
 have hl:=He x.vs []
 have hv:=Tm.KQ x
 rw [zT,yU] at hl
 have h2:=SI (CD [] x.vs) (by omega)
 rw [zN,zT] at h1
 unfold Tm.vars
 rcases zF 0 (CD [] x.vs).length with q | q
 ·rw [Au q] at h1
  simp only [cond_true] at h1
  refine Aj Hf EO (of_decide_eq_true rfl) ?_
  simp (disch:=omega) only [EN,go_sem,Ab,h1,h2,CF,BH]
 ·rw [Ai (by omega)] at h1
  simp only [cond_false] at h1
  refine Aj Hf EO (of_decide_eq_true rfl) ?_
  simp (disch:=omega) only [EN,go_sem,Ab,h1,h2,CF,BH]
theorem RO (x:Tm) (h:x.atom=true):Vq x :=
 MX x (Tm.KP h).1 (Tm.MT h) fun y hy=>OD y ((Tm.KP h).2 y hy) (Tm.IJ y ((Tm.KP h).2 y hy))
theorem MY:∀ {xs:List ByteArray} {n m:ByteArray},m∈Kb xs n ↔ m∈xs∨m=n
 | [],n,m=>by simp [Kb]
 | x :: xs,n,m=>by
  rw [Kb]
  cases strLt x n with
  | true=>rw [cond_true,zC,MY,zC,or_assoc]
  | false =>
   rw [cond_false]
   by_cases h:x=n
   ·rw [Au h,cond_true]
    exact ⟨.inl,fun h'=>h'.elim id fun e=>by subst e; subst h; simp⟩
   ·rw [Ai h,cond_false,zC]
    exact or_comm
theorem QC:∀ (xs:List ByteArray) (n:ByteArray),(Kb xs n).length≤xs.length+1
 | [],n=>by simp [Kb]
 | x :: xs,n=>by
  have h:=QC xs n
  rw [Kb]
  cases strLt x n with
  | true=>simp only [cond_true,zL]; omega
  | false =>
   rw [cond_false]
   cases dec (x=n) with
   | true=>simp only [cond_true,zL]; omega
   | false=>simp only [cond_false,zL]; omega
theorem Hg:∀ (ns l:List ByteArray),(HP l ns).length≤l.length+ns.length
 | [],l=>by simp [HP]
 | n :: ns,l=>by
  have h:=Hg ns (Kb l n)
  have h2:=QC l n
  simp only [HP,zR,zL] at h ⊢
  omega
theorem Hh:∀ {ns l:List ByteArray} {m:ByteArray},m∈HP l ns ↔ m∈l∨m∈ns
 | [],l,m=>by simp [HP]
 | n :: ns,l,m=>by
  have h:=Hh (ns:=ns) (l:=Kb l n) (m:=m)
  simp only [HP,zR] at h ⊢
  rw [h,MY]
  simp only [zC]
  exact or_assoc
theorem MZ:∀ x y:List UInt8,Op.bytesLess x y=true→Op.bytesLess y x=false
 | [],[],h=>by simp [Op.bytesLess] at h
 | [],_ :: _,_=>rfl
 | _ :: _,[],h=>by simp [Op.bytesLess] at h
 | a :: x,b :: y,h=>by
  simp only [Op.bytesLess,zU,decide_eq_true_eq,zA,beq_iff_eq] at h
  simp only [Op.bytesLess,Bool.or_eq_false_iff,decide_eq_false_iff_not]
  rcases h with h | ⟨rfl,h⟩
  ·have h2:¬ b<a:=by intro h3; exact absurd (UInt8.lt_trans h h3) (UInt8.lt_irrefl _)
   have h3:(b == a)=false:=by
    rw [beq_eq_false_iff_ne]; rintro rfl; exact UInt8.lt_irrefl _ h
   exact ⟨h2,by rw [h3]; rfl⟩
  ·exact ⟨UInt8.lt_irrefl _,by rw [MZ x y h]; simp⟩
theorem Na:∀ x y:List UInt8,Op.bytesLess x y=false→Op.bytesLess y x=false→x=y
 | [],[],_,_=>rfl
 | [],_ :: _,h,_=>by simp [Op.bytesLess] at h
 | _ :: _,[],_,h=>by simp [Op.bytesLess] at h
 | a :: x,b :: y,h,k=>by
  simp only [Op.bytesLess,Bool.or_eq_false_iff,decide_eq_false_iff_not] at h k
  have hab:a=b:=by
   have h1:=h.1; have h2:=k.1
   rw [UInt8.lt_iff_toNat_lt] at h1 h2
   exact UInt8.toNat_inj.1 (by omega)
  subst hab
  have h1:Op.bytesLess x y=false:=by simpa using h.2
  have h2:Op.bytesLess y x=false:=by simpa using k.2
  rw [Na x y h1 h2]
theorem QD {a b:ByteArray} (h:strLt a b=true):strLt b a=false:=MZ _ _ h
theorem L6 {a b:ByteArray} (h:strLt a b=false) (h':strLt b a=false):a=b:=KF (Na _ _ h h')
theorem Nb:∀ x y z:List UInt8,Op.bytesLess x y=true→Op.bytesLess y z=true→Op.bytesLess x z=true
 | _,_,[],_,h=>by simp [Op.bytesLess] at h
 | [],[],_ :: _,h,_=>by simp [Op.bytesLess] at h
 | [],_ :: _,_ :: _,_,_=>rfl
 | _ :: _,[],_ :: _,h,_=>by simp [Op.bytesLess] at h
 | a :: x,b :: y,c :: z,h,k=>by
  simp only [Op.bytesLess,zU,decide_eq_true_eq,zA,beq_iff_eq] at h k ⊢
  rcases h with h | ⟨rfl,h⟩
  ·rcases k with k | ⟨rfl,k⟩
   ·exact .inl (UInt8.lt_trans h k)
   ·exact .inl h
  ·rcases k with k | ⟨rfl,k⟩
   ·exact .inl k
   ·exact .inr ⟨rfl,Nb x y z h k⟩
theorem QE {a b c:ByteArray} (h:strLt a b=true) (k:strLt b c=true):strLt a c=true:=Nb _ _ _ h k
theorem SJ:∀ x y:List UInt8,Op.bytesLess x y=true ↔ x<y
 | [],[]=>by simp [Op.bytesLess]
 | [],b :: y=>by simp [Op.bytesLess]
 | a :: x,[]=>by simp [Op.bytesLess]
 | a :: x,b :: y=>by
  have h:=SJ x y
  rw [List.cons_lt_cons_iff,← h]
  simp only [Op.bytesLess,zU,decide_eq_true_eq,zA,beq_iff_eq]
theorem Vr (a b:ByteArray):strLt a b=true ↔ a.toList<b.toList:=SJ _ _
theorem OE (n:ByteArray):∀ xs:List ByteArray,xs.Pairwise (fun x y=>strLt x y=true)→(Kb xs n).Pairwise fun x y=>strLt x y=true
 | [],_=>by simp [Kb]
 | x :: xs,h=>by
  rw [Kb]
  rw [zX] at h
  cases hq:strLt x n with
  | true =>
   rw [cond_true,zX]
   refine ⟨fun y hy=>?_,OE n xs h.2⟩
   rcases MY.1 hy with hy | rfl
   ·exact h.1 y hy
   ·exact hq
  | false =>
   rw [cond_false]
   by_cases he:x=n
   ·rw [Au he,cond_true,zX]; exact h
   ·rw [Ai he,cond_false,zX,zX]
    have hn:strLt n x=true:=by
     cases hh:strLt n x with
     | true=>rfl
     | false=>exact absurd (L6 hq hh) he
    refine ⟨fun y hy=>?_,h⟩
    rcases zC.1 hy with rfl | hy
    ·exact hn
    ·exact QE hn (h.1 y hy)
theorem OF:∀ (ns xs:List ByteArray),xs.Pairwise (fun x y=>strLt x y=true)→(HP xs ns).Pairwise fun x y=>strLt x y=true
 | [],xs,h=>h
 | n :: ns,xs,h=>OF ns (Kb xs n) (OE n xs h)
theorem RP {xs:List ByteArray} (h:xs.Pairwise fun x y=>strLt x y=true):xs.Nodup :=
 h.imp fun {a b} hab e=>by rw [e,RL] at hab; cases hab
theorem TP (l:List ByteArray):(Px l).Pairwise fun x y=>strLt y x=false:=by
 unfold Px srt
 rw [List.pairwise_map]
 have h:=List.pairwise_mergeSort (le:=fun x y:List UInt8=>decide (x≤y)) (fun a b c h k=>by
  rw [decide_eq_true_eq] at h k ⊢; exact List.le_trans h k) (fun a b=>by
  rw [zU,decide_eq_true_eq,decide_eq_true_eq]; exact List.le_total a b) (l.map (·.toList))
 refine h.imp fun {a b} hab=>?_
 rw [decide_eq_true_eq] at hab
 rw [yQ]
 intro hh
 have:=(Vr _ _).1 hh
 rw [ByteArray.toList_eq,ByteArray.toList_eq] at this
 exact absurd this (List.not_lt.2 hab)
theorem OG (ns:List ByteArray):Px (CD [] ns)=HP [] ns:=by
 have h1:=OF ns [] List.Pairwise.nil
 have n1:=RP h1
 have n2:(CD [] ns).Nodup:=MU List.nodup_nil
 have hp:(Px (CD [] ns)).Perm (HP [] ns):=(TO _).trans ((List.perm_ext_iff_of_nodup n2 n1).2 fun a=>by rw [QB,Hh])
 refine List.Perm.eq_of_pairwise (le:=fun x y=>strLt y x=false) (fun a b _ _ h k=>L6 k h) (TP _) (h1.imp fun h=>QD h) hp
theorem Fm.Nc (x:Fm) (b:List ByteArray):x.fv b=bif dec (x.op=3) then (HP [] x.atom.vs).filter (fun n=>!dec (n∈b)) else Fm.fvL x.parts (bif qB x.op then b++[x.var] else b):=by
 obtain ⟨op,atom,var,parts⟩:=x
 rw [Fm.fv]; rfl
theorem Fm.DF {m:ByteArray} {b:List ByteArray}:∀ {xs:List Fm},m∈Fm.fvL xs b ↔ ∃ x∈xs,m∈x.fv b
 | []=>by simp [Fm.fvL]
 | x :: xs=>by rw [Fm.fvL,List.mem_append,Fm.DF (xs:=xs)]; simp
theorem Fm.JF (m:ByteArray) (x:Fm):∀ b:List ByteArray,m∈x.fv b ↔ m∈x.fv []∧¬ m∈b:=by
 intro b
 rw [Fm.Nc,Fm.Nc]
 cases dec (x.op=3) with
 | true =>
  simp only [cond_true,List.mem_filter]
  have e:(!dec (m∈([]:List ByteArray)))=true:=by rw [Ai (by simp)]; rfl
  rw [e]
  constructor
  ·rintro ⟨h1,h2⟩
   refine ⟨⟨h1,rfl⟩,fun h=>?_⟩
   rw [Au h] at h2
   cases h2
  ·rintro ⟨⟨h1,_⟩,h2⟩
   exact ⟨h1,by rw [Ai h2]; rfl⟩
 | false =>
  simp only [cond_false]
  have key:∀ c c0:List ByteArray,(∀ k,k∈c ↔ k∈c0∨k∈b)→(m∈Fm.fvL x.parts c ↔ m∈Fm.fvL x.parts c0∧¬ m∈b):=fun c c0 hc=>by
   rw [Fm.DF,Fm.DF]
   constructor
   ·rintro ⟨y,hy,h⟩
    have h1:=(Fm.JF m y c).1 h
    exact ⟨⟨y,hy,(Fm.JF m y c0).2 ⟨h1.1,fun h2=>h1.2 ((hc m).2 (.inl h2))⟩⟩,fun h2=>h1.2 ((hc m).2 (.inr h2))⟩
   ·rintro ⟨⟨y,hy,h⟩,h2⟩
    have h1:=(Fm.JF m y c0).1 h
    exact ⟨y,hy,(Fm.JF m y c).2 ⟨h1.1,fun h3=>((hc m).1 h3).elim h1.2 h2⟩⟩
  cases qB x.op with
  | true=>exact key _ _ fun k=>by simp [or_comm]
  | false=>exact key _ _ fun k=>by simp
termination_by SizeOf.sizeOf x
decreasing_by all_goals exact Fm.lt_of_mem hy
mutual
def Fm.vn:Fm→Nat
 | .mk _ atom _ parts=>atom.nodes+Fm.vnS parts
def Fm.vnS:List Fm→Nat
 | []=>0
 | x :: xs=>Fm.vn x+Fm.vnS xs
end
theorem Fm.Vs (x:Fm):x.vn=x.atom.nodes+Fm.vnS x.parts:=by
 obtain ⟨op,atom,var,parts⟩:=x
 rw [Fm.vn]; rfl
theorem Fm.SK (b:List ByteArray):∀ xs:List Fm,(∀ x∈xs,(x.fv b).length≤x.vn)→(Fm.fvL xs b).length≤Fm.vnS xs
 | [],_=>by simp [Fm.fvL]
 | x :: xs,h=>by
  have h1:=h x (by simp)
  have h2:=Fm.SK b xs fun y hy=>h y (by simp [hy])
  rw [Fm.fvL,Fm.vnS,zW]; omega
theorem Fm.Nd (x:Fm):∀ b:List ByteArray,(x.fv b).length≤x.vn:=by
 intro b
 rw [Fm.Nc,Fm.Vs]
 cases dec (x.op=3) with
 | true =>
  simp only [cond_true]
  have h1:=yI (fun n=>!dec (n∈b)) (HP [] x.atom.vs)
  have h2:=Hg x.atom.vs []
  have h3:=Tm.KQ x.atom
  simp only [zT] at h2
  omega
 | false =>
  simp only [cond_false]
  have h:=Fm.SK (bif qB x.op then b++[x.var] else b) x.parts fun y hy=>Fm.Nd y _
  omega
termination_by SizeOf.sizeOf x
decreasing_by exact Fm.lt_of_mem hy
theorem Fm.Vt:∀ xs:List Fm,(∀ x∈xs,x.vn≤30*x.nodes)→Fm.vnS xs≤30*Fm.nodeS xs
 | [],_=>by simp [Fm.vnS]
 | x :: xs,h=>by
  have h1:=h x (by simp)
  have h2:=Fm.Vt xs fun y hy=>h y (by simp [hy])
  rw [Fm.vnS,Fm.nodeS]; omega
theorem Fm.XI (x:Fm) (h:x.forms=true):x.vn≤30*x.nodes:=by
 have h1:=Fm.Vt x.parts fun y hy=>Fm.XI y (Fm.BE h hy)
 have h2:=Fm.EW (Fm.B8 h)
 rw [Fm.Vs,Fm.nodes_eq]; omega
termination_by SizeOf.sizeOf x
decreasing_by exact Fm.lt_of_mem hy
noncomputable def Zz (x:Bd):Bool:=Bz x.var&&(x.term.valid&&!dec (x.term.name=x.var))
noncomputable def Z0 (xs:List Bd) (k:Nat):Bool:=match xs[k]? with
 | none=>true
 | some x=>Zz x&&(match k with
  | 0=>true
  | j+1=>match xs[j]? with
   | none=>true
   | some y=>strLt y.var x.var)
noncomputable def Zl (xs:List Bd):Nat→Bool
 | 0=>true
 | k+1=>Zl xs k&&Z0 xs k
noncomputable def Sb.ok (x:Sb):Bool:=decide (x.binds.length≤12)&&Zl x.binds x.binds.length
def EP:SC:=(.seq (.reg [⟨some 2,none,.mv (.c .nil)⟩]) (.seq (.seq (.reg [⟨some 6,none,.mv (.t 0)⟩,⟨some 7,none,.len false (.t 6)⟩,⟨some 8,none,.bin .eql false (.t 7) (.c (.int .i64 0))⟩]) (.cond (.t 8) (.seq (.reg [⟨some 2,none,.mv (.c .nil)⟩]) .ret) .skip)) (.seq (.reg [⟨some 9,none,.mv (.t 0)⟩,⟨some 10,none,.len false (.t 9)⟩,⟨(some 11),none,(.mkslice 26 2 40 [(.str ⟨#[]⟩),.nil] (.t 10))⟩,⟨some 3,none,.mv (.t 11)⟩]) (.seq (.seq (.reg [⟨some 12,none,.mv (.t 0)⟩,⟨some 13,none,.len false (.t 12)⟩,⟨some 14,none,.mv (.c (.int .i64 0))⟩]) (.block 0 (.loop [0,0,0,1,0,0,0,0,0,0,0,0,1,1,1,0,0,0,0,0,0,0,0,0,0,0] (.seq (.reg [⟨some 15,none,.bin .lss false (.t 14) (.t 13)⟩]) (.seq (.cond (.t 15) .skip (.exit 0)) (.seq (.block 1 (.seq (.reg [⟨some 16,none,.mv (.t 14)⟩,⟨some 17,none,.iaddr 2 (.t 12) (.t 14)⟩,⟨some 18,none,.load true 2 (.t 17)⟩,⟨(some 5),none,(.alloc 26 [(.str ⟨#[]⟩),.nil])⟩,⟨some 4,none,.mv (.t 16)⟩,⟨none,none,(.store 2 (.t 5) (.t 18))⟩]) (.reg [⟨some 19,none,.mv (.t 3)⟩,⟨some 20,none,.mv (.t 4)⟩,⟨some 21,none,.load true 2 (.t 5)⟩,⟨some 22,none,.call 59 [(.t 21)]⟩,⟨some 23,none,.iaddr 2 (.t 19) (.t 20)⟩,⟨none,none,(.store 2 (.t 23) (.t 22))⟩]))) (.reg [⟨some 24,none,.bin .add false (.t 14) (.c (.int .i64 1))⟩,⟨some 14,none,.mv (.t 24)⟩]))))))) (.seq (.reg [⟨some 25,none,.mv (.t 3)⟩,⟨some 2,none,.mv (.t 25)⟩]) .ret)))))
theorem Hi:codeOf Tryz.prog 88=some ⟨26,EP,[(.tmp 2)]⟩:=by kernel_rfl
theorem EQ:modes 88=⟨[],.own [some (26,2)],none,false⟩:=by unfold modes; rfl
def HK:SC:=(.seq (.reg [⟨some 1,none,.boxv 26 2 (.t 0)⟩,⟨(some 2),none,(.alloc 26 [(.str ⟨#[]⟩),.nil])⟩]) (.seq (.dreg [[],[0],[],[2],[3,2],[1,0,4,3,2],[5,1,0,4,3,2]] [⟨some 3,none,.faddr 0 (.t 1)⟩,⟨some 4,none,.load false 1 (.t 3)⟩,⟨some 5,none,.faddr 1 (.t 1)⟩,⟨some 6,none,.load false 1 (.t 5)⟩,⟨some 7,none,.call 88 [(.t 6)]⟩,⟨(some 8),none,(.build [(.str ⟨#[]⟩),.nil] [(0,(1,(.t 4))),(1,(1,(.t 7)))])⟩,⟨none,none,(.store 2 (.t 2) (.t 8))⟩]) .ret))
theorem LI:codeOf Tryz.prog 59=some ⟨9,HK,[(.cell 2 true 2)]⟩:=by kernel_rfl
theorem CM:modes 59=⟨[],.asis,none,false⟩:=by unfold modes; rfl
def Kn:SC:=(.seq (.reg [⟨some 1,none,.boxv 26 2 (.t 0)⟩,⟨(some 2),none,(.alloc 26 [(.str ⟨#[]⟩),.nil])⟩]) (.seq (.reg [⟨some 5,none,.faddr 0 (.t 1)⟩,⟨some 6,none,.load false 1 (.t 5)⟩,⟨(some 7),none,(.build [(.str ⟨#[]⟩),.nil] [(0,(1,(.t 6)))])⟩,⟨(some 3),none,(.alloc 26 [(.str ⟨#[]⟩),.nil])⟩,⟨none,none,(.store 2 (.t 3) (.t 7))⟩]) (.seq (.seq (.reg [⟨some 4,none,.mv (.c (.int .i64 0))⟩]) (.block 0 (.loop [0,1,1,1,1,0,0,0,0,0,0,0,0,0,0,0,0,0,0,0,0,0,0,0,0,0,0] (.seq (.seq (.reg [⟨some 8,none,.mv (.t 4)⟩,⟨some 9,none,.faddr 1 (.t 1)⟩,⟨some 10,none,.load false 1 (.t 9)⟩,⟨some 11,none,.len false (.t 10)⟩,⟨some 12,none,.bin .lss false (.t 8) (.t 11)⟩]) (.cond (.t 12) .skip (.exit 0))) (.seq (.block 1 (.dreg [[],[0],[],[2],[],[3,2,4],[5,3,2,4],[6,5,3,2,4],[7,6,5,3,2,4],[1,0,8,7,6,5,3,2,4],[0,1,2,3,4,5,6,7,8,9],[10,0,1,2,3,4,5,6,7,8,9]] [⟨some 15,none,.faddr 1 (.t 3)⟩,⟨some 16,none,.load false 1 (.t 15)⟩,⟨some 17,none,.faddr 1 (.t 1)⟩,⟨some 18,none,.load false 1 (.t 17)⟩,⟨some 19,none,.mv (.t 4)⟩,⟨some 20,none,.iaddr 2 (.t 18) (.t 19)⟩,⟨some 21,none,.load true 2 (.t 20)⟩,⟨some 22,none,.call 67 [(.t 21)]⟩,⟨(some 23),none,(.mkrow 26 2 [(.str ⟨#[]⟩),.nil] 1 [(0,(.t 22))])⟩,⟨(some 24),none,(.append 26 2 40 [(.str ⟨#[]⟩),.nil] (.t 16) (.t 23))⟩,⟨some 25,none,.faddr 1 (.t 3)⟩,⟨none,none,(.store 1 (.t 25) (.t 24))⟩])) (.reg [⟨some 13,none,.mv (.t 4)⟩,⟨some 14,none,.bin .add false (.t 13) (.c (.int .i64 1))⟩,⟨some 4,none,.mv (.t 14)⟩])))))) (.seq (.reg [⟨some 26,none,.load true 2 (.t 3)⟩,⟨none,none,(.store 2 (.t 2) (.t 26))⟩]) .ret))))
theorem Pz:codeOf Tryz.prog 67=some ⟨27,Kn,[(.cell 2 true 2)]⟩:=by kernel_rfl
theorem FB:modes 67=⟨[],.frz,none,false⟩:=by unfold modes; rfl
theorem P0 (xs:List Tm) (hl:xs.length≤1099511627776) (h:∀ x∈xs,E 59 [x.sv] []=some (x.osv,x.obs)):E 88 [.arr (xs.map Tm.d)] []=some (.ref 0,[.row 26 2 (xs.map Tm.o)]):=by
 cases xs with
 | nil =>
  refine Aj Hi EQ (of_decide_eq_true rfl) ?_
  simp (disch:=omega) only [EP,go_sem,Ab]
 | cons x0 xs0 =>
 generalize hxs:x0 :: xs0=xs at *
 have hpos:0<xs.length:=by rw [←hxs]; simp
 refine Aj Hi EQ (of_decide_eq_true rfl) ?_
 simp (disch:=omega) only [EP,go_sem,Ab]
 refine go_loop (α:=Int) (fun a=>⟨slots 26 0 [(3,.ref 0),(12,.arr (xs.map Tm.d)),(13,.int .i64 xs.length),(14,.int .i64 a)],[.row 26 2 (HJ Tm.o [.str ⟨#[]⟩,.ow []] xs a.toNat)]⟩) (fun a=>∃ k:Nat,a=k∧k≤(xs).length) (fun a=>(xs).length-(a).toNat) 0 ⟨0,rfl,zM _⟩ (by simp (disch:=omega) only [go_sem,Ab,RF,Int.toNat_zero]) ?_
 rintro i ⟨k,hi,hk⟩
 have hni:i.toNat=k:=by omega
 have hni1:(i+1).toNat=k+1:=by omega
 rcases zF k (xs).length with hlt | hge
 ·have hg:=get_at Tm.d hlt
  rw [Tm.d_eq] at hg
  have hz:=TF Tm.o [.str ⟨#[]⟩,.ow []] hlt
  have hc:=h xs[k] (zG hlt)
  have hs:=TG Tm.o [.str ⟨#[]⟩,.ow []] hlt
  rw [Tm.o_eq] at hs
  simp (disch:=omega) only [go_sem,Ab,hni,hg,hc,hz,TD,CM,Tm.osv,Tm.obs]
  refine ⟨i+1,⟨k+1,by omega,hlt⟩,by omega,?_⟩
  simp (disch:=omega) only [go_sem,Ab,hni1,hs]
 ·obtain rfl:k=xs.length:=by omega
  simp (disch:=omega) only [go_sem,Ab,hni,TE]
theorem QF (x:Tm) (h:E 88 [.arr (x.args.map Tm.d)] []=some (.ref 0,[.row 26 2 (x.args.map Tm.o)])):E 59 [x.sv] []=some (x.osv,x.obs):=by
 refine Aj LI CM (of_decide_eq_true rfl) ?_
 simp (disch:=omega) only [HK,go_sem,Ab,h,EQ]
theorem Gb (x:Tm) (hn:x.nodes≤1099511627776):E 59 [x.sv] []=some (x.osv,x.obs) :=
 QF x (P0 x.args (by have:=Tm.nodes_eq x; have:=Tm.length_le x.args; omega) fun y hy=>Gb y (by have:=Tm.nodes_mem hy; have:=Tm.nodes_eq x; omega))
termination_by SizeOf.sizeOf x
decreasing_by exact Tm.lt_of_mem hy
def Y5 (res:RM) (n0:Nat) (rs:List RX) (Q:SV × List Ob→Prop) (x:X) (st:St):Prop:=∃ out,Xl res n0 rs out x st∧Q out
theorem exq {α:Type} {a:α} {Q:α→Prop}:(∃ out,some a=some out∧Q out)=Q a:=propext ⟨fun ⟨o,h,q⟩=>by obtain rfl:=zH h; exact q,fun q=>⟨a,rfl,q⟩⟩
theorem Y6 {res:RM} {n0:Nat} {rs:List RX} {Q:SV × List Ob→Prop} {sl:List SV} {ob:List Ob}:Y5 res n0 rs Q .ret ⟨sl,ob⟩=∃ out,Q5 res n0 ob (N9 ⟨sl,ob⟩ rs)=some out∧Q out:=rfl
theorem Y7 {res:RM} {n0:Nat} {rs:List RX} {Q:SV × List Ob→Prop} {sl:List SV} {ob:List Ob}:Y5 res n0 rs Q .normal ⟨sl,ob⟩=∃ out,Q5 res n0 ob (N9 ⟨sl,ob⟩ rs)=some out∧Q out:=rfl
theorem AV {f:FuncId} {fc:FC} {hand:List Bool} {res:RM} {tr:Bool} {xs:List SV} {ob:List Ob} {Q:SV × List Ob→Prop} (hc:codeOf Tryz.prog f=some fc) (hr:modes f=⟨hand,res,none,tr⟩) (hn:xs.length≤fc.nt) (h:go ob.length (Gx res fc.sc) ⟨xs++Ka (fc.nt-xs.length),entry tr ob⟩ (Y5 res ob.length fc.rs Q)):∃ out,E f xs ob=some out∧Q out:=by
 obtain ⟨x,st',h1,out,h2,h3⟩:=h
 exact ⟨out,Aj hc hr hn ⟨x,st',h1,h2⟩,h3⟩
attribute [go_sem] Y6 Y7 exq
def Tm.osh (x:Tm):List OT:=[.str x.name,.sh (x.args.map Tm.d)]
theorem Tm.osh_eq (x:Tm):x.osh=[.str x.name,.sh (x.args.map Tm.d)]:=rfl
theorem Tm.osh_full:∀ xs:List Tm,OT.AS (xs.map Tm.osh)=true
 | []=>rfl
 | x :: xs=>by rw [zD,Tm.osh_eq]; simp [OT.AS,OT.DI,OT.full,Tm.osh_full xs]
theorem Tm.osh_er:∀ xs:List Tm,OT.erss (xs.map Tm.osh)=xs.map Tm.d
 | []=>rfl
 | x :: xs=>by rw [zD,zD,Tm.osh_eq,Tm.d_eq]; simp [OT.erss,OT.ers,OT.er,Tm.osh_er xs]
theorem Gc {α β:Type} (f:α→β) {xs:List α} {k:Nat} (h:k<xs.length):(xs.take k).map f++[f xs[k]]=(xs.take (k+1)).map f:=by
 rw [yG h,yD]; rfl
theorem Vu (x:Tm) (hn:x.nodes≤1099511627776) (ih:∀ y∈x.args,E 67 [y.sv] []=some (y.sv,[])):E 67 [x.sv] []=some (x.sv,[]):=by
 have hl:=Tm.length_le x.args
 have hne:=Tm.nodes_eq x
 have h10:((1:Int)=0)=False:=by simp
 have hfu:=Tm.osh_full x.args
 have her:=Tm.osh_er x.args
 refine Aj Pz FB (of_decide_eq_true rfl) ?_
 simp (disch:=omega) only [Kn,go_sem,Ab]
 refine go_loop (α:=Int) (fun a=>⟨slots 27 0 [(1,.ptr 0 0),(2,.ptr 1 0),(3,.ptr 2 0),(4,.int .i64 a)],(if a=0 then [.box 26 [.str x.name,.arr (x.args.map Tm.d)],.box 26 [.str ⟨#[]⟩,.nil],.box 26 [.str x.name,.nil]] else [.box 26 [.str x.name,.arr (x.args.map Tm.d)],.box 26 [.str ⟨#[]⟩,.nil],.box 26 [.str x.name,.ref 3],.row 26 2 ((x.args.take a.toNat).map Tm.osh)])⟩) (fun a=>∃ k:Nat,a=k∧k≤(x.args).length) (fun a=>(x.args).length-(a).toNat) 0 ⟨0,rfl,zM _⟩ (by simp (disch:=omega) only [go_sem,Ab,eq_self,if_true]) ?_
 rintro i ⟨k,hi,hk⟩
 have hni:i.toNat=k:=by omega
 have hni1:(i+1).toNat=k+1:=by omega
 rcases zF k (x.args).length with hlt | hge
 ·have hg:=get_at Tm.d hlt
  rw [Tm.d_eq] at hg
  have hc:=ih x.args[k] (zG hlt)
  have hs:=Gc Tm.osh hlt
  rw [Tm.osh_eq] at hs
  rcases zS k with h0 | h0
  ·subst h0
   obtain rfl:i=0:=hi
   rw [List.take_zero,zN,yX] at hs
   simp (disch:=omega) only [go_sem,Ab,hni,hg,hc,FB,eq_self,if_true]
   refine ⟨1,⟨1,rfl,hlt⟩,by omega,?_⟩
   simp (disch:=omega) only [go_sem,Ab,h10,if_false,hs]
  ·have hi0:(i=0)=False:=by simp; omega
   have hi1:(i+1=0)=False:=by simp; omega
   have htl:(x.args.take k).length=k:=by rw [List.length_take]; omega
   simp (disch:=omega) only [go_sem,Ab,hni,hg,hc,FB,hi0,if_false,htl]
   refine ⟨i+1,⟨k+1,by omega,hlt⟩,by omega,?_⟩
   simp (disch:=omega) only [go_sem,Ab,hni1,hi1,if_false,hs]
 ·obtain rfl:k=x.args.length:=by omega
  have ht:x.args.take x.args.length=x.args:=List.take_length
  rcases zS x.args.length with h0 | h0
  ·have hx:x.args=[]:=zB h0
   obtain rfl:i=0:=by omega
   simp (disch:=omega) only [go_sem,Ab,hni,hx,eq_self,if_true,zN,zT]
  ·have hi0:(i=0)=False:=by simp; omega
   simp (disch:=omega) only [go_sem,Ab,hni,hi0,if_false,ht,hfu,her]
theorem SL (x:Tm) (hn:x.nodes≤1099511627776):E 67 [x.sv] []=some (x.sv,[]) :=
 Vu x hn fun y hy=>SL y (by have:=Tm.nodes_mem hy; have:=Tm.nodes_eq x; omega)
termination_by SizeOf.sizeOf x
decreasing_by exact Tm.lt_of_mem hy
def Vv:List Bd→ByteArray→Nat
 | [],_=>0
 | x :: xs,n=>if strLt x.var n then Vv xs n+1 else 0
noncomputable def Xr (xs:List Bd) (n:ByteArray):Bool:=match xs[Vv xs n]? with
 | none=>false
 | some b=>dec (b.var=n)
theorem Xs {xs:List Bd} {n:ByteArray} (h:Xr xs n=true):Vv xs n<xs.length:=by
 rcases zF (Vv xs n) xs.length with h1 | h1
 ·exact h1
 ·unfold Xr at h; rw [List.getElem?_eq_none h1] at h; cases h
noncomputable def Sb.look (x:Sb) (n:ByteArray):Option Tm:=if h:Xr x.binds n=true then some (x.binds[Vv x.binds n]'(Xs h)).term else none
theorem TQ {s:ByteArray} (h:Bz s=true):Ep s=false:=by
 unfold Bz at h
 rw [zA] at h
 have hsz:0<s.size:=by
  have h2:=h.2
  unfold inB at h2
  rw [zA,decide_eq_true_eq,decide_eq_true_eq] at h2
  omega
 have h0:=H5 h.1 hsz
 unfold Ep
 have h1:Eo HG s s.size=false:=Ee (k:=0) hsz (by
  unfold HH at h0
  unfold HG
  rw [zA] at h0
  have hu:Mw (GR s 0)=true:=by simpa using h0.1
  have hlo:NA (GR s 0)=false:=by
   unfold Mw at hu
   unfold NA
   rw [zA,decide_eq_true_eq,decide_eq_true_eq] at hu
   rw [decide_eq_false (by omega)]
   rfl
  rw [hlo]
  rfl)
 rw [h1]
 rfl
noncomputable def upE (E:ByteArray→Int) (n:ByteArray) (v:Int):ByteArray→Int:=fun m=>bif dec (m=n) then v else E m
theorem Nf (E:ByteArray→Int) (n:ByteArray) (v:Int):upE E n v n=v:=by unfold upE; rw [Au rfl]; rfl
theorem KR {E:ByteArray→Int} {n m:ByteArray} {v:Int} (h:m≠n):upE E n v m=E m:=by unfold upE; rw [Ai h]; rfl
def ER (s:ByteArray):Nat→Int
 | 0=>17
 | k+1=>(31*ER s k+DN s k).tmod 65521
def Hj (h:Int) (vs:List Int):Nat→Int
 | 0=>h
 | k+1=>(37*Hj h vs k+vs.getD k 0+1).tmod 65521
def C4 (l:List Int) (i:Int):Int:=if i<l.length then l.getD i.toNat 0 else (i*7+l.length).tmod 256
def P1 (l:List Int) (nm:ByteArray) (vs:List Int):Int:=(Hj (ER nm nm.size) vs vs.length+13*C4 l ((Hj (ER nm nm.size) vs vs.length).tmod 53)+C4 l ((Hj (ER nm nm.size) vs vs.length).tmod 89)).tdiv 3
mutual
noncomputable def Tm.val (l:List Int) (n:Int) (E:ByteArray→Int):Tm→Int
 | .mk nm args=>bif Bz nm then E nm else (P1 l nm (Tm.Vw l n E args)).tmod n
noncomputable def Tm.Vw (l:List Int) (n:Int) (E:ByteArray→Int):List Tm→List Int
 | []=>[]
 | x :: xs=>Tm.val l n E x :: Tm.Vw l n E xs
end
section
variable {l:List Int} {n:Int} {E E':ByteArray→Int}
theorem Tm.QG:∀ xs:List Tm,Tm.Vw l n E xs=xs.map (Tm.val l n E)
 | []=>by rw [Tm.Vw]; rfl
 | x :: xs=>by rw [Tm.Vw,Tm.QG xs]; rfl
theorem Tm.Ng (x:Tm):x.val l n E=bif Bz x.name then E x.name else (P1 l x.name (x.args.map (Tm.val l n E))).tmod n:=by
 obtain ⟨nm,args⟩:=x
 rw [Tm.val,Tm.QG]; rfl
end
noncomputable def H7 (l:List Int) (n:Int) (E:ByteArray→Int) (a:Tm):Bool :=
 bif dec (a.name=⟨#[61]⟩)&&dec (a.args.length=2) then dec ((a.args.map (Tm.val l n E)).getD 0 0=(a.args.map (Tm.val l n E)).getD 1 0)
 else dec ((P1 l ((⟨#[126]⟩:ByteArray)++a.name) (a.args.map (Tm.val l n E))).tmod 2=1)
abbrev BF:=(ByteArray→Int)→Bool
def p0 (ps:List BF):BF:=ps.getD 0 fun _=>false
def p1 (ps:List BF):BF:=ps.getD 1 fun _=>false
noncomputable def vtF (l:List Int) (n:Int) (op:Int) (atom:Tm) (var:ByteArray) (ps:List BF) (E:ByteArray→Int):Bool :=
 bif dec (op=1) then true else bif dec (op=2) then false else bif dec (op=3) then H7 l n E atom else bif dec (op=4) then !p0 ps E
 else bif dec (op=5) then p0 ps E&&p1 ps E else bif dec (op=6) then p0 ps E || p1 ps E else bif dec (op=7) then !p0 ps E || p1 ps E
 else bif dec (op=8) then (y0 n.toNat).all fun k=>p0 ps (upE E var (k:Nat)) else (y0 n.toNat).any fun k=>p0 ps (upE E var (k:Nat))
mutual
noncomputable def Fm.vt (l:List Int) (n:Int):Fm→BF
 | .mk op atom var parts=>vtF l n op atom var (Fm.vtL l n parts)
noncomputable def Fm.vtL (l:List Int) (n:Int):List Fm→List BF
 | []=>[]
 | x :: xs=>Fm.vt l n x :: Fm.vtL l n xs
end
section
variable {l:List Int} {n:Int}
theorem Fm.SM:∀ xs:List Fm,Fm.vtL l n xs=xs.map (Fm.vt l n)
 | []=>by rw [Fm.vtL]; rfl
 | x :: xs=>by rw [Fm.vtL,Fm.SM xs]; rfl
theorem Fm.OH (x:Fm):x.vt l n=vtF l n x.op x.atom x.var (x.parts.map (Fm.vt l n)):=by
 obtain ⟨op,atom,var,parts⟩:=x
 rw [Fm.vt,Fm.SM]; rfl
theorem Fm.EX {x:Fm} (h:x.form=true) (ho:x.op=5∨x.op=6∨x.op=7):∃ p q,x.parts=[p,q]:=by
 unfold Fm.form at h
 rw [if_neg (by omega),if_neg (by omega),if_neg (by omega),if_pos ho,zA,zA] at h
 have hl:x.parts.length=2:=by simpa using h.1.1
 match hq:x.parts,hl with
 | [p,q],_=>exact ⟨p,q,rfl⟩
theorem Fm.IL {x:Fm} (h:x.form=true) (ho:x.op=4):∃ p,x.parts=[p]:=by
 unfold Fm.form at h
 rw [if_neg (by omega),if_neg (by omega),if_pos ho,zA,zA] at h
 have hl:x.parts.length=1:=by simpa using h.1.1
 match hq:x.parts,hl with
 | [p],_=>exact ⟨p,rfl⟩
theorem Fm.IM {x:Fm} (h:x.form=true):x.op=1∨x.op=2∨x.op=3∨x.op=4∨(x.op=5∨x.op=6∨x.op=7)∨x.op=8∨x.op=9:=by
 unfold Fm.form at h
 rcases Kl x.op with h1 | h1 | h1 | h1 | h1 | h1 | h1 | h1 | h1 | h1
 any_goals omega
 rw [if_neg (by omega),if_neg (by omega),if_neg (by omega),if_neg (by omega),if_neg (by omega)] at h
 cases h
variable {x p q:Fm} {E E':ByteArray→Int}
theorem Fm.TR (h:x.op=1):x.vt l n E=true:=by rw [Fm.OH]; unfold vtF; rw [Au h]; rfl
theorem Fm.TS (h:x.op=2):x.vt l n E=false:=by rw [Fm.OH]; unfold vtF; rw [Ai (by omega),Au h]; rfl
theorem Fm.TT (h:x.op=3):x.vt l n E=H7 l n E x.atom:=by rw [Fm.OH]; unfold vtF; rw [Ai (by omega),Ai (by omega),Au h]; rfl
theorem Fm.Vx (h:x.op=4) (hp:x.parts=[p]):x.vt l n E=!p.vt l n E:=by rw [Fm.OH]; unfold vtF; rw [Ai (by omega),Ai (by omega),Ai (by omega),Au h,hp]; rfl
noncomputable def Fn (op:Int) (a b:Bool):Bool:=bif dec (op=5) then a&&b else bif dec (op=6) then a || b else !a || b
theorem Fm.Ko (h:x.op=5∨x.op=6∨x.op=7) (hp:x.parts=[p,q]):x.vt l n E=Fn x.op (p.vt l n E) (q.vt l n E):=by
 rw [Fm.OH]; unfold vtF Fn
 rw [Ai (by omega),Ai (by omega),Ai (by omega),Ai (by omega),hp]
 rcases h with h | h | h
 ·rw [Au h]; rfl
 ·rw [Ai (by omega),Au h]; rfl
 ·rw [Ai (by omega),Ai (by omega),Au h]; rfl
noncomputable def Fo (op:Int) (n:Int) (f:Int→Bool):Bool:=bif dec (op=8) then (y0 n.toNat).all fun k=>f (k:Nat) else (y0 n.toNat).any fun k=>f (k:Nat)
theorem Fm.NJ (h:x.op=8∨x.op=9) (hp:x.parts=[p]):x.vt l n E=Fo x.op n fun k=>p.vt l n (upE E x.var k):=by
 rw [Fm.OH]; unfold vtF Fo
 rw [Ai (by omega),Ai (by omega),Ai (by omega),Ai (by omega),Ai (by omega),Ai (by omega),Ai (by omega),hp]
 rfl
theorem Tm.P2 {x:Tm} (h:x.atom=true):Bz x.name=false:=by
 unfold Tm.atom at h
 split at h
 ·rename_i he
  exact Tm.Xq he
 ·rw [zA] at h
  cases hv:Bz x.name with
  | false=>rfl
  | true=>rw [TQ hv] at h; cases h.1
end
noncomputable def OI (p:EL):MF:=p.foldl (fun m e=>JQ m e.1 e.2) nomap
theorem RQ (p:EL) (k:MK) (x:MV):OI (p++[(k,x)])=JQ (OI p) k x:=by unfold OI; rw [List.foldl_append]; rfl
theorem Vy {f:MF} {p:EL} (h:Enum f p):OI p=f:=by
 have key:∀ (p:EL) (m0:MF) (k:MK),(p.map (·.1)).Nodup→p.foldl (fun m e=>JQ m e.1 e.2) m0 k=match p.find? (fun e=>dec (e.1=k)) with | some e=>some e.2 | none=>m0 k:=by
  intro p
  induction p with
  | nil=>intro m0 k _; rfl
  | cons e p ih =>
   intro m0 k hn
   rw [zD,List.nodup_cons] at hn
   rw [zR,ih _ _ hn.2,List.find?_cons]
   by_cases he:e.1=k
   ·rw [Au he]
    have:p.find? (fun e=>dec (e.1=k))=none:=by
     rw [List.find?_eq_none]
     intro e' he' hd
     rw [Az] at hd
     exact hn.1 (z8.2 ⟨e',he',by rw [hd,he]⟩)
    rw [this]
    simp only
    rw [←he,GN]
   ·rw [Ai he]
    simp only
    cases p.find? (fun e=>dec (e.1=k)) with
    | some e'=>rfl
    | none=>simp only; rw [Gt fun h=>he h.symm]
 funext k
 unfold OI
 rw [key p nomap k h.nd]
 cases hf:p.find? (fun e=>dec (e.1=k)) with
 | some e =>
  have h1:=List.mem_of_find?_eq_some hf
  have h2:=List.find?_some hf
  rw [Az] at h2
  subst h2
  exact ((h.mem e.1 e.2).1 h1).symm
 | none =>
  simp only
  cases hk:f k with
  | none=>rfl
  | some x =>
   have h1:=(h.mem k x).2 hk
   rw [List.find?_eq_none] at hf
   exact absurd (Au rfl) (hf _ h1)
theorem Xt {f:MF} (l:List ByteArray) (hl:∀ k x,f k=some x→∃ s∈l,k=.str s):∃ L,Enum f L:=by
 have key:∀ l:List ByteArray,∃ L:EL,(L.map (·.1)).Nodup∧∀ k x,(k,x)∈L ↔ f k=some x∧k∈l.map MK.str:=by
  intro l
  induction l with
  | nil=>exact ⟨[],by simp,fun k x=>by simp⟩
  | cons s l ih =>
   obtain ⟨L,h1,h2⟩:=ih
   cases hs:f (.str s) with
   | none =>
    refine ⟨L,h1,fun k x=>?_⟩
    rw [h2]
    constructor
    ·rintro ⟨a,b⟩; exact ⟨a,by simp only [zD,zC]; exact .inr b⟩
    ·rintro ⟨a,b⟩
     rcases zC.1 b with rfl | b
     ·rw [hs] at a; cases a
     ·exact ⟨a,b⟩
   | some v =>
    by_cases hm:MK.str s∈l.map MK.str
    ·refine ⟨L,h1,fun k x=>?_⟩
     rw [h2]
     constructor
     ·rintro ⟨a,b⟩; exact ⟨a,by simp only [zD,zC]; exact .inr b⟩
     ·rintro ⟨a,b⟩
      rcases zC.1 b with rfl | b
      ·exact ⟨a,hm⟩
      ·exact ⟨a,b⟩
    ·refine ⟨(.str s,v) :: L,?_,fun k x=>?_⟩
     ·rw [zD,List.nodup_cons]
      refine ⟨fun hk=>?_,h1⟩
      obtain ⟨⟨k,x⟩,hk1,hk2⟩:=z8.1 hk
      have:=(h2 k x).1 hk1
      have hk2:k=.str s:=hk2
      rw [hk2] at this
      exact hm this.2
     ·rw [zC,h2]
      constructor
      ·rintro (hk | ⟨a,b⟩)
       ·obtain ⟨rfl,rfl⟩:=z7 hk
        exact ⟨hs,by simp⟩
       ·exact ⟨a,by simp only [zD,zC]; exact .inr b⟩
      ·rintro ⟨a,b⟩
       rcases zC.1 b with rfl | b
       ·rw [hs] at a
        exact .inl (by rw [zH a])
       ·exact .inr ⟨a,b⟩
 obtain ⟨L,h1,h2⟩:=key l
 refine ⟨L,h1,fun k x=>?_⟩
 rw [h2]
 exact ⟨fun h=>h.1,fun h=>⟨h,by obtain ⟨s,hs,rfl⟩:=hl k x h; exact z8.2 ⟨s,hs,rfl⟩⟩⟩
abbrev SEnv:=ByteArray→Option ByteArray
def Cm (e:SEnv):MF
 | .str s=>match e s with
  | some n=>some (false,[.str n])
  | none=>none
 | .int _=>none
theorem FI (e:SEnv) (s:ByteArray):Cm e (.str s)=match e s with | some n=>some (false,[.str n]) | none=>none:=rfl
noncomputable def DP (e:SEnv) (s n:ByteArray):SEnv:=fun q=>bif dec (q=s) then some n else e q
theorem TU (e:SEnv) (s n:ByteArray):JQ (Cm e) (.str s) (false,[.str n])=Cm (DP e s n):=by
 funext k
 cases k with
 | int i=>rw [Gt (fun h=>by cases h)]; rfl
 | str q =>
  rw [Qk,FI,FI]
  unfold DP
  cases dec (q=s) <;> rfl
theorem RR:Cm (fun _=>none)=nomap:=by
 funext k
 cases k <;> rfl
def FinS (e:SEnv):Prop:=∃ l:List ByteArray,∀ s,e s≠none→s∈l
theorem FinS.none:FinS fun _=>Option.none:=⟨[],fun s h=>absurd rfl h⟩
theorem FinS.put {e:SEnv} (h:FinS e) (s n:ByteArray):FinS (DP e s n):=by
 obtain ⟨l,hl⟩:=h
 refine ⟨s :: l,fun q hq=>?_⟩
 unfold DP at hq
 by_cases he:q=s
 ·simp [he]
 ·rw [Ai he,cond_false] at hq
  simp [hl q hq]
theorem FinS.enum {e:SEnv} (h:FinS e):∃ L,Enum (Cm e) L:=by
 obtain ⟨l,hl⟩:=h
 refine Xt l fun k x hk=>?_
 cases k with
 | int i=>cases hk
 | str s=>exact ⟨s,hl s (fun hn=>by rw [FI,hn] at hk; exact absurd hk (by simp)),rfl⟩
mutual
noncomputable def Tm.rn (e:SEnv):Tm→Tm
 | .mk n args=>.mk (bif args.isEmpty then (e n).getD n else n) (Tm.rnL e args)
noncomputable def Tm.rnL (e:SEnv):List Tm→List Tm
 | []=>[]
 | x :: xs=>Tm.rn e x :: Tm.rnL e xs
end
theorem Tm.SN (e:SEnv):∀ xs:List Tm,Tm.rnL e xs=xs.map (Tm.rn e)
 | []=>by rw [Tm.rnL]; rfl
 | x :: xs=>by rw [Tm.rnL,Tm.SN e xs]; rfl
theorem Tm.Kp (e:SEnv) (x:Tm):x.rn e=.mk (bif x.args.isEmpty then (e x.name).getD x.name else x.name) (x.args.map (Tm.rn e)):=by
 obtain ⟨n,args⟩:=x
 rw [Tm.rn,Tm.SN]; rfl
theorem Tm.Nh (e:SEnv) (x:Tm):(x.rn e).nodes=x.nodes:=by
 have key:∀ xs:List Tm,(∀ y∈xs,(y.rn e).nodes=y.nodes)→Tm.nodeS (xs.map (Tm.rn e))=Tm.nodeS xs:=by
  intro xs
  induction xs with
  | nil=>intro _; rfl
  | cons y ys ih =>
   intro h
   rw [zD,Tm.nodeS,Tm.nodeS,h y (by simp),ih fun z hz=>h z (by simp [hz])]
 rw [Tm.Kp,Tm.nodes_eq,Tm.nodes_eq]
 show 1+Tm.nodeS (x.args.map (Tm.rn e))=_
 rw [key x.args fun y hy=>Tm.Nh e y]
termination_by SizeOf.sizeOf x
decreasing_by exact Tm.lt_of_mem hy
theorem SO (u:Nat):Lib.decDigits u≠[]:=by
 rw [Lib.decDigits]
 split <;> simp
theorem SP {a b:Nat} (ha:a<10) (hb:b<10) (h:UInt8.ofNat (48+a)=UInt8.ofNat (48+b)):a=b:=by
 have:=congrArg UInt8.toNat h
 rw [UInt8.toNat_ofNat',UInt8.toNat_ofNat'] at this
 omega
theorem Vz:∀ u v:Nat,Lib.decDigits u=Lib.decDigits v→u=v:=by
 intro u
 induction u using Nat.strongRecOn with
 | _ u ih =>
  intro v h
  rw [Lib.decDigits,Lib.decDigits.eq_def v] at h
  split at h <;> split at h
  ·rename_i h1 h2
   exact SP h1 h2 (by simpa using h)
  ·rename_i h1 h2
   have:=congrArg List.length h
   have hne:=SO (v / 10)
   rw [zW] at this
   have:(Lib.decDigits (v / 10)).length=0:=by simp at this; simpa using this
   exact absurd (zB this) hne
  ·rename_i h1 h2
   have:=congrArg List.length h
   have hne:=SO (u / 10)
   rw [zW] at this
   have:(Lib.decDigits (u / 10)).length=0:=by simp at this; simpa using this
   exact absurd (zB this) hne
  ·rename_i h1 h2
   obtain ⟨e1,e2⟩:=List.append_inj' h rfl
   have e3:=ih (u / 10) (by omega) _ e1
   have e4:=SP (Nat.mod_lt _ (by omega)) (Nat.mod_lt _ (by omega)) (by simpa using e2)
   omega
theorem V3 {a b:Int} (ha:0≤a) (hb:0≤b) (h:Q2 a=Q2 b):a=b:=by
 obtain ⟨u,rfl⟩:∃ u:Nat,a=u:=⟨a.toNat,by omega⟩
 obtain ⟨v,rfl⟩:∃ v:Nat,b=v:=⟨b.toNat,by omega⟩
 unfold Q2 at h
 rw [Lib.itoa_nonneg,Lib.itoa_nonneg] at h
 have:=Vz u v (by have:=congrArg (fun x:ByteArray=>x.data.toList) h; simpa using this)
 omega
def pre (p:ByteArray) (n:Int):ByteArray:=p++Q2 n
theorem P3 {p:ByteArray} {a b:Int} (ha:0≤a) (hb:0≤b) (h:pre p a=pre p b):a=b:=by
 refine V3 ha hb ?_
 unfold pre at h
 simpa using h
noncomputable def beyond (p:ByteArray) (taken:List ByteArray) (c:Int):Nat:=(taken.filter fun s=>dec (∃ k:Int,c<k∧s=pre p k)).length
theorem OJ (p:ByteArray) (taken:List ByteArray) (c:Int):beyond p taken c≤taken.length:=yI _ _
theorem FJ {p:ByteArray} {taken:List ByteArray} {c:Int} (hc:0≤c) (h:pre p (c+1)∈taken):beyond p taken (c+1)<beyond p taken c:=by
 unfold beyond
 refine filter_lt (fun x hx=>?_) h (Au ⟨c+1,by omega,rfl⟩) (Ai ?_)
 ·rw [Az] at hx ⊢
  obtain ⟨k,h1,h2⟩:=hx
  exact ⟨k,by omega,h2⟩
 ·rintro ⟨k,h1,h2⟩
  have:=P3 (by omega) (by omega) h2
  omega
noncomputable def Fy (p:ByteArray) (taken:List ByteArray):Nat→Int→Int
 | 0,c=>c+1
 | k+1,c=>bif dec (pre p (c+1)∈taken) then Fy p taken k (c+1) else c+1
noncomputable def fresh (p:ByteArray) (taken:List ByteArray) (c:Int):Int:=Fy p taken (taken.length+1) c
theorem Kq (p:ByteArray) (taken:List ByteArray):∀ (k:Nat) (c:Int),c<Fy p taken k c∧Fy p taken k c≤c+1+k
 | 0,c=>by rw [Fy]; omega
 | k+1,c=>by
  have:=Kq p taken k (c+1)
  rw [Fy]
  cases dec (pre p (c+1)∈taken) with
  | true=>rw [cond_true]; omega
  | false=>rw [cond_false]; omega
theorem L7 {p:ByteArray} {taken:List ByteArray}:∀ (k j:Nat) (c:Int),0≤c→beyond p taken c<k→beyond p taken c<j→Fy p taken k c=Fy p taken j c
 | 0,_,_,_,h,_=>by omega
 | _,0,_,_,_,h=>by omega
 | k+1,j+1,c,hc,h1,h2=>by
  rw [Fy,Fy]
  by_cases h:pre p (c+1)∈taken
  ·have:=FJ hc h
   rw [Au h,cond_true,cond_true]
   exact L7 k j (c+1) (by omega) (by omega) (by omega)
  ·rw [Ai h]; rfl
theorem OK {p:ByteArray} {taken:List ByteArray} {c:Int} (hc:0≤c) (h:pre p (c+1)∈taken):fresh p taken c=fresh p taken (c+1):=by
 have h1:=FJ hc h
 have h2:=OJ p taken c
 unfold fresh
 rw [Fy,Au h,cond_true]
 exact L7 _ _ _ (by omega) (by omega) (by omega)
theorem KS {p:ByteArray} {taken:List ByteArray} {c:Int} (h:¬ pre p (c+1)∈taken):fresh p taken c=c+1:=by
 unfold fresh
 rw [Fy,Ai h]; rfl
theorem Di (p:ByteArray) (taken:List ByteArray) (c:Int):c<fresh p taken c∧fresh p taken c≤c+2+taken.length:=by
 have:=Kq p taken (taken.length+1) c
 unfold fresh
 omega
theorem Gd:modes 93=⟨[],.asis,some (Ke O3),false⟩:=by unfold modes; rfl
theorem Y8 (n:Int) (h0:0≤n) (h1:n≤1099511627776):E 93 [.int .i64 n] []=some (.str (Q2 n),[]) :=
 Q6 (g:=O3) (congrArg FM.ext Gd) (by simp only [O3,Au (⟨h0,h1⟩:0≤n∧n≤1099511627776),cond_true])
def Fm.QH (x:Fm):Fm:=.mk 4 Tm.zero ⟨#[]⟩ [x]
def Fm.Il (op:Int) (x y:Fm):Fm:=.mk op Tm.zero ⟨#[]⟩ [x,y]
noncomputable def CX (op:Int):Int:=bif dec (op=1) then 2 else bif dec (op=2) then 1 else bif dec (op=5) then 6 else bif dec (op=6) then 5 else bif dec (op=8) then 9 else bif dec (op=9) then 8 else 0
noncomputable def Fm.RS (op:Int) (atom:Tm) (var:ByteArray) (parts:List Fm) (b:Bool) (ys zs:List Fm):Fm :=
 bif dec (op=3) then (bif b then .mk op atom var parts else Fm.QH (.mk op atom var parts))
 else bif dec (op=4) then zs.headD Fm.zero
 else bif dec (op=7) then Fm.Il (bif b then 6 else 5) (zs.headD Fm.zero) ((ys.drop 1).headD Fm.zero)
 else .mk (bif b then op else CX op) atom var ys
mutual
noncomputable def Fm.nnf:Fm→Bool→Fm
 | .mk op atom var parts,b=>Fm.RS op atom var parts b (Fm.TV parts b) (Fm.TV parts (!b))
noncomputable def Fm.TV:List Fm→Bool→List Fm
 | [],_=>[]
 | x :: xs,b=>Fm.nnf x b :: Fm.TV xs b
end
theorem Fm.Ni (b:Bool):∀ xs:List Fm,Fm.TV xs b=xs.map fun y=>y.nnf b
 | []=>by rw [Fm.TV]; rfl
 | x :: xs=>by rw [Fm.TV,Fm.Ni b xs]; rfl
theorem Fm.Nj (x:Fm) (b:Bool):x.nnf b=Fm.RS x.op x.atom x.var x.parts b (x.parts.map fun y=>y.nnf b) (x.parts.map fun y=>y.nnf (!b)):=by
 obtain ⟨op,atom,var,parts⟩:=x
 rw [Fm.nnf,Fm.Ni,Fm.Ni]; rfl
theorem Fm.El {x:Fm} (h:x.form=true) (ho:x.op=1∨x.op=2):x=.mk x.op Tm.zero ⟨#[]⟩ []:=by
 have ha:=Fm.EM h (by omega)
 unfold Fm.form at h
 rw [if_pos ho,zA,zA] at h
 have hl:x.parts.length=0:=by simpa using h.1.1
 have hp:x.parts=[]:=zB hl
 have hv:x.var=⟨#[]⟩:=Az.1 h.2
 obtain ⟨op,atom,var,parts⟩:=x
 change atom=_ at ha
 change parts=_ at hp
 change var=_ at hv
 subst ha hp hv; rfl
theorem Fm.Kr {x:Fm} (h:x.form=true) (ho:x.op=4):∃ p,x=.mk 4 Tm.zero ⟨#[]⟩ [p]:=by
 have ha:=Fm.EM h (by omega)
 unfold Fm.form at h
 rw [if_neg (by omega),if_neg (by omega),if_pos ho,zA,zA] at h
 have hl:x.parts.length=1:=by simpa using h.1.1
 have hv:x.var=⟨#[]⟩:=Az.1 h.2
 obtain ⟨op,atom,var,parts⟩:=x
 change atom=_ at ha
 change parts.length=_ at hl
 change var=_ at hv
 change op=_ at ho
 subst ha hv ho
 match parts,hl with
 | [p],_=>exact ⟨p,rfl⟩
theorem Fm.Ge {x:Fm} (h:x.form=true) (ho:x.op=5∨x.op=6∨x.op=7):∃ p q,x=.mk x.op Tm.zero ⟨#[]⟩ [p,q]:=by
 have ha:=Fm.EM h (by omega)
 unfold Fm.form at h
 rw [if_neg (by omega),if_neg (by omega),if_neg (by omega),if_pos ho,zA,zA] at h
 have hl:x.parts.length=2:=by simpa using h.1.1
 have hv:x.var=⟨#[]⟩:=Az.1 h.2
 obtain ⟨op,atom,var,parts⟩:=x
 change atom=_ at ha
 change parts.length=_ at hl
 change var=_ at hv
 subst ha hv
 match parts,hl with
 | [p,q],_=>exact ⟨p,q,rfl⟩
theorem Fm.RT {x:Fm} (h:x.form=true) (ho:x.op=8∨x.op=9):∃ p,x=.mk x.op Tm.zero x.var [p]:=by
 have ha:=Fm.EM h (by omega)
 obtain ⟨_,p,hp⟩:=Fm.Dm h (by unfold qB; rw [zU,Az,Az]; exact ho)
 obtain ⟨op,atom,var,parts⟩:=x
 change atom=_ at ha
 change parts=_ at hp
 subst ha hp
 exact ⟨p,rfl⟩
theorem Fm.Nk {x:Fm} (h:x.form=true):x.op=1∨x.op=2∨x.op=3∨x.op=4∨x.op=5∨x.op=6∨x.op=7∨x.op=8∨x.op=9:=by
 rcases Kl x.op with h1 | h1 | h1 | h1 | h1 | h1 | h1 | h1 | h1 | h1 <;> try omega
 unfold Fm.form at h
 rw [if_neg (by omega),if_neg (by omega),if_neg (by omega),if_neg (by omega),if_neg (by omega)] at h
 cases h
theorem Tm.Nl:Tm.zero.nodes=1:=by rw [Tm.nodes_eq]; show 1+Tm.nodeS []=1; rw [Tm.nodeS]
theorem Fm.EY {op:Int} {t:Tm} {v:ByteArray} {ps:List Fm}:(Fm.mk op t v ps).tame=(t.nodes≤1099511627776∧Fm.C0 ps):=Fm.H3 _
theorem Fm.nodes_mk {op:Int} {t:Tm} {v:ByteArray} {ps:List Fm}:(Fm.mk op t v ps).nodes=1+Fm.nodeS ps:=Fm.nodes_eq _
theorem Fm.IN (x:Fm) (h:x.forms=true) (b:Bool):(x.nnf b).tame∧(x.nnf b).nodes≤2*x.nodes:=by
 have ih:∀ y∈x.parts,∀ b,(y.nnf b).tame∧(y.nnf b).nodes≤2*y.nodes:=fun y hy b=>Fm.IN y (Fm.BE h hy) b
 have ht:=Fm.H4 x h
 have hf:=Fm.B8 h
 have hz:=Tm.Nl
 rw [Fm.Nj]
 unfold Fm.RS
 rcases Fm.Nk hf with h1 | h1 | h1 | h1 | h1 | h1 | h1 | h1 | h1
 ·rw [Ai (p:=x.op=3) (by omega),Ai (p:=x.op=4) (by omega),Ai (p:=x.op=7) (by omega)]
  have e:=Fm.El hf (by omega)
  have hp:x.parts=[]:=by rw [e]; rfl
  have ha:x.atom=Tm.zero:=by rw [e]; rfl
  have hx:=Fm.nodes_pos x
  simp only [cond_false,hp,ha,zN,Fm.EY,Fm.nodes_mk,Fm.C0,Fm.nodeS,hz]
  exact ⟨⟨by omega,trivial⟩,by omega⟩
 ·rw [Ai (p:=x.op=3) (by omega),Ai (p:=x.op=4) (by omega),Ai (p:=x.op=7) (by omega)]
  have e:=Fm.El hf (by omega)
  have hp:x.parts=[]:=by rw [e]; rfl
  have ha:x.atom=Tm.zero:=by rw [e]; rfl
  have hx:=Fm.nodes_pos x
  simp only [cond_false,hp,ha,zN,Fm.EY,Fm.nodes_mk,Fm.C0,Fm.nodeS,hz]
  exact ⟨⟨by omega,trivial⟩,by omega⟩
 ·rw [Au h1]
  have hx:Fm.mk x.op x.atom x.var x.parts=x:=by obtain ⟨_,_,_,_⟩:=x; rfl
  have hn:=Fm.nodes_pos x
  cases b with
  | true=>simp only [cond_true,hx]; exact ⟨ht,by omega⟩
  | false =>
   simp only [cond_true,cond_false,hx,Fm.QH,Fm.EY,Fm.nodes_mk,Fm.C0,Fm.nodeS,hz]
   exact ⟨⟨by omega,ht,trivial⟩,by omega⟩
 ·rw [Ai (p:=x.op=3) (by omega),Au h1]
  obtain ⟨p,e⟩:=Fm.Kr hf h1
  have hp:x.parts=[p]:=by rw [e]; rfl
  have hi:=ih p (by rw [hp]; simp) (!b)
  have hn:=Fm.nodes_eq x
  rw [hp,Fm.nodeS,Fm.nodeS] at hn
  simp only [cond_true,cond_false,hp,zD,yW]
  exact ⟨hi.1,by omega⟩
 ·rw [Ai (p:=x.op=3) (by omega),Ai (p:=x.op=4) (by omega),Ai (p:=x.op=7) (by omega)]
  obtain ⟨p,q,e⟩:=Fm.Ge hf (by omega)
  have hp:x.parts=[p,q]:=by rw [e]; rfl
  have ha:x.atom=Tm.zero:=by rw [e]; rfl
  have hi:=ih p (by rw [hp]; simp) b
  have hj:=ih q (by rw [hp]; simp) b
  have hn:=Fm.nodes_eq x
  rw [hp,Fm.nodeS,Fm.nodeS,Fm.nodeS] at hn
  simp only [cond_true,cond_false,hp,ha,zD,zN,Fm.EY,Fm.nodes_mk,Fm.C0,Fm.nodeS,hz]
  exact ⟨⟨by omega,hi.1,hj.1,trivial⟩,by omega⟩
 ·rw [Ai (p:=x.op=3) (by omega),Ai (p:=x.op=4) (by omega),Ai (p:=x.op=7) (by omega)]
  obtain ⟨p,q,e⟩:=Fm.Ge hf (by omega)
  have hp:x.parts=[p,q]:=by rw [e]; rfl
  have ha:x.atom=Tm.zero:=by rw [e]; rfl
  have hi:=ih p (by rw [hp]; simp) b
  have hj:=ih q (by rw [hp]; simp) b
  have hn:=Fm.nodes_eq x
  rw [hp,Fm.nodeS,Fm.nodeS,Fm.nodeS] at hn
  simp only [cond_true,cond_false,hp,ha,zD,zN,Fm.EY,Fm.nodes_mk,Fm.C0,Fm.nodeS,hz]
  exact ⟨⟨by omega,hi.1,hj.1,trivial⟩,by omega⟩
 ·rw [Ai (p:=x.op=3) (by omega),Ai (p:=x.op=4) (by omega),Au h1]
  obtain ⟨p,q,e⟩:=Fm.Ge hf (by omega)
  have hp:x.parts=[p,q]:=by rw [e]; rfl
  have hi:=ih p (by rw [hp]; simp) (!b)
  have hj:=ih q (by rw [hp]; simp) b
  have hn:=Fm.nodes_eq x
  rw [hp,Fm.nodeS,Fm.nodeS,Fm.nodeS] at hn
  simp only [cond_true,cond_false,hp,zD,zN,yW,List.drop_succ_cons,zK,Fm.Il,Fm.EY,Fm.nodes_mk,Fm.C0,Fm.nodeS,hz]
  exact ⟨⟨by omega,hi.1,hj.1,trivial⟩,by omega⟩
 all_goals
  rw [Ai (p:=x.op=3) (by omega),Ai (p:=x.op=4) (by omega),Ai (p:=x.op=7) (by omega)]
  obtain ⟨p,e⟩:=Fm.RT hf (by omega)
  have hp:x.parts=[p]:=by rw [e]; rfl
  have ha:x.atom=Tm.zero:=by rw [e]; rfl
  have hi:=ih p (by rw [hp]; simp) b
  have hn:=Fm.nodes_eq x
  rw [hp,Fm.nodeS,Fm.nodeS] at hn
  simp only [cond_true,cond_false,hp,ha,zD,zN,Fm.EY,Fm.nodes_mk,Fm.C0,Fm.nodeS,hz]
  exact ⟨⟨by omega,hi.1,trivial⟩,by omega⟩
termination_by SizeOf.sizeOf x
decreasing_by exact Fm.lt_of_mem hy
noncomputable def Im (x:Fm):Bool:=x.valid&&(x.nnf true).valid
noncomputable def Ks (x:Fm):Fm:=bif Im x then x.nnf true else Fm.zero
def Bo {α β S:Type} (f:α→S→β × S):List α→S→List β × S
 | [],s=>([],s)
 | x :: xs,s=>((f x s).1 :: (Bo f xs (f x s).2).1,(Bo f xs (f x s).2).2)
theorem FK {α β S:Type} (f:α→S→β × S):∀ (xs:List α) (s:S),(Bo f xs s).1.length=xs.length
 | [],s=>rfl
 | x :: xs,s=>by rw [Bo]; simp only [zL]; rw [FK f xs]
def BC:ByteArray:=⟨#[86]⟩
mutual
noncomputable def Fm.sep (tk:List ByteArray):Fm→SEnv→Int→Fm × Int
 | .mk op atom var parts,e,c=>bif dec (op=3) then (.mk 3 (atom.rn e) ⟨#[]⟩ [],c)
  else bif qB op then (.mk op Tm.zero (pre BC (fresh BC tk c)) (Fm.P4 tk parts (DP e var (pre BC (fresh BC tk c))) (fresh BC tk c)).1,(Fm.P4 tk parts (DP e var (pre BC (fresh BC tk c))) (fresh BC tk c)).2)
  else (.mk op Tm.zero ⟨#[]⟩ (Fm.P4 tk parts e c).1,(Fm.P4 tk parts e c).2)
noncomputable def Fm.P4 (tk:List ByteArray):List Fm→SEnv→Int→List Fm × Int
 | [],_,c=>([],c)
 | x :: xs,e,c=>((Fm.sep tk x e c).1 :: (Fm.P4 tk xs e (Fm.sep tk x e c).2).1,(Fm.P4 tk xs e (Fm.sep tk x e c).2).2)
end
theorem Fm.KT (tk:List ByteArray) (e:SEnv):∀ (xs:List Fm) (c:Int),Fm.P4 tk xs e c=Bo (fun y c=>Fm.sep tk y e c) xs c
 | [],c=>by rw [Fm.P4]; rfl
 | x :: xs,c=>by rw [Fm.P4,Bo,Fm.KT tk e xs]
theorem Fm.JG (tk:List ByteArray) (x:Fm) (e:SEnv) (c:Int):x.sep tk e c=bif dec (x.op=3) then (.mk 3 (x.atom.rn e) ⟨#[]⟩ [],c)
  else bif qB x.op then (.mk x.op Tm.zero (pre BC (fresh BC tk c)) (Bo (fun y d=>Fm.sep tk y (DP e x.var (pre BC (fresh BC tk c))) d) x.parts (fresh BC tk c)).1,(Bo (fun y d=>Fm.sep tk y (DP e x.var (pre BC (fresh BC tk c))) d) x.parts (fresh BC tk c)).2)
  else (.mk x.op Tm.zero ⟨#[]⟩ (Bo (fun y c=>Fm.sep tk y e c) x.parts c).1,(Bo (fun y c=>Fm.sep tk y e c) x.parts c).2):=by
 obtain ⟨op,atom,var,parts⟩:=x
 rw [Fm.sep,Fm.KT,Fm.KT]
 rfl
theorem Fm.Da (tk:List ByteArray) (x:Fm):∀ (e:SEnv) (c:Int),0≤c→c≤(x.sep tk e c).2∧(x.sep tk e c).2≤c+x.nodes*(tk.length+2:Nat):=by
 intro e c hc
 have ih:∀ y∈x.parts,∀ (e:SEnv) (c:Int),0≤c→c≤(y.sep tk e c).2∧(y.sep tk e c).2≤c+y.nodes*(tk.length+2:Nat):=fun y hy=>Fm.Da tk y
 have key:∀ (e:SEnv) (xs:List Fm),(∀ y∈xs,y∈x.parts)→∀ c:Int,0≤c→c≤(Bo (fun y c=>Fm.sep tk y e c) xs c).2∧(Bo (fun y c=>Fm.sep tk y e c) xs c).2≤c+Fm.nodeS xs*(tk.length+2:Nat):=by
  intro e xs
  induction xs with
  | nil=>intro _ c _; rw [Bo,Fm.nodeS]; simp
  | cons y ys ihy =>
   intro hm c h0
   have h1:=ih y (hm y (by simp)) e c h0
   have h2:=ihy (fun z hz=>hm z (by simp [hz])) (y.sep tk e c).2 (by omega)
   rw [Bo,Fm.nodeS]
   dsimp only
   rw [Int.natCast_add,Int.add_mul]
   omega
 rw [Fm.JG,Fm.nodes_eq,Int.natCast_add,Int.add_mul]
 have hT:(0:Int)≤(Fm.nodeS x.parts:Int)*(tk.length+2:Nat):=Int.mul_nonneg (by omega) (by omega)
 have hO:((1:Nat):Int)*(tk.length+2:Nat)=tk.length+2:=by simp
 rw [hO]
 cases dec (x.op=3) with
 | true=>simp only [cond_true]; omega
 | false =>
  cases qB x.op with
  | true =>
   have hf:=Di BC tk c
   have:=key (DP e x.var (pre BC (fresh BC tk c))) x.parts (fun y hy=>hy) (fresh BC tk c) (by omega)
   simp only [cond_true,cond_false]; omega
  | false =>
   have:=key e x.parts (fun y hy=>hy) c hc
   simp only [cond_false]; omega
termination_by SizeOf.sizeOf x
decreasing_by exact Fm.lt_of_mem hy
theorem Fm.IO (tk:List ByteArray) (x:Fm) (h:x.forms=true):∀ (e:SEnv) (c:Int),(x.sep tk e c).1.tame∧(x.sep tk e c).1.nodes≤x.nodes:=by
 intro e c
 have ih:∀ y∈x.parts,∀ (e:SEnv) (c:Int),(y.sep tk e c).1.tame∧(y.sep tk e c).1.nodes≤y.nodes:=fun y hy=>Fm.IO tk y (Fm.BE h hy)
 have key:∀ (e:SEnv) (xs:List Fm),(∀ y∈xs,y∈x.parts)→∀ c:Int,Fm.C0 (Bo (fun y c=>Fm.sep tk y e c) xs c).1∧Fm.nodeS (Bo (fun y c=>Fm.sep tk y e c) xs c).1≤Fm.nodeS xs:=by
  intro e xs
  induction xs with
  | nil=>intro _ c; rw [Bo,Fm.C0,Fm.nodeS]; exact ⟨trivial,z6 _⟩
  | cons y ys ihy =>
   intro hm c
   have h1:=ih y (hm y (by simp)) e c
   have h2:=ihy (fun z hz=>hm z (by simp [hz])) (y.sep tk e c).2
   rw [Bo,Fm.C0,Fm.nodeS,Fm.nodeS]
   exact ⟨⟨h1.1,h2.1⟩,by omega⟩
 have hz:Tm.zero.nodes≤1099511627776:=by rw [Tm.Nl]; omega
 have ha:=Fm.EW (Fm.B8 h)
 rw [Fm.JG,Fm.nodes_eq x]
 cases dec (x.op=3) with
 | true =>
  simp only [cond_true]
  rw [Fm.EY,Fm.nodes_mk,Fm.C0,Fm.nodeS,Tm.Nh]
  exact ⟨⟨by omega,trivial⟩,by omega⟩
 | false =>
  cases qB x.op with
  | true =>
   have:=key (DP e x.var (pre BC (fresh BC tk c))) x.parts (fun y hy=>hy) (fresh BC tk c)
   simp only [cond_true,cond_false]
   rw [Fm.EY,Fm.nodes_mk]
   exact ⟨⟨hz,this.1⟩,by omega⟩
  | false =>
   have:=key e x.parts (fun y hy=>hy) c
   simp only [cond_false]
   rw [Fm.EY,Fm.nodes_mk]
   exact ⟨⟨hz,this.1⟩,by omega⟩
termination_by SizeOf.sizeOf x
decreasing_by exact Fm.lt_of_mem hy
noncomputable def Kt (x:Fm):Fm:=(x.sep x.free (fun _=>none) 0).1
noncomputable def Ku (x:Fm):Bool:=x.valid&&(Kt x).valid
noncomputable def Nm (x:Fm):Fm:=bif Ku x then Kt x else Fm.zero
noncomputable def Cu:List ByteArray→ByteArray→Int
 | [],_=>-1
 | a :: r,s=>bif dec (0≤Cu r s) then Cu r s+1 else bif dec (a=s) then 0 else -1
theorem L8 {p:ByteArray} {tk:List ByteArray} {c:Int} (hc:0≤c):beyond p tk (c+1)≤beyond p tk c:=by
 by_cases h:pre p (c+1)∈tk
 ·exact Nat.le_of_lt (FJ hc h)
 ·unfold beyond
  have key:∀ (a b:ByteArray→Bool) (l:List ByteArray),(∀ x,a x=true→b x=true)→(l.filter a).length≤(l.filter b).length:=by
   intro a b l hab
   induction l with
   | nil=>simp
   | cons x xs ih =>
    rw [List.filter_cons,List.filter_cons]
    by_cases ha:a x=true
    ·rw [if_pos ha,if_pos (hab x ha)]
     simp only [zL]; omega
    ·rw [if_neg ha]
     split
     ·simp only [zL]; omega
     ·exact ih
  refine key _ _ tk fun x hx=>?_
  rw [Az] at hx ⊢
  obtain ⟨k,h1,h2⟩:=hx
  exact ⟨k,by omega,h2⟩
theorem Nn {p:ByteArray} {tk:List ByteArray}:∀ (k:Nat) (c:Int),0≤c→beyond p tk c≤k→pre p (fresh p tk c) ∉ tk∧fresh p tk c+beyond p tk (fresh p tk c)≤c+1+beyond p tk c:=by
 intro k
 induction k with
 | zero =>
  intro c hc hk
  by_cases h:pre p (c+1)∈tk
  ·have:=FJ hc h
   omega
  ·rw [KS h]
   have:=L8 (p:=p) (tk:=tk) hc
   exact ⟨h,by omega⟩
 | succ k ih =>
  intro c hc hk
  by_cases h:pre p (c+1)∈tk
  ·have h1:=FJ hc h
   obtain ⟨a,b⟩:=ih (c+1) (by omega) (by omega)
   rw [OK hc h]
   exact ⟨a,by omega⟩
  ·rw [KS h]
   have:=L8 (p:=p) (tk:=tk) hc
   exact ⟨h,by omega⟩
theorem L9 {p:ByteArray} {tk:List ByteArray} {c:Int} (hc:0≤c):pre p (fresh p tk c) ∉ tk:=(Nn _ c hc (z6 _)).1
theorem TW {p:ByteArray} {tk:List ByteArray} {c:Int} (hc:0≤c):fresh p tk c+beyond p tk (fresh p tk c)≤c+1+beyond p tk c:=(Nn _ c hc (z6 _)).2
def RU (e:SEnv):Prop:=∀ m w,e m=some w→Bz m=true∧Bz w=true
section
variable {l:List Int} {n:Int}
theorem Tm.V4 {e:SEnv} (he:RU e) {E E':ByteArray→Int} (x:Tm) (hx:x.names=true) (hE:∀ m∈x.vs,E m=E' ((e m).getD m)):(x.rn e).val l n E'=x.val l n E:=by
 have ih:∀ y∈x.args,(∀ m∈y.vs,E m=E' ((e m).getD m))→(y.rn e).val l n E'=y.val l n E:=fun y hy h=>Tm.V4 he y (Tm.Ek hx hy) h
 rw [Tm.Kp,Tm.Ng x]
 rw [Tm.QA] at hE
 cases hb:Bz x.name with
 | true =>
  rw [hb,cond_true] at hE
  have hE:=hE x.name (by simp)
  rw [Tm.FH hx hb,cond_true]
  show (Tm.mk ((e x.name).getD x.name) []).val l n E'=_
  rw [Tm.Ng]
  have hv:Bz ((e x.name).getD x.name)=true:=by
   cases h:e x.name with
   | none=>exact hb
   | some w=>exact (he _ _ h).2
  show (bif Bz ((e x.name).getD x.name) then E' ((e x.name).getD x.name) else _)=_
  rw [hv,cond_true,hE]
 | false =>
  rw [hb,cond_false] at hE
  have hen:e x.name=none:=by
   cases h:e x.name with
   | none=>rfl
   | some w=>rw [(he _ _ h).1] at hb; cases hb
  have hnm:(bif x.args.isEmpty then (e x.name).getD x.name else x.name)=x.name:=by
   rw [hen]
   cases x.args.isEmpty <;> rfl
  rw [hnm,Tm.Ng]
  show (bif Bz x.name then E' x.name else (P1 l x.name ((x.args.map (Tm.rn e)).map (Tm.val l n E'))).tmod n)=_
  rw [hb,cond_false,cond_false,yF]
  congr 2
  exact List.map_congr_left fun y hy=>ih y hy fun m hm=>hE m (Tm.LU.2 ⟨y,hy,hm⟩)
termination_by SizeOf.sizeOf x
decreasing_by exact Tm.lt_of_mem hy
theorem Gf {x:Tm} (h:x.atom=true) {y:Tm} (hy:y∈x.args):y.names=true:=by
 unfold Tm.atom at h
 split at h
 ·rw [zA,Tm.Ej,zO] at h
  exact h.2 y hy
 ·rw [zA] at h
  have h2:=h.2
  unfold Tm.valid at h2
  rw [zA] at h2
  exact Tm.Ek h2.2 hy
theorem TX {e:SEnv} (he:RU e) {E E':ByteArray→Int} {a:Tm} (ha:a.atom=true) (hE:∀ m∈a.vs,E m=E' ((e m).getD m)):H7 l n E' (a.rn e)=H7 l n E a:=by
 have hnv:=Tm.P2 ha
 rw [Tm.QA,hnv,cond_false] at hE
 have hen:e a.name=none:=by
  cases h:e a.name with
  | none=>rfl
  | some w=>rw [(he _ _ h).1] at hnv; cases hnv
 have hnm:(bif a.args.isEmpty then (e a.name).getD a.name else a.name)=a.name:=by
  rw [hen]
  cases a.args.isEmpty <;> rfl
 rw [Tm.Kp,hnm]
 unfold H7
 show (bif dec (a.name=_)&&dec ((a.args.map (Tm.rn e)).length=2) then _ else _)=_
 have e2:(Tm.mk a.name (a.args.map (Tm.rn e))).args.map (Tm.val l n E')=a.args.map (Tm.val l n E):=by
  show (a.args.map (Tm.rn e)).map _=_
  rw [yF]
  exact List.map_congr_left fun y hy=>Tm.V4 he y (Gf ha hy) fun m hm=>hE m (Tm.LU.2 ⟨y,hy,hm⟩)
 rw [e2,zQ]
 rfl
def UpN (e:SEnv) (c:Int):Prop:=∀ m w,e m=some w→Bz m=true∧∃ j:Int,0<j∧j≤c∧w=pre BC j
theorem UpN.mono {e:SEnv} {c d:Int} (h:UpN e c) (hcd:c≤d):UpN e d:=fun m w hm=>by
 obtain ⟨h1,j,h2,h3,h4⟩:=h m w hm
 exact ⟨h1,j,h2,by omega,h4⟩
theorem UpN.onVV {e:SEnv} {c N:Int} (h:UpN e c) (hc:c≤N) (hV:∀ j:Int,0<j→j≤N→Bz (pre BC j)=true):RU e:=fun m w hm=>by
 obtain ⟨h1,j,h2,h3,rfl⟩:=h m w hm
 exact ⟨h1,hV j h2 (by omega)⟩
theorem Fm.V5 (tk:List ByteArray) (N:Int) (hV:∀ j:Int,0<j→j≤N→Bz (pre BC j)=true) (x:Fm) (hx:x.forms=true) :
  ∀ (e:SEnv) (c:Int) (E E':ByteArray→Int),0≤c→UpN e c→(x.sep tk e c).2≤N→(∀ m∈x.fv [],e m=none→m∈tk)→(∀ m∈x.fv [],E m=E' ((e m).getD m))→(x.sep tk e c).1.vt l n E'=x.vt l n E:=by
 have ih:∀ p∈x.parts,∀ (e:SEnv) (c:Int) (E E':ByteArray→Int),0≤c→UpN e c→(p.sep tk e c).2≤N→(∀ m∈p.fv [],e m=none→m∈tk)→(∀ m∈p.fv [],E m=E' ((e m).getD m))→(p.sep tk e c).1.vt l n E'=p.vt l n E:=fun p hp=>Fm.V5 tk N hV p (Fm.BE hx hp)
 intro e c E E' hc hup hN hT hE
 have hf:=Fm.B8 hx
 have hcnt:=Fm.Da tk x e c hc
 have hvv:=hup.onVV (N:=N) (by omega) hV
 rw [Fm.Nc] at hT hE
 rw [Fm.JG] at hN ⊢
 rcases Fm.IM hf with ho | ho | ho | ho | ho | ho
 ·have hq:qB x.op=false:=by unfold qB; rw [Ai (by omega),Ai (by omega)]; rfl
  rw [Ai (p:=x.op=3) (by omega),cond_false,hq,cond_false,Fm.TR ho]
  exact Fm.TR (x:=.mk x.op _ _ _) ho
 ·have hq:qB x.op=false:=by unfold qB; rw [Ai (by omega),Ai (by omega)]; rfl
  rw [Ai (p:=x.op=3) (by omega),cond_false,hq,cond_false,Fm.TS ho]
  exact Fm.TS (x:=.mk x.op _ _ _) ho
 ·rw [Au ho,cond_true] at hE hT ⊢
  rw [Fm.TT ho]
  refine (Fm.TT (x:=.mk 3 _ _ _) rfl).trans ?_
  have hat:=(Fm.DE hf ho).2.1
  refine TX hvv hat fun m hm=>hE m ?_
  rw [List.mem_filter]
  exact ⟨Hh.2 (.inr hm),by rw [Ai (by simp)]; rfl⟩
 ·have hq:qB x.op=false:=by unfold qB; rw [Ai (by omega),Ai (by omega)]; rfl
  obtain ⟨p,hp⟩:=Fm.IL hf ho
  rw [Ai (p:=x.op=3) (by omega),cond_false,hq,cond_false] at hE hT hN ⊢
  rw [Fm.Vx ho hp]
  rw [hp] at hN ⊢
  simp only [Bo] at hN ⊢
  refine (Fm.Vx (x:=.mk x.op _ _ _) (p:=(p.sep tk e c).1) ho rfl).trans ?_
  have hpm:p∈x.parts:=by rw [hp]; simp
  rw [ih p hpm e c E E' hc hup hN (fun m hm=>hT m (Fm.DF.2 ⟨p,hpm,hm⟩)) fun m hm=>hE m (Fm.DF.2 ⟨p,hpm,hm⟩)]
 ·have hq:qB x.op=false:=by unfold qB; rw [Ai (by omega),Ai (by omega)]; rfl
  obtain ⟨p,q,hp⟩:=Fm.EX hf ho
  rw [Ai (p:=x.op=3) (by omega),cond_false,hq,cond_false] at hE hT hN ⊢
  rw [Fm.Ko ho hp]
  rw [hp] at hN ⊢
  simp only [Bo] at hN ⊢
  have hpm:p∈x.parts:=by rw [hp]; simp
  have hqm:q∈x.parts:=by rw [hp]; simp
  have h1:=Fm.Da tk p e c hc
  have h2:=Fm.Da tk q e (p.sep tk e c).2 (by omega)
  refine (Fm.Ko (x:=.mk x.op _ _ _) (p:=(p.sep tk e c).1) (q:=(q.sep tk e (p.sep tk e c).2).1) ho rfl).trans ?_
  rw [ih p hpm e c E E' hc hup (by omega) (fun m hm=>hT m (Fm.DF.2 ⟨p,hpm,hm⟩)) fun m hm=>hE m (Fm.DF.2 ⟨p,hpm,hm⟩)]
  rw [ih q hqm e _ E E' (by omega) (hup.mono (by omega)) hN (fun m hm=>hT m (Fm.DF.2 ⟨q,hqm,hm⟩)) fun m hm=>hE m (Fm.DF.2 ⟨q,hqm,hm⟩)]
  rfl
 ·have hq:qB x.op=true:=by unfold qB; rcases ho with h | h <;> rw [h,Au rfl] <;> simp
  obtain ⟨hvar,p,hp⟩:=Fm.Dm hf hq
  rw [Ai (p:=x.op=3) (by omega),cond_false,hq,cond_true] at hE hT hN ⊢
  rw [yX] at hE hT
  rw [Fm.NJ ho hp]
  rw [hp] at hN ⊢
  simp only [Bo] at hN ⊢
  have hpm:p∈x.parts:=by rw [hp]; simp
  have hfr:=Di BC tk c
  have hnt:=L9 (p:=BC) (tk:=tk) hc
  obtain ⟨d,hd⟩:∃ d,d=fresh BC tk c:=⟨_,rfl⟩
  rw [←hd] at hN hfr hnt ⊢
  obtain ⟨w,hw⟩:∃ w,w=pre BC d:=⟨_,rfl⟩
  rw [←hw] at hN hnt ⊢
  refine (Fm.NJ (x:=.mk x.op _ _ _) (p:=(p.sep tk (DP e x.var w) d).1) ho rfl).trans ?_
  show Fo x.op n (fun k=>(p.sep tk (DP e x.var w) d).1.vt l n (upE E' w k))=_
  congr 1
  funext k
  have hup1:UpN (DP e x.var w) d:=by
   intro m u hm
   unfold DP at hm
   by_cases hmv:m=x.var
   ·rw [Au hmv,cond_true] at hm
    obtain rfl:=zH hm
    exact ⟨by rw [hmv]; exact hvar,d,by omega,by omega,hw⟩
   ·rw [Ai hmv,cond_false] at hm
    exact hup.mono (by omega) m u hm
  refine ih p hpm (DP e x.var w) d (upE E x.var k) (upE E' w k) (by omega) hup1 hN (fun m hm he=>?_) fun m hm=>?_
  ·unfold DP at he
   by_cases hmv:m=x.var
   ·rw [Au hmv,cond_true] at he; cases he
   ·rw [Ai hmv,cond_false] at he
    exact hT m (Fm.DF.2 ⟨p,hpm,(Fm.JF m p [x.var]).2 ⟨hm,by simpa using hmv⟩⟩) he
  ·by_cases hmv:m=x.var
   ·have e1:DP e x.var w m=some w:=by unfold DP; rw [Au hmv]; rfl
    rw [e1,yK,hmv,Nf,Nf]
   ·have hmx:=Fm.DF.2 ⟨p,hpm,(Fm.JF m p [x.var]).2 ⟨hm,by simpa using hmv⟩⟩
    have e1:DP e x.var w m=e m:=by unfold DP; rw [Ai hmv]; rfl
    have hne:(e m).getD m≠w:=by
     cases hem:e m with
     | none =>
      intro h
      have h:m=w:=h
      exact hnt (h▸hT m hmx hem)
     | some u =>
      intro h
      have h:u=w:=h
      obtain ⟨_,j,h1,h2,h3⟩:=hup m u hem
      have:=P3 (p:=BC) (a:=j) (b:=d) (by omega) (by omega) (by rw [←h3,← hw]; exact h)
      omega
    rw [e1,KR hmv,KR hne]
    exact hE m hmx
termination_by SizeOf.sizeOf x
decreasing_by exact Fm.lt_of_mem hp
end
theorem V6:∀ i:_root_.Fin 1000,Bz (pre BC (i.val:Nat))=true:=by decide +kernel
theorem KU (j:Int) (h0:0<j) (h1:j≤999):Bz (pre BC j)=true:=by
 have h:=V6 ⟨j.toNat,by omega⟩
 have e:((j.toNat:Nat):Int)=j:=by omega
 rw [←e]
 exact h
theorem No {e:SEnv} (he:RU e) (x:Tm) (hv:Bz x.name=false):(x.rn e).name=x.name:=by
 rw [Tm.Kp]
 show (bif x.args.isEmpty then (e x.name).getD x.name else x.name)=_
 cases hx:e x.name with
 | none=>cases x.args.isEmpty <;> rfl
 | some n =>
  have:=(he _ _ hx).1
  rw [hv] at this; cases this
theorem Io (e:SEnv) (x:Tm):(x.rn e).args=x.args.map (Tm.rn e):=by rw [Tm.Kp]; rfl
theorem KV {e:SEnv} (he:RU e) (x:Tm) (h:x.names=true):(x.rn e).names=true:=by
 have ih:∀ y∈x.args,(y.rn e).names=true:=fun y hy=>KV he y (Tm.Ek h hy)
 cases hv:Bz x.name with
 | true =>
  have h0:=Tm.FH h hv
  have hn:Bz (x.rn e).name=true:=by
   rw [Tm.Kp,h0]
   show Bz ((e x.name).getD x.name)=true
   cases hx:e x.name with
   | none=>exact hv
   | some n=>exact (he _ _ hx).2
  rw [Tm.Fk,hn,if_pos rfl,Io,h0]; rfl
 | false =>
  rw [Tm.Fk,hv,if_neg (by simp)] at h
  rw [Tm.Fk,No he x hv,hv,if_neg (by simp),Io,zQ]
  rw [zA] at h ⊢
  refine ⟨h.1,?_⟩
  rw [Tm.Ej,zO]
  intro z hz
  obtain ⟨y,hy,rfl⟩:=z8.1 hz
  exact ih y hy
termination_by SizeOf.sizeOf x
decreasing_by exact Tm.lt_of_mem hy
theorem QI (e:SEnv) (x:Tm):(x.rn e).deep=x.deep:=by
 have key:∀ xs:List Tm,(∀ y∈xs,(y.rn e).deep=y.deep)→Tm.Es (xs.map (Tm.rn e))=Tm.Es xs:=by
  intro xs
  induction xs with
  | nil=>intro _; rfl
  | cons y ys ih =>
   intro h
   rw [zD,Tm.Es,Tm.Es,h y (by simp),ih fun z hz=>h z (by simp [hz])]
 rw [Tm.Kp,Tm.Kf,Tm.Kf]
 show Tm.Es (x.args.map (Tm.rn e))+1=_
 rw [key x.args fun y hy=>QI e y]
termination_by SizeOf.sizeOf x
decreasing_by exact Tm.lt_of_mem hy
theorem V7 {e:SEnv} (he:RU e) (x:Tm) (h:x.atom=true):(x.rn e).atom=true:=by
 have hv:=Tm.P2 h
 have hn:=No he x hv
 have hq:(x.rn e).eqn=x.eqn:=by unfold Tm.eqn; rw [hn]
 have hsm:(x.rn e).small=x.small:=by unfold Tm.small; rw [Tm.Nh,QI]
 have harg:∀ y∈x.args,(y.rn e).names=true:=fun y hy=>KV he y (Gf h hy)
 unfold Tm.atom at h ⊢
 rw [hq]
 split at h
 ·rename_i hb
  rw [if_pos hb]
  rw [zA,zA] at h ⊢
  refine ⟨⟨by rw [Io,zQ]; exact h.1.1,by rw [hsm]; exact h.1.2⟩,?_⟩
  rw [Io,Tm.Ej,zO]
  intro z hz
  obtain ⟨y,hy,rfl⟩:=z8.1 hz
  exact harg y hy
 ·rename_i hb
  rw [if_neg hb]
  rw [zA] at h ⊢
  refine ⟨by rw [hn]; exact h.1,?_⟩
  have h2:=h.2
  unfold Tm.valid at h2 ⊢
  rw [zA] at h2 ⊢
  exact ⟨by rw [hsm]; exact h2.1,KV he x h2.2⟩
theorem Fm.QJ (x:Fm) (hx:x.forms=true):∀ b:List ByteArray,2*(x.fv b).length≤30*(x.nodes+1):=by
 have ih:∀ y∈x.parts,∀ b:List ByteArray,2*(y.fv b).length≤30*(y.nodes+1):=fun y hy=>Fm.QJ y (Fm.BE hx hy)
 intro b
 have hf:=Fm.B8 hx
 have hn:=Fm.nodes_eq x
 rw [Fm.Nc]
 have one:∀ p,x.parts=[p]→∀ b',2*(Fm.fvL x.parts b').length≤30*(x.nodes+1):=fun p hp b'=>by
  have:=ih p (by rw [hp]; simp) b'
  rw [hp] at hn ⊢
  have e1:Fm.nodeS [p]=p.nodes+0:=rfl
  have e2:Fm.fvL [p] b'=p.fv b'++[]:=by rw [Fm.fvL,Fm.fvL]
  rw [e2,yM]
  omega
 rcases Fm.IM hf with ho | ho | ho | ho | ho | ho
 ·rw [Ai (p:=x.op=3) (by omega),cond_false]
  have e:=Fm.El hf (by omega)
  have hp:x.parts=[]:=by rw [e]; rfl
  rw [hp,Fm.fvL]
  simp
 ·rw [Ai (p:=x.op=3) (by omega),cond_false]
  have e:=Fm.El hf (by omega)
  have hp:x.parts=[]:=by rw [e]; rfl
  rw [hp,Fm.fvL]
  simp
 ·rw [Au ho,cond_true]
  have h1:=yI (fun n=>!dec (n∈b)) (HP [] x.atom.vs)
  have h2:=Hg x.atom.vs []
  have h3:=Tm.KQ x.atom
  have h4:=Fm.EW hf
  simp only [zT] at h2
  omega
 ·rw [Ai (p:=x.op=3) (by omega),cond_false]
  obtain ⟨p,hp⟩:=Fm.IL hf ho
  exact one p hp _
 ·rw [Ai (p:=x.op=3) (by omega),cond_false]
  obtain ⟨p,q,hp⟩:=Fm.EX hf ho
  generalize (bif qB x.op then b++[x.var] else b)=b'
  have h1:=ih p (by rw [hp]; simp) b'
  have h2:=ih q (by rw [hp]; simp) b'
  rw [hp] at hn ⊢
  have e1:Fm.nodeS [p,q]=p.nodes+(q.nodes+0):=rfl
  have e2:Fm.fvL [p,q] b'=p.fv b'++(q.fv b'++[]):=by rw [Fm.fvL,Fm.fvL,Fm.fvL]
  rw [e2,yM,zW]
  omega
 ·rw [Ai (p:=x.op=3) (by omega),cond_false]
  obtain ⟨_,p,hp⟩:=Fm.Dm hf (by unfold qB; rcases ho with h | h <;> rw [h,Au rfl] <;> simp)
  exact one p hp _
termination_by SizeOf.sizeOf x
decreasing_by exact Fm.lt_of_mem hy
theorem Fm.SQ (tk:List ByteArray) (x:Fm):∀ (e:SEnv) (c:Int),0≤c→(x.sep tk e c).2+beyond BC tk (x.sep tk e c).2≤c+beyond BC tk c+x.nodes:=by
 have ih:∀ y∈x.parts,∀ (e:SEnv) (c:Int),0≤c→(y.sep tk e c).2+beyond BC tk (y.sep tk e c).2≤c+beyond BC tk c+y.nodes:=fun y hy=>Fm.SQ tk y
 intro e c hc
 have key:∀ (e:SEnv) (xs:List Fm),(∀ y∈xs,y∈x.parts)→∀ c:Int,0≤c→(Bo (fun y c=>Fm.sep tk y e c) xs c).2+beyond BC tk (Bo (fun y c=>Fm.sep tk y e c) xs c).2≤c+beyond BC tk c+Fm.nodeS xs:=by
  intro e xs
  induction xs with
  | nil=>intro _ c _; rw [Bo,Fm.nodeS]; simp
  | cons y ys ihy =>
   intro hm c h0
   have h1:=ih y (hm y (by simp)) e c h0
   have hcn:=Fm.Da tk y e c h0
   have h2:=ihy (fun z hz=>hm z (by simp [hz])) (y.sep tk e c).2 (by omega)
   rw [Bo,Fm.nodeS]
   dsimp only
   omega
 have hn:=Fm.nodes_eq x
 rw [Fm.JG]
 cases dec (x.op=3) with
 | true=>simp only [cond_true]; omega
 | false =>
  cases qB x.op with
  | true =>
   have hf:=Di BC tk c
   have hph:=TW (p:=BC) (tk:=tk) hc
   have:=key (DP e x.var (pre BC (fresh BC tk c))) x.parts (fun y hy=>hy) (fresh BC tk c) (by omega)
   simp only [cond_true,cond_false]
   omega
  | false =>
   have:=key e x.parts (fun y hy=>hy) c hc
   simp only [cond_false]
   omega
termination_by SizeOf.sizeOf x
decreasing_by exact Fm.lt_of_mem hy
theorem Np (x:Fm) (hx:x.forms=true) (hn:x.nodes≤40):(x.sep x.free (fun _=>none) 0).2≤999:=by
 have h1:=Fm.SQ x.free x (fun _=>none) 0 (by omega)
 have h2:=OJ BC x.free 0
 have h3:=Fm.QJ x hx []
 have h4:=Hg (x.fv []) []
 simp only [zT] at h4
 have h5:x.free.length≤0+(x.fv []).length:=h4
 omega
theorem Ip:Tm.zero.isZ=true:=by unfold Tm.isZ; rw [zA]; exact ⟨Au rfl,rfl⟩
theorem QK {op:Int} {a:Tm} {v:ByteArray} {ps:List Fm} (h:op=1∨op=2) (hp:ps.length=0) (ha:a.isZ=true) (hv:v=⟨#[]⟩):(Fm.mk op a v ps).form=true:=by
 unfold Fm.form
 rw [if_pos (show (Fm.mk op a v ps).op=1∨(Fm.mk op a v ps).op=2 from h),zA,zA]
 exact ⟨⟨by show (ps.length == 0)=true; rw [hp]; rfl,ha⟩,Au hv⟩
theorem Xu {a:Tm} {v:ByteArray} {ps:List Fm} (hp:ps.length=0) (ha:a.atom=true) (hv:v=⟨#[]⟩):(Fm.mk 3 a v ps).form=true:=by
 unfold Fm.form
 rw [if_neg (show ¬ ((Fm.mk 3 a v ps).op=1∨(Fm.mk 3 a v ps).op=2) by show ¬ ((3:Int)=1∨(3:Int)=2); omega),if_pos (show (Fm.mk 3 a v ps).op=3 from rfl),zA,zA]
 exact ⟨⟨by show (ps.length == 0)=true; rw [hp]; rfl,ha⟩,Au hv⟩
theorem V8 {a:Tm} {v:ByteArray} {ps:List Fm} (hp:ps.length=1) (ha:a.isZ=true) (hv:v=⟨#[]⟩):(Fm.mk 4 a v ps).form=true:=by
 unfold Fm.form
 rw [if_neg (show ¬ ((Fm.mk 4 a v ps).op=1∨(Fm.mk 4 a v ps).op=2) by show ¬ ((4:Int)=1∨(4:Int)=2); omega),if_neg (show ¬ (Fm.mk 4 a v ps).op=3 by show ¬ (4:Int)=3; omega),if_pos (show (Fm.mk 4 a v ps).op=4 from rfl),zA,zA]
 exact ⟨⟨by show (ps.length == 1)=true; rw [hp]; rfl,ha⟩,Au hv⟩
theorem V9 {op:Int} {a:Tm} {v:ByteArray} {ps:List Fm} (h:op=5∨op=6∨op=7) (hp:ps.length=2) (ha:a.isZ=true) (hv:v=⟨#[]⟩):(Fm.mk op a v ps).form=true:=by
 unfold Fm.form
 rw [if_neg (show ¬ ((Fm.mk op a v ps).op=1∨(Fm.mk op a v ps).op=2) by show ¬ (op=1∨op=2); omega),if_neg (show ¬ (Fm.mk op a v ps).op=3 by show ¬ op=3; omega),if_neg (show ¬ (Fm.mk op a v ps).op=4 by show ¬ op=4; omega),if_pos (show (Fm.mk op a v ps).op=5∨(Fm.mk op a v ps).op=6∨(Fm.mk op a v ps).op=7 from h),zA,zA]
 exact ⟨⟨by show (ps.length == 2)=true; rw [hp]; rfl,ha⟩,Au hv⟩
theorem Xv {op:Int} {a:Tm} {v:ByteArray} {ps:List Fm} (h:op=8∨op=9) (hp:ps.length=1) (ha:a.isZ=true) (hv:Bz v=true):(Fm.mk op a v ps).form=true:=by
 unfold Fm.form
 rw [if_neg (show ¬ ((Fm.mk op a v ps).op=1∨(Fm.mk op a v ps).op=2) by show ¬ (op=1∨op=2); omega),if_neg (show ¬ (Fm.mk op a v ps).op=3 by show ¬ op=3; omega),if_neg (show ¬ (Fm.mk op a v ps).op=4 by show ¬ op=4; omega),if_neg (show ¬ ((Fm.mk op a v ps).op=5∨(Fm.mk op a v ps).op=6∨(Fm.mk op a v ps).op=7) by show ¬ (op=5∨op=6∨op=7); omega),if_pos (show (Fm.mk op a v ps).op=8∨(Fm.mk op a v ps).op=9 from h),zA,zA]
 exact ⟨⟨by show (ps.length == 1)=true; rw [hp]; rfl,ha⟩,hv⟩
theorem Hk {op:Int} {a:Tm} {v:ByteArray} {ps:List Fm} (h:(Fm.mk op a v ps).form=true) (hp:∀ y∈ps,y.forms=true):(Fm.mk op a v ps).forms=true:=by
 rw [Fm.DU,h,yS,Fm.IG,zO]
 exact hp
theorem Fm.OL (tk:List ByteArray) (N:Int) (hV:∀ j:Int,0<j→j≤N→Bz (pre BC j)=true) (x:Fm) (hx:x.forms=true) :
  ∀ (e:SEnv) (c:Int),0≤c→UpN e c→(x.sep tk e c).2≤N→(x.sep tk e c).1.forms=true:=by
 have ih:∀ p∈x.parts,∀ (e:SEnv) (c:Int),0≤c→UpN e c→(p.sep tk e c).2≤N→(p.sep tk e c).1.forms=true:=fun p hp=>Fm.OL tk N hV p (Fm.BE hx hp)
 intro e c hc hup hN
 have hf:=Fm.B8 hx
 have hcnt:=Fm.Da tk x e c hc
 have hvv:=hup.onVV (N:=N) (by omega) hV
 rw [Fm.JG] at hN ⊢
 have key:∀ (e:SEnv) (xs:List Fm),(∀ y∈xs,y∈x.parts)→∀ c:Int,0≤c→UpN e c→(Bo (fun y c=>Fm.sep tk y e c) xs c).2≤N→c≤(Bo (fun y c=>Fm.sep tk y e c) xs c).2∧∀ z∈(Bo (fun y c=>Fm.sep tk y e c) xs c).1,z.forms=true:=by
  intro e xs
  induction xs with
  | nil=>intro _ c _ _ _; rw [Bo]; exact ⟨Int.le_refl _,fun z hz=>by cases hz⟩
  | cons y ys ihy =>
   intro hm c h0 hu h1
   rw [Bo] at h1 ⊢
   have hcn:=Fm.Da tk y e c h0
   have h1:(Bo (fun y c=>Fm.sep tk y e c) ys (y.sep tk e c).2).2≤N:=h1
   obtain ⟨a,b⟩:=ihy (fun z hz=>hm z (by simp [hz])) (y.sep tk e c).2 (by omega) (hu.mono (by omega)) h1
   have h2:=ih y (hm y (by simp)) e c h0 hu (by omega)
   refine ⟨by dsimp only; omega,fun z hz=>?_⟩
   rcases zC.1 hz with rfl | hz
   ·exact h2
   ·exact b z hz
 rcases Fm.IM hf with ho | ho | ho | ho | ho | ho
 ·have hq:qB x.op=false:=by unfold qB; rw [Ai (by omega),Ai (by omega)]; rfl
  rw [Ai (p:=x.op=3) (by omega),cond_false,hq,cond_false] at hN ⊢
  have hp:x.parts=[]:=by rw [Fm.El hf (.inl ho)]; rfl
  exact Hk (QK (.inl ho) (by rw [FK,hp]; rfl) Ip rfl) (key e x.parts (fun y hy=>hy) c hc hup hN).2
 ·have hq:qB x.op=false:=by unfold qB; rw [Ai (by omega),Ai (by omega)]; rfl
  rw [Ai (p:=x.op=3) (by omega),cond_false,hq,cond_false] at hN ⊢
  have hp:x.parts=[]:=by rw [Fm.El hf (.inr ho)]; rfl
  exact Hk (QK (.inr ho) (by rw [FK,hp]; rfl) Ip rfl) (key e x.parts (fun y hy=>hy) c hc hup hN).2
 ·rw [Au ho,cond_true]
  exact Hk (Xu rfl (V7 hvv _ (Fm.DE hf ho).2.1) rfl) fun y hy=>by cases hy
 ·have hq:qB x.op=false:=by unfold qB; rw [Ai (by omega),Ai (by omega)]; rfl
  obtain ⟨p,hp⟩:=Fm.IL hf ho
  rw [Ai (p:=x.op=3) (by omega),cond_false,hq,cond_false] at hN ⊢
  rw [ho]
  exact Hk (V8 (by rw [FK,hp]; rfl) Ip rfl) (key e x.parts (fun y hy=>hy) c hc hup hN).2
 ·have hq:qB x.op=false:=by unfold qB; rw [Ai (by omega),Ai (by omega)]; rfl
  obtain ⟨p,q,hp⟩:=Fm.EX hf ho
  rw [Ai (p:=x.op=3) (by omega),cond_false,hq,cond_false] at hN ⊢
  exact Hk (V9 ho (by rw [FK,hp]; rfl) Ip rfl) (key e x.parts (fun y hy=>hy) c hc hup hN).2
 ·have hq:qB x.op=true:=by unfold qB; rcases ho with h | h <;> rw [h,Au rfl] <;> simp
  obtain ⟨hvar,p,hp⟩:=Fm.Dm hf hq
  rw [Ai (p:=x.op=3) (by omega),cond_false,hq,cond_true] at hN ⊢
  have hfr:=Di BC tk c
  obtain ⟨d,hd⟩:∃ d,d=fresh BC tk c:=⟨_,rfl⟩
  rw [←hd] at hN hfr ⊢
  have hup1:UpN (DP e x.var (pre BC d)) d:=by
   intro m u hm
   unfold DP at hm
   by_cases hmv:m=x.var
   ·rw [Au hmv,cond_true] at hm
    obtain rfl:=zH hm
    exact ⟨by rw [hmv]; exact hvar,d,by omega,by omega,rfl⟩
   ·rw [Ai hmv,cond_false] at hm
    exact hup.mono (by omega) m u hm
  obtain ⟨a,b⟩:=key (DP e x.var (pre BC d)) x.parts (fun y hy=>hy) d (by omega) hup1 hN
  exact Hk (Xv ho (by rw [FK,hp]; rfl) Ip (hV d (by omega) (by have h:(Bo (fun y c=>Fm.sep tk y (DP e x.var (pre BC d)) c) x.parts d).2≤N:=hN; omega))) b
termination_by SizeOf.sizeOf x
decreasing_by exact Fm.lt_of_mem hp
theorem Nq (c:Int):UpN (fun _=>none) c:=fun m w h=>by cases h
theorem Nr {x:Fm} (h:x.valid=true):(Kt x).valid=true:=by
 unfold Fm.valid at h ⊢
 rw [zA,decide_eq_true_eq] at h ⊢
 have h1:=(Fm.IO x.free x h.2 (fun _=>none) 0).2
 exact ⟨by unfold Kt; omega,Fm.OL x.free 999 (fun j a b=>KU j a b) x h.2 _ 0 (by omega) (Nq 0) (Np x h.2 h.1)⟩
theorem Xw {x:Fm} (h:x.valid=true) (l:List Int) (n:Int) (E:ByteArray→Int):(Kt x).vt l n E=x.vt l n E:=by
 unfold Fm.valid at h
 rw [zA,decide_eq_true_eq] at h
 exact Fm.V5 x.free 999 (fun j a b=>KU j a b) x h.2 _ 0 E E (by omega) (Nq 0) (Np x h.2 h.1) (fun m hm _=>Hh.2 (.inr hm)) fun m hm=>rfl
section
variable {l:List Int} {n:Int}
theorem LV (a b:Bool):Fn 5 a b=(a&&b):=by unfold Fn; rw [Au rfl]; rfl
theorem LW (a b:Bool):Fn 6 a b=(a || b):=by unfold Fn; rw [Ai (by decide),Au rfl]; rfl
theorem Xx (a b:Bool):Fn 7 a b=(!a || b):=by unfold Fn; rw [Ai (by decide),Ai (by decide)]; rfl
theorem any_not (g:Nat→Bool):∀ L:List Nat,(L.any fun k=>g k == false)=(L.all g == false)
 | []=>rfl
 | a :: L=>by
  rw [yC,yL,any_not g L]
  cases g a <;> cases L.all g <;> rfl
theorem SR (g:Nat→Bool):∀ L:List Nat,(L.all fun k=>g k == false)=(L.any g == false)
 | []=>rfl
 | a :: L=>by
  rw [yC,yL,SR g L]
  cases g a <;> cases L.any g <;> rfl
theorem RV (f:Int→Bool):Fo 9 n (fun k=>f k == false)=(Fo 8 n f == false):=by
 unfold Fo
 rw [Ai (p:=(9:Int)=8) (by decide),Au (p:=(8:Int)=8) rfl,cond_false,cond_true]
 exact any_not (fun k=>f (k:Nat)) _
theorem RW (f:Int→Bool):Fo 8 n (fun k=>f k == false)=(Fo 9 n f == false):=by
 unfold Fo
 rw [Ai (p:=(9:Int)=8) (by decide),Au (p:=(8:Int)=8) rfl,cond_false,cond_true]
 exact SR (fun k=>f (k:Nat)) _
theorem Hm (a:Bool):(a == true)=a:=by cases a <;> rfl
theorem RY:CX 5=6:=by unfold CX; rw [Ai (by decide),Ai (by decide),Au rfl]; rfl
theorem RZ:CX 6=5:=by unfold CX; rw [Ai (by decide),Ai (by decide),Ai (by decide),Au rfl]; rfl
theorem Sa:CX 8=9:=by unfold CX; rw [Ai (by decide),Ai (by decide),Ai (by decide),Ai (by decide),Au rfl]; rfl
theorem Sc:CX 9=8:=by unfold CX; rw [Ai (by decide),Ai (by decide),Ai (by decide),Ai (by decide),Ai (by decide),Au rfl]; rfl
theorem Fm.VA (x:Fm) (hx:x.forms=true):∀ (b:Bool) (E:ByteArray→Int),(x.nnf b).vt l n E=(x.vt l n E == b):=by
 have ih:∀ y∈x.parts,∀ (b:Bool) (E:ByteArray→Int),(y.nnf b).vt l n E=(y.vt l n E == b):=fun y hy=>Fm.VA y (Fm.BE hx hy)
 intro b E
 have hf:=Fm.B8 hx
 rw [Fm.Nj]
 unfold Fm.RS
 rcases Fm.IM hf with ho | ho | ho | ho | (ho | ho | ho) | ho | ho
 ·rw [Ai (p:=x.op=3) (by omega),Ai (p:=x.op=4) (by omega),Ai (p:=x.op=7) (by omega),Fm.TR ho]
  simp only [cond_false]
  cases b with
  | true=>exact Fm.TR (x:=.mk x.op _ _ _) ho
  | false =>
   have ht:CX x.op=2:=by rw [ho]; unfold CX; rw [Au rfl]; rfl
   exact Fm.TS (x:=.mk (CX x.op) _ _ _) ht
 ·rw [Ai (p:=x.op=3) (by omega),Ai (p:=x.op=4) (by omega),Ai (p:=x.op=7) (by omega),Fm.TS ho]
  simp only [cond_false]
  cases b with
  | true=>exact Fm.TS (x:=.mk x.op _ _ _) ho
  | false =>
   have ht:CX x.op=1:=by rw [ho]; unfold CX; rw [Ai (by decide),Au rfl]; rfl
   exact Fm.TR (x:=.mk (CX x.op) _ _ _) ht
 ·rw [Au (p:=x.op=3) ho,cond_true,Fm.TT ho]
  cases b with
  | true =>
   rw [Hm]
   exact Fm.TT (x:=.mk x.op _ _ _) ho
  | false =>
   show (Fm.QH (.mk x.op x.atom x.var x.parts)).vt l n E=_
   rw [Fm.Vx (x:=Fm.QH _) (p:=.mk x.op x.atom x.var x.parts) rfl rfl,Fm.TT (x:=.mk x.op _ _ _) ho]
   show (!H7 l n E x.atom)=_
   cases H7 l n E x.atom <;> rfl
 ·rw [Ai (p:=x.op=3) (by omega),Au (p:=x.op=4) ho,cond_false,cond_true]
  obtain ⟨p,hp⟩:=Fm.IL hf ho
  rw [Fm.Vx ho hp,hp]
  show (p.nnf (!b)).vt l n E=_
  rw [ih p (by rw [hp]; simp)]
  cases p.vt l n E <;> cases b <;> rfl
 ·obtain ⟨p,q,hp⟩:=Fm.EX hf (by omega)
  rw [Ai (p:=x.op=3) (by omega),Ai (p:=x.op=4) (by omega),Ai (p:=x.op=7) (by omega),Fm.Ko (by omega) hp,hp,ho,LV]
  simp only [cond_false]
  have i1:=ih p (by rw [hp]; simp) b E
  have i2:=ih q (by rw [hp]; simp) b E
  cases b with
  | true =>
   refine (Fm.Ko (x:=.mk (bif true then 5 else CX 5) _ _ _) (p:=p.nnf true) (q:=q.nnf true) (.inl rfl) rfl).trans ?_
   show Fn 5 _ _=_
   rw [LV,i1,i2]
   cases p.vt l n E <;> cases q.vt l n E <;> rfl
  | false =>
   refine (Fm.Ko (x:=.mk (bif false then 5 else CX 5) _ _ _) (p:=p.nnf false) (q:=q.nnf false) (.inr (.inl RY)) rfl).trans ?_
   show Fn (CX 5) _ _=_
   rw [RY,LW,i1,i2]
   cases p.vt l n E <;> cases q.vt l n E <;> rfl
 ·obtain ⟨p,q,hp⟩:=Fm.EX hf (by omega)
  rw [Ai (p:=x.op=3) (by omega),Ai (p:=x.op=4) (by omega),Ai (p:=x.op=7) (by omega),Fm.Ko (by omega) hp,hp,ho,LW]
  simp only [cond_false]
  have i1:=ih p (by rw [hp]; simp) b E
  have i2:=ih q (by rw [hp]; simp) b E
  cases b with
  | true =>
   refine (Fm.Ko (x:=.mk (bif true then 6 else CX 6) _ _ _) (p:=p.nnf true) (q:=q.nnf true) (.inr (.inl rfl)) rfl).trans ?_
   show Fn 6 _ _=_
   rw [LW,i1,i2]
   cases p.vt l n E <;> cases q.vt l n E <;> rfl
  | false =>
   refine (Fm.Ko (x:=.mk (bif false then 6 else CX 6) _ _ _) (p:=p.nnf false) (q:=q.nnf false) (.inl RZ) rfl).trans ?_
   show Fn (CX 6) _ _=_
   rw [RZ,LV,i1,i2]
   cases p.vt l n E <;> cases q.vt l n E <;> rfl
 ·obtain ⟨p,q,hp⟩:=Fm.EX hf (by omega)
  rw [Ai (p:=x.op=3) (by omega),Ai (p:=x.op=4) (by omega),Au (p:=x.op=7) ho,Fm.Ko (by omega) hp,hp,ho,Xx]
  simp only [cond_false,cond_true]
  have i1:=ih p (by rw [hp]; simp) (!b) E
  have i2:=ih q (by rw [hp]; simp) b E
  show (Fm.Il (bif b then 6 else 5) (p.nnf (!b)) (q.nnf b)).vt l n E=_
  cases b with
  | true =>
   refine (Fm.Ko (x:=Fm.Il (bif true then 6 else 5) (p.nnf (!true)) (q.nnf true)) (p:=p.nnf (!true)) (q:=q.nnf true) (.inr (.inl rfl)) rfl).trans ?_
   show Fn 6 _ _=_
   rw [LW,i1,i2]
   cases p.vt l n E <;> cases q.vt l n E <;> rfl
  | false =>
   refine (Fm.Ko (x:=Fm.Il (bif false then 6 else 5) (p.nnf (!false)) (q.nnf false)) (p:=p.nnf (!false)) (q:=q.nnf false) (.inl rfl) rfl).trans ?_
   show Fn 5 _ _=_
   rw [LV,i1,i2]
   cases p.vt l n E <;> cases q.vt l n E <;> rfl
 ·obtain ⟨_,p,hp⟩:=Fm.Dm hf (by unfold qB; rw [Au ho]; rfl)
  rw [Ai (p:=x.op=3) (by omega),Ai (p:=x.op=4) (by omega),Ai (p:=x.op=7) (by omega),Fm.NJ (.inl ho) hp,hp,ho]
  simp only [cond_false]
  have i1:=fun b E=>ih p (by rw [hp]; simp) b E
  cases b with
  | true =>
   refine (Fm.NJ (x:=.mk (bif true then 8 else CX 8) _ _ _) (p:=p.nnf true) (.inl rfl) rfl).trans ?_
   show Fo 8 n (fun k=>(p.nnf true).vt l n (upE E x.var k))=_
   rw [Hm]
   congr 1
   funext k
   rw [i1,Hm]
  | false =>
   refine (Fm.NJ (x:=.mk (bif false then 8 else CX 8) _ _ _) (p:=p.nnf false) (.inr Sa) rfl).trans ?_
   show Fo (CX 8) n (fun k=>(p.nnf false).vt l n (upE E x.var k))=_
   rw [Sa,← RV]
   congr 1
   funext k
   rw [i1]
 ·obtain ⟨_,p,hp⟩:=Fm.Dm hf (by unfold qB; rw [Au (p:=x.op=9) ho]; simp)
  rw [Ai (p:=x.op=3) (by omega),Ai (p:=x.op=4) (by omega),Ai (p:=x.op=7) (by omega),Fm.NJ (.inr ho) hp,hp,ho]
  simp only [cond_false]
  have i1:=fun b E=>ih p (by rw [hp]; simp) b E
  cases b with
  | true =>
   refine (Fm.NJ (x:=.mk (bif true then 9 else CX 9) _ _ _) (p:=p.nnf true) (.inr rfl) rfl).trans ?_
   show Fo 9 n (fun k=>(p.nnf true).vt l n (upE E x.var k))=_
   rw [Hm]
   congr 1
   funext k
   rw [i1,Hm]
  | false =>
   refine (Fm.NJ (x:=.mk (bif false then 9 else CX 9) _ _ _) (p:=p.nnf false) (.inl Sc) rfl).trans ?_
   show Fo (CX 9) n (fun k=>(p.nnf false).vt l n (upE E x.var k))=_
   rw [Sc,← RW]
   congr 1
   funext k
   rw [i1]
termination_by SizeOf.sizeOf x
decreasing_by exact Fm.lt_of_mem hy
end
noncomputable def Y9 (s:Sb) (x:Tm):Bool:=s.ok&&(x.expr&&(x.ap s.look).small)
noncomputable def IS (s:Sb) (x:Tm):Tm:=if Y9 s x then x.ap s.look else .mk ⟨#[]⟩ []
def Z1 (x y:Bd):Bool:=!strLt y.var x.var
noncomputable def YA (u:Sb) (b:Bd):Option Bd:=bif dec ((b.term.ap u.look).name=b.var) then none else some ⟨b.var,b.term.ap u.look⟩
noncomputable def Zm (s u:Sb):List Bd:=s.binds.filterMap (YA u)
noncomputable def Zn (s u:Sb):List Bd:=u.binds.filter fun b=>!Xr s.binds b.var
noncomputable def YB (s u:Sb):List Bd:=Zm s u++Zn s u
noncomputable def Zo (s u:Sb):Sb:=⟨(YB s u).mergeSort Z1⟩
noncomputable def Zp (s u:Sb):Bool:=(Zo s u).ok
def Sb.idem (s:Sb):Prop:=∀ w t,s.look w=some t→∀ v∈t.vs,s.look v=none
noncomputable def VB (x y:Tm):Bd:=bif Bz x.name&&!(Bz y.name&&strLt x.name y.name) then ⟨x.name,y⟩ else ⟨y.name,x⟩
noncomputable def Zq (b:Bd):Bool:=!dec (b.var∈b.term.vs)&&(Sb.mk [b]).ok
noncomputable def YC:Nat→Sb→List (Tm × Tm)→Option (Option Sb)
 | 0,_,_=>none
 | n+1,s,l=>match l with
  | []=>some (some s)
  | p :: l=>bif Y9 s p.1&&Y9 s p.2 then
    (bif dec (IS s p.1=IS s p.2) then YC n s l
    else bif Bz (IS s p.1).name || Bz (IS s p.2).name then
     (bif Zq (VB (IS s p.1) (IS s p.2))&&Zp s ⟨[VB (IS s p.1) (IS s p.2)]⟩ then YC n (Zo s ⟨[VB (IS s p.1) (IS s p.2)]⟩) l else some none)
    else bif dec ((IS s p.1).name=(IS s p.2).name)&&dec ((IS s p.1).args.length=(IS s p.2).args.length) then YC n s ((IS s p.1).args.zip (IS s p.2).args++l)
    else some none)
   else some none
def Zr:List (Tm × Tm)→Nat
 | []=>0
 | p :: l=>p.1.nodes+Zr l
structure uInv (s:Sb) (l:List (Tm × Tm)):Prop where
 ok:s.ok=true
 idem:s.idem
 ex:∀ p∈l,p.1.expr=true∧p.2.expr=true
 pq:∃ P Q,l=P++Q∧(∀ p∈P,p.1.ap s.look=p.1)∧Zr P≤30∧Q.length≤1+30*s.binds.length
def QL:List Fm→Fm
 | []=>Fm.zero
 | x :: _=>x
def Jk:SC:=(.seq (.reg [⟨some 1,none,.boxv 29 5 (.t 0)⟩,⟨some 2,none,.mv (.c (.int .i64 0))⟩]) (.seq (.reg [⟨some 3,none,.mv (.c (.int .i64 1))⟩]) (.seq (.seq (.reg [⟨some 6,none,.faddr 4 (.t 1)⟩,⟨some 7,none,.load false 1 (.t 6)⟩,⟨some 8,none,.len false (.t 7)⟩,⟨some 9,none,.mv (.c (.int .i64 0))⟩]) (.block 0 (.loop [0,0,0,1,0,0,0,1,1,1,0,0,0,0,0,0,0,0,0,0,0,0] (.seq (.reg [⟨some 10,none,.bin .lss false (.t 9) (.t 8)⟩]) (.seq (.cond (.t 10) .skip (.exit 0)) (.seq (.block 1 (.seq (.reg [⟨some 11,none,.iaddr 5 (.t 7) (.t 9)⟩,⟨some 12,none,.load true 5 (.t 11)⟩,⟨(some 5),none,(.alloc 29 [(.int .i64 0),(.str ⟨#[]⟩),.nil,(.str ⟨#[]⟩),.nil])⟩,⟨none,none,(.store 5 (.t 5) (.t 12))⟩]) (.seq (.seq (.reg [⟨some 13,none,.mv (.t 3)⟩,⟨some 14,none,.bin .gtr false (.t 13) (.c (.int .i64 40))⟩]) (.cond (.t 14) (.seq (.reg [⟨some 15,none,.mv (.t 3)⟩,⟨some 2,none,.mv (.t 15)⟩]) .ret) .skip)) (.reg [⟨some 16,none,.mv (.t 3)⟩,⟨some 17,none,.load true 5 (.t 5)⟩,⟨some 18,none,.call 26 [(.t 17)]⟩,⟨some 19,none,.bin .add false (.t 16) (.t 18)⟩,⟨some 3,none,.mv (.t 19)⟩])))) (.reg [⟨some 20,none,.bin .add false (.t 9) (.c (.int .i64 1))⟩,⟨some 9,none,.mv (.t 20)⟩]))))))) (.seq (.reg [⟨some 21,none,.mv (.t 3)⟩,⟨some 2,none,.mv (.t 21)⟩]) .ret))))
theorem NK:codeOf Tryz.prog 26=some ⟨22,Jk,[(.tmp 2)]⟩:=by kernel_rfl
theorem DV:modes 26=⟨[],.asis,none,false⟩:=by unfold modes; rfl
theorem VC (x:Fm) (hn:x.nodes≤1099511627776) (ih:∀ y∈x.parts,E 26 [y.sv] []=some (.int .i64 y.cap,[])):E 26 [x.sv] []=some (.int .i64 x.cap,[]):=by
 have hl:=Fm.length_le x.parts
 have hx:=Fm.nodes_eq x
 rw [Fm.cap_eq]
 refine Aj NK DV (of_decide_eq_true rfl) ?_
 simp (disch:=omega) only [Jk,go_sem,Ab]
 refine go_loop (α:=Int × Int) (fun a=>⟨slots 22 0 [(3,.int .i64 a.2),(7,.arr (x.parts.map Fm.d)),(8,.int .i64 x.parts.length),(9,.int .i64 a.1)],[]⟩) (fun a=>∃ k:Nat,a.1=k∧k≤x.parts.length∧1≤a.2∧a.2+Fm.nodeS (x.parts.drop k)≤x.nodes∧Fm.capL (x.parts.drop k) a.2=Fm.capL x.parts 1) (fun a=>x.parts.length-a.1.toNat) (0,1) ⟨0,rfl,zM _,by dsimp only; omega,by rw [zK]; dsimp only; omega,rfl⟩ (by simp (disch:=omega) only [go_sem,Ab]) ?_
 rintro ⟨i,n⟩ ⟨k,hi,hk,hn0,hn1,hs⟩
 dsimp only at hi hn0 hn1 hs
 have hni:i.toNat=k:=by omega
 rcases zF k x.parts.length with hlt | hge
 ·have hg:=get_at Fm.d hlt
  rw [Fm.d_eq] at hg
  have hd:x.parts.drop k=x.parts[k] :: x.parts.drop (k+1):=zE hlt
  have hc:=ih x.parts[k] (zG hlt)
  have hp:=Fm.cap_spec x.parts[k]
  rw [hd,Fm.capL] at hs
  rw [hd,Fm.nodeS] at hn1
  rcases yV 40 n with h30 | h30
  ·rw [if_pos h30] at hs
   simp (disch:=omega) only [go_sem,Ab,hni,hg,hc,DV]
   exact hs
  ·rw [if_neg (by omega)] at hs
   simp (disch:=omega) only [go_sem,Ab,hni,hg,hc,DV]
   refine ⟨(i+1,n+x.parts[k].cap),⟨k+1,by dsimp only; omega,hlt,by dsimp only; omega,by dsimp only; omega,hs⟩,by dsimp only; omega,?_⟩
   simp only [and_self]
 ·have hd:x.parts.drop k=[]:=zI hge
  rw [hd,Fm.capL] at hs
  simp (disch:=omega) only [go_sem,Ab,hni]
  exact hs
theorem SS (x:Fm) (hn:x.nodes≤1099511627776):E 26 [x.sv] []=some (.int .i64 x.cap,[]) :=
 VC x hn fun y hy=>SS y (by have:=Fm.nodes_mem hy; have:=Fm.nodes_eq x; omega)
termination_by SizeOf.sizeOf x
decreasing_by exact Fm.lt_of_mem hy
def Jl:SC:=(.seq (.reg [⟨some 2,none,.boxv 29 5 (.t 0)⟩,⟨some 4,none,.mv (.c (.int .i64 0))⟩]) (.seq (.reg [⟨some 5,none,.mv (.c (.int .i64 1))⟩]) (.seq (.seq (.reg [⟨some 6,none,.mv (.c (.int .i64 0))⟩]) (.block 0 (.loop [0,1,1,0,0,1,1,0,0,0,0,0,0,0,0,0,0,0,0,0,0,0,0,0,0,0,0,0,0,0,0] (.seq (.seq (.reg [⟨some 7,none,.mv (.t 6)⟩,⟨some 8,none,.faddr 4 (.t 2)⟩,⟨some 9,none,.load false 1 (.t 8)⟩,⟨some 10,none,.len false (.t 9)⟩,⟨some 11,none,.bin .lss false (.t 7) (.t 10)⟩,⟨some 12,none,.mv (.t 11)⟩,⟨(some 13),(some (12,true)),(.mv (.t 5))⟩,⟨(some 14),(some (12,true)),(.mv (.t 1))⟩,⟨(some 15),(some (12,true)),(.bin .leq false (.t 13) (.t 14))⟩,⟨some 16,none,.pick (.t 12) (.t 15) (.c (.bool false))⟩]) (.cond (.t 16) .skip (.exit 0))) (.seq (.block 1 (.reg [⟨some 19,none,.mv (.t 5)⟩,⟨some 20,none,.faddr 4 (.t 2)⟩,⟨some 21,none,.load false 1 (.t 20)⟩,⟨some 22,none,.mv (.t 6)⟩,⟨some 23,none,.iaddr 5 (.t 21) (.t 22)⟩,⟨some 24,none,.load true 5 (.t 23)⟩,⟨some 25,none,.mv (.t 1)⟩,⟨some 26,none,.mv (.t 5)⟩,⟨some 27,none,.bin .sub false (.t 25) (.t 26)⟩,⟨some 28,none,.call 35 [(.t 24),(.t 27)]⟩,⟨some 29,none,.bin .add false (.t 19) (.t 28)⟩,⟨some 5,none,.mv (.t 29)⟩])) (.reg [⟨some 17,none,.mv (.t 6)⟩,⟨some 18,none,.bin .add false (.t 17) (.c (.int .i64 1))⟩,⟨some 6,none,.mv (.t 18)⟩])))))) (.seq (.reg [⟨some 30,none,.mv (.t 5)⟩,⟨some 4,none,.mv (.t 30)⟩]) .ret))))
theorem NL:codeOf Tryz.prog 35=some ⟨31,Jl,[(.tmp 4)]⟩:=by kernel_rfl
theorem DW:modes 35=⟨[],.asis,none,false⟩:=by unfold modes; rfl
theorem VD (x:Fm) (m:Int) (hm:0≤m) (hm1:m≤1099511627776) (hn:x.nodes≤1099511627776) (ih:∀ y∈x.parts,∀ m:Int,0≤m→m≤1099511627776→E 35 [y.sv,.int .i64 m] []=some (.int .i64 (y.many m),[])):E 35 [x.sv,.int .i64 m] []=some (.int .i64 (x.many m),[]):=by
 have hl:=Fm.length_le x.parts
 have hx:=Fm.nodes_eq x
 rw [Fm.many_eq]
 refine Aj NL DW (of_decide_eq_true rfl) ?_
 simp (disch:=omega) only [Jl,go_sem,Ab]
 refine go_loop (α:=Int × Int) (fun a=>⟨slots 31 0 [(1,.int .i64 m),(2,.ptr 0 0),(5,.int .i64 a.2),(6,.int .i64 a.1)],[.box 29 [.int .i64 x.op,.str x.atom.name,.arr (x.atom.args.map Tm.d),.str x.var,.arr (x.parts.map Fm.d)]]⟩) (fun a=>∃ k:Nat,a.1=k∧k≤x.parts.length∧1≤a.2∧a.2+Fm.nodeS (x.parts.drop k)≤x.nodes∧Fm.manyL (x.parts.drop k) m a.2=Fm.manyL x.parts m 1) (fun a=>x.parts.length-a.1.toNat) (0,1) ⟨0,rfl,zM _,by dsimp only; omega,by rw [zK]; dsimp only; omega,rfl⟩ (by simp (disch:=omega) only [go_sem,Ab]) ?_
 rintro ⟨i,n⟩ ⟨k,hi,hk,hn0,hn1,hs⟩
 dsimp only at hi hn0 hn1 hs
 have hni:i.toNat=k:=by omega
 rcases zF k x.parts.length with hlt | hge
 ·have hg:=get_at Fm.d hlt
  rw [Fm.d_eq] at hg
  have hd:x.parts.drop k=x.parts[k] :: x.parts.drop (k+1):=zE hlt
  rw [hd,Fm.manyL] at hs
  rw [hd,Fm.nodeS] at hn1
  rcases yV m n with h30 | h30
  ·rw [if_neg (by omega)] at hs
   simp (disch:=omega) only [go_sem,Ab,hni,hg,DW]
   exact hs
  ·rw [if_pos h30] at hs
   have hc:=ih x.parts[k] (zG hlt) (m-n) (by omega) (by omega)
   have hp:=Fm.many_spec x.parts[k] (m-n)
   simp (disch:=omega) only [go_sem,Ab,hni,hg,hc,DW]
   refine ⟨(i+1,n+x.parts[k].many (m-n)),⟨k+1,by dsimp only; omega,hlt,by dsimp only; omega,by dsimp only; omega,hs⟩,by dsimp only; omega,?_⟩
   simp only [and_self]
 ·have hd:x.parts.drop k=[]:=zI hge
  rw [hd,Fm.manyL] at hs
  simp (disch:=omega) only [go_sem,Ab,hni]
  exact hs
theorem ST (x:Fm) (m:Int) (hm:0≤m) (hm1:m≤1099511627776) (hn:x.nodes≤1099511627776):E 35 [x.sv,.int .i64 m] []=some (.int .i64 (x.many m),[]) :=
 VD x m hm hm1 hn fun y hy m hm hm1=>ST y m hm hm1 (by have:=Fm.nodes_mem hy; have:=Fm.nodes_eq x; omega)
termination_by SizeOf.sizeOf x
decreasing_by exact Fm.lt_of_mem hy
end Go.Proofs.YtfgkiemoglcppaaGreatDoor
