/-
  Texts of this claim, one behind the other, each built on those ahead of it. No condition.
-/
import Derived.Test.YtfgkiemoglcppaaGreatK28a
import Derived.Test.YtfgkiemoglcppaaGreatK28b
import Derived.Shelf.Strings.OnBuilder
import Derived.Shelf.Lays2
import Derived.Test.YtfgkiemoglcppaaGreatChecked
import Derived.Shelf.Slices.Clone
import Derived.Shelf.Sort.Plain
import Derived.Sort.EncStr
import Derived.Shelf.Lays
import Derived.Shelf.Slices.In.SortNone
import Derived.RangeFuncBox
import Derived.RangeFuncLeaves
import Derived.RangeFuncKeeps
import Derived.Shelf.Abstract
import Derived.WalkKit
import Derived.OwnWalkIn
import Derived.TacticsInMore
import Derived.LoopNIn
import Derived.LoopIn
import Derived.RangeFuncFrom
import Derived.RangeFuncCalls
import Derived.RegionIn
import Derived.Shelf.RegionOpen
import Derived.Lib.BufferMore
import Derived.Laws.Rows
import Derived.RangeFuncOwn
set_option maxHeartbeats 16000000
open Bool renaming and_eq_true → zB, and_self → zH, and_true → zS, or_eq_true → zX, false_and → y5, true_and → xA
open List renaming map_cons → zC, eq_nil_of_length_eq_zero → zE, drop_eq_getElem_cons → zI, getElem_mem → zJ, length_cons → zK, getElem?_eq_getElem → zL, length_map → zM, append_assoc → zO, drop_eq_nil_of_le → zP, length_nil → zQ, drop_zero → zR, mem_cons → zU, getElem_map → zZ, cons_append → z6, length_append → z7, take_succ_cons → z8, getD_eq_getElem?_getD → yC, take_succ_eq_append_getElem → yE, all_eq_true → yF, getElem_cons_zero → yH, map_append → yI, size_toArray → yK, map_map → yO, getElem_of_mem → yQ, append_toArray → yR, nil_append → yS, push_toArray → yT, map_nil → yU, getElem_cons_succ → yV, length_take → yW, take_zero → y4, getElem?_map → y6, length → y8, any_cons → y9, length_drop → xB, append_nil → xE, all_cons → xG
open Option.some renaming injEq → zD, inj → zF
open Prod.mk renaming injEq → zG, inj → yN
open Nat renaming lt_or_ge → zN, zero_le → zT, eq_zero_or_pos → yB, lt_of_lt_of_le → yD, le_refl → yG, reduceAdd → yX, reduceSub → yY, add_zero → yZ, mul_one → y7, sub_zero → xC
open Array renaming getElem?_eq_some_iff → zV, getD_eq_getD_getElem? → yJ, replicate_succ → yL, replicate_zero → yM, getElem?_eq_getElem → yP
open List.cons renaming injEq → zW
open ByteArray renaming size_append → zY
open Option renaming getD_some → yA
open Int renaming lt_or_le → xD, toNat_zero → xF
set_option maxRecDepth 100000
set_option linter.unusedSimpArgs false
set_option linter.unusedVariables false
set_option linter.unusedSectionVars false
namespace Go.Proofs.YtfgkiemoglcppaaGreat
open Go.RowKit Go.Shelf
theorem Qy:Builder.Extra Tryz.prog so_Join_ren:={
 sizeBuilder:=by kernel_rfl,
 liesBuilder:=by kernel_rfl,
 t5:=Tryz.underlying5,
 a5:=Tryz.isAgg5,
 z5:=Tryz.sizeOf5,
 v5:=Tryz.zeroValue5,
 infoByte:=by kernel_rfl,
 cellsByte:=by kernel_rfl,
 sizeByte:=by kernel_rfl,
 neB5:=by decide }
def My:List D→ByteArray
 | .str s :: _=>s
 | _=>⟨#[]⟩
def H9 (xs:List ByteArray) (sep:ByteArray):ByteArray:=⟨(Lib.join (xs.map (·.data.toList)) sep.data.toList).toArray⟩
noncomputable def Oh:List SV→Option SV
 | [.arr es,.str sep]=>bif dec ((∀ e∈es,∃ s,e=[D.str s])∧es.length≤1099511627776∧(H9 (es.map My) sep).size≤1099511627776) then some (.str (H9 (es.map My) sep)) else none
 | _=>none
theorem RL {xs:List SV} {r:SV} (h:Oh xs=some r):Fun Tryz.prog 129 xs [] r []:=by
 unfold Oh at h
 split at h
 ·rename_i es sep
  obtain ⟨h1,h2⟩:=Au h
  obtain ⟨k1,k2,k3⟩:=At.1 h1
  obtain rfl:=zF h2
  refine Fun.RI (rv:=.string (H9 (es.map My) sep)) (fun w I V=>by simp only [RepV,true_and]; omega) fun w I V vs h=>?_
  obtain ⟨v,r,rfl,h3,h⟩:=D5 h
  obtain ⟨v2,r,rfl,h4,h⟩:=D5 h
  obtain rfl:=Lk h
  obtain ⟨rfl,h5⟩:=JO h4
  simp only [RepV] at h3
  have hlen:(Lib.join ((es.map My).map (·.data.toList)) sep.data.toList).length≤140737488355328:=by
   have e:(H9 (es.map My) sep).size=(Lib.join ((es.map My).map (·.data.toList)) sep.data.toList).length:=by
    show (Lib.join ((es.map My).map (·.data.toList)) sep.data.toList).toArray.size=_
    simp
   omega
  rcases yB es.length with h0 | h0
  ·have he:es=[]:=zE h0
   subst he
   obtain ⟨a,c,rfl,_⟩:=h3.slice_form
   have hcon:=Any.strings_Join_none ST Qy a c sep w
   change Calls Tryz.prog 129 _ _ _ at hcon
   refine hcon.mono ?_
   rintro e w' ⟨rfl,rfl⟩
   exact ⟨rfl,Below.refl _ _⟩
  ·cases h3 with
   | arr S sz es a cap f Sub g1 g2 g3 g4 g5 g6 g7 =>
    rcases g3 with g3 | ⟨b,off,rfl,hS,hlt,hc,_⟩
    ·omega
    have hsz:sz=1:=by
     obtain ⟨s,e⟩:=k1 es[0] (zJ h0)
     rw [←g4 0 h0,e]; rfl
    subst hsz
    have hcells:∀ (j:Nat) x,(es.map My)[j]?=some x→w.cell? ⟨b,off+j,none⟩=some (.string x):=fun j x hx=>by
     have hj:j<es.length:=by
      have:=(List.getElem?_eq_some_iff.1 hx).1
      simpa using this
     obtain ⟨s,e⟩:=k1 es[j] (zJ hj)
     rw [y6,zL hj,e] at hx
     obtain rfl:=zF hx
     have hd:=g7 j 0 hj (by rw [g4 j hj]; omega)
     have hcell:=hc j 0 hj (by omega)
     simp only [e,yH] at hd
     rw [y7,yZ] at hcell
     rw [hcell]
     cases hv:f j 0 <;> rw [hv] at hd <;> cases hd
     rfl
    have hcon:=Any.strings_Join ST Qy b off cap (es.map My) sep w hcells hlt (by simp; omega) (by simpa using g1) hlen
    change Calls Tryz.prog 129 _ _ _ at hcon
    rw [zM] at hcon
    exact hcon
 ·cases h
end Go.Proofs.YtfgkiemoglcppaaGreat
set_option maxRecDepth 100000
namespace Go.Proofs.YtfgkiemoglcppaaGreat
open Go.Shelf
def so_CloneS_ren:Go.Shelf.Ren:=⟨fun | 16=>134 | n=>n,fun | 24=>55 | 9=>9 | 4=>4 | n=>n,fun | n=>n⟩
theorem K9:Go.Proofs.Lays2.n16 Tryz.prog so_CloneS_ren:={
 mixed:=by kernel_rfl,
 f16:=Tryz.func134.trans (congrArg some (by kernel_rfl)),
 t4:=Tryz.underlying4,
 a4:=Tryz.isAgg4,
 z4:=Tryz.sizeOf4,
 v4:=Tryz.zeroValue4,
 t9:=Tryz.underlying9,
 a9:=Tryz.isAgg9,
 z9:=Tryz.sizeOf9,
 v9:=Tryz.zeroValue9,
 t24:=Tryz.underlying55,
 a24:=Tryz.isAgg55,
 z24:=Tryz.sizeOf55,
 v24:=Tryz.zeroValue55,
 i9:=by kernel_rfl }
end Go.Proofs.YtfgkiemoglcppaaGreat
set_option maxRecDepth 100000
set_option linter.unusedSimpArgs false
set_option linter.unusedVariables false
set_option linter.unusedSectionVars false
namespace Go.Proofs.YtfgkiemoglcppaaGreat
open Go.RowKit
theorem Ib {w w':World} {I:Nat→Prop} {V:Nat→Option Value} {B:Nat→Nat→Prop} (hwf:Wf w I V B (As [])) (hbel:Below w.heap.size w w') {v:Value} {t:TypeId} {os:List OT} {vals:List Value} (hl:vals.length=os.length)
  (hown:w'.ownsRow w.heap.size t 1 v os.length vals) (hv:∀ i (h:i<os.length),ORep w' I (fun _=>False) os[i] (vals.getD i undef)) :
  ∃ V' B',RepV w' I V' (.ref 0) v∧FunPost w I V B [] [.row t 1 (os.map fun o=>[o])] w' I V' B':=by
 have hV0:V 0=none:=hwf.fr 0 rfl
 have hn:=hbel.size
 have gS:∀ (e:List (List OT)) (g:Nat),As [Ob.row t 1 e] (g+1)=.free:=fun _ _=>rfl
 obtain ⟨hx,hform⟩:=hown
 let B':Nat→Nat→Prop:=fun g b=>g=0∧w.heap.size≤b∧b<w'.heap.size∧∃ o n c,v=.slice (some ⟨b,o,none⟩) n c
 have hform2:∃ a n c,v=.slice a n c:=by
  rcases hform with ⟨rfl,_⟩ | ⟨g,cap,cur,rfl,_⟩
  ·exact ⟨_,_,_,rfl⟩
  ·exact ⟨_,_,_,rfl⟩
 have hrow:RowR w' I (B' 0) t 1 (os.map fun o=>[o]) v:=by
  rcases hform with ⟨rfl,h0⟩ | ⟨g,cap,cur,rfl,hg,hb,h1,h2,h3,h4⟩
  ·left
   have:os=[]:=zE h0
   subst this
   exact ⟨rfl,rfl⟩
  ·right
   have hlt:=(zV.1 hb).1
   refine ⟨g,cap,cur,fun _ _ _=>False,by rw [zM],⟨rfl,hg,hlt,_,_,_,rfl⟩,hb,by rw [zM]; exact h1,by unfold maxLen at h2; omega,h3,fun i hi=>by simp,fun _ _ _ h=>h.elim,fun _ _ _ _ _ h=>h.elim,fun i j hi hj=>?_⟩
   have hi':i<os.length:=by simpa using hi
   have hj0:j=0:=by simpa using hj
   subst hj0
   have e:cur.getD (i*1+0) undef=vals.getD i undef:=by
    have hc:i<cur.size:=by omega
    rw [←h4,y7,yZ,yJ,yC,List.getElem?_take]
    simp only [y7,hi',if_true,Array.getElem?_toList]
   rw [e]
   have:=hv i hi'
   simpa using this
 refine ⟨fun g=>if g=0 then some v else V g,B',?_,?_⟩
 ·simp only [RepV]
  exact ⟨by simp,by obtain ⟨a,n,c,e⟩:=hform2; rw [e]; rfl⟩
 ·refine ⟨⟨hbel.os,⟨hbel.tape,fun h=>False.elim h⟩,hbel.output,hn,fun x hx _=>hbel.block x hx⟩,fun x hx=>hx,fun x hx=>.inl hx,fun g u hu=>?_,⟨fun x hx=>yD (hwf.ilt x hx) hn,fun g hl=>?_,fun g b hl hb=>hb.2.2.1,fun g b hl hb hI=>?_,fun g g' b hl hl' hb hb'=>?_,fun g hg=>?_,hwf.gl.keep ⟨hn,fun x _ hlt=>hbel.block x hlt⟩ fun _ h=>h⟩,fun g b hl hb=>.inr hb.2.1⟩
  ·by_cases h0:g=0
   ·subst h0; rw [hV0] at hu; cases hu
   ·simp only [if_neg h0]; exact hu
  ·cases g with
   | zero=>exact ⟨v,by simp,hrow⟩
   | succ g=>rw [gS] at hl; exact hl.elim
  ·have:=hwf.ilt b hI
   have:=hb.2.1
   omega
  ·rw [hb.1,hb'.1]
  ·cases g with
   | zero=>cases hg
   | succ g=>simp only [Nat.add_eq_zero_iff,Nat.succ_ne_self,and_false,if_false]; exact hwf.fr (g+1) rfl
theorem RN {w:World} {I:Nat→Prop} {es:List (List D)} {v:Value} (h:DRep false w I (.arr es) v) (hsz:∀ e∈es,e.length=1) :
  (es=[]∧∃ a c,v=.slice a 0 c)∨∃ b off cap,v=.slice (some ⟨b,off,none⟩) es.length cap∧∀ i (hi:i<es.length),∃ u,w.cell? ⟨b,off+i,none⟩=some u∧∃ S,DRep false w S (es[i].headD (.int 0)) u:=by
 cases h with
 | arr S sz es a cap f Sub h1 h2 h3 h4 h5 h6 h7 =>
  rcases h3 with h3 | ⟨b,off,rfl,hS,hb,hc,_⟩
  ·left
   have he:es=[]:=zE h3
   subst he
   exact ⟨rfl,_,_,rfl⟩
  ·rcases yB es.length with h0 | h0
   ·left
    have he:es=[]:=zE h0
    subst he
    exact ⟨rfl,_,_,rfl⟩
   ·right
    have hs1:sz=1:=by rw [←h4 0 h0]; exact hsz _ (zJ h0)
    subst hs1
    refine ⟨b,off,cap,rfl,fun i hi=>⟨f i 0,by have:=hc i 0 hi (by omega); simpa using this,Sub i 0,?_⟩⟩
    have hl:=hsz _ (zJ hi)
    have:=h7 i 0 hi (by omega)
    have key:∀ (l:List D) (h:0<l.length),l.headD (.int 0)=l[0]:=fun l h=>by
     cases l with
     | nil=>cases h
     | cons d r=>rfl
    have e:=key es[i] (by omega)
    rw [e]
    exact this
def unS:List D→ByteArray
 | D.str s :: _=>s
 | _=>⟨#[]⟩
noncomputable def KA (xs:List SV) (ob:List Ob):Option (SV × List Ob) :=
 match xs,ob with
 | [.arr es],[]=>bif dec ((∀ e∈es,∃ s,e=[D.str s])∧es.length≤1048576) then some (.ref 0,[.row 9 1 (es.map fun e=>[OT.str (unS e)])]) else none
 | _,_=>none
theorem Qz {xs:List SV} {ob:List Ob} {r:SV} {ob':List Ob} (h:KA xs ob=some (r,ob')):Fun Tryz.prog 134 xs ob r ob':=by
 unfold KA at h
 split at h
 ·rename_i es
  obtain ⟨h1,h2⟩:=Au h
  obtain ⟨k1,k2⟩:=At.1 h1
  simp only [zD,zG] at h2
  obtain ⟨rfl,rfl⟩:=h2
  intro w I V B vs hwf hvs
  obtain ⟨v,q,rfl,hv,hvs⟩:=D5 hvs
  obtain rfl:=Lk hvs
  simp only [RepV] at hv
  have hsz:∀ e∈es,e.length=1:=fun e he=>by obtain ⟨s,rfl⟩:=k1 e he; rfl
  have hmap:(es.map fun e=>[OT.str (unS e)])=((es.map fun e=>OT.str (unS e)).map fun o=>[o]):=by rw [yO]; rfl
  rcases RN hv hsz with ⟨rfl,a,c,rfl⟩ | ⟨b,off,cap,rfl,hcell⟩
  ·cases a with
   | none =>
    have hcon:=Any.slices_Clone_string_nil K9 0 c w
    change Calls Tryz.prog 134 _ _ _ at hcon
    refine hcon.mono ?_
    rintro e w' ⟨rfl,rfl⟩
    obtain ⟨V',B',h3,h4⟩:=Ib (t:=9) (os:=[]) (vals:=[]) hwf (Below.refl _ _) rfl ⟨rfl,.inl ⟨rfl,rfl⟩⟩ (fun i h=>absurd h (by simp))
    exact ⟨_,I,V',B',rfl,h3,h4⟩
   | some a =>
    have hcon:=Any.slices_Clone_string_zero K9 a c w
    change Calls Tryz.prog 134 _ _ _ at hcon
    refine hcon.mono ?_
    rintro e w' ⟨v',rfl,hown,_,hbel⟩
    obtain ⟨V',B',h3,h4⟩:=Ib (t:=9) (os:=[]) (vals:=[]) hwf hbel rfl hown (fun i h=>absurd h (by simp))
    exact ⟨_,I,V',B',rfl,h3,h4⟩
  ·obtain ⟨zs,hzs⟩:∃ zs,zs=es.map unS:=⟨_,rfl⟩
   have hzl:zs.length=es.length:=by rw [hzs,zM]
   have hcz:∀ j (hj:j<es.length),w.cell? ⟨b,off+j,none⟩=some (Value.string (unS es[j]))∧(unS es[j]).size≤9223372036854775807:=fun j hj=>by
    obtain ⟨u,hu,S,hd⟩:=hcell j hj
    obtain ⟨s,he⟩:=k1 es[j] (zJ hj)
    rw [he] at hd ⊢
    simp only [List.headD_cons] at hd
    cases hd
    exact ⟨hu,by assumption⟩
   have hcon:=Any.slices_Clone_string K9 b off es.length cap zs w (by omega) (by omega) (fun j hj=>by
    have hj':j<es.length:=by omega
    rw [(hcz j hj').1]
    rw [yC,zL hj]
    simp [hzs])
   change Calls Tryz.prog 134 _ _ _ at hcon
   refine hcon.mono ?_
   rintro e w' ⟨v',rfl,hown,_,hbel⟩
   have ht:zs.take es.length=zs:=List.take_of_length_le (by omega)
   rw [ht] at hown
   have hown2:w'.ownsRow w.heap.size 9 1 v' (es.map fun e=>OT.str (unS e)).length (zs.map Value.string):=by rw [zM]; exact hown
   obtain ⟨V',B',h3,h4⟩:=Ib (t:=9) (os:=es.map fun e=>OT.str (unS e)) (vals:=zs.map Value.string) hwf hbel (by simp [hzl]) hown2 (fun i hi=>by
    have hi':i<es.length:=by simpa using hi
    have e:(zs.map Value.string).getD i undef=Value.string (unS es[i]):=by
     rw [yC,y6,zL (by omega)]
     simp [hzs]
    rw [e,zZ]
    exact .str _ _ (hcz i hi').2)
   rw [hmap]
   exact ⟨_,I,V',B',rfl,h3,h4⟩
 ·cases h
def unI:List D→Int
 | D.int s :: _=>s
 | _=>0
noncomputable def Z6 (xs:List SV) (ob:List Ob):Option (SV × List Ob) :=
 match xs,ob with
 | [.arr es],[]=>bif dec ((∀ e∈es,∃ s,e=[D.int s])∧es.length≤1048576) then some (.ref 0,[.row 3 1 (es.map fun e=>[OT.int (unI e)])]) else none
 | _,_=>none
end Go.Proofs.YtfgkiemoglcppaaGreat
set_option maxRecDepth 100000
set_option linter.unusedSimpArgs false
set_option linter.unusedVariables false
set_option linter.unusedSectionVars false
namespace Go.Proofs.YtfgkiemoglcppaaGreat
open Go.RowKit Go.Shelf Go.Lib Go.Sort
theorem Xi {w w':World} {I:Nat→Prop} {V:Nat→Option Value} {B:Nat→Nat→Prop} {t:TypeId} {sz:Nat} {es es':List (List OT)} {b cap:Nat} {cur cur':Array Value} (Sub:Nat→Nat→Nat→Prop)
  (hwf:Wf w I V B (As [.row t sz es])) (hv:V 0=some (.slice (some ⟨b,0,none⟩) es.length cap)) (hn:es'.length=es.length) (hs:B 0 b) (hb:w.heap[b]?=some (.cells cur t (0,0)))
  (h1:es.length≤cap) (h2:cap≤9223372036854775807) (h3:cur.size=cap*sz) (h4:∀ i (h:i<es'.length),es'[i].length=sz) (h5:∀ i j x,Sub i j x→B 0 x∧x≠b)
  (h6:∀ i j i' j' x,Sub i j x→Sub i' j' x→i=i'∧j=j')
  (hos:w'.os=w.os) (htape:TapeOk w w') (hout:w'.output=w.output) (hsz:w.heap.size≤w'.heap.size) (hblk:∀ x,x<w.heap.size→x≠b→w'.heap[x]?=w.heap[x]?)
  (hb':w'.heap[b]?=some (.cells cur' t (0,0))) (hcs:cur'.size=cur.size)
  (h7:∀ i j (h:i<es'.length) (h':j<es'[i].length),ORep w' I (Sub i j) (es'[i][j]) (cur'.getD (i*sz+j) undef)) :
  FunPost w I V B [.row t sz es] [.row t sz es'] w' I V B:=by
 have g0:∀ (e:List (List OT)),As [Ob.row t sz e] 0=.row t sz e:=fun _=>rfl
 have gS:∀ (e:List (List OT)) (g:Nat),As [Ob.row t sz e] (g+1)=.free:=fun _ _=>rfl
 have lv:∀ (e e':List (List OT)) (g:Nat),(As [Ob.row t sz e] g).live→(As [Ob.row t sz e'] g).live:=fun e e' g h=>by
  cases g with
  | zero=>trivial
  | succ g=>rw [gS] at h; exact h.elim
 have hbS:∀ x,B 0 x→HB B [Ob.row t sz es] x:=fun x hx=>⟨0,trivial,hx⟩
 refine ⟨⟨hos,htape,hout,hsz,fun x hx hn=>hblk x hx fun e=>hn (hbS x (e▸hs))⟩,fun _ h=>h,fun _ h=>.inl h,VLe.refl _,?_,fun g x hl hx=>.inl ⟨g,lv _ _ g hl,hx⟩⟩
 refine ⟨fun x hx=>yD (hwf.ilt x hx) hsz,fun g hl=>?_,fun g x hl hx=>yD (hwf.lt g x (lv _ _ g hl) hx) hsz,fun g x hl hx=>hwf.dI g x (lv _ _ g hl) hx,fun g g' x hl hl' hx hx'=>hwf.dO g g' x (lv _ _ g hl) (lv _ _ g' hl') hx hx',fun g hf=>?_,hwf.gl.keep ⟨hsz,fun x hx hlt=>hblk x hlt fun e=>hwf.dI 0 x trivial (e▸hs) hx⟩ fun _ h=>h⟩
 ·cases g with
  | zero =>
   refine ⟨_,hv,.inr ⟨b,cap,cur',Sub,by rw [hn],hs,hb',by rw [hn]; exact h1,h2,by rw [hcs]; exact h3,h4,h5,h6,h7⟩⟩
  | succ g=>rw [gS] at hl; exact hl.elim
 ·cases g with
  | zero=>cases hf
  | succ g=>exact hwf.fr (g+1) rfl
theorem Vk {w:World} {I:Nat→Prop} {V:Nat→Option Value} {B:Nat→Nat→Prop} {ob:List Ob} (hwf:Wf w I V B (As ob)):FunPost w I V B ob ob w I V B :=
 ⟨⟨rfl,TapeOk.mk' rfl rfl,rfl,yG _,fun _ _ _=>rfl⟩,fun _ h=>h,fun _ h=>.inl h,VLe.refl _,hwf,fun g b hl hb=>.inl ⟨g,hl,hb⟩⟩
def RO:List OT→ByteArray
 | .str s :: _=>s
 | _=>⟨#[]⟩
end Go.Proofs.YtfgkiemoglcppaaGreat
set_option maxRecDepth 100000
namespace Go.Proofs.YtfgkiemoglcppaaGreat
open Go.Shelf
def so_SortS_ren:Go.Shelf.Ren:=⟨fun | 190=>99 | 125=>136 | 258=>135 | 128=>169 | 129=>170 | 302=>160 | 303=>161 | 304=>162 | 305=>163 | 306=>164 | 307=>165 | 308=>166 | 309=>167 | 310=>168 | 333=>186 | 329=>187 | 330=>188 | 334=>189 | 335=>190 | 336=>172 | 344=>197 | n=>n,fun | 31=>55 | 9=>9 | 3=>3 | 46=>134 | 0=>0 | 51=>168 | 53=>61 | 4=>4 | 183=>162 | 182=>161 | 131=>58 | 5=>5 | 218=>173 | 222=>177 | 228=>185 | 229=>186 | n=>n,fun | n=>n⟩
theorem Q0:Go.Proofs.Lays.n190 Tryz.prog so_SortS_ren:={
 mixed:=by kernel_rfl,
 f125:=Tryz.func136.trans (congrArg some (by kernel_rfl)),
 f128:=Tryz.func169.trans (congrArg some (by kernel_rfl)),
 f129:=Tryz.func170.trans (congrArg some (by kernel_rfl)),
 f190:=Tryz.func99.trans (congrArg some (by kernel_rfl)),
 f258:=Tryz.func135.trans (congrArg some (by kernel_rfl)),
 f302:=Tryz.func160.trans (congrArg some (by kernel_rfl)),
 f303:=Tryz.func161.trans (congrArg some (by kernel_rfl)),
 f304:=Tryz.func162.trans (congrArg some (by kernel_rfl)),
 f305:=Tryz.func163.trans (congrArg some (by kernel_rfl)),
 f306:=Tryz.func164.trans (congrArg some (by kernel_rfl)),
 f307:=Tryz.func165.trans (congrArg some (by kernel_rfl)),
 f308:=Tryz.func166.trans (congrArg some (by kernel_rfl)),
 f309:=Tryz.func167.trans (congrArg some (by kernel_rfl)),
 f310:=Tryz.func168.trans (congrArg some (by kernel_rfl)),
 f329:=Tryz.func187.trans (congrArg some (by kernel_rfl)),
 f330:=Tryz.func188.trans (congrArg some (by kernel_rfl)),
 f333:=Tryz.func186.trans (congrArg some (by kernel_rfl)),
 f334:=Tryz.func189.trans (congrArg some (by kernel_rfl)),
 f335:=Tryz.func190.trans (congrArg some (by kernel_rfl)),
 f336:=Tryz.func172.trans (congrArg some (by kernel_rfl)),
 f344:=Tryz.func197.trans (congrArg some (by kernel_rfl)),
 t0:=Tryz.underlying0,
 a0:=Tryz.isAgg0,
 z0:=Tryz.sizeOf0,
 v0:=Tryz.zeroValue0,
 t3:=Tryz.underlying3,
 a3:=Tryz.isAgg3,
 z3:=Tryz.sizeOf3,
 v3:=Tryz.zeroValue3,
 t4:=Tryz.underlying4,
 a4:=Tryz.isAgg4,
 z4:=Tryz.sizeOf4,
 v4:=Tryz.zeroValue4,
 t5:=Tryz.underlying5,
 a5:=Tryz.isAgg5,
 z5:=Tryz.sizeOf5,
 v5:=Tryz.zeroValue5,
 t9:=Tryz.underlying9,
 a9:=Tryz.isAgg9,
 z9:=Tryz.sizeOf9,
 v9:=Tryz.zeroValue9,
 t31:=Tryz.underlying55,
 a31:=Tryz.isAgg55,
 z31:=Tryz.sizeOf55,
 v31:=Tryz.zeroValue55,
 t46:=Tryz.underlying134,
 a46:=Tryz.isAgg134,
 z46:=Tryz.sizeOf134,
 v46:=Tryz.zeroValue134,
 t51:=Tryz.underlying168,
 a51:=Tryz.isAgg168,
 z51:=Tryz.sizeOf168,
 v51:=Tryz.zeroValue168,
 t53:=Tryz.underlying61,
 a53:=Tryz.isAgg61,
 z53:=Tryz.sizeOf61,
 v53:=Tryz.zeroValue61,
 t131:=Tryz.underlying58,
 a131:=Tryz.isAgg58,
 z131:=Tryz.sizeOf58,
 v131:=Tryz.zeroValue58,
 t182:=Tryz.underlying161,
 a182:=Tryz.isAgg161,
 z182:=Tryz.sizeOf161,
 v182:=Tryz.zeroValue161,
 t183:=Tryz.underlying162,
 a183:=Tryz.isAgg162,
 z183:=Tryz.sizeOf162,
 v183:=Tryz.zeroValue162,
 t218:=Tryz.underlying173,
 a218:=Tryz.isAgg173,
 z218:=Tryz.sizeOf173,
 v218:=Tryz.zeroValue173,
 t222:=Tryz.underlying177,
 a222:=Tryz.isAgg177,
 z222:=Tryz.sizeOf177,
 v222:=Tryz.zeroValue177,
 t228:=Tryz.underlying185,
 a228:=Tryz.isAgg185,
 z228:=Tryz.sizeOf185,
 v228:=Tryz.zeroValue185,
 t229:=Tryz.underlying186,
 a229:=Tryz.isAgg186,
 z229:=Tryz.sizeOf186,
 v229:=Tryz.zeroValue186 }
end Go.Proofs.YtfgkiemoglcppaaGreat
set_option maxRecDepth 100000
set_option linter.unusedSimpArgs false
set_option linter.unusedVariables false
set_option linter.unusedSectionVars false
namespace Go.Proofs.YtfgkiemoglcppaaGreat
open Go.RowKit Go.Shelf Go.Lib Go.Sort
theorem Oi (w:World) (b m:Nat) (ss:List (List UInt8)) (os:Array Obj) (x:Nat) (hx:x<w.heap.size) :
  (Sort.grow (putRow encStr (Sort.ahead w m) b 0 ss.toArray) os).heap[x]?=if b=x then (w.heap[x]?).map (onCells (putCells encStr 0 ss.toArray)) else w.heap[x]?:=by
 unfold Sort.grow putRow mapBlock Sort.ahead
 have hx':x<(w.heap.modify b (onCells (putCells encStr 0 ss.toArray))).size:=by simpa using hx
 simp only [Array.getElem?_append,Array.size_modify,hx,if_true,Array.getElem?_modify]
def srt (ss:List (List UInt8)):List (List UInt8):=ss.mergeSort fun x y=>decide (x≤y)
def SU (l:List UInt8):List OT:=[.str ⟨l.toArray⟩]
noncomputable def sortStr (xs:List SV) (ob:List Ob):Option (SV × List Ob) :=
 match xs,ob with
 | [.ref 0],[.row t sz es]=>bif dec (sz=1∧(∀ e∈es,∃ s,e=[.str s])∧es.length≤1099511627776) then some (.tup [],[.row t sz ((srt (es.map fun e=>(RO e).toList)).map SU)]) else none
 | _,_=>none
theorem ORep.Z7 {w:World} {I S:Nat→Prop} {s:ByteArray} {v:Value} (h:ORep w I S (.str s) v):v=.string s∧s.size≤9223372036854775807:=by
 cases h with
 | str _ _ hz=>exact ⟨rfl,hz⟩
theorem Js (s:ByteArray):(⟨s.toList.toArray⟩:ByteArray)=s:=Bk (by rw [ByteArray.toList_eq])
theorem Pj {xs:List SV} {ob:List Ob} {r:SV} {ob':List Ob} (h:sortStr xs ob=some (r,ob')):Fun Tryz.prog 99 xs ob r ob':=by
 unfold sortStr at h
 split at h
 ·rename_i t sz es
  obtain ⟨h1,h2⟩:=Au h
  obtain ⟨rfl,hk1,hk3⟩:=At.1 h1
  simp only [zD,zG] at h2
  obtain ⟨rfl,rfl⟩:=h2
  intro w I V B vs hwf hvs
  obtain ⟨v,q,rfl,hv,hvs⟩:=D5 hvs
  obtain rfl:=Lk hvs
  simp only [RepV] at hv
  obtain ⟨val,hval,hrow⟩:=hwf.obj 0 trivial
  rw [hv.1] at hval
  obtain rfl:=zF hval
  have hv0:=hv.1
  have hrow:RowR w I (B 0) t 1 es v:=hrow
  rcases yB es.length with h0 | h0
  ·have he:es=[]:=zE h0
   subst he
   obtain ⟨a,c,rfl,_⟩:=hrow.form
   have hcon:=Any.slices_Sort_string_none Q0 a c w
   change Calls Tryz.prog 99 _ _ _ at hcon
   refine hcon.mono ?_
   rintro e w' ⟨rfl,rfl⟩
   have e0:(srt ([].map fun e:List OT=>(RO e).toList)).map SU=[]:=by simp [srt]
   rw [e0]
   exact ⟨_,I,V,B,rfl,by simp only [RepV,RepVs]; exact ⟨[],rfl,rfl⟩,Vk hwf⟩
  ·rcases hrow with ⟨he,_⟩ | ⟨b,cap,cur,Sub,rfl,hs,hb,g1,g2,g3,g4,g5,g6,g7⟩
   ·subst he; simp at h0
   have hblt:=(zV.1 hb).1
   obtain ⟨ss,hss⟩:∃ ss,ss=es.map fun e=>(RO e).toList:=⟨_,rfl⟩
   have hsl:ss.length=es.length:=by rw [hss]; simp
   rw [←hss]
   have cellv:∀ i (hi:i<es.length),cur[i]?=some (.string (RO es[i]))∧(RO es[i]).size≤9223372036854775807:=fun i hi=>by
    obtain ⟨s,he⟩:=hk1 es[i] (zJ hi)
    have hlt:i<cur.size:=by rw [g3]; omega
    have l0:=g7 i 0 hi (by rw [g4 i hi]; omega)
    simp only [he,yH,y7,yZ,yJ,yP hlt,yA] at l0
    rw [yP hlt,he]
    obtain ⟨z1,z2⟩:=ORep.Z7 l0
    exact ⟨by rw [z1]; rfl,z2⟩
   have hH:Holds encStr w b 0 ss.toArray:=by
    intro j hj
    have hj1:j<ss.length:=by simpa using hj
    have hj':j<es.length:=by rw [←hsl]; exact hj1
    refine ⟨?_,?_⟩
    ·rw [Nat.zero_add,cell_of_row w b _ _ _ _ hb,(cellv j hj').1,getElem!_pos ss.toArray j hj]
     simp only [List.getElem_toArray,hss,zZ,encStr,Js]
    ·unfold World.frozen?
     rw [hb]
     simp
   have hcon:=Any.slices_Sort_string Q0 b 0 cap ss w hH hblt (by rw [hsl]; omega)
   change Calls Tryz.prog 99 _ _ _ at hcon
   rw [hsl] at hcon
   refine hcon.mono ?_
   rintro e w' ⟨rfl,m,os,rfl⟩
   refine ⟨_,I,V,B,rfl,by simp only [RepV,RepVs]; exact ⟨[],rfl,rfl⟩,?_⟩
   have hper:(srt ss).Perm ss:=List.mergeSort_perm _ _
   have hsl2:(srt ss).length=es.length:=by rw [hper.length_eq,hsl]
   have hgrow:∀ x,x<w.heap.size→x≠b→(Sort.grow (putRow encStr (Sort.ahead w m) b 0 (srt ss).toArray) os).heap[x]?=w.heap[x]?:=fun x hx hne=>by
    rw [Oi w b m _ os x hx,if_neg (fun e=>hne e.symm)]
   have hbl:(Sort.grow (putRow encStr (Sort.ahead w m) b 0 (srt ss).toArray) os).heap[b]?=some (.cells (putCells encStr 0 (srt ss).toArray cur) t (0,0)):=by
    rw [Oi w b m _ os b hblt,if_pos rfl,hb]; rfl
   have hsz:w.heap.size≤(Sort.grow (putRow encStr (Sort.ahead w m) b 0 (srt ss).toArray) os).heap.size:=by
    unfold Sort.grow
    simp [putRow,mapBlock,Sort.ahead]
   have hmem:∀ l∈ss,∃ e∈es,(RO e).toList=l:=by
    rw [hss]
    intro l h
    exact List.mem_map.1 h
   have hstr:∀ i (hi:i<(srt ss).length),(⟨(srt ss)[i].toArray⟩:ByteArray).size≤9223372036854775807:=fun i hi=>by
    obtain ⟨e,he,heq⟩:=hmem _ (hper.mem_iff.1 (zJ hi))
    obtain ⟨k,hk,rfl⟩:=yQ he
    have:=(cellv k hk).2
    rw [←heq,Js]
    exact this
   refine Xi (fun _ _ _=>False) hwf hv0 (by rw [zM,hsl2]) hs hb g1 g2 g3 (fun i hi=>by rw [zZ]; rfl) (fun i j x h=>h.elim) (fun i j i' j' x h h'=>h.elim) rfl ⟨rfl,fun h=>False.elim h⟩ rfl hsz hgrow hbl (by simp [putCells]) (fun i j hi hj=>?_)
   have hi':i<(srt ss).length:=by simpa using hi
   have hj':j<1:=by simpa [SU] using hj
   obtain rfl:j=0:=by omega
   have hlt:i<cur.size:=by rw [g3]; omega
   have hc:(putCells encStr 0 (srt ss).toArray cur).getD (i*1+0) undef=.string ⟨(srt ss)[i].toArray⟩:=by
    simp only [y7,yZ,putCells,yJ,Array.getElem?_mapIdx,yP hlt,Option.map_some,yA,zT,true_and,Nat.zero_add,yK,hi',if_true,xC]
    rw [getElem!_pos (srt ss).toArray i (by simpa using hi')]
    rfl
   rw [hc]
   simp only [zZ,SU,yH]
   exact .str _ _ (hstr i hi')
 ·cases h
end Go.Proofs.YtfgkiemoglcppaaGreat
set_option maxRecDepth 100000
set_option linter.unusedSimpArgs false
set_option linter.unusedVariables false
set_option linter.unusedSectionVars false
namespace Go.Proofs.YtfgkiemoglcppaaGreat
open Go.RowKit Go.Shelf
attribute [local go_sem] Oper.semAt_some
def Xj (l:List ByteArray) (k:Nat):Int × ByteArray:=(((l.length-1-k:Nat):Int),l[l.length-1-k]?.getD ⟨#[]⟩)
def Jt (l:List ByteArray) (k:Nat):List (Int × ByteArray):=(List.range k).map (Xj l)
theorem Oj (l:List ByteArray) (k:Nat):Jt l (k+1)=Jt l k++[Xj l k]:=by simp [Jt,List.range_succ]
theorem Mz (l:List ByteArray) (k:Nat):(Jt l k).length=k:=by simp [Jt]
def Ff (s:ByteArray):ByteArray:=if s.size≤9223372036854775807 then s else ⟨#[]⟩
theorem Ol (s:ByteArray):(Ff s).size≤9223372036854775807:=by
 unfold Ff
 split
 ·assumption
 ·exact zT _
theorem Xk {s:ByteArray} (h:s.size≤9223372036854775807):Ff s=s:=if_pos h
def Xl (x:Int × ByteArray):Array Value:=#[.int .i64 x.1,.string (Ff x.2)]
def KB (p q:Nat) (A B:World):Prop:=B.heap[p]?=A.heap[p]?∧B.heap[q]?=A.heap[q]?
theorem KB.refl (p q:Nat) (A:World):KB p q A A:=⟨rfl,rfl⟩
theorem KB.trans {p q:Nat} {A B C:World} (h:KB p q A B) (k:KB p q B C):KB p q A C:=⟨k.1.trans h.1,k.2.trans h.2⟩
theorem Om {A B:World} {x o:Nat} (h:B.heap[x]?=A.heap[x]?):B.cell? ⟨x,o,none⟩=A.cell? ⟨x,o,none⟩:=by
 unfold World.cell?
 simp only [h]
theorem Vl (F:Fence) (n:Nat) (h1:F.fn 138) (hro:F.round=none) (hn:1≤n) (lb Bs b off cap:Nat) (l:List ByteArray) (hreach:l.length*16≤140737488351232) (hls:∀ s∈l,Ff s=s) (J Jx:List (Int × ByteArray)→World→Prop)
  (hY:∀ pre x W,J pre W→pre.length<l.length→YieldAt F (n-1) Tryz.prog lb (Xl x) W fun e W' =>
   (e=.returned (.bool true)∧J (pre++[x]) W'∧KB Bs b W W')∨(e=.returned (.bool false)∧Jx (pre++[x]) W'))
  (W:World) (hBs:W.cell? ⟨Bs,0,none⟩=some (.slice (some ⟨b,off,none⟩) l.length cap)) (hc:∀ j,j<l.length→W.cell? ⟨b,off+j,none⟩=some (.string (l[j]?.getD ⟨#[]⟩))) (h0:J [] W) :
  CallsIn F n Tryz.prog 138 #[.func (.yield lb) #[] #[],.pointer (some ⟨Bs,0,none⟩)] W fun e W'=>(∃ v,e=.returned v) ∧
   ((∃ ys,ys=Jt l l.length∧J ys W')∨(∃ pre,(∃ k,k≤l.length∧pre=Jt l k)∧Jx pre W')):=by
 refine callsIn_of_wp Tryz.func138 rfl h1 ?_ hro
 simp only [Tryz.ntmps138,yK,zK,zQ,yX,yY,yL,yM,yT,yR,yS,z6]
 gi_wp2
 gi_loopw [3] (fun i wr=>∃ k:Nat,k≤l.length∧i=.int .i64 ((l.length:Int)-1-k)∧J (Jt l k) wr∧KB Bs b W wr)
  (fun i _=>(intOf i+1).toNat)
 case atStart=>exact ⟨0,zT _,by simp,h0,KB.refl _ _ _⟩
 case round =>
  obtain ⟨k,hk,rfl,hJs,hnx⟩:=hrel
  by_cases hlt:k<l.length
  ·have hj:l.length-1-k<l.length:=by omega
   have hbk:wr.cell? ⟨Bs,0,none⟩=some (.slice (some ⟨b,off,none⟩) l.length cap):=(Om hnx.1).trans hBs
   have hcx:=(Om (o:=off+(l.length-1-k)) hnx.2).trans (hc _ hj)
   have hji:(l.length:Int)-1-k=((l.length-1-k:Nat):Int):=by omega
   obtain ⟨fn,tmps,assign,body,hy,hR⟩:=hY _ (Xj l k) wr hJs (by rw [Mz]; exact hlt)
   dsimp only [Xj,Xl] at hy
   rw [zL hj] at hcx
   simp only [zL hj,yA] at hy hcx
   rw [hls _ (zJ _)] at hy
   rw [hji]
   gi_wp2
   refine hR.mono ?_
   rintro e W3 (⟨rfl,hJ3,hk3⟩ | ⟨rfl,hJx3⟩)
   ·gi_wp2
    go_roundw
    case rel=>exact ⟨k+1,by omega,by congr 1; omega,by rw [Oj]; exact hJ3,hnx.trans hk3⟩
    case measure=>simp [intOf] <;> omega
   ·gi_wp2
    refine bodyPost_ret (results_none rfl _ _ _) rfl ?_
    exact ⟨⟨_,rfl⟩,.inr ⟨_,⟨k+1,by omega,(Oj _ _).symm⟩,hJx3⟩⟩
  ·obtain rfl:k=l.length:=by omega
   gi_wp2
   go_end0
   exact ⟨⟨_,rfl⟩,.inl ⟨_,rfl,hJs⟩⟩
theorem TF (F:Fence) (n:Nat) (h1:F.fn 138) (hro:F.round=none) (lb Bs:Nat) (a:Option Addr) (cap:Nat) (J:List (Int × ByteArray)→World→Prop) (W:World) (hBs:W.cell? ⟨Bs,0,none⟩=some (.slice a 0 cap)) (h0:J [] W) :
  CallsIn F n Tryz.prog 138 #[.func (.yield lb) #[] #[],.pointer (some ⟨Bs,0,none⟩)] W fun e W'=>(∃ v,e=.returned v)∧J [] W':=by
 refine callsIn_of_wp Tryz.func138 rfl h1 ?_ hro
 simp only [Tryz.ntmps138,yK,zK,zQ,yX,yY,yL,yM,yT,yR,yS,z6]
 gi_wp2
 gi_loopw [3] (fun i wr=>i=.int .i64 (-1)∧J [] wr) (fun _ _=>0)
 case atStart=>exact ⟨by rfl,h0⟩
 case round =>
  obtain ⟨rfl,hJs⟩:=hrel
  gi_wp2
  go_end0
  exact ⟨⟨_,rfl⟩,hJs⟩
theorem Xm (F:Fence) (n:Nat) (h5:F.fn 101) (hro:F.round=none) (a:Option Addr) (len cap:Nat) (w:World) :
  CallsIn F n Tryz.prog 101 #[.slice a len cap] w fun e w'=>e=.returned (.func (.func 138) #[] #[.pointer (some ⟨w.heap.size,0,none⟩)])∧w'=w.alloc (.cells #[.slice a len cap] 55):=by
 refine callsIn_of_wp Tryz.func101 rfl h5 ?_ hro
 simp only [Tryz.ntmps101,yK,zK,zQ,yX,yY,yL,yM,yT,yR,yS,z6]
 gi_wp2
 go_ret
 exact ⟨rfl,rfl⟩
def Pk (W:World) (sv:Value) (l:List ByteArray) (b:Nat):Prop :=
 (l=[]∧∃ a cap,sv=.slice a 0 cap)∨∃ off cap,sv=.slice (some ⟨b,off,none⟩) l.length cap∧∀ j,j<l.length→W.cell? ⟨b,off+j,none⟩=some (.string (l[j]?.getD ⟨#[]⟩))
theorem RP (F:Fence) (n:Nat) (h1:F.fn 138) (hro:F.round=none) (hn:1≤n) (Bs b:Nat) (sv:Value) (l:List ByteArray) (hreach:l.length*16≤140737488351232) (hls:∀ s∈l,Ff s=s) (w:World) (hBs:Bs<w.heap.size) (hb:b<w.heap.size)
  (hc:w.cell? ⟨Bs,0,none⟩=some sv) (hI:Pk w sv l b) :
  SeqStopsK F n Tryz.prog 138 #[.pointer (some ⟨Bs,0,none⟩)] Xl (KB Bs b) (fun ys=>ys=Jt l l.length) (fun _=>True) l.length w:=fun lb J Jx W hW _ _ hY h0=>by
 have hc':=(hW.cell (p:=⟨Bs,0,none⟩) hBs).trans hc
 rcases hI with ⟨rfl,a,cap,rfl⟩ | ⟨off,cap,rfl,hcs⟩
 ·exact (TF F n h1 hro lb Bs a cap J W hc' h0).mono fun e W' ⟨he,hj⟩=>⟨he,.inl ⟨_,rfl,hj⟩⟩
 ·refine (Vl F n h1 hro hn lb Bs b off cap l hreach hls J Jx hY W hc' (fun j hj=>(hW.cell (p:=⟨b,off+j,none⟩) hb).trans (hcs j hj)) h0).mono ?_
  rintro e W' ⟨he,⟨ys,rfl,hj⟩ | ⟨pre,⟨k,hk,rfl⟩,hj⟩⟩
  ·exact ⟨he,.inl ⟨_,rfl,hj⟩⟩
  ·exact ⟨he,.inr ⟨_,trivial,hj⟩⟩
end Go.Proofs.YtfgkiemoglcppaaGreat
set_option maxRecDepth 100000
set_option linter.unusedSimpArgs false
set_option linter.unusedVariables false
set_option linter.unusedSectionVars false
namespace Go.Proofs.YtfgkiemoglcppaaGreat
open Go.RowKit Go.Shelf
attribute [local go_sem] Oper.semAt_some
noncomputable def Vm:Code→Code
 | .seq _ (.seq _ (.seq (.seq _ (.block _ (.rangeFunc _ _ _ b))) _))=>b
 | c=>c
noncomputable def RQ:Code:=Vm (Tryz.f50.body.getD .skip)
def G4 (W:World) (c:Nat) (z0:Int) (z1:ByteArray) (v2:Value) (z3:ByteArray) (v4:Value):World :=
 ((((W.setCell ⟨c,0,none⟩ (.int .i64 z0)).setCell ⟨c,1,none⟩ (.string z1)).setCell ⟨c,2,none⟩ v2).setCell ⟨c,3,none⟩ (.string z3)).setCell ⟨c,4,none⟩ v4
theorem Vn (lb:Nat) (n:Nat) (hn:1≤n) (c:Nat) (s:ByteArray) (v0 v1 v2 v3 v4:Value) (t0 t1 t2 t4 t6 t7 t8 t9 t10:Value) (W:World)
  (h0:W.cell? ⟨c,0,none⟩=some v0) (h1:W.cell? ⟨c,1,none⟩=some v1) (h2:W.cell? ⟨c,2,none⟩=some v2) (h3:W.cell? ⟨c,3,none⟩=some v3) (h4:W.cell? ⟨c,4,none⟩=some v4)
  (R:World→Int→ByteArray→Option Addr→Nat→Nat→ByteArray→Option Addr→Nat→Nat→Prop)
  (hq:Calls Tryz.prog 93 #[.int .i64 8,.string s,.agg #[v0,v1,v2,v3,v4]] W fun e W'=>∃ z0 z1 a2 n2 c2 z3 a4 n4 c4,e=.returned (.agg #[.int .i64 z0,.string z1,.slice a2 n2 c2,.string z3,.slice a4 n4 c4])∧R W' z0 z1 a2 n2 c2 z3 a4 n4 c4)
  (hR:∀ W' z0 z1 a2 n2 c2 z3 a4 n4 c4,R W' z0 z1 a2 n2 c2 z3 a4 n4 c4→W'.cell? ⟨c,0,none⟩=some v0∧W'.cell? ⟨c,1,none⟩=some v1∧W'.cell? ⟨c,2,none⟩=some v2∧W'.cell? ⟨c,3,none⟩=some v3∧W'.cell? ⟨c,4,none⟩=some v4∧(∀ i,i<5→W'.frozen? ⟨c,i,none⟩=false))
  (Q:Exit→Act→World→Prop) (t11 t12:Value)
  (hfin:∀ a W' z0 z1 a2 n2 c2 z3 a4 n4 c4,R W' z0 z1 a2 n2 c2 z3 a4 n4 c4→Q .normal a (G4 W' c z0 z1 (.slice a2 n2 c2) z3 (.slice a4 n4 c4))) :
  RQ.wpIn (Fence.wide.inRound lb) n Tryz.prog Q { tmps:=#[t0,t1,t2,.pointer (some ⟨c,0,none⟩),t4,.string s,t6,t7,t8,t9,t10,t11,t12,undef,undef,undef,undef],defers:=[] } W:=by
 have hmx:Tryz.prog.follows .mixedOrders=true:=by kernel_rfl
 unfold RQ Vm
 simp only [Tryz.f50,yA]
 gi_wp2
 refine ⟨trivial,(CallsIn.inRound lb (callsIn_wide.2 hq)).mono ?_⟩
 rintro e w' ⟨z0,z1,a2,n2,c2,z3,a4,n4,c4,rfl,hr⟩
 obtain ⟨k0,k1,k2,k3,k4,kf⟩:=hR _ _ _ _ _ _ _ _ _ _ hr
 have f0:=kf 0 (by omega)
 have f1:=kf 1 (by omega)
 have f2:=kf 2 (by omega)
 have f3:=kf 3 (by omega)
 have f4:=kf 4 (by omega)
 rename_i hK
 refine hK _ _ ?_
 gi_wp2
 first | exact hfin _ _ _ _ _ _ _ _ _ _ _ hr | assumption
def z5:Array Value:=#[.int .i64 0,.string ⟨#[]⟩,.slice none 0 0,.string ⟨#[]⟩,.slice none 0 0]
def wA (w:World) (v0 v1 v2 v3 v4:Value):World:=(w.alloc (.cells #[v0,v1,v2,v3,v4] 33)).alloc (.cells z5 33)
def wB (W:World) (z0:Int) (z1:ByteArray) (v2:Value) (z3:ByteArray) (v4:Value):World:=W.alloc (.cells #[.int .i64 z0,.string z1,v2,.string z3,v4] 33)
end Go.Proofs.YtfgkiemoglcppaaGreat
set_option maxRecDepth 100000
set_option linter.unusedSimpArgs false
set_option linter.unusedVariables false
set_option linter.unusedSectionVars false
namespace Go.Proofs.YtfgkiemoglcppaaGreat
open Go.RowKit Go.Shelf
attribute [local go_sem] Oper.semAt_some
theorem KC {W:World} {c k:Nat} (z0:Int) {z1:ByteArray} {v2:Value} {z3:ByteArray} {v4:Value} (h:k≠c):(G4 W c z0 z1 v2 z3 v4).heap[k]?=W.heap[k]?:=by
 unfold G4
 rw [Below.heap_setCell _ _ _ _ h,Below.heap_setCell _ _ _ _ h,Below.heap_setCell _ _ _ _ h,Below.heap_setCell _ _ _ _ h,Below.heap_setCell _ _ _ _ h]
theorem Vo {W:World} {c:Nat} {T:TypeId} {fr:Nat × Nat} {y0:Int} {y1:ByteArray} {v2:Value} {y3:ByteArray} {v4:Value} (h:W.heap[c]?=some (.cells z5 T fr)):(G4 W c y0 y1 v2 y3 v4).heap[c]?=some (.cells #[.int .i64 y0,.string y1,v2,.string y3,v4] T fr):=by
 unfold G4
 have h1:=Lib.heap_setCell_same (i:=0) h (.int .i64 y0)
 have h2:=Lib.heap_setCell_same (i:=1) h1 (.string y1)
 have h3:=Lib.heap_setCell_same (i:=2) h2 v2
 have h4:=Lib.heap_setCell_same (i:=3) h3 (.string y3)
 have h5:=Lib.heap_setCell_same (i:=4) h4 v4
 exact h5
theorem Q1 (w:World) (v0 v1 v2 v3 v4:Value) (Q:Ending→World→Prop)
  (PA:World→Int→ByteArray→Value→ByteArray→Value→Prop)
  (hA:Calls Tryz.prog 100 #[.agg #[v0,v1,v2,v3,v4]] (wA w v0 v1 v2 v3 v4) fun e W'=>∃ (z0:Int) (z1:ByteArray) (a2:Option Addr) (n2 c2:Nat) (z3:ByteArray) (a4:Option Addr) (n4 c4:Nat),e=.returned (.agg #[.int .i64 z0,.string z1,.slice a2 n2 c2,.string z3,.slice a4 n4 c4])∧PA W' z0 z1 (.slice a2 n2 c2) z3 (.slice a4 n4 c4))
  (hAf:∀ W z0 z1 s2 z3 s4,PA W z0 z1 s2 z3 s4→(wB W z0 z1 s2 z3 s4).cell? ⟨w.heap.size,0,none⟩=some v0∧(wB W z0 z1 s2 z3 s4).cell? ⟨w.heap.size,1,none⟩=some v1∧(wB W z0 z1 s2 z3 s4).cell? ⟨w.heap.size,2,none⟩=some v2∧(wB W z0 z1 s2 z3 s4).cell? ⟨w.heap.size,3,none⟩=some v3∧(wB W z0 z1 s2 z3 s4).cell? ⟨w.heap.size,4,none⟩=some v4)
  (PB:World→Nat→Option Addr→Nat→Nat→Prop)
  (hB:∀ W z0 z1 s2 z3 s4,PA W z0 z1 s2 z3 s4→Calls Tryz.prog 48 #[.agg #[v0,v1,v2,v3,v4]] (wB W z0 z1 s2 z3 s4) fun e W'=>∃ a n c,e=.returned (.slice a n c)∧PB W' W.heap.size a n c)
  (names:List ByteArray) (hreach:names.length*16≤140737488351232) (hls:∀ s∈names,Ff s=s) (IV:Nat→Nat→Nat→List (Int × ByteArray)→World→Prop)
  (hPB:∀ W cB a n c,PB W cB a n c→w.heap.size+2≤W.heap.size∧∃ b,b<(W.alloc (.cells #[.slice a n c] 55)).heap.size∧Pk (W.alloc (.cells #[.slice a n c] 55)) (.slice a n c) names b ∧
   OwnFrom (W.alloc (.cells #[.slice a n c] 55)).heap.size (IV cB W.heap.size b)∧IV cB W.heap.size b [] (W.alloc (.cells #[.slice a n c] 55)) ∧
   (∀ (lb:Nat) (t0 t1 t2 t4 t6 t7 t8 t9 t10 t11 t12:Value) (pre:List (Int × ByteArray)) (x:Int × ByteArray) (W':World),IV cB W.heap.size b pre W'→pre.length<names.length →
    RQ.wpIn (Fence.wide.inRound lb) 3 Tryz.prog (ownPostK (KB W.heap.size b) (IV cB W.heap.size b) (fun _ _ _=>False) (pre++[x]) W') { tmps:=#[t0,t1,t2,.pointer (some ⟨cB,0,none⟩),t4,.string (Ff x.2),t6,t7,t8,t9,t10,t11,t12,undef,undef,undef,undef],defers:=[] } W'))
  (hDone:∀ cB Bs b W,IV cB Bs b (Jt names names.length) W→∃ (y0:Int) (y1:ByteArray) (p2:Option Addr) (m2 d2:Nat) (y3:ByteArray) (p4:Option Addr) (m4 d4:Nat),
   (W.cell? ⟨cB,0,none⟩=some (.int .i64 y0)∧W.cell? ⟨cB,1,none⟩=some (.string y1)∧W.cell? ⟨cB,2,none⟩=some (.slice p2 m2 d2)∧W.cell? ⟨cB,3,none⟩=some (.string y3)∧W.cell? ⟨cB,4,none⟩=some (.slice p4 m4 d4)) ∧
   W.heap[w.heap.size+1]?=some (.cells z5 33 (0,0)) ∧
   ∀ D,w.heap.size+1<D→W.heap[D]?=some (.deferred (some []))→Q (.returned (.agg #[.int .i64 y0,.string y1,.slice p2 m2 d2,.string y3,.slice p4 m4 d4])) ((G4 W (w.heap.size+1) y0 y1 (.slice p2 m2 d2) y3 (.slice p4 m4 d4)).putObj D (.deferred none)))
  : Calls Tryz.prog 50 #[.agg #[v0,v1,v2,v3,v4]] w Q:=by
 have hmx:Tryz.prog.follows .mixedOrders=true:=by kernel_rfl
 refine (callsIn_wide (n:=5)).1 ?_
 refine callsIn_of_wp_marks Tryz.func50 rfl trivial ?_ rfl
 simp only [Tryz.ntmps50,yK,zK,zQ,yX,yY,yL,yM,yT,yR,yS,z6]
 gi_wp2
 refine ⟨trivial,(callsIn_wide.2 hA).mono ?_⟩
 rintro e W1 ⟨z0,z1,a2,n2,c2,z3,a4,n4,c4,rfl,hP⟩
 obtain ⟨f0,f1,f2,f3,f4⟩:=hAf _ _ _ _ _ _ hP
 have hfree:=hB _ _ _ _ _ _ hP
 rename_i K1 hK1 K2 hK
 refine hK _ _ ?_
 obtain ⟨Wb,hWb⟩:∃ Wb,Wb=wB W1 z0 z1 (.slice a2 n2 c2) z3 (.slice a4 n4 c4):=⟨_,rfl⟩
 rw [←hWb] at f0 f1 f2 f3 f4 hfree
 generalize hQQ:(Exit.then _ _:Exit→Act→World→Prop)=QQ
 gi_wp2
 subst hQQ
 unfold wB at hWb
 rw [←hWb]
 refine hK1 _ _ ?_
 clear hK1 hK hWb
 gi_wp2
 refine ⟨trivial,(callsIn_wide.2 hfree).mono ?_⟩
 rintro e W2 ⟨a,n,c,rfl,hPB'⟩
 rename_i K3 hK3 K4 hK4
 refine hK4 _ _ ?_
 gi_wp2
 refine ⟨trivial,(Xm Fence.wide _ trivial rfl a n c W2).mono ?_⟩
 rintro e W3 ⟨rfl,rfl⟩
 rename_i K5 hK5
 refine hK5 _ _ ?_
 clear hK4 hK5
 gi_wp2
 obtain ⟨hge,b,hb,hN,hO,hI0,hbody⟩:=hPB _ _ _ _ _ hPB'
 refine wpIn_rangeFunc_ownF rfl (by omega) (gf:=138) (lb:=#[.pointer (some ⟨W2.heap.size,0,none⟩)]) rfl trivial (enters_of Tryz.func138 (by kernel_rfl) rfl)
  (RP Fence.wide _ trivial rfl (by omega) W2.heap.size b (.slice a n c) names hreach hls _ (by simp) hb (by simp) hN)
  (fun h k=>h.trans k) ?kb (Below.refl _ _) (fun x=>rfl) (IV W1.heap.size W2.heap.size b) (fun _ _ _=>False) hO (fun _ _ _ _ _ h _ _=>h) hI0
  (fun x=>{ tmps:=#[.agg #[v0,v1,v2,v3,v4],.pointer (some ⟨w.heap.size,0,none⟩),.pointer (some ⟨w.heap.size+1,0,none⟩),.pointer (some ⟨W1.heap.size,0,none⟩),undef,.string (Ff x.2),.agg #[v0,v1,v2,v3,v4],.agg #[.int .i64 z0,.string z1,.slice a2 n2 c2,.string z3,.slice a4 n4 c4],.agg #[v0,v1,v2,v3,v4],.slice a n c,.func (.func 138) #[] #[.pointer (some ⟨W2.heap.size,0,none⟩)],.int .i64 x.1,.string (Ff x.2),undef,undef,undef,undef],defers:=[] }) ?assign ?body ?done ?stop
 case assign =>
  intro l x W K hK
  unfold Xl
  gi_wp2
  exact hK
 case stop =>
  rintro D c pre W _ _ h _
  exact h.elim
 case body =>
  rintro l pre x W hi hlen
  exact hbody l _ _ _ _ _ _ _ _ _ _ _ pre x W hi hlen
 case kb =>
  intro W l o o' hl _ _ _
  have hs:(W2.alloc (.cells #[.slice a n c] 55)).heap.size=W2.heap.size+1:=by simp
  exact ⟨World.putObj_heap_other (by omega),World.putObj_heap_other (by omega)⟩
 case done =>
  rintro D xs W hD rfl hi hK
  obtain ⟨y0,y1,p2,m2,d2,y3,p4,m4,d4,⟨k0,k1,k2,k3,k4⟩,hz,hQ⟩:=hDone _ _ _ _ hi
  have hs:(W2.alloc (.cells #[.slice a n c] 55)).heap.size=W2.heap.size+1:=by simp
  have hDne:D≠w.heap.size+1:=by omega
  have hQ:=hQ D (by omega) hK
  have r0:W.cell? ⟨w.heap.size+1,0,none⟩=some (.int .i64 0):=by simp [World.cell?,hz,z5]
  have r1:W.cell? ⟨w.heap.size+1,1,none⟩=some (.string ⟨#[]⟩):=by simp [World.cell?,hz,z5]
  have r2:W.cell? ⟨w.heap.size+1,2,none⟩=some (.slice none 0 0):=by simp [World.cell?,hz,z5]
  have r3:W.cell? ⟨w.heap.size+1,3,none⟩=some (.string ⟨#[]⟩):=by simp [World.cell?,hz,z5]
  have r4:W.cell? ⟨w.heap.size+1,4,none⟩=some (.slice none 0 0):=by simp [World.cell?,hz,z5]
  have q0:W.frozen? ⟨w.heap.size+1,0,none⟩=false:=by simp [World.frozen?,hz]
  have q1:W.frozen? ⟨w.heap.size+1,1,none⟩=false:=by simp [World.frozen?,hz]
  have q2:W.frozen? ⟨w.heap.size+1,2,none⟩=false:=by simp [World.frozen?,hz]
  have q3:W.frozen? ⟨w.heap.size+1,3,none⟩=false:=by simp [World.frozen?,hz]
  have q4:W.frozen? ⟨w.heap.size+1,4,none⟩=false:=by simp [World.frozen?,hz]
  gi_wp2
  refine ⟨by simp,.inl ⟨_,_,rfl,run_takeDeferred (ds:=[]) ?_,?_⟩⟩
  ·exact (KC _ hDne).trans hK
  ·have hf:((G4 W (w.heap.size+1) y0 y1 (.slice p2 m2 d2) y3 (.slice p4 m4 d4)).putObj D (.deferred none)).heap[w.heap.size+1]?=some (.cells #[.int .i64 y0,.string y1,.slice p2 m2 d2,.string y3,.slice p4 m4 d4] 33 (0,0)):=by
    rw [World.putObj_heap_other (by omega)]
    exact Vo hz
   exact ⟨_,results_cell_row rfl _ _ _ _ _ _ _ rfl hf Tryz.underlying33 rfl (by kernel_rfl),hQ⟩
end Go.Proofs.YtfgkiemoglcppaaGreat
set_option maxRecDepth 100000
set_option linter.unusedSimpArgs false
set_option linter.unusedVariables false
set_option linter.unusedSectionVars false
namespace Go.Proofs.YtfgkiemoglcppaaGreat
open Go.RowKit
variable [Flag]
def CellsAt (w:World) (x:Nat):Prop:=∃ u:Obj,w.heap[x]?=some u∧u.isCells=true
theorem ORep.cells {w:World} {I S:Nat→Prop} {o:OT} {v:Value} (h:ORep w I S o v):ORep w I (fun x=>S x∧CellsAt w x) o v:=by
 induction h with
 | int S n=>exact .int _ n
 | byte S n=>exact .byte _ n
 | bool S b=>exact .bool _ b
 | str S s h=>exact .str _ s h
 | sh S es v h=>exact .sh _ es v h
 | nil S=>exact .nil _
 | hole S v h=>exact .hole _ v h
 | row S t sz es b cap cur Sub hS hb h1 h2 h3 h4 h5 h6 h7 ih =>
  exact .row _ t sz es b cap cur (fun i j x=>Sub i j x∧CellsAt w x) ⟨hS,_,hb,rfl⟩ hb h1 h2 h3 h4 (fun i j x h=>⟨⟨(h5 i j x h.1).1,h.2⟩,(h5 i j x h.1).2⟩) (fun i j i' j' x h h'=>h6 i j i' j' x h.1 h'.1) ih
theorem RowR.cells {w:World} {I S:Nat→Prop} {t:TypeId} {sz:Nat} {es:List (List OT)} {v:Value} (h:RowR w I S t sz es v):RowR w I (fun x=>S x∧CellsAt w x) t sz es v:=by
 rcases h with h | ⟨b,cap,cur,Sub,e,hS,hb,h1,h2,h3,h4,h5,h6,h7⟩
 ·exact .inl h
 ·exact .inr ⟨b,cap,cur,fun i j x=>Sub i j x∧CellsAt w x,e,⟨hS,_,hb,rfl⟩,hb,h1,h2,h3,h4,fun i j x h=>⟨⟨(h5 i j x h.1).1,h.2⟩,(h5 i j x h.1).2⟩,fun i j i' j' x h h'=>h6 i j i' j' x h.1 h'.1,fun i j hi hj=>(h7 i j hi hj).cells⟩
theorem Wf.next {w:World} {I I':Nat→Prop} {V':Nat→Option Value} {B':Nat→Nat→Prop} {t t2:TypeId} {sz sz2:Nat} {es es2:List (List OT)}
  (h:Wf w I' V' B' (As [.gone,.gone,.row t sz es,.row t2 sz2 es2])) (hI:∀ b,I b→I' b) (hn:OT.Cg es=true) (hn2:OT.Cg es2=true) (hgl:GL w I) :
  Wf w I (fun g=>V' (g+2)) (fun g x=>B' (g+2) x∧CellsAt w x) (As [.row t sz es,.row t2 sz2 es2]):=by
 have hlv:∀ g,(As [Ob.row t sz es,.row t2 sz2 es2] g).live→g=0∨g=1:=fun g h=>by
  match g with
  | 0=>exact .inl rfl
  | 1=>exact .inr rfl
  | g+2=>exact h.elim
 have hl:∀ g,(As [Ob.row t sz es,.row t2 sz2 es2] g).live→(As [Ob.gone,.gone,.row t sz es,.row t2 sz2 es2] (g+2)).live:=fun g h=>h
 refine ⟨fun b hb=>h.ilt b (hI b hb),fun g hg=>?_,fun g b hg hb=>h.lt (g+2) b (hl g hg) hb.1,fun g b hg hb hi=>h.dI (g+2) b (hl g hg) hb.1 (hI b hi),fun g g' b hg hg' hb hb'=>by have:=h.dO (g+2) (g'+2) b (hl g hg) (hl g' hg') hb.1 hb'.1; omega,fun g hf=>h.fr (g+2) hf,hgl⟩
 obtain ⟨val,hv,hr⟩:=h.obj (g+2) (hl g hg)
 rcases hlv g hg with rfl | rfl
 ·have hr:RowR w I' (B' 2) t sz es val:=hr
  exact ⟨val,hv,(hr.noSh hn).cells⟩
 ·have hr:RowR w I' (B' 3) t2 sz2 es2 val:=hr
  exact ⟨val,hv,(hr.noSh hn2).cells⟩
end Go.Proofs.YtfgkiemoglcppaaGreat
set_option maxRecDepth 100000
set_option linter.unusedSimpArgs false
set_option linter.unusedVariables false
set_option linter.unusedSectionVars false
namespace Go.Proofs.YtfgkiemoglcppaaGreat
open Go.RowKit
abbrev Tm.sv (x:Tm):SV:=.agg [.str x.name,.arr (x.args.map Tm.d)]
mutual
def Tm.o:Tm→List OT
 | .mk name args=>[.str name,.ow (Tm.os args)]
def Tm.os:List Tm→List (List OT)
 | []=>[]
 | x :: xs=>Tm.o x :: Tm.os xs
end
theorem Tm.os_eq:∀ xs:List Tm,Tm.os xs=xs.map Tm.o
 | []=>rfl
 | x :: xs=>by rw [Tm.os,Tm.os_eq xs]; rfl
theorem Tm.o_eq (x:Tm):Tm.o x=[.str x.name,.ow (x.args.map Tm.o)]:=by
 obtain ⟨name,args⟩:=x
 rw [Tm.o,Tm.os_eq]; rfl
theorem Tm.ers_of:∀ xs:List Tm,(∀ x∈xs,OT.ers (Tm.o x)=Tm.d x)→OT.erss (xs.map Tm.o)=xs.map Tm.d
 | [],_=>rfl
 | x :: xs,h=>by
  simp only [zC,OT.erss]
  rw [h x (by simp),Tm.ers_of xs fun y hy=>h y (by simp [hy])]
theorem Tm.er (x:Tm):OT.ers (Tm.o x)=Tm.d x:=by
 have h:=Tm.ers_of x.args fun y hy=>Tm.er y
 rw [Tm.o_eq,Tm.d_eq]
 simp only [OT.ers,OT.er,h]
termination_by SizeOf.sizeOf x
decreasing_by exact Tm.lt_of_mem hy
theorem Tm.erss (xs:List Tm):OT.erss (xs.map Tm.o)=xs.map Tm.d:=Tm.ers_of xs fun x _=>Tm.er x
theorem Tm.nos_of:∀ xs:List Tm,(∀ x∈xs,OT.DZ (Tm.o x)=true)→OT.Cg (xs.map Tm.o)=true
 | [],_=>rfl
 | x :: xs,h=>by
  simp only [zC,OT.Cg]
  rw [h x (by simp),Tm.nos_of xs fun y hy=>h y (by simp [hy])]; rfl
theorem Tm.no (x:Tm):OT.DZ (Tm.o x)=true:=by
 have h:=Tm.nos_of x.args fun y hy=>Tm.no y
 rw [Tm.o_eq]
 simp only [OT.DZ,OT.noSh,h,zH,zS]
termination_by SizeOf.sizeOf x
decreasing_by exact Tm.lt_of_mem hy
theorem Tm.noss (xs:List Tm):OT.Cg (xs.map Tm.o)=true:=Tm.nos_of xs fun x _=>Tm.no x
abbrev Tm.osv (x:Tm):SV:=.agg [.str x.name,.ref 0]
abbrev Tm.obs (x:Tm):List Ob:=[.row 30 2 (x.args.map Tm.o)]
abbrev Fm.sv (x:Fm):SV:=.agg [.int .i64 x.op,.str x.atom.name,.arr (x.atom.args.map Tm.d),.str x.var,.arr (x.parts.map Fm.d)]
mutual
def Fm.o:Fm→List OT
 | .mk op atom var parts=>[.int op,.str atom.name,.ow (atom.args.map Tm.o),.str var,.ow (Fm.os parts)]
def Fm.os:List Fm→List (List OT)
 | []=>[]
 | x :: xs=>Fm.o x :: Fm.os xs
end
theorem Fm.os_eq:∀ xs:List Fm,Fm.os xs=xs.map Fm.o
 | []=>rfl
 | x :: xs=>by rw [Fm.os,Fm.os_eq xs]; rfl
theorem Fm.o_eq (x:Fm):Fm.o x=[.int x.op,.str x.atom.name,.ow (x.atom.args.map Tm.o),.str x.var,.ow (x.parts.map Fm.o)]:=by
 obtain ⟨op,atom,var,parts⟩:=x
 rw [Fm.o,Fm.os_eq]; rfl
theorem Fm.ers_of:∀ xs:List Fm,(∀ x∈xs,OT.ers (Fm.o x)=Fm.d x)→OT.erss (xs.map Fm.o)=xs.map Fm.d
 | [],_=>rfl
 | x :: xs,h=>by
  simp only [zC,OT.erss]
  rw [h x (by simp),Fm.ers_of xs fun y hy=>h y (by simp [hy])]
theorem Fm.er (x:Fm):OT.ers (Fm.o x)=Fm.d x:=by
 have h:=Fm.ers_of x.parts fun y hy=>Fm.er y
 rw [Fm.o_eq,Fm.d_eq]
 simp only [OT.ers,OT.er,h,Tm.erss]
termination_by SizeOf.sizeOf x
decreasing_by exact Fm.lt_of_mem hy
theorem Fm.erss (xs:List Fm):OT.erss (xs.map Fm.o)=xs.map Fm.d:=Fm.ers_of xs fun x _=>Fm.er x
theorem Fm.nos_of:∀ xs:List Fm,(∀ x∈xs,OT.DZ (Fm.o x)=true)→OT.Cg (xs.map Fm.o)=true
 | [],_=>rfl
 | x :: xs,h=>by
  simp only [zC,OT.Cg]
  rw [h x (by simp),Fm.nos_of xs fun y hy=>h y (by simp [hy])]; rfl
theorem Fm.no (x:Fm):OT.DZ (Fm.o x)=true:=by
 have h:=Fm.nos_of x.parts fun y hy=>Fm.no y
 rw [Fm.o_eq]
 simp only [OT.DZ,OT.noSh,h,Tm.noss,zH,zS]
termination_by SizeOf.sizeOf x
decreasing_by exact Fm.lt_of_mem hy
theorem Fm.noss (xs:List Fm):OT.Cg (xs.map Fm.o)=true:=Fm.nos_of xs fun x _=>Fm.no x
abbrev Fm.osv (x:Fm):SV:=.agg [.int .i64 x.op,.str x.atom.name,.ref 0,.str x.var,.ref 1]
abbrev Fm.obs (x:Fm):List Ob:=[.row 30 2 (x.atom.args.map Tm.o),.row 33 5 (x.parts.map Fm.o)]
def Ag.o (x:Ag):List OT:=[.str x.var,.int x.elem]
theorem Ag.er (x:Ag):OT.ers (Ag.o x)=Ag.d x:=by
 simp only [Ag.o,Ag.d,OT.ers,OT.er]
theorem Ag.erss:∀ xs:List Ag,OT.erss (xs.map Ag.o)=xs.map Ag.d
 | []=>rfl
 | x :: xs=>by simp only [zC,OT.erss,Ag.er,Ag.erss xs]
theorem Ag.no (x:Ag):OT.DZ (Ag.o x)=true:=by
 simp only [Ag.o,OT.DZ,OT.noSh,zH,zS]
theorem Ag.noss:∀ xs:List Ag,OT.Cg (xs.map Ag.o)=true
 | []=>rfl
 | x :: xs=>by simp only [zC,OT.Cg,Ag.no,Ag.noss xs,zH]
def Tl.o (x:Tl):List OT:=[.str x.name,.int x.arity,.bool x.pred,.ow (x.vals.map fun n=>[OT.int n])]
theorem Tl.er (x:Tl):OT.ers (Tl.o x)=Tl.d x:=by
 simp only [Tl.o,Tl.d,OT.ers,OT.er,SQ]
theorem Tl.erss:∀ xs:List Tl,OT.erss (xs.map Tl.o)=xs.map Tl.d
 | []=>rfl
 | x :: xs=>by simp only [zC,OT.erss,Tl.er,Tl.erss xs]
theorem Tl.no (x:Tl):OT.DZ (Tl.o x)=true:=by
 simp only [Tl.o,OT.DZ,OT.noSh,SR,zH,zS]
theorem Tl.noss:∀ xs:List Tl,OT.Cg (xs.map Tl.o)=true
 | []=>rfl
 | x :: xs=>by simp only [zC,OT.Cg,Tl.no,Tl.noss xs,zH]
def Ip.o (x:Ip):List OT:=[.int x.size,.ow (x.tables.map Tl.o)]
theorem Ip.er (x:Ip):OT.ers (Ip.o x)=Ip.d x:=by
 simp only [Ip.o,Ip.d,OT.ers,OT.er,Tl.erss]
theorem Ip.erss:∀ xs:List Ip,OT.erss (xs.map Ip.o)=xs.map Ip.d
 | []=>rfl
 | x :: xs=>by simp only [zC,OT.erss,Ip.er,Ip.erss xs]
theorem Ip.no (x:Ip):OT.DZ (Ip.o x)=true:=by
 simp only [Ip.o,OT.DZ,OT.noSh,Tl.noss,zH,zS]
theorem Ip.noss:∀ xs:List Ip,OT.Cg (xs.map Ip.o)=true
 | []=>rfl
 | x :: xs=>by simp only [zC,OT.Cg,Ip.no,Ip.noss xs,zH]
noncomputable def JP:List ByteArray→ByteArray→List ByteArray
 | [],n=>[n]
 | x :: xs,n=>bif strLt x n then x :: JP xs n else bif dec (x=n) then x :: xs else n :: x :: xs
mutual
noncomputable def Tm.vs:Tm→List ByteArray
 | .mk name args=>bif Cf name then [name] else Tm.vsL args
noncomputable def Tm.vsL:List Tm→List ByteArray
 | []=>[]
 | x :: xs=>Tm.vs x++Tm.vsL xs
end
noncomputable def HI (l ns:List ByteArray):List ByteArray:=ns.foldl JP l
noncomputable def qB (op:Int):Bool:=dec (op=8) || dec (op=9)
mutual
noncomputable def Fm.fv:Fm→List ByteArray→List ByteArray
 | .mk op atom var parts,b=>bif dec (op=3) then (HI [] atom.vs).filter (fun n=>!dec (n∈b)) else Fm.fvL parts (bif qB op then b++[var] else b)
noncomputable def Fm.fvL:List Fm→List ByteArray→List ByteArray
 | [],_=>[]
 | x :: xs,b=>Fm.fv x b++Fm.fvL xs b
end
noncomputable def Fm.free (x:Fm):List ByteArray:=HI [] (x.fv [])
def Fm.all (n:ByteArray) (y:Fm):Fm:=.mk 8 (.mk ⟨#[]⟩ []) n [y]
def Fm.cls (ns:List ByteArray) (x:Fm):Fm:=ns.foldr Fm.all x
end Go.Proofs.YtfgkiemoglcppaaGreat
set_option maxRecDepth 100000
set_option linter.unusedSimpArgs false
set_option linter.unusedVariables false
set_option linter.unusedSectionVars false
namespace Go.Proofs.YtfgkiemoglcppaaGreat
open Go.RowKit Go.Shelf
def IF (pre:List (Int × ByteArray)) (x:Fm):Fm:=pre.foldl (fun y p=>Fm.all (Ff p.2) y) x
theorem TG (pre:List (Int × ByteArray)) (p:Int × ByteArray) (x:Fm):IF (pre++[p]) x=Fm.all (Ff p.2) (IF pre x):=by unfold IF; rw [List.foldl_append]; rfl
theorem RR (l:List ByteArray):(Jt l l.length).map (·.2)=l.reverse:=by
 apply List.ext_getElem
 ·rw [zM,Mz,List.length_reverse]
 ·intro i h1 h2
  rw [zM,Mz] at h1
  rw [zZ,List.getElem_reverse]
  unfold Jt
  rw [zZ,List.getElem_range]
  show l[l.length-1-i]?.getD ⟨#[]⟩=_
  rw [zL (by omega)]; rfl
theorem Vp (l:List ByteArray) (hl:∀ s∈l,Ff s=s) (x:Fm):IF (Jt l l.length) x=Fm.cls l x:=by
 have h:IF (Jt l l.length) x=((Jt l l.length).map (·.2)).foldl (fun y n=>Fm.all (Ff n) y) x:=by
  unfold IF
  rw [List.foldl_map]
 rw [h,RR,List.foldl_reverse]
 unfold Fm.cls
 clear h
 induction l with
 | nil=>rfl
 | cons a r ih=>rw [List.foldr_cons,List.foldr_cons,ih fun s hs=>hl s (by simp [hs]),hl a (by simp)]
theorem Wf.bare {w w':World} {I:Nat→Prop} {V:Nat→Option Value} {B:Nat→Nat→Prop} (h:Wf w I V B (As [])) (hk:KeepS I w w'):Wf w' I V B (As []):=by
 have hn:∀ g,As ([]:List Ob) g=.free:=fun g=>by cases g <;> rfl
 have hl:∀ g,¬ (As ([]:List Ob) g).live:=fun g h=>by rw [hn] at h; exact h
 exact ⟨fun b hb=>yD (h.ilt b hb) hk.size,fun g k=>(hl g k).elim,fun g b k=>(hl g k).elim,fun g b k=>(hl g k).elim,fun g g' b k=>(hl g k).elim,h.fr,h.gl.keep hk fun _ k=>k⟩
theorem M0 {B:Nat→Nat→Prop} {b:Nat}:¬ HB B ([]:List Ob) b:=fun ⟨g,hl,_⟩=>by
 have hn:As ([]:List Ob) g=.free:=by cases g <;> rfl
 rw [hn] at hl; exact hl
structure IVc (w:World) (I:Nat→Prop) (x:Fm) (cB Bs b:Nat) (pre:List (Int × ByteArray)) (W:World):Prop where
 fr:Fr w (fun _=>False) W
 z:W.heap[w.heap.size+1]?=some (.cells z5 33 (0,0))
 lt:w.heap.size+2≤cB∧cB<Bs∧Bs<W.heap.size∧b<W.heap.size∧b≠cB∧b≠Bs
 ob:∃ (V':Nat→Option Value) (B':Nat→Nat→Prop) (a2:Option Addr) (n2 c2:Nat) (a4:Option Addr) (n4 c4:Nat),
  W.heap[cB]?=some (.cells #[.int .i64 (IF pre x).op,.string (IF pre x).atom.name,.slice a2 n2 c2,.string (IF pre x).var,.slice a4 n4 c4] 33 (0,0)) ∧
  RepV W I V' (IF pre x).osv (.agg #[.int .i64 (IF pre x).op,.string (IF pre x).atom.name,.slice a2 n2 c2,.string (IF pre x).var,.slice a4 n4 c4]) ∧
  Wf W I V' B' (As (IF pre x).obs)∧∀ g u,(As (IF pre x).obs g).live→B' g u→(w.heap.size+2≤u∧u≠cB∧u≠Bs∧u≠b)∧CellsAt W u
theorem Bm {w:World} {b:Nat} {cs:Array Value} {t:TypeId} {f:Nat × Nat} (h:w.heap[b]?=some (.cells cs t f)) (i:Nat):w.cell? ⟨b,i,none⟩=cs[i]?:=by
 simp [World.cell?,h]
theorem On {w:World} {I:Nat→Prop} {V:Nat→Option Value} {y:Fm} {v:Value} (h:RepV w I V y.osv v):∃ s2 s4,v=.agg #[.int .i64 y.op,.string y.atom.name,s2,.string y.var,s4]∧V 0=some s2∧V 1=some s4∧y.atom.name.size≤9223372036854775807∧y.var.size≤9223372036854775807:=by
 simp only [RepV,RepVs] at h
 obtain ⟨vs,rfl,v0,q0,rfl,rfl,v1,q1,rfl,⟨rfl,h1⟩,v2,q2,rfl,⟨h2,_⟩,v3,q3,rfl,⟨rfl,h3⟩,v4,q4,rfl,⟨h4,_⟩,rfl⟩:=h
 exact ⟨v2,v4,rfl,h2,h4,h1,h3⟩
theorem RS {w:World} {I:Nat→Prop} {V:Nat→Option Value} {B:Nat→Nat→Prop} {y:Fm} {v:Value} (h:RepV w I V y.osv v) (hw:Wf w I V B (As y.obs)):∃ a2 n2 c2 a4 n4 c4,v=.agg #[.int .i64 y.op,.string y.atom.name,.slice a2 n2 c2,.string y.var,.slice a4 n4 c4]:=by
 obtain ⟨s2,s4,rfl,e2,e4,_⟩:=On h
 obtain ⟨u2,k2,r2⟩:=hw.obj 0 trivial
 obtain ⟨u4,k4,r4⟩:=hw.obj 1 trivial
 rw [e2] at k2
 rw [e4] at k4
 obtain rfl:=zF k2
 obtain rfl:=zF k4
 have r2:RowR w I (B 0) 30 2 (y.atom.args.map Tm.o) s2:=r2
 have r4:RowR w I (B 1) 33 5 (y.parts.map Fm.o) s4:=r4
 obtain ⟨a2,c2,rfl,_⟩:=r2.form
 obtain ⟨a4,c4,rfl,_⟩:=r4.form
 exact ⟨_,_,_,_,_,_,rfl⟩
theorem Wf.kept {w w':World} {I:Nat→Prop} {V:Nat→Option Value} {B:Nat→Nat→Prop} {ob:Nat→Ob} (h:Wf w I V B ob) (hk:KeepS I w w') (hB:∀ g b,(ob g).live→B g b→w'.heap[b]?=w.heap[b]?):Wf w' I V B ob :=
 ⟨fun b hb=>yD (h.ilt b hb) hk.size,fun g hl=>let ⟨val,hv,hr⟩:=h.obj g hl; ⟨val,hv,hr.keep hk (fun _ h=>h) (fun _ _ h=>h) fun b hb _=>hB g b hl hb⟩,fun g b hl hb=>yD (h.lt g b hl hb) hk.size,h.dI,h.dO,h.fr,h.gl.keep hk fun _ h=>h⟩
theorem Wf.own {w:World} {I I':Nat→Prop} {V':Nat→Option Value} {B':Nat→Nat→Prop} {y:Fm} (h:Wf w I' V' B' (As y.obs)) (hI:∀ b,I b→I' b) (hgl:GL w I) :
  Wf w I V' (fun g x=>B' g x∧CellsAt w x) (As y.obs):=by
 have hlv:∀ g,(As y.obs g).live→g=0∨g=1:=fun g h=>by
  match g with
  | 0=>exact .inl rfl
  | 1=>exact .inr rfl
  | g+2=>exact h.elim
 refine ⟨fun b hb=>h.ilt b (hI b hb),fun g hg=>?_,fun g b hg hb=>h.lt g b hg hb.1,fun g b hg hb hi=>h.dI g b hg hb.1 (hI b hi),fun g g' b hg hg' hb hb'=>h.dO g g' b hg hg' hb.1 hb'.1,fun g hf=>h.fr g hf,hgl⟩
 obtain ⟨val,hv,hr⟩:=h.obj g hg
 rcases hlv g hg with rfl | rfl
 ·have hr:RowR w I' (B' 0) 30 2 (y.atom.args.map Tm.o) val:=hr
  exact ⟨val,hv,(hr.noSh (Tm.noss _)).cells⟩
 ·have hr:RowR w I' (B' 1) 33 5 (y.parts.map Fm.o) val:=hr
  exact ⟨val,hv,(hr.noSh (Fm.noss _)).cells⟩
theorem DRep.strs {w:World} {I:Nat→Prop} {ns:List ByteArray} {a:Option Addr} {n c:Nat} (h:DRep false w I (.arr (ns.map fun s=>[D.str s])) (.slice a n c)) :
  n=ns.length∧(0<ns.length→∃ b off,a=some ⟨b,off,none⟩∧I b∧b<w.heap.size∧∀ j (h:j<ns.length),w.cell? ⟨b,off+j,none⟩=some (.string ns[j])):=by
 have hI:∀ b off,a=some ⟨b,off,none⟩→0<ns.length→I b:=fun b off ha hp=>by
  cases h with
  | arr S sz es a cap f Sub h1 h2 h3 h4 h5 h6 h7 =>
   rcases h3 with h3 | ⟨b',off',e,hS,_⟩
   ·rw [zM] at h3; omega
   ·rw [e] at ha
    injection ha with ha; injection ha with e1 e2
    rw [←e1]; exact hS
 obtain ⟨a',c',e,_,_,h0⟩:=h.slice_form
 injection e with e1 e2 e3
 subst e1 e2 e3
 rw [zM] at *
 refine ⟨rfl,fun hp=>?_⟩
 obtain ⟨b,off,rfl⟩:=h0 hp
 have hc:∀ j (hj:j<ns.length),w.cell? ⟨b,off+j,none⟩=some (.string ns[j]):=fun j hj=>by
  obtain ⟨v,h1,h2⟩:=h.leaf (k:=j) (j:=0) (by rw [zM]; exact hj) (by rw [zZ]; exact Nat.zero_lt_one)
  simp only [zZ,zK,zQ,yH] at h1 h2
  have hz:off+j*(0+1)+0=off+j:=by omega
  rw [hz] at h1
  cases h2
  exact h1
 refine ⟨b,off,rfl,hI b off rfl hp,?_,hc⟩
 ·obtain ⟨o,ho,_⟩:=cells_of_cell (hc 0 hp)
  exact (zV.1 ho).1
theorem RepVs.Pl {w:World} {I:Nat→Prop} {V:Nat→Option Value} {x:SV} {xs:List SV} {v:Value} {vs:List Value} (h:RepV w I V x v) (h2:RepVs w I V xs vs):RepVs w I V (x :: xs) (v :: vs):=by
 simp only [RepVs]
 exact ⟨v,vs,rfl,h,h2⟩
theorem RepVs.Ym {w:World} {I:Nat→Prop} {V:Nat→Option Value}:RepVs w I V [] []:=by simp only [RepVs]
theorem TH {W:World} {c:Nat} {T:TypeId} {fr:Nat × Nat} {u0 u1 u2 u3 u4:Value} {y0:Int} {y1:ByteArray} {v2:Value} {y3:ByteArray} {v4:Value} (h:W.heap[c]?=some (.cells #[u0,u1,u2,u3,u4] T fr)):(G4 W c y0 y1 v2 y3 v4).heap[c]?=some (.cells #[.int .i64 y0,.string y1,v2,.string y3,v4] T fr):=by
 unfold G4
 have h1:=Lib.heap_setCell_same (i:=0) h (.int .i64 y0)
 have h2:=Lib.heap_setCell_same (i:=1) h1 (.string y1)
 have h3:=Lib.heap_setCell_same (i:=2) h2 v2
 have h4:=Lib.heap_setCell_same (i:=3) h3 (.string y3)
 have h5:=Lib.heap_setCell_same (i:=4) h4 v4
 exact h5
theorem Oo (W:World) (c:Nat) (y0:Int) (y1:ByteArray) (v2:Value) (y3:ByteArray) (v4:Value):(G4 W c y0 y1 v2 y3 v4).heap.size=W.heap.size:=by unfold G4; simp
theorem SW (W:World) (c:Nat) (y0:Int) (y1:ByteArray) (v2:Value) (y3:ByteArray) (v4:Value):(G4 W c y0 y1 v2 y3 v4).os=W.os:=by unfold G4; rfl
theorem Oq (W:World) (c:Nat) (y0:Int) (y1:ByteArray) (v2:Value) (y3:ByteArray) (v4:Value):(G4 W c y0 y1 v2 y3 v4).tape=W.tape:=by unfold G4; rfl
theorem Q2 (W:World) (c:Nat) (y0:Int) (y1:ByteArray) (v2:Value) (y3:ByteArray) (v4:Value):(G4 W c y0 y1 v2 y3 v4).output=W.output:=by unfold G4; rfl
theorem Ic (W:World) (l:Nat) (o:Obj):(W.putObj l o).os=W.os∧(W.putObj l o).tape=W.tape∧(W.putObj l o).output=W.output:=⟨rfl,rfl,rfl⟩
theorem CellsAt.keep {w w':World} {x:Nat} (h:CellsAt w x) (hk:w'.heap[x]?=w.heap[x]?):CellsAt w' x:=by
 obtain ⟨u,h1,h2⟩:=h
 exact ⟨u,by rw [hk]; exact h1,h2⟩
def PAc (w:World) (I:Nat→Prop) (V:Nat→Option Value) (B:Nat→Nat→Prop) (x:Fm) (v0 v1 v2 v3 v4:Value) (W:World) (z0:Int) (z1:ByteArray) (s2:Value) (z3:ByteArray) (s4:Value):Prop :=
 z0=x.op∧z1=x.atom.name∧z3=x.var∧(∃ a n c,s2=.slice a n c)∧(∃ a n c,s4=.slice a n c)∧∃ I' V' B',RepV W I' V' x.osv (.agg #[.int .i64 z0,.string z1,s2,.string z3,s4])∧FunPost (wA w v0 v1 v2 v3 v4) I V B [] x.obs W I' V' B'
def PBc (w:World) (I:Nat→Prop) (V:Nat→Option Value) (B:Nat→Nat→Prop) (x:Fm) (ns:List ByteArray) (v0 v1 v2 v3 v4:Value) (W:World) (cB:Nat) (a:Option Addr) (n c:Nat):Prop :=
 ∃ W1 z0 z1 s2 z3 s4,PAc w I V B x v0 v1 v2 v3 v4 W1 z0 z1 s2 z3 s4∧cB=W1.heap.size∧∃ I2:Nat→Prop,(∀ b,I2 b→I b∨W1.heap.size+1≤b)∧(∀ b,I2 b→b<W.heap.size)∧DRep false W I2 (.arr (ns.map fun s=>[D.str s])) (.slice a n c)∧Fr (wB W1 z0 z1 s2 z3 s4) (fun _=>False) W
theorem IVc.own {w:World} {I:Nat→Prop} (hI:∀ b,I b→b<w.heap.size) {x:Fm} {cB Bs b B0:Nat} (h1:Bs<B0) (h2:b<B0) (h3:w.heap.size+2≤B0):OwnFrom B0 (IVc w I x cB Bs b):=by
 intro pre W W' row hs hg hrow
 obtain ⟨fr,z,lt,V',B',a2,n2,c2,a4,n4,c4,hbx,hrp,hwf,hB'⟩:=hs
 have kl:∀ k,k<B0→k<W.heap.size→W'.heap[k]?=W.heap[k]?:=fun k hk hl=>hg.block k hl fun e=>by have:=(hrow k e.symm).1; omega
 have kc:∀ u,CellsAt W u→W'.heap[u]?=W.heap[u]?:=fun u ⟨o,ho,hc⟩=>grownBy_keeps_cells hg (fun r e=>(hrow r e).2) ho hc
 have hsz:=fr.size
 have hkI:KeepS I W W':=⟨hg.size,fun k hk hl=>kl k (by have:=hI k hk; omega) hl⟩
 have hzl:=(zV.1 z).1
 refine ⟨⟨hg.os.trans fr.os,TapeOk.trans ⟨hg.tape,fun d=>d.elim⟩ fr.tape,hg.output.trans fr.output,Nat.le_trans hsz hg.size,fun k hk hn=>(kl k (by omega) (by omega)).trans (fr.block k hk hn)⟩,by rw [kl _ (by omega) hzl]; exact z,?_,V',B',a2,n2,c2,a4,n4,c4,?_,RepV.mono hkI (fun _ h=>h) (fun _ _ h=>h) _ _ hrp,hwf.kept hkI fun g u hl hu=>kc u (hB' g u hl hu).2,fun g u hl hu=>⟨(hB' g u hl hu).1,(hB' g u hl hu).2.keep (kc u (hB' g u hl hu).2)⟩⟩
 ·have:=hg.size; omega
 ·rw [kl _ (by omega) (by omega)]; exact hbx
theorem RT (x:Fm) (ns:List ByteArray) (hns:ns.length≤1048576) (hls:∀ s∈ns,Ff s=s)
  (hC:Fun Tryz.prog 100 [x.sv] [] x.osv x.obs)
  (hF:Fun Tryz.prog 48 [x.sv] [] (.arr (ns.map fun s=>[D.str s])) [])
  (hQ:∀ (n:ByteArray) (y:Fm),Fun Tryz.prog 93 [.int .i64 8,.str n,y.osv] y.obs (.agg [.int .i64 8,.str ⟨#[]⟩,.ref 2,.str n,.ref 3]) [.gone,.gone,.row 30 2 [],.row 33 5 [y.o]]) :
  Fun Tryz.prog 50 [x.sv] [] (Fm.cls ns x).osv (Fm.cls ns x).obs:=by
 intro w I V B vs hwf hvs
 have hvs0:=hvs
 obtain ⟨v,q,rfl,hv,hq⟩:=D5 hvs
 obtain rfl:=Lk hq
 simp only [RepV,RepVs] at hv
 obtain ⟨us,rfl,v0,q0,rfl,e0,v1,q1,rfl,e1,v2,q2,rfl,e2,v3,q3,rfl,e3,v4,q4,rfl,e4,rfl⟩:=hv
 clear e0 e1 e2 e3 e4 hq hvs
 have hIlt:=hwf.ilt
 have sA:(wA w v0 v1 v2 v3 v4).heap.size=w.heap.size+2:=by unfold wA; simp
 have kA:∀ b,b<w.heap.size→(wA w v0 v1 v2 v3 v4).heap[b]?=w.heap[b]?:=fun b hb=>by
  unfold wA
  rw [Below.heap_alloc _ _ _ (by simp; omega),Below.heap_alloc _ _ _ hb]
 have hkA:KeepS I w (wA w v0 v1 v2 v3 v4):=⟨by omega,fun b _ hl=>kA b hl⟩
 have pA:(wA w v0 v1 v2 v3 v4).heap[w.heap.size]?=some (.cells #[v0,v1,v2,v3,v4] 33 (0,0)):=by
  unfold wA
  rw [Below.heap_alloc _ _ _ (by simp)]
  exact World.alloc_heap_new w _
 have zA:(wA w v0 v1 v2 v3 v4).heap[w.heap.size+1]?=some (.cells z5 33 (0,0)):=by
  unfold wA
  have:=World.alloc_heap_new (w.alloc (.cells #[v0,v1,v2,v3,v4] 33)) (.cells z5 33)
  rwa [World.size_alloc] at this
 have frA:Fr w (fun _=>False) (wA w v0 v1 v2 v3 v4):=⟨rfl,TapeOk.mk' rfl rfl,rfl,by omega,fun b hb _=>kA b hb⟩
 have aF:∀ W z0 z1 s2 z3 s4,PAc w I V B x v0 v1 v2 v3 v4 W z0 z1 s2 z3 s4→w.heap.size+2≤W.heap.size∧(∀ b,b<w.heap.size+2→W.heap[b]?=(wA w v0 v1 v2 v3 v4).heap[b]?)∧Fr w (fun _=>False) W:=by
  rintro W z0 z1 s2 z3 s4 ⟨_,_,_,_,_,I',V',B',hr,hp⟩
  have h1:=hp.fr.size
  refine ⟨by omega,fun b hb=>hp.fr.block b (by omega) M0,⟨hp.fr.os.trans frA.os,TapeOk.trans hp.fr.tape frA.tape,hp.fr.output.trans frA.output,by omega,fun b hb _=>(hp.fr.block b (by omega) M0).trans (kA b hb)⟩⟩
 have bS:∀ (W:World) z0 z1 s2 z3 s4,(wB W z0 z1 s2 z3 s4).heap.size=W.heap.size+1:=fun W z0 z1 s2 z3 s4=>by unfold wB; simp
 have bK:∀ (W:World) z0 z1 s2 z3 s4 b,b<W.heap.size→(wB W z0 z1 s2 z3 s4).heap[b]?=W.heap[b]?:=fun W z0 z1 s2 z3 s4 b hb=>by unfold wB; exact Below.heap_alloc _ _ _ hb
 have bN:∀ (W:World) z0 z1 s2 z3 s4,(wB W z0 z1 s2 z3 s4).heap[W.heap.size]?=some (.cells #[.int .i64 z0,.string z1,s2,.string z3,s4] 33 (0,0)):=fun W z0 z1 s2 z3 s4=>by unfold wB; exact World.alloc_heap_new W _
 refine Q1 w v0 v1 v2 v3 v4 _ (PAc w I V B x v0 v1 v2 v3 v4) ?hA ?hAf (PBc w I V B x ns v0 v1 v2 v3 v4) ?hB ns (by omega) hls (IVc w I x) ?hPB ?hDone
 case hA =>
  refine (hC _ I V B _ (hwf.bare hkA) (RepVs.mono hkA (fun _ h=>h) (fun _ _ h=>h) _ _ hvs0)).mono ?_
  rintro e W' ⟨rv,I',V',B',rfl,hr,hp⟩
  obtain ⟨a2,n2,c2,a4,n4,c4,rfl⟩:=RS hr hp.wf
  exact ⟨_,_,_,_,_,_,_,_,_,rfl,rfl,rfl,rfl,⟨_,_,_,rfl⟩,⟨_,_,_,rfl⟩,I',V',B',hr,hp⟩
 case hAf =>
  intro W z0 z1 s2 z3 s4 hP
  obtain ⟨h1,h2,_⟩:=aF _ _ _ _ _ _ hP
  have hb:(wB W z0 z1 s2 z3 s4).heap[w.heap.size]?=some (.cells #[v0,v1,v2,v3,v4] 33 (0,0)):=by
   rw [bK _ _ _ _ _ _ _ (by omega),h2 _ (by omega)]; exact pA
  exact ⟨Bm hb 0,Bm hb 1,Bm hb 2,Bm hb 3,Bm hb 4⟩
 case hB =>
  intro W z0 z1 s2 z3 s4 hP
  obtain ⟨h1,h2,h3⟩:=aF _ _ _ _ _ _ hP
  have hs:=bS W z0 z1 s2 z3 s4
  have hk:KeepS I w (wB W z0 z1 s2 z3 s4):=⟨by omega,fun b _ hl=>by rw [bK _ _ _ _ _ _ _ (by omega)]; exact h3.block b hl id⟩
  refine (hF _ I V B _ (hwf.bare hk) (RepVs.mono hk (fun _ h=>h) (fun _ _ h=>h) _ _ hvs0)).mono ?_
  rintro e W' ⟨rv,I2,V2,B2,rfl,hr,hp⟩
  simp only [RepV] at hr
  obtain ⟨a,c,rfl,_⟩:=hr.slice_form
  refine ⟨a,_,c,rfl,W,z0,z1,s2,z3,s4,hP,rfl,I2,fun b hb=>?_,hp.wf.ilt,hr,⟨hp.fr.os,hp.fr.tape,hp.fr.output,hp.fr.size,fun b hb _=>hp.fr.block b hb M0⟩⟩
  rcases hp.i1 b hb with h | h | h
  ·exact .inl h
  ·exact .inr (by omega)
  ·exact (M0 h).elim
 case hPB =>
  rintro W cB a n c ⟨W1,z0,z1,s2,z3,s4,hP,rfl,I2,hI2,hI2l,hD,hfr⟩
  obtain ⟨h1,h2,h3⟩:=aF _ _ _ _ _ _ hP
  have hs:=bS W1 z0 z1 s2 z3 s4
  have hs2:=hfr.size
  obtain ⟨W3,hW3⟩:∃ W3,W3=W.alloc (.cells #[.slice a n c] 55):=⟨_,rfl⟩
  have s3:W3.heap.size=W.heap.size+1:=by rw [hW3]; simp
  have k3:∀ b,b<W.heap.size→W3.heap[b]?=W.heap[b]?:=fun b hb=>by rw [hW3]; exact Below.heap_alloc _ _ _ hb
  rw [←hW3]
  obtain ⟨hn,hD2⟩:=hD.strs
  have hbb:∃ b,(b<w.heap.size+2∨W1.heap.size<b)∧b<W.heap.size∧Pk W3 (.slice a n c) ns b:=by
   rcases yB ns.length with h0 | h0
   ·exact ⟨w.heap.size,.inl (by omega),by omega,.inl ⟨zE h0,a,c,by rw [hn,h0]⟩⟩
   ·obtain ⟨b,off,rfl,hb1,hb2,hb3⟩:=hD2 h0
    refine ⟨b,?_,hb2,.inr ⟨off,c,by rw [hn],fun j hj=>?_⟩⟩
    ·rcases hI2 b hb1 with h | h
     ·have:=hIlt b h; exact .inl (by omega)
     ·exact .inr (by omega)
    ·rw [World.cell?_of_block (w:=W) (w':=W3) (a:=⟨b,off+j,none⟩) (k3 b hb2),zL hj]
     exact hb3 j hj
  obtain ⟨b,hb1,hb2,hN⟩:=hbb
  refine ⟨by omega,b,by omega,hN,IVc.own hIlt (by omega) (by omega) (by omega),?_,?_⟩
  ·
   obtain ⟨rfl,rfl,rfl,⟨a2,n2,c2,rfl⟩,⟨a4,n4,c4,rfl⟩,I',V',B',hr,hp⟩:=hP
   have kW:∀ k,k<W1.heap.size→W3.heap[k]?=W1.heap[k]?:=fun k hk=>by
    rw [k3 k (by omega),hfr.block k (by omega) id,bK _ _ _ _ _ _ _ hk]
   have hkI:KeepS I W1 W3:=⟨by omega,fun k hk hl=>kW k hl⟩
   have hgl:GL W1 I:=hwf.gl.keep ⟨h3.size,fun k _ hl=>h3.block k hl id⟩ fun _ h=>h
   have hown:=Wf.own hp.wf hp.i0 hgl
   have hbx:W3.heap[W1.heap.size]?=some (.cells #[.int .i64 x.op,.string x.atom.name,.slice a2 n2 c2,.string x.var,.slice a4 n4 c4] 33 (0,0)):=by
    rw [k3 _ (by omega),hfr.block _ (by omega) id]
    exact bN _ _ _ _ _ _
   obtain ⟨s2,s4,he,e2,e4,g1,g3⟩:=On hr
   injection he with he
   injection he with he
   simp only [zW,and_true,true_and] at he
   obtain ⟨rfl,rfl⟩:=he
   refine ⟨⟨?_,?_,?_,?_,?_⟩,?_,by omega,V',fun g u=>B' g u∧CellsAt W1 u,a2,n2,c2,a4,n4,c4,hbx,?_,hown.kept hkI fun g u hl hu=>kW u (hp.wf.lt g u hl hu.1),fun g u hl hu=>?_⟩
   ·rw [hW3]; exact hfr.os.trans h3.os
   ·rw [hW3]; exact TapeOk.trans (b:=wB W1 _ _ _ _ _) ⟨hfr.tape.1,fun d=>d.elim⟩ ⟨h3.tape.1,fun d=>d.elim⟩
   ·rw [hW3]; exact hfr.output.trans h3.output
   ·omega
   ·intro k hk hn'
    rw [kW k (by omega)]
    exact h3.block k hk id
   ·rw [kW _ (by omega),h2 _ (by omega)]; exact zA
   ·show RepV W3 I V' (.agg [.int .i64 x.op,.str x.atom.name,.ref 0,.str x.var,.ref 1]) _
    simp only [RepV,RepVs]
    exact ⟨_,rfl,_,_,rfl,rfl,_,_,rfl,⟨rfl,g1⟩,_,_,rfl,⟨e2,rfl⟩,_,_,rfl,⟨rfl,g3⟩,_,_,rfl,⟨e4,rfl⟩,rfl⟩
   ·have hlt:=hp.wf.lt g u hl hu.1
    have hge:w.heap.size+2≤u:=by
     rcases hp.bh g u hl hu.1 with h | h
     ·exact (M0 h).elim
     ·omega
    exact ⟨by omega,hu.2.keep (kW u hlt)⟩
  ·
   intro lb t0 t1 t2 t4 t6 t7 t8 t9 t10 t11 t12 pre xx W' hIV hlen
   obtain ⟨fr,z,lt,V',B',a2,n2,c2,a4,n4,c4,hbx,hrp,hwf',hB'⟩:=hIV
   have hcl:=TG pre xx x
   obtain ⟨y,hy⟩:∃ y,y=IF pre x:=⟨_,rfl⟩
   rw [←hy] at hbx hrp hwf' hB' hcl
   have nHB:∀ k,HB B' y.obs k→(w.heap.size+2≤k∧k≠W1.heap.size∧k≠W.heap.size∧k≠b)∧CellsAt W' k:=fun k ⟨g,hl,hu⟩=>hB' g k hl hu
   refine Vn lb 3 (by omega) W1.heap.size (Ff xx.2) _ _ _ _ _ t0 t1 t2 t4 t6 t7 t8 t9 t10 W' (Bm hbx 0) (Bm hbx 1) (Bm hbx 2) (Bm hbx 3) (Bm hbx 4)
    (fun W'' y0 y1 p2 m2 d2 y3 p4 m4 d4=>y0=8∧y1=⟨#[]⟩∧y3=Ff xx.2∧∃ I'' V'' B'',V'' 2=some (.slice p2 m2 d2)∧V'' 3=some (.slice p4 m4 d4)∧FunPost W' I V' B' y.obs [.gone,.gone,.row 30 2 [],.row 33 5 [y.o]] W'' I'' V'' B'') ?_ ?_ _ t11 t12 ?_
   ·refine (hQ (Ff xx.2) y W' I V' B' [.int .i64 8,.string (Ff xx.2),_] hwf' (RepVs.Pl (by simp only [RepV]) (RepVs.Pl (by simp only [RepV,true_and]; exact Ol _) (RepVs.Pl hrp RepVs.Ym)))).mono ?_
    rintro e W'' ⟨rv,I'',V'',B'',rfl,hr,hp⟩
    simp only [RepV,RepVs] at hr
    obtain ⟨us,rfl,_,_,rfl,rfl,_,_,rfl,⟨rfl,_⟩,s2',_,rfl,⟨k2,_⟩,_,_,rfl,⟨rfl,_⟩,s4',_,rfl,⟨k4,_⟩,rfl⟩:=hr
    obtain ⟨u2,e2,r2⟩:=hp.wf.obj 2 trivial
    obtain ⟨u4,e4,r4⟩:=hp.wf.obj 3 trivial
    rw [k2] at e2
    rw [k4] at e4
    obtain rfl:=zF e2
    obtain rfl:=zF e4
    have r2:RowR W'' I'' (B'' 2) 30 2 [] s2':=r2
    have r4:RowR W'' I'' (B'' 3) 33 5 [y.o] s4':=r4
    obtain ⟨p2,d2,rfl,_⟩:=r2.form
    obtain ⟨p4,d4,rfl,_⟩:=r4.form
    exact ⟨_,_,_,_,_,_,_,_,_,rfl,rfl,rfl,rfl,I'',V'',B'',k2,k4,hp⟩
   ·rintro W'' y0 y1 p2 m2 d2 y3 p4 m4 d4 ⟨_,_,_,I'',V'',B'',_,_,hp⟩
    have hb:W''.heap[W1.heap.size]?=W'.heap[W1.heap.size]?:=hp.fr.block _ (by omega) fun h=>(nHB _ h).1.2.1 rfl
    rw [hbx] at hb
    exact ⟨Bm hb 0,Bm hb 1,Bm hb 2,Bm hb 3,Bm hb 4,fun i _=>by simp [World.frozen?,hb]⟩
   ·rintro act W'' y0 y1 p2 m2 d2 y3 p4 m4 d4 ⟨rfl,rfl,rfl,I'',V'',B'',k2,k4,hp⟩
    have hb:W''.heap[W1.heap.size]?=W'.heap[W1.heap.size]?:=hp.fr.block _ (by omega) fun h=>(nHB _ h).1.2.1 rfl
    rw [hbx] at hb
    have sz5:=Oo W'' W1.heap.size 8 ⟨#[]⟩ (.slice p2 m2 d2) (Ff xx.2) (.slice p4 m4 d4)
    have hsz:=hp.fr.size
    have k5:∀ k,k≠W1.heap.size→(G4 W'' W1.heap.size 8 ⟨#[]⟩ (.slice p2 m2 d2) (Ff xx.2) (.slice p4 m4 d4)).heap[k]?=W''.heap[k]?:=fun k hk=>KC _ hk
    have kk:∀ k,k<W'.heap.size→¬ HB B' y.obs k→k≠W1.heap.size→(G4 W'' W1.heap.size 8 ⟨#[]⟩ (.slice p2 m2 d2) (Ff xx.2) (.slice p4 m4 d4)).heap[k]?=W'.heap[k]?:=fun k hk hn hc=>(k5 k hc).trans (hp.fr.block k hk hn)
    have hgl:GL W'' I:=hwf'.gl.keep ⟨hsz,fun k hk hl=>hp.fr.block k hl fun h=>by have:=(nHB k h).1.1; have:=hIlt k hk; omega⟩ fun _ h=>h
    have hnx:=Wf.next hp.wf hp.i0 rfl (by simp only [OT.Cg,Fm.no,zH]) hgl
    have hbh:∀ g u,(As [Ob.row 30 2 [],.row 33 5 [y.o]] g).live→B'' (g+2) u→w.heap.size+2≤u∧u≠W1.heap.size∧u≠W.heap.size∧u≠b:=fun g u hl hu=>by
     rcases hp.bh (g+2) u hl hu with h | h
     ·exact (nHB u h).1
     ·have:=lt; omega
    have hkI:KeepS I W'' (G4 W'' W1.heap.size 8 ⟨#[]⟩ (.slice p2 m2 d2) (Ff xx.2) (.slice p4 m4 d4)):=⟨by omega,fun k hk hl=>k5 k (by have:=hIlt k hk; omega)⟩
    refine ⟨⟨by omega,fun k o hk ho=>?_⟩,⟨?_,?_⟩,?_⟩
    ·rw [kk k (zV.1 hk).1 (fun h=>?_) (fun h=>?_)]
     ·exact hk
     ·obtain ⟨u,hu1,hu2⟩:=(nHB k h).2
      rw [hk] at hu1
      obtain rfl:=zF hu1
      rw [ho] at hu2; cases hu2
     ·rw [h,hbx] at hk
      obtain rfl:=zF hk
      cases ho
    ·exact kk _ (by omega) (fun h=>(nHB _ h).1.2.2.1 rfl) (by omega)
    ·exact kk _ (by omega) (fun h=>(nHB _ h).1.2.2.2 rfl) (by omega)
    ·refine ⟨⟨?_,?_,?_,?_,?_⟩,?_,by omega,fun g=>V'' (g+2),fun g u=>B'' (g+2) u∧CellsAt W'' u,p2,m2,d2,p4,m4,d4,?_,?_,?_,?_⟩
     ·exact (SW W'' _ _ _ _ _ _).trans (hp.fr.os.trans fr.os)
     ·exact ⟨(Oq W'' _ _ _ _ _ _).trans (hp.fr.tape.1.trans fr.tape.1),fun d=>d.elim⟩
     ·exact (Q2 W'' _ _ _ _ _ _).trans (hp.fr.output.trans fr.output)
     ·have:=fr.size; omega
     ·intro k hk hn'
      have:=fr.size
      rw [kk k (by omega) (fun h=>by have:=(nHB k h).1.1; omega) (by omega)]
      exact fr.block k hk hn'
     ·rw [kk _ (by omega) (fun h=>by have:=(nHB _ h).1.1; omega) (by omega)]; exact z
     ·rw [hcl]
      exact TH hb
     ·rw [hcl]
      show RepV _ I _ (.agg [.int .i64 8,.str ⟨#[]⟩,.ref 0,.str (Ff xx.2),.ref 1]) _
      simp only [RepV,RepVs]
      exact ⟨_,rfl,_,_,rfl,rfl,_,_,rfl,⟨rfl,zT _⟩,_,_,rfl,⟨k2,rfl⟩,_,_,rfl,⟨rfl,Ol _⟩,_,_,rfl,⟨k4,rfl⟩,rfl⟩
     ·rw [hcl]
      exact hnx.kept hkI fun g u hl hu=>k5 u (hbh g u hl hu.1).2.1
     ·rw [hcl]
      intro g u hl hu
      exact ⟨hbh g u hl hu.1,hu.2.keep (k5 u (hbh g u hl hu.1).2.1)⟩
 case hDone =>
  rintro cB Bs b W ⟨fr,z,lt,V',B',a2,n2,c2,a4,n4,c4,hbx,hrp,hwf',hB'⟩
  rw [Vp ns hls x] at hbx hrp hwf' hB'
  refine ⟨_,_,a2,n2,c2,_,a4,n4,c4,⟨Bm hbx 0,Bm hbx 1,Bm hbx 2,Bm hbx 3,Bm hbx 4⟩,z,fun D hD hK=>?_⟩
  have sz5:=Oo W (w.heap.size+1) (Fm.cls ns x).op (Fm.cls ns x).atom.name (.slice a2 n2 c2) (Fm.cls ns x).var (.slice a4 n4 c4)
  obtain ⟨W5,hW5⟩:∃ W5,W5=(G4 W (w.heap.size+1) (Fm.cls ns x).op (Fm.cls ns x).atom.name (.slice a2 n2 c2) (Fm.cls ns x).var (.slice a4 n4 c4)).putObj D (.deferred none):=⟨_,rfl⟩
  rw [←hW5]
  have s5:W5.heap.size=W.heap.size:=by rw [hW5,← sz5]; simp
  have k5:∀ k,k≠w.heap.size+1→k≠D→W5.heap[k]?=W.heap[k]?:=fun k h1 h2=>by
   rw [hW5,World.putObj_heap_other (by omega)]
   exact KC _ h1
  have o5:W5.os=W.os:=by rw [hW5,(Ic _ _ _).1,SW]
  have t5:W5.tape=W.tape:=by rw [hW5,(Ic _ _ _).2.1,Oq]
  have u5:W5.output=W.output:=by rw [hW5,(Ic _ _ _).2.2,Q2]
  clear hW5
  have hsz:=fr.size
  have hkI:KeepS I W W5:=⟨by omega,fun k hk hl=>k5 k (by have:=hIlt k hk; omega) (by have:=hIlt k hk; omega)⟩
  have hVn:∀ g,V g=none:=fun g=>hwf.fr g (by cases g <;> rfl)
  refine ⟨_,I,V',B',rfl,RepV.mono hkI (fun _ h=>h) (fun _ _ h=>h) _ _ hrp,⟨⟨?_,?_,?_,by omega,fun k hk _=>?_⟩,fun _ h=>h,fun _ h=>.inl h,fun g u hu=>?_,hwf'.kept hkI fun g u hl hu=>k5 u ?_ ?_,fun g u hl hu=>?_⟩⟩
  ·exact o5.trans fr.os
  ·exact ⟨t5.trans fr.tape.1,fun d=>d.elim⟩
  ·exact u5.trans fr.output
  ·rw [k5 k (by omega) (by omega)]; exact fr.block k hk id
  ·rw [hVn] at hu; cases hu
  ·have:=(hB' g u hl hu).1.1; omega
  ·intro e
   obtain ⟨o,ho,hc⟩:=(hB' g u hl hu).2
   rw [e,hK] at ho
   obtain rfl:=zF ho
   cases hc
  ·have:=(hB' g u hl hu).1.1
   exact .inr (by omega)
mutual
theorem Tm.d_inj:∀ x y:Tm,Tm.d x=Tm.d y→x=y
 | .mk n xs,.mk m ys,h=>by
  rw [Tm.d_eq,Tm.d_eq] at h
  simp only [zW,D.str.injEq,D.arr.injEq,and_true] at h
  have h1:n=m:=h.1
  rw [h1,Tm.ds_inj xs ys h.2]
theorem Tm.ds_inj:∀ xs ys:List Tm,xs.map Tm.d=ys.map Tm.d→xs=ys
 | [],[],_=>rfl
 | [],y :: ys,h=>by simp at h
 | x :: xs,[],h=>by simp at h
 | x :: xs,y :: ys,h=>by
  simp only [zC,zW] at h
  rw [Tm.d_inj x y h.1,Tm.ds_inj xs ys h.2]
end
mutual
theorem Fm.d_inj:∀ x y:Fm,Fm.d x=Fm.d y→x=y
 | .mk op at_ var xs,.mk op' at' var' ys,h=>by
  rw [Fm.d_eq,Fm.d_eq] at h
  simp only [zW,D.int.injEq,D.str.injEq,D.arr.injEq,and_true] at h
  obtain ⟨h1,h2,h3,h4,h5⟩:=h
  have h1:op=op':=h1
  have h4:var=var':=h4
  have ha:at_=at':=Tm.d_inj at_ at' (by
   have h2:at_.name=at'.name:=h2
   have h3:at_.args.map Tm.d=at'.args.map Tm.d:=h3
   rw [Tm.d_eq,Tm.d_eq,h2,h3])
  rw [h1,h4,ha,Fm.ds_inj xs ys h5]
theorem Fm.ds_inj:∀ xs ys:List Fm,xs.map Fm.d=ys.map Fm.d→xs=ys
 | [],[],_=>rfl
 | [],y :: ys,h=>by simp at h
 | x :: xs,[],h=>by simp at h
 | x :: xs,y :: ys,h=>by
  simp only [zC,zW] at h
  rw [Fm.d_inj x y h.1,Fm.ds_inj xs ys h.2]
end
theorem Fm.Yn {x y:Fm} (h:x.sv=y.sv):x=y:=by
 refine Fm.d_inj x y ?_
 rw [Fm.d_eq,Fm.d_eq]
 have h:SV.agg [.int .i64 x.op,.str x.atom.name,.arr (x.atom.args.map Tm.d),.str x.var,.arr (x.parts.map Fm.d)]=SV.agg [.int .i64 y.op,.str y.atom.name,.arr (y.atom.args.map Tm.d),.str y.var,.arr (y.parts.map Fm.d)]:=h
 simp only [SV.agg.injEq,zW,SV.int.injEq,SV.str.injEq,SV.arr.injEq,true_and,and_true] at h
 obtain ⟨h1,h2,h3,h4,h5⟩:=h
 rw [h1,h2,h3,h4,h5]
def M1 (x:Fm):Prop :=
 x.free.length≤1048576∧(∀ s∈x.free,Ff s=s)∧Fun Tryz.prog 100 [x.sv] [] x.osv x.obs∧Fun Tryz.prog 48 [x.sv] [] (.arr (x.free.map fun s=>[D.str s])) [] ∧
   ∀ (n:ByteArray) (y:Fm),Fun Tryz.prog 93 [.int .i64 8,.str n,y.osv] y.obs (.agg [.int .i64 8,.str ⟨#[]⟩,.ref 2,.str n,.ref 3]) [.gone,.gone,.row 30 2 [],.row 33 5 [y.o]]
noncomputable def Hx (xs:List SV) (ob:List Ob):Option (SV × List Ob) :=
 match ob with
 | []=>open Classical in if h:∃ x:Fm,xs=[x.sv]∧M1 x then some ((Fm.cls h.choose.free h.choose).osv,(Fm.cls h.choose.free h.choose).obs) else none
 | _=>none
theorem RU (x:Fm) (h:M1 x):Hx [x.sv] []=some ((Fm.cls x.free x).osv,(Fm.cls x.free x).obs):=by
 have h0:∃ y:Fm,[x.sv]=[y.sv]∧M1 y:=⟨x,rfl,h⟩
 have e:x=h0.choose:=Fm.Yn (List.cons.inj h0.choose_spec.1).1
 unfold Hx
 simp only
 rw [dif_pos h0,← e]
theorem Pm {xs:List SV} {ob:List Ob} {r:SV} {ob':List Ob} (h:Hx xs ob=some (r,ob')):Fun Tryz.prog 50 xs ob r ob':=by
 unfold Hx at h
 split at h
 ·split at h
  ·rename_i h0
   have hs:=h0.choose_spec
   generalize h0.choose=y at hs h
   obtain ⟨h1,h2,h3,h4,h5,h6⟩:=hs
   simp only [zD,zG] at h
   obtain ⟨rfl,rfl⟩:=h
   rw [h1]
   exact RT _ _ h2 h3 h4 h5 h6
  ·cases h
 ·cases h
end Go.Proofs.YtfgkiemoglcppaaGreat
set_option maxRecDepth 100000
set_option linter.unusedSimpArgs false
set_option linter.unusedVariables false
set_option linter.unusedSectionVars false
namespace Go.Proofs.YtfgkiemoglcppaaGreat
open Go.RowKit
def SY:List (Nat × FM)→Nat→FM
 | [],_=>⟨[],.asis,none,false⟩
 | (f,m) :: r,g=>bif f == g then m else SY r g
theorem TI {l:List (Nat × FM)} {f:Nat} {g:List SV→List Ob→Option (SV × List Ob)} (h:(SY l f).ext=some g):∃ m,(f,m)∈l∧m.ext=some g:=by
 induction l with
 | nil=>cases h
 | cons x r ih =>
  obtain ⟨f',m⟩:=x
  simp only [SY] at h
  cases e:f' == f with
  | true =>
   rw [e] at h
   obtain rfl:f'=f:=by simpa using e
   exact ⟨m,by simp,h⟩
  | false =>
   rw [e] at h
   obtain ⟨m',h1,h2⟩:=ih h
   exact ⟨m',by simp [h1],h2⟩
noncomputable def ZB:List SV→Option SV
 | [.int .i64 k]=>bif dec (1≤k)&&dec (k≤1099511627776) then some (.str (Zj k)) else none
 | _=>none
def Vq:List SV→Option SV
 | [.str s]=>some (.bool (Cf s))
 | _=>none
theorem TJ {xs:List SV} {r:SV} (h:Vq xs=some r):Fun Tryz.prog 59 xs [] r []:=by
 unfold Vq at h
 split at h
 ·rename_i s
  obtain rfl:=zF h
  refine Fun.of_same (rv:=.bool (Cf s)) (fun w I V=>by simp only [RepV]) fun w I V vs h=>?_
  obtain ⟨v,r,rfl,h3,h⟩:=D5 h
  obtain rfl:=Lk h
  obtain ⟨rfl,h4⟩:=JO h3
  exact Mw s w h4
 ·cases h
def Vr:List SV→Option SV
 | [.str s]=>some (.bool (Cf s))
 | _=>none
theorem TK {xs:List SV} {r:SV} (h:Vr xs=some r):Fun Tryz.prog 77 xs [] r []:=by
 unfold Vr at h
 split at h
 ·rename_i s
  obtain rfl:=zF h
  refine Fun.of_same (rv:=.bool (Cf s)) (fun w I V=>by simp only [RepV]) fun w I V vs h=>?_
  obtain ⟨v,r,rfl,h3,h⟩:=D5 h
  obtain rfl:=Lk h
  obtain ⟨rfl,h4⟩:=JO h3
  exact TE s w h4
 ·cases h
def Vs:List SV→Option SV
 | [.str s]=>some (.bool (DB s))
 | _=>none
theorem TL {xs:List SV} {r:SV} (h:Vs xs=some r):Fun Tryz.prog 110 xs [] r []:=by
 unfold Vs at h
 split at h
 ·rename_i s
  obtain rfl:=zF h
  refine Fun.RI (rv:=.bool (DB s)) (fun w I V=>by simp only [RepV]) fun w I V vs h=>?_
  obtain ⟨v,r,rfl,h3,h⟩:=D5 h
  obtain rfl:=Lk h
  obtain ⟨rfl,h4⟩:=JO h3
  exact Ph s w h4
 ·cases h
def Vt:List SV→Option SV
 | [.str s]=>some (.bool (DB s))
 | _=>none
theorem TM {xs:List SV} {r:SV} (h:Vt xs=some r):Fun Tryz.prog 122 xs [] r []:=by
 unfold Vt at h
 split at h
 ·rename_i s
  obtain rfl:=zF h
  refine Fun.of_same (rv:=.bool (DB s)) (fun w I V=>by simp only [RepV]) fun w I V vs h=>?_
  obtain ⟨v,r,rfl,h3,h⟩:=D5 h
  obtain rfl:=Lk h
  obtain ⟨rfl,h4⟩:=JO h3
  exact Pi s w h4
 ·cases h
noncomputable def modes:FuncId→FM:=SY [(59,⟨[],.asis,some (JN Vq),false⟩),(77,⟨[],.asis,some (JN Vr),false⟩),(110,⟨[],.asis,some (JN Vs),false⟩),(122,⟨[],.asis,some (JN Vt),false⟩),(129,⟨[],.asis,some (JN Oh),false⟩),(99,⟨[true],.asis,some sortStr,false⟩),(50,⟨[],.asis,some Hx,false⟩),(134,⟨[],.asis,some KA,false⟩),(191,⟨[],.own [some (30,2)],none,false⟩),(132,⟨[],.own [none,some (30,2)],none,false⟩),(96,⟨[],.own [none,some (30,2)],none,false⟩),(159,⟨[true],.asis,none,false⟩),(137,⟨[],.own [none,none,some (30,2),none,some (33,5)],none,false⟩),(100,⟨[],.own [none,none,some (30,2),none,some (33,5)],none,false⟩),(93,⟨[false,false,true],.own [none,none,some (30,2),none,some (33,5)],none,false⟩),(94,⟨[true],.own [none,none,some (30,2),none,some (33,5)],none,false⟩),(97,⟨[true],.own [none,none,some (30,2),none,some (33,5)],none,false⟩),(131,⟨[false,true,true],.own [none,none,some (30,2),none,some (33,5)],none,false⟩),(49,⟨[true],.own [none,none,some (30,2),none,some (33,5),none],none,false⟩),(23,⟨[],.own [none,none,some (30,2),none,some (33,5),none],none,false⟩),(98,⟨[true],.asis,none,false⟩),(89,⟨[],.frz,none,false⟩),(45,⟨[],.own [none,none,some (30,2),none,some (33,5)],none,false⟩),(95,⟨[],.own [none,none,some (30,2),none,some (33,5)],none,false⟩),(22,⟨[],.frz,none,false⟩),(17,⟨[],.frz,none,false⟩),(19,⟨[],.own [none,none,some (30,2),none,some (33,5),none],none,false⟩),(48,⟨[],.frz,none,false⟩),(140,⟨[],.half [none,some (30,2)],none,false⟩),(104,⟨[],.half [none,some (30,2)],none,false⟩),(139,⟨[],.half [none,some (30,2)],none,false⟩),(105,⟨[],.half [none,some (30,2)],none,false⟩),(106,⟨[],.half [none,some (30,2)],none,false⟩),(57,⟨[],.half [none,some (30,2)],none,false⟩),(103,⟨[],.half [none,none,some (30,2),none,some (33,5)],none,false⟩),(56,⟨[],.half [none,none,some (30,2),none,some (33,5)],none,false⟩),(27,⟨[],.half [none,none,some (30,2),none,some (33,5)],none,false⟩),(15,⟨[],.frz,none,false⟩)]
theorem noExt {l:List (Nat × FM)} (h:(l.all fun p=>p.2.ext.isNone)=true) {f:Nat} {m:FM} {g:List SV→List Ob→Option (SV × List Ob)} (h1:(f,m)∈l) (h2:m.ext=some g):False:=by
 have h3:=yF.1 h _ h1
 rw [h2] at h3
 cases h3
theorem RV:LA Tryz.prog modes:=by
 intro f g xs ob r ob' hg hx
 obtain ⟨m,h1,h2⟩:=TI hg
 rcases zU.1 h1 with h1 | h1
 ·obtain ⟨rfl,rfl⟩:=yN h1
  obtain rfl:=zF h2
  exact GY TJ hx
 rcases zU.1 h1 with h1 | h1
 ·obtain ⟨rfl,rfl⟩:=yN h1
  obtain rfl:=zF h2
  exact GY TK hx
 rcases zU.1 h1 with h1 | h1
 ·obtain ⟨rfl,rfl⟩:=yN h1
  obtain rfl:=zF h2
  exact GY TL hx
 rcases zU.1 h1 with h1 | h1
 ·obtain ⟨rfl,rfl⟩:=yN h1
  obtain rfl:=zF h2
  exact GY TM hx
 rcases zU.1 h1 with h1 | h1
 ·obtain ⟨rfl,rfl⟩:=yN h1
  obtain rfl:=zF h2
  exact GY RL hx
 rcases zU.1 h1 with h1 | h1
 ·obtain ⟨rfl,rfl⟩:=yN h1
  obtain rfl:=zF h2
  exact Pj hx
 rcases zU.1 h1 with h1 | h1
 ·obtain ⟨rfl,rfl⟩:=yN h1
  obtain rfl:=zF h2
  exact Pm hx
 rcases zU.1 h1 with h1 | h1
 ·obtain ⟨rfl,rfl⟩:=yN h1
  obtain rfl:=zF h2
  exact Qz hx
 exact (noExt rfl h1 h2).elim
noncomputable def E:FEnv:=ev Tryz.prog modes
noncomputable def calls:CallF:=CR modes E
theorem Pn {f:FuncId} {xs:List SV} {ob:List Ob} {r:SV} {ob':List Ob} (h:E f xs ob=some (r,ob')):Fun Tryz.prog f xs ob r ob':=Xg Yi RV f xs ob r ob' h
noncomputable def run (n0:Nat):SC→St→Option (X × St):=fr Tryz.prog calls (Jq n0)
def go (n0:Nat) (sc:SC) (st:St) (K:X→St→Prop):Prop:=∃ x st',run n0 sc st=some (x,st')∧K x st'
def Xn (n0:Nat) (b:SC) (K:X→St→Prop):X→St→Prop
 | .normal,st=>go n0 b st K
 | .exit i,st=>K (.exit i) st
 | .ret,st=>K .ret st
def blk (id:Nat) (K:X→St→Prop):X→St→Prop
 | .normal,st=>K .normal st
 | .exit i,st=>if i=id then K .normal st else K (.exit i) st
 | .ret,st=>K .ret st
def Vu (r:Option St) (k:X→St→Prop):Prop :=
 match r with
 | some st=>k .normal st
 | none=>False
def Vv (anc:List (List Nat)) (r:Option (List Ent × St)) (k:X→St→Prop):Prop :=
 match r with
 | some (es,st)=>obB anc [] (Jf es) 0=true∧k .normal st
 | none=>False
def M2 (v:SV) (a b:Unit→Prop):Prop :=
 match v with
 | .bool true=>a ()
 | .bool false=>b ()
 | _=>False
noncomputable def RW (ops:List SOper) (st:St):Option St:=Me Tryz.prog calls ops st
noncomputable def RY (ops:List SOper) (acc:List Ent) (st:St):Option (List Ent × St):=GS Tryz.prog calls ops acc st
section
variable {n0:Nat} {st:St} {K:X→St→Prop}
theorem go_skip:go n0 .skip st K=K .normal st:=by
 refine propext ⟨fun ⟨x,st',h,k⟩=>?_,fun k=>⟨_,_,rfl,k⟩⟩
 obtain ⟨rfl,rfl⟩:X.normal=x∧st=st':=by simpa [run,fr] using h
 exact k
theorem Xo {i:Nat}:go n0 (.exit i) st K=K (.exit i) st:=by
 refine propext ⟨fun ⟨x,st',h,k⟩=>?_,fun k=>⟨_,_,rfl,k⟩⟩
 obtain ⟨rfl,rfl⟩:X.exit i=x∧st=st':=by simpa [run,fr] using h
 exact k
theorem go_ret:go n0 .ret st K=K .ret st:=by
 refine propext ⟨fun ⟨x,st',h,k⟩=>?_,fun k=>⟨_,_,rfl,k⟩⟩
 obtain ⟨rfl,rfl⟩:X.ret=x∧st=st':=by simpa [run,fr] using h
 exact k
theorem Yo {ops:List SOper}:go n0 (.reg ops) st K=Vu (RW ops st) K:=by
 unfold Vu RW
 refine propext ⟨fun ⟨x,st',h,k⟩=>?_,fun k=>?_⟩
 ·simp only [run,fr] at h
  split at h
  ·rename_i s hs
   simp only [zD,zG] at h
   obtain ⟨rfl,rfl⟩:=h
   first | exact k | (simp only [hs]; exact k)
  ·cases h
 ·split at k
  ·rename_i s hs
   exact ⟨.normal,s,by simp only [run,fr,hs],k⟩
  ·exact k.elim
theorem Xp {anc:List (List Nat)} {ops:List SOper}:go n0 (.dreg anc ops) st K=Vv anc (RY ops [] st) K:=by
 unfold Vv RY
 refine propext ⟨fun ⟨x,st',h,k⟩=>?_,fun k=>?_⟩
 ·simp only [run,fr] at h
  split at h
  ·rename_i es s hs
   obtain ⟨h1,h2⟩:=Au h
   simp only [zD,zG] at h2
   obtain ⟨rfl,rfl⟩:=h2
   first | exact ⟨h1,k⟩ | (simp only [hs]; exact ⟨h1,k⟩)
  ·cases h
 ·split at k
  ·rename_i es s hs
   exact ⟨.normal,s,by simp only [run,fr,hs,k.1,cond_true],k.2⟩
  ·exact k.elim
theorem Yp {a b:SC}:go n0 (.seq a b) st K=go n0 a st (Xn n0 b K):=by
 refine propext ⟨fun ⟨x,st',h,k⟩=>?_,fun ⟨x,st',h,k⟩=>?_⟩
 ·simp only [run,fr,CK] at h
  split at h
  ·rename_i s hs
   exact ⟨.normal,s,hs,x,st',h,k⟩
  ·rename_i i s hs
   simp only [zD,zG] at h
   obtain ⟨rfl,rfl⟩:=h
   exact ⟨_,_,hs,k⟩
  ·rename_i s hs
   simp only [zD,zG] at h
   obtain ⟨rfl,rfl⟩:=h
   exact ⟨_,_,hs,k⟩
  ·cases h
 ·simp only [run] at h
  cases x with
  | normal =>
   obtain ⟨x2,st2,h2,k2⟩:=k
   exact ⟨x2,st2,by simp only [run,fr,CK,h]; exact h2,k2⟩
  | exit i=>exact ⟨_,st',by simp only [run,fr,CK,h],k⟩
  | ret=>exact ⟨_,st',by simp only [run,fr,CK,h],k⟩
theorem Vw {id:Nat} {b:SC}:go n0 (.block id b) st K=go n0 b st (blk id K):=by
 refine propext ⟨fun ⟨x,st',h,k⟩=>?_,fun ⟨x,st',h,k⟩=>?_⟩
 ·simp only [run,fr,Ht] at h
  split at h
  ·rename_i s hs
   simp only [zD,zG] at h
   obtain ⟨rfl,rfl⟩:=h
   exact ⟨.normal,s,hs,k⟩
  ·rename_i i s hs
   refine ⟨.exit i,s,hs,?_⟩
   simp only [blk]
   by_cases hi:i=id
   ·simp only [if_pos hi,zD,zG] at h ⊢
    obtain ⟨rfl,rfl⟩:=h
    exact k
   ·simp only [if_neg hi,zD,zG] at h ⊢
    obtain ⟨rfl,rfl⟩:=h
    exact k
  ·rename_i s hs
   simp only [zD,zG] at h
   obtain ⟨rfl,rfl⟩:=h
   exact ⟨_,s,hs,k⟩
  ·cases h
 ·simp only [run] at h
  cases x with
  | normal=>exact ⟨_,st',by simp only [run,fr,Ht,h],k⟩
  | exit i =>
   simp only [blk] at k
   by_cases hi:i=id
   ·simp only [if_pos hi] at k
    exact ⟨.normal,st',by simp only [run,fr,Ht,h,if_pos hi],k⟩
   ·simp only [if_neg hi] at k
    exact ⟨.exit i,st',by simp only [run,fr,Ht,h,if_neg hi],k⟩
  | ret=>exact ⟨_,st',by simp only [run,fr,Ht,h],k⟩
theorem Ab {q:SX} {a b:SC}:go n0 (.cond q a b) st K=M2 (A3 (gets st.sl) q) (fun _=>go n0 a st K) (fun _=>go n0 b st K):=by
 unfold M2
 refine propext ⟨fun ⟨x,st',h,k⟩=>?_,fun k=>?_⟩
 ·simp only [run,fr] at h
  split at h
  ·rename_i t ht
   simp only [ht]
   cases t with
   | true=>exact ⟨x,st',h,k⟩
   | false=>exact ⟨x,st',h,k⟩
  ·cases h
 ·split at k
  ·rename_i ht
   obtain ⟨x,st',h,k⟩:=k
   exact ⟨x,st',by simp only [run,fr,ht,cond_true]; exact h,k⟩
  ·rename_i ht
   obtain ⟨x,st',h,k⟩:=k
   exact ⟨x,st',by simp only [run,fr,ht,cond_false]; exact h,k⟩
  ·exact k.elim
theorem Xq {a b:Unit→Prop}:M2 (.bool true) a b=a ():=rfl
theorem Xr {a b:Unit→Prop}:M2 (.bool false) a b=b ():=rfl
theorem Xs {t:Bool} {a b:Unit→Prop}:M2 (.bool (!t)) a b=M2 (.bool t) b a:=by cases t <;> rfl
theorem AF {q:SX} {a b:SC} (h:A3 (gets st.sl) q=.bool true) (k:go n0 a st K):go n0 (.cond q a b) st K:=by rw [Ab,h]; exact k
theorem AG {q:SX} {a b:SC} (h:A3 (gets st.sl) q=.bool false) (k:go n0 b st K):go n0 (.cond q a b) st K:=by rw [Ab,h]; exact k
theorem Q3 {t:Bool} {a b:Unit→Prop} (h1:t=true→a ()) (h2:t=false→b ()):M2 (.bool t) a b:=by
 cases t with
 | true=>exact h1 rfl
 | false=>exact h2 rfl
theorem Yq {b:SC}:Xn n0 b K .normal st=go n0 b st K:=rfl
theorem Yr {b:SC} {i:Nat}:Xn n0 b K (.exit i) st=K (.exit i) st:=rfl
theorem Ys {b:SC}:Xn n0 b K .ret st=K .ret st:=rfl
theorem Zk {id:Nat}:blk id K .normal st=K .normal st:=rfl
theorem Zl {id i:Nat}:blk id K (.exit i) st=if i=id then K .normal st else K (.exit i) st:=rfl
theorem Zm {id:Nat}:blk id K .ret st=K .ret st:=rfl
theorem Xt:Vu (some st) K=K .normal st:=rfl
def quiet:List Ent→Bool
 | []=>true
 | ⟨_,_,[],_⟩ :: r=>quiet r
 | ⟨_,_,_ :: _,_⟩ :: _=>false
theorem M3 {anc:List (List Nat)} {rd:List Nat} {j:Nat}:∀ {l:List Ent} {i:Nat},quiet l=true→Rs anc rd [] j (Jf l) i=true
 | [],i,_=>rfl
 | ⟨_,_,[],rdi⟩ :: r,i,h=>by
  have:=M3 (anc:=anc) (rd:=rd) (j:=j) (l:=r) (i:=i+1) h
  simp only [Jf,zC,yU] at this ⊢
  simp only [Rs,this,zS]
  have e1:meets [] (rd++[])=false:=rfl
  have e2:meets rdi []=false:=by cases rdi <;> simp [meets]
  rw [e1,e2]; rfl
theorem TN {l l':List Ent} (h:quiet l=true) (h':quiet l'=true):quiet (l++l')=true:=by
 induction l with
 | nil=>exact h'
 | cons x r ih =>
  obtain ⟨a,b,c,d⟩:=x
  cases c with
  | nil=>exact ih h
  | cons _ _=>cases h
theorem Or {anc:List (List Nat)}:∀ {l pre:List Ent} {j:Nat},quiet pre=true→quiet l=true→obB anc (Jf pre) (Jf l) j=true
 | [],pre,j,_,_=>rfl
 | ⟨a,b,[],rd⟩ :: r,pre,j,hp,h=>by
  have e:=Or (anc:=anc) (l:=r) (pre:=pre++[⟨a,b,[],rd⟩]) (j:=j+1) (TN hp rfl) h
  have e2:=M3 (anc:=anc) (rd:=rd) (j:=j) (i:=0) hp
  simp only [Jf,yI,zC,yU] at e e2 ⊢
  simp only [obB,e2,e,zH]
theorem Xu {anc:List (List Nat)} {es:List Ent}:Vv anc (some (es,st)) K=match quiet es with
  | true=>K .normal st
  | false=>obB anc [] (Jf es) 0=true∧K .normal st:=by
 show (obB anc [] (Jf es) 0=true∧K .normal st)=_
 cases h:quiet es with
 | true=>exact propext ⟨fun h=>h.2,fun h'=>⟨Or (pre:=[]) rfl h,h'⟩⟩
 | false=>rfl
noncomputable def Yt (r:List SOper) (e:Option (Ent × St)):Option St :=
 match e with
 | some (_,st)=>RW r st
 | none=>none
noncomputable def Yu (r:List SOper) (acc:List Ent) (e:Option (Ent × St)):Option (List Ent × St) :=
 match e with
 | some (x,st)=>RY r (acc++[x]) st
 | none=>none
noncomputable def opF (so:SOp) (sl:List SV) (ob:List Ob):Option R3:=fOp Tryz.prog calls so sl ob
theorem Vx:RW [] st=some st:=rfl
theorem TO {d:Option Tmp} {so:SOp} {r:List SOper} {sl:List SV} {ob:List Ob}:RW (⟨d,none,so⟩ :: r) ⟨sl,ob⟩=Yt r (IE d ⟨sl,ob⟩ (opF so sl ob)):=rfl
noncomputable def gdF (d:Option Tmp) (so:SOp) (want:Bool) (sl:List SV) (ob:List Ob) (v:SV):Option (Ent × St) :=
 match v with
 | .bool b=>bif R5 b want then IE d ⟨sl,ob⟩ (opF so sl ob) else some (⟨false,.tup [],[],[]⟩,⟨FE sl d (.tup []),ob⟩)
 | .tup []=>some (⟨false,.tup [],[],[]⟩,⟨FE sl d (.tup []),ob⟩)
 | _=>none
theorem Xv {d:Option Tmp} {k:Nat} {want:Bool} {so:SOp} {r:List SOper} {sl:List SV} {ob:List Ob}:RW (⟨d,some (k,want),so⟩ :: r) ⟨sl,ob⟩=Yt r (gdF d so want sl ob (gets sl k)):=rfl
theorem Vy {acc:List Ent}:RY [] acc st=some (acc,st):=rfl
theorem TP {d:Option Tmp} {so:SOp} {r:List SOper} {acc:List Ent} {sl:List SV} {ob:List Ob}:RY (⟨d,none,so⟩ :: r) acc ⟨sl,ob⟩=Yu r acc (IE d ⟨sl,ob⟩ (opF so sl ob)):=rfl
theorem Xw {d:Option Tmp} {k:Nat} {want:Bool} {so:SOp} {r:List SOper} {acc:List Ent} {sl:List SV} {ob:List Ob}:RY (⟨d,some (k,want),so⟩ :: r) acc ⟨sl,ob⟩=Yu r acc (gdF d so want sl ob (gets sl k)):=rfl
theorem Yv {r:List SOper} {e:Ent}:Yt r (some (e,st))=RW r st:=rfl
theorem Yw {r:List SOper} {acc:List Ent} {e:Ent}:Yu r acc (some (e,st))=RY r (acc++[e]) st:=rfl
theorem Zn {d:Option Tmp} {so:SOp} {sl:List SV} {ob:List Ob}:gdF d so true sl ob (.bool true)=IE d ⟨sl,ob⟩ (opF so sl ob):=rfl
theorem Yx {d:Option Tmp} {so:SOp} {sl:List SV} {ob:List Ob}:gdF d so false sl ob (.bool false)=IE d ⟨sl,ob⟩ (opF so sl ob):=rfl
theorem Yy {d:Option Tmp} {so:SOp} {sl:List SV} {ob:List Ob}:gdF d so true sl ob (.bool false)=some (⟨false,.tup [],[],[]⟩,⟨FE sl d (.tup []),ob⟩):=rfl
theorem Yz {d:Option Tmp} {so:SOp} {sl:List SV} {ob:List Ob}:gdF d so false sl ob (.bool true)=some (⟨false,.tup [],[],[]⟩,⟨FE sl d (.tup []),ob⟩):=rfl
theorem Zo {d:Option Tmp} {so:SOp} {want:Bool} {sl:List SV} {ob:List Ob}:gdF d so want sl ob (.tup [])=some (⟨false,.tup [],[],[]⟩,⟨FE sl d (.tup []),ob⟩):=rfl
theorem Y0 {d:Option Tmp} {x:SV} {rd:List Nat}:IE d st (some (x,[],rd))=some (⟨true,x,[],rd⟩,⟨FE st.sl d x,st.ob⟩):=rfl
theorem Y1 {d:Option Tmp} {x:SV} {q:Nat × Ob} {u:List (Nat × Ob)} {rd:List Nat}:IE d st (some (x,q :: u,rd))=bif T4 (Dx st.ob (q :: u)).length (q :: u) then some (⟨true,x,q :: u,rd⟩,⟨FE st.sl d x,Dx st.ob (q :: u)⟩) else none:=rfl
def Q4 (ob:List Ob) (xs:List SV) (sel:List Nat) (r:Option (SV × List Ob)) (n:Nat):Option R3 :=
 match r with
 | some (r,fob')=>bif decide (n≤fob'.length) then some (Gj sel (B3 sel xs) ob.length r fob') else none
 | none=>none
def Y2 (hd:List Bool) (f:FuncId) (xs:List SV) (ob:List Ob) (sel:List Nat) (e:List SV→List Ob→Option (SV × List Ob)) (b:Option (List Ob)):Option R3 :=
 match b with
 | some fob=>bif nodupB sel&&Jn ob.length sel&&Hr fob.length fob then Q4 ob xs sel (e (Gi hd (As ob) sel xs) fob) fob.length else none
 | none=>none
def Vz (hd:List Bool) (f:FuncId) (xs:List SV) (ob:List Ob) (sel:List Nat) (e:List SV→List Ob→Option (SV × List Ob)):Option R3:=Y2 hd f xs ob sel e (Fw sel ob sel)
theorem V3 {f:FuncId} {xs:List SV} {ob:List Ob}:calls f xs ob=Gk (modes f).res (Vz (modes f).hand f xs ob (reach ob 64 (GW (modes f).hand xs) []) (E f)):=rfl
theorem Y3 {r:Option R3}:Gk .asis r=r:=rfl
theorem Y4 {r:Option R3}:Gk .frz r=r:=rfl
theorem Y5 {l:List (Option (Nat × Nat))} {r:Option R3}:Gk (.own l) r=r:=rfl
theorem Y6 {l:List (Option (Nat × Nat))} {r:Option R3}:Gk (.half l) r=r:=rfl
theorem Y7 {l:List (Option (Nat × Nat))} {r:Option R3}:Gk (.tr l) r=r:=rfl
theorem Y8 {l:List Nat} {r:Option R3}:Gk (.frl l) r=r:=rfl
theorem Y9 {r:R3}:Gk .late (some r)=Qm r:=rfl
theorem Ju:∀ u:List (Nat × Ob),DA [] u=u
 | []=>rfl
 | (g,o) :: u=>by rw [DA,Ju u]; rfl
theorem YA {m:RM} {b:Bool} {u:List (Nat × Ob)} {rd:List Nat}:Gk m (some (.bool b,u,rd))=some (.bool b,u,rd):=by
 cases m <;> first | rfl | (show some (SV.bool b,DA [] u,rd)=_; rw [Ju])
theorem YB {m:RM} {k:IntKind} {n:Int} {u:List (Nat × Ob)} {rd:List Nat}:Gk m (some (.int k n,u,rd))=some (.int k n,u,rd):=by
 cases m <;> first | rfl | (show some (SV.int k n,DA [] u,rd)=_; rw [Ju])
theorem TQ {hd:List Bool} {f:FuncId} {xs:List SV} {ob:List Ob} {e:List SV→List Ob→Option (SV × List Ob)}:Vz hd f xs ob [] e=Q4 ob xs [] (e (Gi hd (As ob) [] xs) []) 0:=rfl
theorem RZ {hd:List Bool} {f:FuncId} {xs:List SV} {ob:List Ob} {g:Nat} {r:List Nat} {e:List SV→List Ob→Option (SV × List Ob)}:Vz hd f xs ob (g :: r) e=Y2 hd f xs ob (g :: r) e (Fw (g :: r) ob (g :: r)):=rfl
theorem Xx {ob:List Ob} {xs:List SV} {r:SV} {fob':List Ob}:Q4 ob xs [] (some (r,fob')) 0=some (Gj [] (B3 [] xs) ob.length r fob'):=rfl
theorem Xy {ob:List Ob} {xs:List SV} {sel:List Nat} {r:SV} {fob':List Ob} {n:Nat}:Q4 ob xs sel (some (r,fob')) n=bif decide (n≤fob'.length) then some (Gj sel (B3 sel xs) ob.length r fob') else none:=rfl
theorem YC {hd:List Bool} {f:FuncId} {xs:List SV} {ob:List Ob} {sel:List Nat} {fob:List Ob} {e:List SV→List Ob→Option (SV × List Ob)}:Y2 hd f xs ob sel e (some fob)=bif nodupB sel&&Jn ob.length sel&&Hr fob.length fob then Q4 ob xs sel (e (Gi hd (As ob) sel xs) fob) fob.length else none:=rfl
theorem TR {p:Nat} {r:SV}:Gj [] [] p r []=(r.ren (sgp [] p),[],[]):=rfl
def Po {α:Type} (n0:Nat) (keep:List Nat) (H:α→St) (R:α→Prop) (μ:α→Nat) (a:α) (K:X→St→Prop):X→St→Prop
 | .normal,st'=>∃ y,R y∧μ y < μ a∧canon n0 keep st'=H y
 | .exit i,st'=>K (.exit i) st'
 | .ret,st'=>K .ret st'
theorem V4 {α:Type} {keep:List Nat} {H:α→St} {R:α→Prop} {μ:α→Nat} {a:α} {st':St}:Po n0 keep H R μ a K .normal st'=∃ y,R y∧μ y < μ a∧canon n0 keep st'=H y:=rfl
theorem V5 {α:Type} {keep:List Nat} {H:α→St} {R:α→Prop} {μ:α→Nat} {a:α} {i:Nat} {st':St}:Po n0 keep H R μ a K (.exit i) st'=K (.exit i) st':=rfl
theorem V6 {α:Type} {keep:List Nat} {H:α→St} {R:α→Prop} {μ:α→Nat} {a:α} {st':St}:Po n0 keep H R μ a K .ret st'=K .ret st':=rfl
theorem go_loop {α:Type} {keep:List Nat} {b:SC} (H:α→St) (R:α→Prop) (μ:α→Nat) (a0:α) (hR:R a0) (h0:canon n0 keep st=H a0) (round:∀ a,R a→go n0 b (H a) (Po n0 keep H R μ a K)):go n0 (.loop keep b) st K:=by
 have key:∀ (n:Nat) (a:α) (st:St),μ a≤n→R a→canon n0 keep st=H a→∃ x st',Od n0 keep (run n0 b) st=some (x,st')∧K x st':=by
  intro n
  induction n with
  | zero =>
   intro a st hn hR hc
   obtain ⟨x,st',h,k⟩:=round a hR
   cases x with
   | normal =>
    obtain ⟨y,_,h2,_⟩:=k
    omega
   | exit i=>exact ⟨_,st',by rw [HY,hc,h]; rfl,k⟩
   | ret=>exact ⟨_,st',by rw [HY,hc,h]; rfl,k⟩
  | succ n ih =>
   intro a st hn hR hc
   obtain ⟨x,st',h,k⟩:=round a hR
   cases x with
   | normal =>
    obtain ⟨y,h1,h2,h3⟩:=k
    obtain ⟨x2,st2,h4,k2⟩:=ih y st' (by omega) h1 h3
    exact ⟨x2,st2,by rw [HY,hc,h]; exact h4,k2⟩
   | exit i=>exact ⟨_,st',by rw [HY,hc,h]; rfl,k⟩
   | ret=>exact ⟨_,st',by rw [HY,hc,h]; rfl,k⟩
 exact key (μ a0) a0 st (yG _) hR h0
def Pp (n0:Nat) (keep keepO:List Nat) (H:EL→St) (F:X × St) (p:EL):X→St→Prop
 | .normal,st'=>canon n0 keep st'=H p
 | .exit i,st'=>F=(.exit i,canon n0 keepO st')
 | .ret,st'=>F=(.ret,canon n0 keepO st')
def V7 (n0:Nat) (keepO:List Nat) (F:X × St):X→St→Prop
 | .normal,_=>False
 | .exit i,st'=>F=(.exit i,canon n0 keepO st')
 | .ret,st'=>F=(.ret,canon n0 keepO st')
theorem TS {keep keepO:List Nat} {H:EL→St} {F:X × St} {p:EL} {st':St}:Pp n0 keep keepO H F p .normal st'=(canon n0 keep st'=H p):=rfl
theorem TT {keep keepO:List Nat} {H:EL→St} {F:X × St} {p:EL} {i:Nat} {st':St}:Pp n0 keep keepO H F p (.exit i) st'=(F=(.exit i,canon n0 keepO st')):=rfl
theorem TU {keep keepO:List Nat} {H:EL→St} {F:X × St} {p:EL} {st':St}:Pp n0 keep keepO H F p .ret st'=(F=(.ret,canon n0 keepO st')):=rfl
theorem Xz {keepO:List Nat} {F:X × St} {i:Nat} {st':St}:V7 n0 keepO F (.exit i) st'=(F=(.exit i,canon n0 keepO st')):=rfl
theorem X1 {keepO:List Nat} {F:X × St} {st':St}:V7 n0 keepO F .ret st'=(F=(.ret,canon n0 keepO st')):=rfl
def Pq (n0:Nat) (keep keepO:List Nat) (H:EL→St) (Ok:EL→Prop) (F:X × St) (p:EL):X→St→Prop
 | .normal,st'=>Ok p∧canon n0 keep st'=H p
 | .exit i,st'=>F=(.exit i,canon n0 keepO st')
 | .ret,st'=>F=(.ret,canon n0 keepO st')
theorem ER {keep keepO:List Nat} {H:EL→St} {Ok:EL→Prop} {F:X × St} {p:EL} {st':St}:Pq n0 keep keepO H Ok F p .normal st'=(Ok p∧canon n0 keep st'=H p):=rfl
theorem ES {keep keepO:List Nat} {H:EL→St} {Ok:EL→Prop} {F:X × St} {p:EL} {i:Nat} {st':St}:Pq n0 keep keepO H Ok F p (.exit i) st'=(F=(.exit i,canon n0 keepO st')):=rfl
theorem ET {keep keepO:List Nat} {H:EL→St} {Ok:EL→Prop} {F:X × St} {p:EL} {st':St}:Pq n0 keep keepO H Ok F p .ret st'=(F=(.ret,canon n0 keepO st')):=rfl
theorem Ot {keep keepO:List Nat} {it:SX} {nx more:Nat} {b:SC} (f:MF) (hfin:∃ l,Enum f l) (F:X × St) (hF:K F.1 F.2) (H:EL→St) (Ok:EL→Prop) (hok:Ok []) (g:Nat) (ks:Bool)
  (h0:canon n0 keep st=H []) (hit:∀ p:EL,Pd it (H p)=some (g,ks,f,(p.map (·.1)).reverse))
  (round:∀ (p:EL) (k:MK) (x:MV),Ok p→(p.map (·.1)).Nodup→(∀ e,e∈p→f e.1=some e.2)→f k=some x→k ∉ p.map (·.1)→go n0 b (Fe nx more (H p) true [(g,.it ks f (k :: (p.map (·.1)).reverse) (some (k,x)))]) (Pq n0 keep keepO H Ok F (p++[(k,x)])))
  (fin:∀ p:EL,Ok p→Enum f p→go n0 b (Fe nx more (H p) false []) (V7 n0 keepO F)):go n0 (.mloop keep keepO it nx more b) st K:=by
 have key:∀ (l p:EL) (s:St),Ok p→Enum f (p++l)→canon n0 keep s=H p→Mo n0 keepO (EQ n0 ⟨keepO,it,nx,more⟩ keep (run n0 b) f l (p.map (·.1)).reverse s)=some F:=by
  intro l
  induction l with
  | nil =>
   intro p s hO hE hs
   rw [xE] at hE
   unfold EQ
   rw [hs,hit p]
   simp only
   try rw [Ax (p:=f=f) rfl,Ax (p:=(p.map (·.1)).reverse=(p.map (·.1)).reverse) rfl]
   simp only [Ax True.intro,zH,cond_true]
   obtain ⟨x,st',h1,h2⟩:=fin p hO hE
   rw [h1]
   cases x with
   | normal=>exact h2.elim
   | exit i=>have h2:F=_:=h2; rw [h2]; rfl
   | ret=>have h2:F=_:=h2; rw [h2]; rfl
  | cons e l ih =>
   intro p s hO hE hs
   obtain ⟨k,x⟩:=e
   have hnd:=hE.nd
   rw [yI,List.nodup_append] at hnd
   have hpm:∀ e,e∈p→f e.1=some e.2:=fun e he=>(hE.mem e.1 e.2).1 (by simp [he])
   have hk:f k=some x:=(hE.mem k x).1 (by simp)
   have hn:k ∉ p.map (·.1):=fun hm=>hnd.2.2 k hm k (by simp) rfl
   obtain ⟨x1,st1,h1,h2⟩:=round p k x hO hnd.1 hpm hk hn
   unfold EQ
   rw [hs,hit p]
   simp only
   try rw [Ax (p:=f=f) rfl,Ax (p:=(p.map (·.1)).reverse=(p.map (·.1)).reverse) rfl]
   simp only [Ax True.intro,zH,cond_true]
   rw [h1]
   cases x1 with
   | normal =>
    have h2:Ok (p++[(k,x)])∧canon n0 keep st1=H (p++[(k,x)]):=h2
    have:=ih (p++[(k,x)]) st1 h2.1 (by rw [zO]; exact hE) h2.2
    have hrev:((p++[(k,x)]).map (·.1)).reverse=k :: (p.map (·.1)).reverse:=by simp
    rw [hrev] at this
    exact this
   | exit i=>have h2:F=_:=h2; rw [h2]; rfl
   | ret=>have h2:F=_:=h2; rw [h2]; rfl
 refine ⟨F.1,F.2,?_,hF⟩
 have:GX n0 ⟨keepO,it,nx,more⟩ keep (run n0 b) st=some F:=by
  unfold GX
  rw [h0,hit []]
  exact Ey.2 ⟨hfin,fun l hl=>key l [] st hok (by simpa using hl) h0⟩
 exact this
end
def slots:Nat→Nat→List (Nat × SV)→List SV
 | 0,_,_=>[]
 | n+1,k,[]=>.any :: slots n (k+1) []
 | n+1,k,(j,x) :: r=>bif j == k then x :: slots n (k+1) r else .any :: slots n (k+1) ((j,x) :: r)
def X2 (res:RM) (n0:Nat) (rs:List RX) (out:SV × List Ob) (x:X) (st:St):Prop:=fin res n0 rs x st=some out
def YD (res:RM) (n0:Nat) (r:Option (SV × List Ob)):Option (SV × List Ob) :=
 match r with
 | some (r,ob)=>order res n0 r ob
 | none=>none
def Q5 (res:RM) (n0:Nat) (ob:List Ob) (r:Option SV):Option (SV × List Ob) :=
 match r with
 | some r0=>YD res n0 (gc n0 r0 ob)
 | none=>none
theorem YE {res:RM} {n0:Nat} {rs:List RX} {out:SV × List Ob} {sl:List SV} {ob:List Ob}:X2 res n0 rs out .ret ⟨sl,ob⟩=(Q5 res n0 ob (Nq ⟨sl,ob⟩ rs)=some out):=rfl
theorem YF {res:RM} {n0:Nat} {rs:List RX} {out:SV × List Ob} {sl:List SV} {ob:List Ob}:X2 res n0 rs out .normal ⟨sl,ob⟩=(Q5 res n0 ob (Nq ⟨sl,ob⟩ rs)=some out):=rfl
theorem X3 {res:RM} {n0:Nat} {ob:List Ob} {r:SV}:Q5 res n0 ob (some r)=YD res n0 (gc n0 r ob):=rfl
theorem YG {n0:Nat} {r:SV} {ob:List Ob} {res:RM}:YD res n0 (some (r,ob))=order res n0 r ob:=rfl
theorem Ai {f:FuncId} {fc:FC} {hand:List Bool} {res:RM} {tr:Bool} {xs:List SV} {ob:List Ob} {out:SV × List Ob} (hc:codeOf Tryz.prog f=some fc) (hr:modes f=⟨hand,res,none,tr⟩) (hn:xs.length≤fc.nt) (h:go ob.length (Gl res fc.sc) ⟨xs++JK (fc.nt-xs.length),entry tr ob⟩ (X2 res ob.length fc.rs out)):E f xs ob=some out:=by
 obtain ⟨x,st',h1,h2⟩:=h
 unfold E
 rw [XT]
 unfold Gm
 rw [hc,hr]
 simp only
 rw [decide_eq_true hn,cond_true]
 have h1:fr Tryz.prog (CR modes (ev Tryz.prog modes)) (Jq ob.length) (Gl res fc.sc) ⟨xs++JK (fc.nt-xs.length),entry tr ob⟩=some (x,st'):=h1
 rw [h1]
 exact h2
theorem Pr {f:FuncId} {g:List SV→List Ob→Option (SV × List Ob)} {xs:List SV} {ob:List Ob} (hg:(modes f).ext=some g):E f xs ob=g xs ob:=by
 unfold E
 rw [XT]
 unfold Gm
 rw [hg]
theorem Q6 {f:FuncId} {g:List SV→Option SV} {xs:List SV} {r:SV} (hg:(modes f).ext=some (JN g)) (h:g xs=some r):E f xs []=some (r,[]):=by
 rw [Pr hg]
 simp only [JN,h]
theorem Ae:modes 59=⟨[],.asis,some (JN Vq),false⟩:=by unfold modes; rfl
theorem CW (s:ByteArray):E 59 [.str s] []=some (.bool (Cf s),[]):=Q6 (g:=Vq) (congrArg FM.ext Ae) rfl
theorem Am:modes 77=⟨[],.asis,some (JN Vr),false⟩:=by unfold modes; rfl
theorem I9 (s:ByteArray):E 77 [.str s] []=some (.bool (Cf s),[]):=Q6 (g:=Vr) (congrArg FM.ext Am) rfl
theorem BC:modes 110=⟨[],.asis,some (JN Vs),false⟩:=by unfold modes; rfl
theorem M4 (s:ByteArray):E 110 [.str s] []=some (.bool (DB s),[]):=Q6 (g:=Vs) (congrArg FM.ext BC) rfl
theorem BD:modes 122=⟨[],.asis,some (JN Vt),false⟩:=by unfold modes; rfl
theorem M5 (s:ByteArray):E 122 [.str s] []=some (.bool (DB s),[]):=Q6 (g:=Vt) (congrArg FM.ext BD) rfl
theorem D6 {n:Int} (h1:-9223372036854775808≤n) (h2:n≤9223372036854775807):dec (inK .i64 n)=true:=Ax (WS.2 ⟨h1,h2⟩)
theorem get_at {α β:Type} (f:α→β) {xs:List α} {k:Nat} (h:k<xs.length):(xs.map f)[k]?=some (f xs[k]):=by rw [y6,zL h]; rfl
theorem Zp:dec True=true:=Ax trivial
theorem Zq:dec False=false:=An fun h=>h
attribute [go_sem] pfx Fk IO OT.C0 OT.IN OT.half Y6 Xd Gi Qd SV.isNil Ob.idsB SV.idsB SV.Ld List.getElem?_cons_zero List.getElem?_cons_succ OT.AM OT.De OT.full entry toTree SO Qq SN Fx GV Eu UT NF Vd OT.erss OT.ers OT.er OT.Cg OT.DZ OT.noSh quiet obB Rs Jf meets HM go_skip Xo go_ret Yo Xp Yp Vw Xq Xr Xs Yq Yr Ys Zk Zl Zm Xt Xu Vx TO Xv Vy TP Xw Yv Yw Zn Yx Yy Yz Zo Y0 Y1 V3 Y3 Y4 Y5 Y7 Y8 Y9 YA YB Qm Ql DA seen TQ RZ Xx Xy YC TR Gj V4 V5 V6 YE YF X3 YG order opF fOp EP SJ WT SH SI US HS eqK A3 gets As Np FE Dx JD LW AS T4 SV.cellsN SV.one IJ splice DG PO II JB D4 BV Cn BU GJ H4 Ru eOp.mkEs eOp.addS D.sv OT.sv D.ot GQ nodupB reach SV.refs SV.NR SV.ptrs SV.NS Ob.refs Ob.liveB GW Fw SV.back SV.Le Ob.back GO H5 CC B3 B4 Jn Hr SV.ren SV.JH Ob.ren mkU sgp gc Li names JL WW WX WY Ml Ve WZ Xa Xb Xc Xe Xf SC.mark NW FH slots Nq R2 rxV JK Qk SV.noSh SV.La Ob.noSh SV.own SV.Pc FG cond_true cond_false zK zQ zC yU List.drop_succ_cons zR List.drop_nil z8 y4 List.take_nil xE yS z6 xG List.all_nil List.getD_cons_zero List.getD_cons_succ y9 List.any_nil List.contains_cons List.contains_nil List.isEmpty_nil List.isEmpty_cons List.flatten_cons List.flatten_nil List.replicate_succ List.replicate_zero List.set_cons_zero List.set_cons_succ yZ Nat.zero_add yG zT zS xA zH Bool.or_false Bool.false_or Bool.true_or Bool.or_true Bool.not_true Bool.not_false y5 Bool.and_false decide_true decide_false beq_self_eq_true if_true if_false Option.map_some Option.map_none zD yA Option.getD_none Int.toNat_natCast true_and and_true and_self eq_self_iff_true zM Bool.false_eq_true Bool.true_eq_false zG SV.int.injEq SV.bool.injEq SV.str.injEq SV.agg.injEq SV.tup.injEq SV.arr.injEq zW St.mk.injEq Int.zero_add Zp Zq D6 Ax An Zd svK svD U8 svM MV.sv S5 UU UV UW Fe St.app Pd MK.sv TS TT TU Xz X1
attribute [go_sem_proc] yX yY Nat.reduceLT Nat.reduceLeDiff Nat.reduceEqDiff Nat.reduceBEq Nat.reduceBneDiff Nat.reduceMul Int.reduceToNat Int.reduceNeg Int.reduceAdd reduceCtorEq
attribute [go_sem_proc ↓] reduceIte
theorem JQ:∀ xs:List ByteArray,OT.AM (xs.map fun s=>[OT.str s])=true
 | []=>rfl
 | x :: xs=>by simp only [zC,OT.AM,OT.De,OT.full,JQ xs,zH]
theorem Ps:∀ xs:List Int,OT.AM (xs.map fun n=>[OT.int n])=true
 | []=>rfl
 | x :: xs=>by simp only [zC,OT.AM,OT.De,OT.full,Ps xs,zH]
theorem Tm.fu_of:∀ xs:List Tm,(∀ x∈xs,OT.De (Tm.o x)=true)→OT.AM (xs.map Tm.o)=true
 | [],_=>rfl
 | x :: xs,h=>by
  simp only [zC,OT.AM]
  rw [h x (by simp),Tm.fu_of xs fun y hy=>h y (by simp [hy])]; rfl
theorem Tm.fu (x:Tm):OT.De (Tm.o x)=true:=by
 have h:=Tm.fu_of x.args fun y hy=>Tm.fu y
 rw [Tm.o_eq]
 simp only [OT.De,OT.full,h,zH,zS]
termination_by SizeOf.sizeOf x
decreasing_by exact Tm.lt_of_mem hy
theorem Tm.fus (xs:List Tm):OT.AM (xs.map Tm.o)=true:=Tm.fu_of xs fun x _=>Tm.fu x
theorem Fm.fu_of:∀ xs:List Fm,(∀ x∈xs,OT.De (Fm.o x)=true)→OT.AM (xs.map Fm.o)=true
 | [],_=>rfl
 | x :: xs,h=>by
  simp only [zC,OT.AM]
  rw [h x (by simp),Fm.fu_of xs fun y hy=>h y (by simp [hy])]; rfl
theorem Fm.fu (x:Fm):OT.De (Fm.o x)=true:=by
 have h:=Fm.fu_of x.parts fun y hy=>Fm.fu y
 rw [Fm.o_eq]
 simp only [OT.De,OT.full,h,Tm.fus,zH,zS]
termination_by SizeOf.sizeOf x
decreasing_by exact Fm.lt_of_mem hy
theorem Fm.fus (xs:List Fm):OT.AM (xs.map Fm.o)=true:=Fm.fu_of xs fun x _=>Fm.fu x
theorem Ag.fu (x:Ag):OT.De (Ag.o x)=true:=by
 simp only [Ag.o,OT.De,OT.full,zH,zS]
theorem Ag.fus:∀ xs:List Ag,OT.AM (xs.map Ag.o)=true
 | []=>rfl
 | x :: xs=>by simp only [zC,OT.AM,Ag.fu,Ag.fus xs,zH]
theorem Tl.fu (x:Tl):OT.De (Tl.o x)=true:=by
 simp only [Tl.o,OT.De,OT.full,Ps,zH,zS]
theorem Tl.fus:∀ xs:List Tl,OT.AM (xs.map Tl.o)=true
 | []=>rfl
 | x :: xs=>by simp only [zC,OT.AM,Tl.fu,Tl.fus xs,zH]
theorem Ip.fu (x:Ip):OT.De (Ip.o x)=true:=by
 simp only [Ip.o,OT.De,OT.full,Tl.fus,zH,zS]
theorem Ip.fus:∀ xs:List Ip,OT.AM (xs.map Ip.o)=true
 | []=>rfl
 | x :: xs=>by simp only [zC,OT.AM,Ip.fu,Ip.fus xs,zH]
attribute [go_sem] JQ Ps LB SQ Xh SR Tm.fus Tm.erss Tm.noss Fm.fus Fm.erss Fm.noss Ag.fus Ag.erss Ag.noss Tl.fus Tl.erss Tl.noss Ip.fus Ip.erss Ip.noss
theorem Ha {α:Type} (a:α):dec (a=a)=true:=Ax rfl
def HA {α β:Type} (f:α→β) (z:β) (xs:List α) (k:Nat):List β:=(xs.take k).map f++List.replicate (xs.length-k) z
section
variable {α β:Type} (f:α→β) (z:β) {xs:List α} {k:Nat}
theorem Sa:HA f z xs 0=List.replicate xs.length z:=by simp [HA]
theorem TV:(HA f z xs k).length=xs.length:=by simp [HA]; omega
theorem TW:HA f z xs xs.length=xs.map f:=by simp [HA]
theorem TX (h:k<xs.length):(HA f z xs k)[k]?=some z:=by
 have hl:((xs.take k).map f).length=k:=by simp; omega
 unfold HA
 rw [List.getElem?_append_right (by omega),hl,Nat.sub_self,List.getElem?_replicate]
 simp; omega
theorem TY (h:k<xs.length):(HA f z xs k).set k (f xs[k])=HA f z xs (k+1):=by
 have hl:((xs.take k).map f).length=k:=by simp; omega
 have e:List.take (k+1) xs=List.take k xs++[xs[k]]:=yE h
 unfold HA
 rw [List.set_append_right _ _ (by omega),hl,Nat.sub_self,e,yI,zO]
 congr 1
 rw [show xs.length-k=(xs.length-(k+1))+1 by omega,List.replicate_succ,List.set_cons_zero]
 rfl
end
theorem X4 (a b:Int):(bif dec (a<b) then b else a)=max a b:=by
 by_cases h:a<b
 ·rw [Ax h,cond_true,Int.max_eq_right (by omega)]
 ·rw [An h,cond_false,Int.max_eq_left (by omega)]
def G5 {α:Type} (p:α→Bool):List α→Int→Int
 | [],_=>-1
 | x :: xs,i=>if p x then i else G5 p xs (i+1)
theorem M6 {α:Type} (p:α→Bool):∀ (xs:List α),dec (0≤G5 p xs 0)=xs.any p:=by
 have key:∀ (xs:List α) (i:Int),0≤i→(0≤G5 p xs i ↔ xs.any p=true):=by
  intro xs
  induction xs with
  | nil=>intro i h; simp [G5]
  | cons x xs ih =>
   intro i h
   simp only [G5,y9,zX]
   by_cases hp:p x=true
   ·simp [hp,h]
   ·rw [if_neg hp,ih (i+1) (by omega)]; simp [hp]
 intro xs
 cases h:xs.any p with
 | true=>exact Ax ((key xs 0 (by omega)).2 h)
 | false=>exact An fun h'=>by rw [(key xs 0 (by omega)).1 h'] at h; cases h
theorem Pt {p q:Prop} (h:p ↔ q):dec p=dec q:=by rw [propext h]
mutual
def Tm.nodes:Tm→Nat
 | .mk _ args=>1+Tm.nodeS args
def Tm.nodeS:List Tm→Nat
 | []=>0
 | x :: xs=>Tm.nodes x+Tm.nodeS xs
end
theorem Tm.nodes_eq (x:Tm):x.nodes=1+Tm.nodeS x.args:=by
 obtain ⟨name,args⟩:=x
 rw [Tm.nodes]; rfl
theorem Tm.nodes_pos (x:Tm):1≤x.nodes:=by rw [Tm.nodes_eq]; omega
theorem Tm.nodes_le:∀ (xs:List Tm) (k:Nat) (h:k<xs.length),xs[k].nodes≤Tm.nodeS xs
 | [],k,h=>absurd h (by simp)
 | x :: xs,0,_=>by rw [Tm.nodeS]; simp
 | x :: xs,k+1,h=>by
  have:=Tm.nodes_le xs k (by simpa using h)
  rw [Tm.nodeS]; simp only [yV]; omega
mutual
def Tm.deep:Tm→Nat
 | .mk _ args=>Tm.EU args+1
def Tm.EU:List Tm→Nat
 | []=>0
 | x :: xs=>max (Tm.deep x) (Tm.EU xs)
end
theorem Tm.LC (x:Tm):x.deep=Tm.EU x.args+1:=by
 obtain ⟨name,args⟩:=x
 rw [Tm.deep]; rfl
theorem Tm.Id:∀ xs:List Tm,(∀ y∈xs,y.deep≤y.nodes)→Tm.EU xs≤Tm.nodeS xs
 | [],_=>by simp [Tm.EU]
 | x :: xs,h=>by
  have h1:=h x (by simp)
  have h2:=Tm.Id xs fun y hy=>h y (by simp [hy])
  rw [Tm.EU,Tm.nodeS]; omega
theorem Tm.G6 (x:Tm):x.deep≤x.nodes:=by
 rw [Tm.LC,Tm.nodes_eq]
 have:=Tm.Id x.args fun y hy=>Tm.G6 y
 omega
termination_by SizeOf.sizeOf x
decreasing_by exact Tm.lt_of_mem hy
mutual
def Tm.names:Tm→Bool
 | .mk name args=>if Cf name then args.length == 0 else DB name&&decide (args.length≤4)&&Tm.FN args
def Tm.FN:List Tm→Bool
 | []=>true
 | x :: xs=>Tm.names x&&Tm.FN xs
end
theorem Tm.EV (x:Tm):x.names=if Cf x.name then x.args.length == 0 else DB x.name&&decide (x.args.length≤4)&&Tm.FN x.args:=by
 obtain ⟨name,args⟩:=x
 rw [Tm.names]; rfl
theorem Tm.F6:∀ xs:List Tm,Tm.FN xs=xs.all Tm.names
 | []=>rfl
 | x :: xs=>by rw [Tm.FN,Tm.F6 xs]; rfl
theorem Tm.length_le:∀ xs:List Tm,xs.length≤Tm.nodeS xs
 | []=>yG _
 | x :: xs=>by
  have:=Tm.length_le xs
  have:=Tm.nodes_pos x
  rw [Tm.nodeS]; simp only [zK]; omega
theorem Tm.nodes_mem {xs:List Tm} {y:Tm} (h:y∈xs):y.nodes≤Tm.nodeS xs:=by
 obtain ⟨k,hk,rfl⟩:=yQ h
 exact Tm.nodes_le xs k hk
def Tm.small (x:Tm):Bool:=decide (x.nodes≤30)&&decide (x.deep≤8)
def Tm.valid (x:Tm):Bool:=x.small&&x.names
noncomputable def Tm.eqn (x:Tm):Bool:=dec (x.name=⟨#[61]⟩)
noncomputable def Tm.atom (x:Tm):Bool:=if x.eqn then x.args.length == 2&&x.small&&Tm.FN x.args else DB x.name&&x.valid
theorem Ou {xs:List Tm} (h:xs.length=2):Tm.FN xs=((xs[0]'(by omega)).names&&(xs[1]'(by omega)).names):=by
 match xs,h with
 | [a,b],_=>simp [Tm.FN]
mutual
def Tm.cap:Tm→Int
 | .mk _ xs=>Tm.capL xs 1
def Tm.capL:List Tm→Int→Int
 | [],n=>n
 | x :: xs,n=>if 30 < n then n else Tm.capL xs (n+Tm.cap x)
end
theorem Tm.cap_eq (x:Tm):x.cap=Tm.capL x.args 1:=by
 obtain ⟨n,xs⟩:=x
 rw [Tm.cap]; rfl
theorem Tm.capL_spec:∀ (xs:List Tm) (n:Int),(∀ x∈xs,1≤x.cap∧x.cap≤x.nodes∧(x.cap≤30→x.cap=x.nodes))→1≤n→n≤Tm.capL xs n∧Tm.capL xs n≤n+Tm.nodeS xs∧(Tm.capL xs n≤30→Tm.capL xs n=n+Tm.nodeS xs)
 | [],n,_,h=>by simp [Tm.capL,Tm.nodeS]
 | x :: xs,n,hx,h=>by
  rw [Tm.capL,Tm.nodeS]
  have h1:=hx x (by simp)
  split
  ·omega
  ·have:=Tm.capL_spec xs (n+x.cap) (fun y hy=>hx y (by simp [hy])) (by omega)
   omega
theorem Tm.cap_spec (x:Tm):1≤x.cap∧x.cap≤x.nodes∧(x.cap≤30→x.cap=x.nodes):=by
 rw [Tm.cap_eq,Tm.nodes_eq]
 have:=Tm.capL_spec x.args 1 (fun y hy=>Tm.cap_spec y) (by omega)
 omega
termination_by SizeOf.sizeOf x
decreasing_by exact Tm.lt_of_mem hy
mutual
def Tm.many:Tm→Int→Int
 | .mk _ xs,m=>Tm.manyL xs m 1
def Tm.manyL:List Tm→Int→Int→Int
 | [],_,n=>n
 | x :: xs,m,n=>if n≤m then Tm.manyL xs m (n+Tm.many x (m-n)) else n
end
theorem Tm.many_eq (x:Tm) (m:Int):x.many m=Tm.manyL x.args m 1:=by
 obtain ⟨n,xs⟩:=x
 rw [Tm.many]; rfl
theorem Tm.manyL_spec (m:Int):∀ (xs:List Tm) (n:Int),(∀ x∈xs,∀ m,0≤m→1≤x.many m∧x.many m≤x.nodes∧(x.many m≤m→x.many m=x.nodes))→1≤n→n≤Tm.manyL xs m n∧Tm.manyL xs m n≤n+Tm.nodeS xs∧(Tm.manyL xs m n≤m→Tm.manyL xs m n=n+Tm.nodeS xs)
 | [],n,_,h=>by simp [Tm.manyL,Tm.nodeS]
 | x :: xs,n,hx,h=>by
  rw [Tm.manyL,Tm.nodeS]
  split
  ·have h1:=hx x (by simp) (m-n) (by omega)
   have:=Tm.manyL_spec m xs (n+x.many (m-n)) (fun y hy=>hx y (by simp [hy])) (by omega)
   omega
  ·omega
theorem Tm.many_spec (x:Tm) (m:Int):1≤x.many m∧x.many m≤x.nodes∧(x.many m≤m→x.many m=x.nodes):=by
 rw [Tm.many_eq,Tm.nodes_eq]
 have:=Tm.manyL_spec m x.args 1 (fun y hy m _=>Tm.many_spec y m) (by omega)
 omega
termination_by SizeOf.sizeOf x
decreasing_by exact Tm.lt_of_mem hy
theorem Tm.Ov {x:Tm} (h:x.names=true) (hv:Cf x.name=true):x.args=[]:=by
 rw [Tm.EV,if_pos hv] at h
 exact zE (by simpa using h)
theorem Tm.Hd {x:Tm} (h:x.names=true) {y:Tm} (hy:y∈x.args):y.names=true:=by
 rw [Tm.EV] at h
 split at h
 ·have:x.args=[]:=zE (by simpa using h)
  rw [this] at hy; cases hy
 ·rw [zB,Tm.F6,yF] at h
  exact h.2 y hy
def YH (res:RM) (n0:Nat) (rs:List RX) (Q:SV × List Ob→Prop) (x:X) (st:St):Prop:=∃ out,X2 res n0 rs out x st∧Q out
theorem exq {α:Type} {a:α} {Q:α→Prop}:(∃ out,some a=some out∧Q out)=Q a:=propext ⟨fun ⟨o,h,q⟩=>by obtain rfl:=zF h; exact q,fun q=>⟨a,rfl,q⟩⟩
theorem YI {res:RM} {n0:Nat} {rs:List RX} {Q:SV × List Ob→Prop} {sl:List SV} {ob:List Ob}:YH res n0 rs Q .ret ⟨sl,ob⟩=∃ out,Q5 res n0 ob (Nq ⟨sl,ob⟩ rs)=some out∧Q out:=rfl
theorem YJ {res:RM} {n0:Nat} {rs:List RX} {Q:SV × List Ob→Prop} {sl:List SV} {ob:List Ob}:YH res n0 rs Q .normal ⟨sl,ob⟩=∃ out,Q5 res n0 ob (Nq ⟨sl,ob⟩ rs)=some out∧Q out:=rfl
theorem A7 {f:FuncId} {fc:FC} {hand:List Bool} {res:RM} {tr:Bool} {xs:List SV} {ob:List Ob} {Q:SV × List Ob→Prop} (hc:codeOf Tryz.prog f=some fc) (hr:modes f=⟨hand,res,none,tr⟩) (hn:xs.length≤fc.nt) (h:go ob.length (Gl res fc.sc) ⟨xs++JK (fc.nt-xs.length),entry tr ob⟩ (YH res ob.length fc.rs Q)):∃ out,E f xs ob=some out∧Q out:=by
 obtain ⟨x,st',h1,out,h2,h3⟩:=h
 exact ⟨out,Ai hc hr hn ⟨x,st',h1,h2⟩,h3⟩
attribute [go_sem] YI YJ exq
def Tm.osh (x:Tm):List OT:=[.str x.name,.sh (x.args.map Tm.d)]
theorem Tm.M7 (x:Tm):x.osh=[.str x.name,.sh (x.args.map Tm.d)]:=rfl
theorem Tm.JR:∀ xs:List Tm,OT.AM (xs.map Tm.osh)=true
 | []=>rfl
 | x :: xs=>by rw [zC,Tm.M7]; simp [OT.AM,OT.De,OT.full,Tm.JR xs]
theorem Tm.M8:∀ xs:List Tm,OT.erss (xs.map Tm.osh)=xs.map Tm.d
 | []=>rfl
 | x :: xs=>by rw [zC,zC,Tm.M7,Tm.d_eq]; simp [OT.erss,OT.ers,OT.er,Tm.M8 xs]
theorem V8 {α β:Type} (f:α→β) {xs:List α} {k:Nat} (h:k<xs.length):(xs.take k).map f++[f xs[k]]=(xs.take (k+1)).map f:=by
 rw [yE h,yI]; rfl
noncomputable def Cx (c:Int):Bool:=(dec (97≤c)&&dec (c≤122)) || (dec (65≤c)&&dec (c≤90)) || (dec (48≤c)&&dec (c≤57)) || dec (c=95)
noncomputable def Bj (s:ByteArray) (i:Nat):Nat:=if h:i<s.size∧Cx (AV s i)=true then Bj s (i+1) else i
termination_by s.size-i
theorem KD {s:ByteArray} {i:Nat} (h:i<s.size) (hw:Cx (AV s i)=true):Bj s i=Bj s (i+1):=by rw [Bj,dif_pos ⟨h,hw⟩]
theorem E5 {s:ByteArray} {i:Nat} (h:¬ (i<s.size∧Cx (AV s i)=true)):Bj s i=i:=by rw [Bj,dif_neg h]
theorem Gn (s:ByteArray) (i:Nat):i≤Bj s i:=by
 rw [Bj]
 split
 ·have:=Gn s (i+1); omega
 ·exact yG _
termination_by s.size-i
theorem F7 (s:ByteArray) (i:Nat) (h:i≤s.size):Bj s i≤s.size:=by
 rw [Bj]
 split
 ·exact F7 s (i+1) (by omega)
 ·exact h
termination_by s.size-i
noncomputable def Dj (s:ByteArray) (i:Nat) (c:Int):Bool:=dec (i<s.size)&&dec (AV s i=c)
theorem C1 {s:ByteArray} {i:Nat} {c:Int}:Dj s i c=true ↔ i<s.size∧AV s i=c:=by
 unfold Dj; rw [zB,At,At]
noncomputable def rdL (r:Nat→Option (Tm × Nat)) (s:ByteArray):Nat→Nat→Option (List Tm × Nat)
 | 0,_=>none
 | m+1,i=>match r i with
  | none=>none
  | some (t,e)=>bif Dj s e 44 then (match rdL r s m (e+1) with
   | none=>none
   | some (ts,e')=>some (t :: ts,e')) else bif Dj s e 41 then some ([t],e+1) else none
noncomputable def rd (s:ByteArray):Nat→Nat→Option (Tm × Nat)
 | 0,_=>none
 | n+1,i=>bif dec (Bj s i=i) then none else bif Dj s (Bj s i) 40 then (match rdL (rd s n) s n (Bj s i+1) with
  | none=>none
  | some (ts,e)=>some (.mk (s.extract i (Bj s i)) ts,e)) else some (.mk (s.extract i (Bj s i)) [],Bj s i)
def seg (s:ByteArray) (a b:Nat):List UInt8:=(s.toList.drop a).take (b-a)
theorem AD (s:ByteArray):s.toList.length=s.size:=by rw [ByteArray.toList_eq]; simp
theorem IA {s:ByteArray} {a b c:Nat} (h:a≤b) (k:b≤c):seg s a c=seg s a b++seg s b c:=by
 unfold seg
 rw [show c-a=(b-a)+(c-b) by omega,List.take_add,List.drop_drop,show a+(b-a)=b by omega]
theorem toList_extract (s:ByteArray) (a b:Nat):(s.extract a b).toList=seg s a b:=by
 unfold seg
 rw [ByteArray.toList_eq,ByteArray.toList_eq,ByteArray.data_extract,Array.toList_extract,List.extract_eq_take_drop]
theorem G7 {s:ByteArray} {i:Nat} (h:i<s.size):AV s i=((s.toList[i]'(by rw [AD]; exact h)).toNat:Int):=by
 unfold AV
 rw [getElem?_pos s i h]
 simp only [yA,ByteArray.toList_eq]
 rfl
theorem LD {s:ByteArray} {i:Nat} {c:UInt8} (h:i<s.size) (hc:AV s i=(c.toNat:Int)):seg s i (i+1)=[c]:=by
 have hl:i<s.toList.length:=by rw [AD]; exact h
 unfold seg
 rw [zI hl,show i+1-i=1 by omega,z8,y4]
 rw [G7 h] at hc
 congr 1
 exact UInt8.toNat_inj.1 (by exact_mod_cast hc)
theorem X5 (s:ByteArray):seg s 0 s.size=s.toList:=by
 unfold seg
 rw [zR,xC,← AD,List.take_length]
def EW (c:List UInt8):List (List UInt8)→List UInt8
 | []=>[]
 | [x]=>x
 | x :: y :: r=>x++c++EW c (y :: r)
mutual
def Tm.fmt:Tm→List UInt8
 | .mk name args=>name.toList++(if args.length=0 then [] else [40]++EW [44] (Tm.G8 args)++[41])
def Tm.G8:List Tm→List (List UInt8)
 | []=>[]
 | x :: xs=>Tm.fmt x :: Tm.G8 xs
end
theorem Tm.KE (x:Tm):x.fmt=x.name.toList++(if x.args.length=0 then [] else [40]++EW [44] (Tm.G8 x.args)++[41]):=by
 obtain ⟨n,a⟩:=x
 rw [Tm.fmt]; rfl
theorem Tm.V9:∀ xs:List Tm,(Tm.G8 xs).length=xs.length
 | []=>by simp [Tm.G8]
 | x :: xs=>by rw [Tm.G8,zK,zK,Tm.V9 xs]
theorem Tm.Q7:∀ xs:List Tm,Tm.G8 xs=xs.map Tm.fmt
 | []=>by simp [Tm.G8]
 | x :: xs=>by rw [Tm.G8,Tm.Q7 xs]; rfl
theorem VA {r:Nat→Option (Tm × Nat)} {s:ByteArray} (hr:∀ i t e,i≤s.size→r i=some (t,e)→i<e∧e≤s.size∧seg s i e=t.fmt) :
  ∀ (m i:Nat) (ts:List Tm) (e:Nat),i≤s.size→rdL r s m i=some (ts,e)→i<e∧e≤s.size∧ts.length≠0∧seg s i e=EW [44] (Tm.G8 ts)++[41]
 | 0,i,ts,e,_,h=>by cases h
 | m+1,i,ts,e,hi,h=>by
  rw [rdL] at h
  cases hq:r i with
  | none=>rw [hq] at h; cases h
  | some p =>
   obtain ⟨t,e0⟩:=p
   rw [hq] at h
   simp only at h
   obtain ⟨h1,h2,h3⟩:=hr i t e0 hi hq
   cases hc:Dj s e0 44 with
   | true =>
    rw [hc,cond_true] at h
    obtain ⟨k1,k2⟩:=C1.1 hc
    cases hl:rdL r s m (e0+1) with
    | none=>rw [hl] at h; cases h
    | some q =>
     obtain ⟨us,e1⟩:=q
     rw [hl] at h
     simp only [zD,zG] at h
     obtain ⟨rfl,rfl⟩:=h
     obtain ⟨g1,g2,g3,g4⟩:=VA hr m (e0+1) us e1 (by omega) hl
     refine ⟨by omega,g2,by simp,?_⟩
     rw [IA (show i≤e0 by omega) (show e0≤e1 by omega),h3,IA (show e0≤e0+1 by omega) (show e0+1≤e1 by omega),LD (c:=44) k1 k2,g4]
     cases us with
     | nil=>simp at g3
     | cons u us=>simp only [Tm.G8,EW,zO]
   | false =>
    rw [hc,cond_false] at h
    cases hc2:Dj s e0 41 with
    | true =>
     rw [hc2,cond_true] at h
     obtain ⟨k1,k2⟩:=C1.1 hc2
     simp only [zD,zG] at h
     obtain ⟨rfl,rfl⟩:=h
     refine ⟨by omega,by omega,by simp,?_⟩
     rw [IA (show i≤e0 by omega) (show e0≤e0+1 by omega),h3,LD (c:=41) k1 k2]
     simp only [Tm.G8,EW]
    | false=>rw [hc2] at h; cases h
theorem SZ {s:ByteArray}:∀ (n i:Nat) (t:Tm) (e:Nat),i≤s.size→rd s n i=some (t,e)→i<e∧e≤s.size∧seg s i e=t.fmt
 | 0,i,t,e,_,h=>by cases h
 | n+1,i,t,e,hi,h=>by
  rw [rd] at h
  have w1:=Gn s i
  have w2:=F7 s i hi
  by_cases h0:Bj s i=i
  ·rw [Ax h0] at h; cases h
  ·rw [An h0,cond_false] at h
   cases hc:Dj s (Bj s i) 40 with
   | true =>
    rw [hc,cond_true] at h
    obtain ⟨k1,k2⟩:=C1.1 hc
    cases hl:rdL (rd s n) s n (Bj s i+1) with
    | none=>rw [hl] at h; cases h
    | some q =>
     obtain ⟨us,e1⟩:=q
     rw [hl] at h
     simp only [zD,zG] at h
     obtain ⟨rfl,rfl⟩:=h
     obtain ⟨g1,g2,g3,g4⟩:=VA (fun i t e=>SZ n i t e) n _ us e1 (by omega) hl
     refine ⟨by omega,g2,?_⟩
     rw [Tm.KE]
     show _=(s.extract i (Bj s i)).toList++(if us.length=0 then [] else [40]++EW [44] (Tm.G8 us)++[41])
     rw [if_neg g3,toList_extract,IA (show i≤Bj s i by omega) (show Bj s i≤e1 by omega),IA (show Bj s i≤Bj s i+1 by omega) (show Bj s i+1≤e1 by omega),LD (c:=40) k1 k2,g4]
     simp only [zO]
   | false =>
    rw [hc,cond_false] at h
    simp only [zD,zG] at h
    obtain ⟨rfl,rfl⟩:=h
    refine ⟨by omega,w2,?_⟩
    rw [Tm.KE]
    have e0:(Tm.mk (s.extract i (Bj s i)) []).args.length=0:=rfl
    rw [if_pos e0,xE]
    exact (toList_extract s i (Bj s i)).symm
def Lo:SC:=(.seq (.reg [⟨some 1,none,.boxv 30 2 (.t 0)⟩,⟨some 2,none,.mv (.c (.int .i64 0))⟩]) (.seq (.reg [⟨some 3,none,.mv (.c (.int .i64 1))⟩]) (.seq (.seq (.reg [⟨some 6,none,.faddr 1 (.t 1)⟩,⟨some 7,none,.load false 1 (.t 6)⟩,⟨some 8,none,.len false (.t 7)⟩,⟨some 9,none,.mv (.c (.int .i64 0))⟩]) (.block 0 (.loop [0,0,0,1,0,0,0,1,1,1,0,0,0,0,0,0,0,0,0,0,0,0] (.seq (.reg [⟨some 10,none,.bin .lss false (.t 9) (.t 8)⟩]) (.seq (.cond (.t 10) .skip (.exit 0)) (.seq (.block 1 (.seq (.reg [⟨some 11,none,.iaddr 2 (.t 7) (.t 9)⟩,⟨some 12,none,.load true 2 (.t 11)⟩,⟨(some 5),none,(.alloc 30 [(.str ⟨#[]⟩),.nil])⟩,⟨none,none,(.store 2 (.t 5) (.t 12))⟩]) (.seq (.seq (.reg [⟨some 13,none,.mv (.t 3)⟩,⟨some 14,none,.bin .gtr false (.t 13) (.c (.int .i64 30))⟩]) (.cond (.t 14) (.seq (.reg [⟨some 15,none,.mv (.t 3)⟩,⟨some 2,none,.mv (.t 15)⟩]) .ret) .skip)) (.reg [⟨some 16,none,.mv (.t 3)⟩,⟨some 17,none,.load true 2 (.t 5)⟩,⟨some 18,none,.call 174 [(.t 17)]⟩,⟨some 19,none,.bin .add false (.t 16) (.t 18)⟩,⟨some 3,none,.mv (.t 19)⟩])))) (.reg [⟨some 20,none,.bin .add false (.t 9) (.c (.int .i64 1))⟩,⟨some 9,none,.mv (.t 20)⟩]))))))) (.seq (.reg [⟨some 21,none,.mv (.t 3)⟩,⟨some 2,none,.mv (.t 21)⟩]) .ret))))
theorem Q8:codeOf Tryz.prog 174=some ⟨22,Lo,[(.tmp 2)]⟩:=by kernel_rfl
theorem EX:modes 174=⟨[],.asis,none,false⟩:=by unfold modes; rfl
theorem X6 (x:Tm) (hn:x.nodes≤1099511627776) (ih:∀ y∈x.args,E 174 [y.sv] []=some (.int .i64 y.cap,[])):E 174 [x.sv] []=some (.int .i64 x.cap,[]):=by
 have hl:=Tm.length_le x.args
 have hx:=Tm.nodes_eq x
 rw [Tm.cap_eq]
 refine Ai Q8 EX (of_decide_eq_true rfl) ?_
 simp (disch:=omega) only [Lo,go_sem,Ab]
 refine go_loop (α:=Int × Int) (fun a=>⟨slots 22 0 [(3,.int .i64 a.2),(7,.arr (x.args.map Tm.d)),(8,.int .i64 x.args.length),(9,.int .i64 a.1)],[]⟩) (fun a=>∃ k:Nat,a.1=k∧k≤x.args.length∧1≤a.2∧a.2+Tm.nodeS (x.args.drop k)≤x.nodes∧Tm.capL (x.args.drop k) a.2=Tm.capL x.args 1) (fun a=>x.args.length-a.1.toNat) (0,1) ⟨0,rfl,zT _,by dsimp only; omega,by rw [zR]; dsimp only; omega,rfl⟩ (by simp (disch:=omega) only [go_sem,Ab]) ?_
 rintro ⟨i,n⟩ ⟨k,hi,hk,hn0,hn1,hs⟩
 dsimp only at hi hn0 hn1 hs
 have hni:i.toNat=k:=by omega
 rcases zN k x.args.length with hlt | hge
 ·have hg:=get_at Tm.d hlt
  rw [Tm.d_eq] at hg
  have hd:x.args.drop k=x.args[k] :: x.args.drop (k+1):=zI hlt
  have hc:=ih x.args[k] (zJ hlt)
  have hp:=Tm.cap_spec x.args[k]
  rw [hd,Tm.capL] at hs
  rw [hd,Tm.nodeS] at hn1
  rcases xD 30 n with h30 | h30
  ·rw [if_pos h30] at hs
   simp (disch:=omega) only [go_sem,Ab,hni,hg,hc,EX]
   exact hs
  ·rw [if_neg (by omega)] at hs
   simp (disch:=omega) only [go_sem,Ab,hni,hg,hc,EX]
   refine ⟨(i+1,n+x.args[k].cap),⟨k+1,by dsimp only; omega,hlt,by dsimp only; omega,by dsimp only; omega,hs⟩,by dsimp only; omega,?_⟩
   simp only [and_self]
 ·have hd:x.args.drop k=[]:=zP hge
  rw [hd,Tm.capL] at hs
  simp (disch:=omega) only [go_sem,Ab,hni]
  exact hs
theorem VB (x:Tm) (hn:x.nodes≤1099511627776):E 174 [x.sv] []=some (.int .i64 x.cap,[]) :=
 X6 x hn fun y hy=>VB y (by have:=Tm.nodes_mem hy; have:=Tm.nodes_eq x; omega)
termination_by SizeOf.sizeOf x
decreasing_by exact Tm.lt_of_mem hy
def IP:SC:=(.seq (.reg [⟨some 2,none,.boxv 30 2 (.t 0)⟩,⟨some 4,none,.mv (.c (.int .i64 0))⟩]) (.seq (.reg [⟨some 5,none,.mv (.c (.int .i64 1))⟩]) (.seq (.seq (.reg [⟨some 6,none,.mv (.c (.int .i64 0))⟩]) (.block 0 (.loop [0,1,1,0,0,1,1,0,0,0,0,0,0,0,0,0,0,0,0,0,0,0,0,0,0,0,0,0,0,0,0] (.seq (.seq (.reg [⟨some 7,none,.mv (.t 6)⟩,⟨some 8,none,.faddr 1 (.t 2)⟩,⟨some 9,none,.load false 1 (.t 8)⟩,⟨some 10,none,.len false (.t 9)⟩,⟨some 11,none,.bin .lss false (.t 7) (.t 10)⟩,⟨some 12,none,.mv (.t 11)⟩,⟨(some 13),(some (12,true)),(.mv (.t 5))⟩,⟨(some 14),(some (12,true)),(.mv (.t 1))⟩,⟨(some 15),(some (12,true)),(.bin .leq false (.t 13) (.t 14))⟩,⟨some 16,none,.pick (.t 12) (.t 15) (.c (.bool false))⟩]) (.cond (.t 16) .skip (.exit 0))) (.seq (.block 1 (.reg [⟨some 19,none,.mv (.t 5)⟩,⟨some 20,none,.faddr 1 (.t 2)⟩,⟨some 21,none,.load false 1 (.t 20)⟩,⟨some 22,none,.mv (.t 6)⟩,⟨some 23,none,.iaddr 2 (.t 21) (.t 22)⟩,⟨some 24,none,.load true 2 (.t 23)⟩,⟨some 25,none,.mv (.t 1)⟩,⟨some 26,none,.mv (.t 5)⟩,⟨some 27,none,.bin .sub false (.t 25) (.t 26)⟩,⟨some 28,none,.call 193 [(.t 24),(.t 27)]⟩,⟨some 29,none,.bin .add false (.t 19) (.t 28)⟩,⟨some 5,none,.mv (.t 29)⟩])) (.reg [⟨some 17,none,.mv (.t 6)⟩,⟨some 18,none,.bin .add false (.t 17) (.c (.int .i64 1))⟩,⟨some 6,none,.mv (.t 18)⟩])))))) (.seq (.reg [⟨some 30,none,.mv (.t 5)⟩,⟨some 4,none,.mv (.t 30)⟩]) .ret))))
theorem Nv:codeOf Tryz.prog 193=some ⟨31,IP,[(.tmp 4)]⟩:=by kernel_rfl
theorem DI:modes 193=⟨[],.asis,none,false⟩:=by unfold modes; rfl
theorem X7 (x:Tm) (m:Int) (hm:0≤m) (hm1:m≤1099511627776) (hn:x.nodes≤1099511627776) (ih:∀ y∈x.args,∀ m:Int,0≤m→m≤1099511627776→E 193 [y.sv,.int .i64 m] []=some (.int .i64 (y.many m),[])):E 193 [x.sv,.int .i64 m] []=some (.int .i64 (x.many m),[]):=by
 have hl:=Tm.length_le x.args
 have hx:=Tm.nodes_eq x
 rw [Tm.many_eq]
 refine Ai Nv DI (of_decide_eq_true rfl) ?_
 simp (disch:=omega) only [IP,go_sem,Ab]
 refine go_loop (α:=Int × Int) (fun a=>⟨slots 31 0 [(1,.int .i64 m),(2,.ptr 0 0),(5,.int .i64 a.2),(6,.int .i64 a.1)],[.box 30 [.str x.name,.arr (x.args.map Tm.d)]]⟩) (fun a=>∃ k:Nat,a.1=k∧k≤x.args.length∧1≤a.2∧a.2+Tm.nodeS (x.args.drop k)≤x.nodes∧Tm.manyL (x.args.drop k) m a.2=Tm.manyL x.args m 1) (fun a=>x.args.length-a.1.toNat) (0,1) ⟨0,rfl,zT _,by dsimp only; omega,by rw [zR]; dsimp only; omega,rfl⟩ (by simp (disch:=omega) only [go_sem,Ab]) ?_
 rintro ⟨i,n⟩ ⟨k,hi,hk,hn0,hn1,hs⟩
 dsimp only at hi hn0 hn1 hs
 have hni:i.toNat=k:=by omega
 rcases zN k x.args.length with hlt | hge
 ·have hg:=get_at Tm.d hlt
  rw [Tm.d_eq] at hg
  have hd:x.args.drop k=x.args[k] :: x.args.drop (k+1):=zI hlt
  rw [hd,Tm.manyL] at hs
  rw [hd,Tm.nodeS] at hn1
  rcases xD m n with h30 | h30
  ·rw [if_neg (by omega)] at hs
   simp (disch:=omega) only [go_sem,Ab,hni,hg,DI]
   exact hs
  ·rw [if_pos h30] at hs
   have hc:=ih x.args[k] (zJ hlt) (m-n) (by omega) (by omega)
   have hp:=Tm.many_spec x.args[k] (m-n)
   simp (disch:=omega) only [go_sem,Ab,hni,hg,hc,DI]
   refine ⟨(i+1,n+x.args[k].many (m-n)),⟨k+1,by dsimp only; omega,hlt,by dsimp only; omega,by dsimp only; omega,hs⟩,by dsimp only; omega,?_⟩
   simp only [and_self]
 ·have hd:x.args.drop k=[]:=zP hge
  rw [hd,Tm.manyL] at hs
  simp (disch:=omega) only [go_sem,Ab,hni]
  exact hs
theorem VC (x:Tm) (m:Int) (hm:0≤m) (hm1:m≤1099511627776) (hn:x.nodes≤1099511627776):E 193 [x.sv,.int .i64 m] []=some (.int .i64 (x.many m),[]) :=
 X7 x m hm hm1 hn fun y hy m hm hm1=>VC y m hm hm1 (by have:=Tm.nodes_mem hy; have:=Tm.nodes_eq x; omega)
termination_by SizeOf.sizeOf x
decreasing_by exact Tm.lt_of_mem hy
def JS:SC:=(.seq (.reg [⟨some 1,none,.boxv 30 2 (.t 0)⟩,⟨some 2,none,.mv (.c (.int .i64 0))⟩]) (.seq (.reg [⟨some 3,none,.mv (.c (.int .i64 0))⟩]) (.seq (.seq (.reg [⟨some 6,none,.faddr 1 (.t 1)⟩,⟨some 7,none,.load false 1 (.t 6)⟩,⟨some 8,none,.len false (.t 7)⟩,⟨some 9,none,.mv (.c (.int .i64 0))⟩]) (.block 0 (.loop [0,0,0,1,0,0,0,1,1,1,0,0,0,0,0,0,0,0,0,0] (.seq (.reg [⟨some 10,none,.bin .lss false (.t 9) (.t 8)⟩]) (.seq (.cond (.t 10) .skip (.exit 0)) (.seq (.block 1 (.seq (.reg [⟨some 11,none,.iaddr 2 (.t 7) (.t 9)⟩,⟨some 12,none,.load true 2 (.t 11)⟩,⟨(some 5),none,(.alloc 30 [(.str ⟨#[]⟩),.nil])⟩,⟨none,none,(.store 2 (.t 5) (.t 12))⟩]) (.reg [⟨some 13,none,.mv (.t 3)⟩,⟨some 14,none,.load true 2 (.t 5)⟩,⟨some 15,none,.call 175 [(.t 14)]⟩,⟨some 16,none,.minmax true (.t 13) (.t 15)⟩,⟨some 3,none,.mv (.t 16)⟩]))) (.reg [⟨some 17,none,.bin .add false (.t 9) (.c (.int .i64 1))⟩,⟨some 9,none,.mv (.t 17)⟩]))))))) (.seq (.reg [⟨some 18,none,.mv (.t 3)⟩,⟨some 19,none,.bin .add false (.t 18) (.c (.int .i64 1))⟩,⟨some 2,none,.mv (.t 19)⟩]) .ret))))
theorem Pu:codeOf Tryz.prog 175=some ⟨20,JS,[(.tmp 2)]⟩:=by kernel_rfl
theorem Fz:modes 175=⟨[],.asis,none,false⟩:=by unfold modes; rfl
def IQ:SC:=(.seq (.reg [⟨some 4,none,.mv (.c (.int .i64 0))⟩]) (.seq (.seq (.reg [⟨some 5,none,.mv (.t 0)⟩,⟨some 6,none,.mv (.t 1)⟩,⟨some 7,none,.bin .gtr false (.t 5) (.t 6)⟩]) (.cond (.t 7) (.seq (.reg [⟨some 8,none,.mv (.t 0)⟩,⟨some 4,none,.mv (.t 8)⟩]) .ret) .skip)) (.seq (.reg [⟨some 9,none,.mv (.t 1)⟩,⟨some 4,none,.mv (.t 9)⟩]) .ret)))
theorem Nw:codeOf Tryz.prog 55=some ⟨10,IQ,[(.tmp 4)]⟩:=by kernel_rfl
theorem IR:modes 55=⟨[],.asis,none,false⟩:=by unfold modes; rfl
def Ie:SC:=(.seq (.reg [⟨some 1,none,.boxv 30 2 (.t 0)⟩,⟨some 2,none,.mv (.c (.int .i64 0))⟩]) (.seq (.reg [⟨some 3,none,.mv (.c (.int .i64 0))⟩]) (.seq (.seq (.reg [⟨some 4,none,.mv (.c (.int .i64 0))⟩]) (.block 0 (.loop [0,1,0,1,1,0,0,0,0,0,0,0,0,0,0,0,0,0,0,0,0,0] (.seq (.seq (.reg [⟨some 5,none,.mv (.t 4)⟩,⟨some 6,none,.faddr 1 (.t 1)⟩,⟨some 7,none,.load false 1 (.t 6)⟩,⟨some 8,none,.len false (.t 7)⟩,⟨some 9,none,.bin .lss false (.t 5) (.t 8)⟩]) (.cond (.t 9) .skip (.exit 0))) (.seq (.block 1 (.reg [⟨some 12,none,.mv (.t 3)⟩,⟨some 13,none,.faddr 1 (.t 1)⟩,⟨some 14,none,.load false 1 (.t 13)⟩,⟨some 15,none,.mv (.t 4)⟩,⟨some 16,none,.iaddr 2 (.t 14) (.t 15)⟩,⟨some 17,none,.load true 2 (.t 16)⟩,⟨some 18,none,.call 194 [(.t 17)]⟩,⟨some 19,none,.call 55 [(.t 12),(.t 18)]⟩,⟨some 3,none,.mv (.t 19)⟩])) (.reg [⟨some 10,none,.mv (.t 4)⟩,⟨some 11,none,.bin .add false (.t 10) (.c (.int .i64 1))⟩,⟨some 4,none,.mv (.t 11)⟩])))))) (.seq (.reg [⟨some 20,none,.mv (.t 3)⟩,⟨some 21,none,.bin .add false (.t 20) (.c (.int .i64 1))⟩,⟨some 2,none,.mv (.t 21)⟩]) .ret))))
theorem M9:codeOf Tryz.prog 194=some ⟨22,Ie,[(.tmp 2)]⟩:=by kernel_rfl
theorem Ed:modes 194=⟨[],.asis,none,false⟩:=by unfold modes; rfl
theorem VD (a b:Int):E 55 [.int .i64 a,.int .i64 b] []=some (.int .i64 (max a b),[]):=by
 refine Ai Nw IR (of_decide_eq_true rfl) ?_
 simp (disch:=omega) only [IQ,go_sem,Ab]
 repeat' (refine Q3 (fun hq=>?_) (fun hq=>?_) <;> (first | replace hq:=At.1 hq | replace hq:=DO.1 hq) <;> (try simp (disch:=omega) only [go_sem,Ab]))
 all_goals omega
theorem VE (x:Tm) (hn:x.nodes≤1099511627776) (ih:∀ y∈x.args,E 175 [y.sv] []=some (.int .i64 y.deep,[])):E 175 [x.sv] []=some (.int .i64 x.deep,[]):=by
 have hl:=Tm.length_le x.args
 have hx:=Tm.nodes_eq x
 have hd1:=Tm.LC x
 have hd2:=Tm.G6 x
 refine Ai Pu Fz (of_decide_eq_true rfl) ?_
 simp (disch:=omega) only [JS,go_sem,Ab]
 refine go_loop (α:=Int × (Int)) (fun a=>⟨slots 20 0 [(3,.int .i64 (a.2)),(7,.arr (x.args.map Tm.d)),(8,.int .i64 x.args.length),(9,.int .i64 (a.1))],[]⟩) (fun a=>∃ k:Nat,a.1=k∧k≤(x.args).length∧0≤(a.2)∧max (a.2) (Tm.EU (x.args.drop k):Nat)=(Tm.EU x.args:Nat)) (fun a=>(x.args).length-(a.1).toNat) (0,0) ⟨0,rfl,zT _,by dsimp only; omega,by rw [zR]; dsimp only; omega⟩ (by simp (disch:=omega) only [go_sem,Ab]) ?_
 rintro ⟨i,n⟩ ⟨k,hi,hk,hR⟩
 dsimp only at hi hR
 have hni:i.toNat=k:=by omega
 have hni1:(i+1).toNat=k+1:=by omega
 rcases zN k (x.args).length with hlt | hge
 ·have hg:=get_at Tm.d hlt
  rw [Tm.d_eq] at hg
  have hc:=ih x.args[k] (zJ hlt)
  rw [zI hlt,Tm.EU] at hR
  simp (disch:=omega) only [go_sem,Ab,hni,hg,hc,Fz,X4]
  refine ⟨(i+1,max n (x.args[k].deep:Int)),⟨k+1,by dsimp only; omega,hlt,by dsimp only; omega⟩,by dsimp only; omega,?_⟩
  simp only [and_self]
 ·rw [zP hge,Tm.EU] at hR
  simp (disch:=omega) only [go_sem,Ab,hni]
  omega
theorem Ta (x:Tm) (hn:x.nodes≤1099511627776):E 175 [x.sv] []=some (.int .i64 x.deep,[]) :=
 VE x hn fun y hy=>Ta y (by have:=Tm.nodes_mem hy; have:=Tm.nodes_eq x; omega)
termination_by SizeOf.sizeOf x
decreasing_by exact Tm.lt_of_mem hy
theorem Sc (x:Tm) (hn:x.nodes≤1099511627776) (ih:∀ y∈x.args,E 194 [y.sv] []=some (.int .i64 y.deep,[])):E 194 [x.sv] []=some (.int .i64 x.deep,[]):=by
 have hl:=Tm.length_le x.args
 have hx:=Tm.nodes_eq x
 have hd1:=Tm.LC x
 have hd2:=Tm.G6 x
 refine Ai M9 Ed (of_decide_eq_true rfl) ?_
 simp (disch:=omega) only [Ie,go_sem,Ab]
 refine go_loop (α:=Int × (Int)) (fun a=>⟨slots 22 0 [(1,.ptr 0 0),(3,.int .i64 (a.2)),(4,.int .i64 (a.1))],[.box 30 [.str x.name,.arr (x.args.map Tm.d)]]⟩) (fun a=>∃ k:Nat,a.1=k∧k≤(x.args).length∧0≤(a.2)∧max (a.2) (Tm.EU (x.args.drop k):Nat)=(Tm.EU x.args:Nat)) (fun a=>(x.args).length-(a.1).toNat) (0,0) ⟨0,rfl,zT _,by dsimp only; omega,by rw [zR]; dsimp only; omega⟩ (by simp (disch:=omega) only [go_sem,Ab]) ?_
 rintro ⟨i,n⟩ ⟨k,hi,hk,hR⟩
 dsimp only at hi hR
 have hni:i.toNat=k:=by omega
 have hni1:(i+1).toNat=k+1:=by omega
 rcases zN k (x.args).length with hlt | hge
 ·have hg:=get_at Tm.d hlt
  rw [Tm.d_eq] at hg
  have hc:=ih x.args[k] (zJ hlt)
  rw [zI hlt,Tm.EU] at hR
  simp (disch:=omega) only [go_sem,Ab,hni,hg,hc,Ed,VD,IR]
  refine ⟨(i+1,max n (x.args[k].deep:Int)),⟨k+1,by dsimp only; omega,hlt,by dsimp only; omega⟩,by dsimp only; omega,?_⟩
  simp only [and_self]
 ·rw [zP hge,Tm.EU] at hR
  simp (disch:=omega) only [go_sem,Ab,hni]
  omega
theorem Ow (x:Tm) (hn:x.nodes≤1099511627776):E 194 [x.sv] []=some (.int .i64 x.deep,[]) :=
 Sc x hn fun y hy=>Ow y (by have:=Tm.nodes_mem hy; have:=Tm.nodes_eq x; omega)
termination_by SizeOf.sizeOf x
decreasing_by exact Tm.lt_of_mem hy
def Co:SC:=(.seq (.reg [⟨some 4,none,.mv (.c (.int .i64 0))⟩]) (.seq (.seq (.reg [⟨some 6,none,.mv (.t 0)⟩,⟨some 7,none,.len false (.t 6)⟩,⟨some 8,none,.mv (.c (.int .i64 0))⟩]) (.block 0 (.loop [1,1,0,0,0,0,0,1,1,0,0,0,0,0,0,0,0,0,0] (.seq (.reg [⟨some 9,none,.bin .lss false (.t 8) (.t 7)⟩]) (.seq (.cond (.t 9) .skip (.exit 0)) (.seq (.block 1 (.seq (.reg [⟨some 10,none,.mv (.t 8)⟩,⟨some 5,none,.mv (.t 10)⟩]) (.seq (.reg [⟨some 11,none,.mv (.t 1)⟩,⟨some 12,none,.mv (.t 0)⟩,⟨some 13,none,.mv (.t 5)⟩,⟨some 14,none,.iaddr 2 (.t 12) (.t 13)⟩,⟨some 15,none,.load true 2 (.t 14)⟩,⟨some 16,none,.callv (.t 11) [(.t 15)]⟩]) (.cond (.t 16) (.seq (.reg [⟨some 17,none,.mv (.t 5)⟩,⟨some 4,none,.mv (.t 17)⟩]) .ret) .skip)))) (.reg [⟨some 18,none,.bin .add false (.t 8) (.c (.int .i64 1))⟩,⟨some 8,none,.mv (.t 18)⟩]))))))) (.seq (.reg [⟨some 4,none,.mv (.c (.int .i64 (-(0+1))))⟩]) .ret)))
theorem Dy:codeOf Tryz.prog 192=some ⟨19,Co,[(.tmp 4)]⟩:=by kernel_rfl
theorem Cp:modes 192=⟨[],.asis,none,false⟩:=by unfold modes; rfl
def Cd:SC:=(.seq (.reg [⟨some 4,none,.mv (.c (.bool false))⟩]) (.seq (.reg [⟨some 5,none,.mv (.t 0)⟩,⟨some 6,none,.mv (.t 1)⟩,⟨some 7,none,.call 192 [(.t 5),(.t 6)]⟩,⟨some 8,none,.bin .geq false (.t 7) (.c (.int .i64 0))⟩,⟨some 4,none,.mv (.t 8)⟩]) .ret))
theorem Dk:codeOf Tryz.prog 176=some ⟨9,Cd,[(.tmp 4)]⟩:=by kernel_rfl
theorem Ce:modes 176=⟨[],.asis,none,false⟩:=by unfold modes; rfl
theorem Lx (fid:Nat) (p:Tm→Bool) (xs:List Tm) (hl:xs.length≤1099511627776) (hg:JA Tryz.prog fid=true) (hm:(modes fid).hand=[]) (hE:∀ x∈xs,E fid [x.sv] []=some (.bool (p x),[])):E 192 [.arr (xs.map Tm.d),.fn fid []] []=some (.int .i64 (G5 p xs 0),[]):=by
 refine Ai Dy Cp (of_decide_eq_true rfl) ?_
 simp (disch:=omega) only [Co,go_sem,Ab]
 refine go_loop (α:=Int) (fun a=>⟨slots 19 0 [(0,.arr (xs.map Tm.d)),(1,.fn fid []),(7,.int .i64 xs.length),(8,.int .i64 a)],[]⟩) (fun a=>∃ k:Nat,a=k∧k≤(xs).length∧G5 p (xs.drop k) a=G5 p xs 0) (fun a=>(xs).length-(a).toNat) 0 ⟨0,rfl,zT _,by rw [zR]⟩ (by simp (disch:=omega) only [go_sem,Ab]) ?_
 rintro i ⟨k,hi,hk,hR⟩
 have hni:i.toNat=k:=by omega
 have hni1:(i+1).toNat=k+1:=by omega
 rcases zN k (xs).length with hlt | hge
 ·have hg':=get_at Tm.d hlt
  rw [Tm.d_eq] at hg'
  have hc:=hE xs[k] (zJ hlt)
  rw [zI hlt,G5] at hR
  cases hp:p xs[k] with
  | true =>
   rw [hp] at hc hR
   simp (disch:=omega) only [go_sem,Ab,hni,hg',hc,hg,hm]
   simpa using hR
  | false =>
   rw [hp] at hc hR
   simp (disch:=omega) only [go_sem,Ab,hni,hg',hc,hg,hm]
   exact ⟨i+1,⟨k+1,by omega,hlt,by simpa using hR⟩,by omega,by first | trivial | rfl⟩
 ·rw [zP hge,G5] at hR
  simp (disch:=omega) only [go_sem,Ab,hni]
  exact hR
theorem Jv (fid:Nat) (p:Tm→Bool) (xs:List Tm) (hl:xs.length≤1099511627776) (hg:JA Tryz.prog fid=true) (hm:(modes fid).hand=[]) (hE:∀ x∈xs,E fid [x.sv] []=some (.bool (p x),[])):E 176 [.arr (xs.map Tm.d),.fn fid []] []=some (.bool (xs.any p),[]):=by
 have h:=Lx fid p xs hl hg hm hE
 refine Ai Dk Ce (of_decide_eq_true rfl) ?_
 simp (disch:=omega) only [Cd,go_sem,Ab,h,Cp]
 rw [M6]
def Dl:SC:=(.seq (.reg [⟨some 1,none,.boxv 30 2 (.t 0)⟩,⟨some 2,none,.mv (.c (.bool false))⟩]) (.seq (.seq (.reg [⟨some 3,none,.faddr 0 (.t 1)⟩,⟨some 4,none,.load false 1 (.t 3)⟩,⟨some 5,none,.call 59 [(.t 4)]⟩]) (.cond (.t 5) (.seq (.reg [⟨some 6,none,.faddr 1 (.t 1)⟩,⟨some 7,none,.load false 1 (.t 6)⟩,⟨some 8,none,.len false (.t 7)⟩,⟨some 9,none,.bin .eql false (.t 8) (.c (.int .i64 0))⟩,⟨some 2,none,.mv (.t 9)⟩]) .ret) .skip)) (.seq (.reg [⟨some 10,none,.faddr 0 (.t 1)⟩,⟨some 11,none,.load false 1 (.t 10)⟩,⟨some 12,none,.call 110 [(.t 11)]⟩,⟨some 13,none,.mv (.t 12)⟩,⟨(some 14),(some (13,true)),(.faddr 1 (.t 1))⟩,⟨(some 15),(some (13,true)),(.load false 1 (.t 14))⟩,⟨(some 16),(some (13,true)),(.len false (.t 15))⟩,⟨(some 17),(some (13,true)),(.bin .leq false (.t 16) (.c (.int .i64 4)))⟩,⟨some 18,none,.pick (.t 13) (.t 17) (.c (.bool false))⟩,⟨some 19,none,.mv (.t 18)⟩,⟨(some 20),(some (19,true)),(.faddr 1 (.t 1))⟩,⟨(some 21),(some (19,true)),(.load false 1 (.t 20))⟩,⟨(some 22),(some (19,true)),(.call 176 [(.t 21),(.c (.fn 177 []))])⟩,⟨(some 23),(some (19,true)),(.un .not (.t 22))⟩,⟨some 24,none,.pick (.t 19) (.t 23) (.c (.bool false))⟩,⟨some 2,none,.mv (.t 24)⟩]) .ret)))
theorem DQ:codeOf Tryz.prog 146=some ⟨25,Dl,[(.tmp 2)]⟩:=by kernel_rfl
theorem Be:modes 146=⟨[],.asis,none,false⟩:=by unfold modes; rfl
def Gp:SC:=(.seq (.reg [⟨some 1,none,.boxv 30 2 (.t 0)⟩,⟨some 2,none,.mv (.c (.bool false))⟩]) (.seq (.reg [⟨some 3,none,.load true 2 (.t 1)⟩,⟨some 4,none,.call 146 [(.t 3)]⟩,⟨some 5,none,.un .not (.t 4)⟩,⟨some 2,none,.mv (.t 5)⟩]) .ret))
theorem JT:codeOf Tryz.prog 177=some ⟨6,Gp,[(.tmp 2)]⟩:=by kernel_rfl
theorem Gq:modes 177=⟨[],.asis,none,false⟩:=by unfold modes; rfl
theorem JU:JA Tryz.prog 177=true:=by kernel_rfl
theorem Tm.any_not (xs:List Tm):(!xs.any fun y=>!y.names)=Tm.FN xs:=by
 rw [Tm.F6]
 induction xs with
 | nil=>rfl
 | cons x xs ih=>simp only [y9,xG,Bool.not_or,Bool.not_not,ih]
theorem Q9 (x:Tm) (hn:x.nodes≤1099511627776) (ih:∀ y∈x.args,E 146 [y.sv] []=some (.bool y.names,[])):E 146 [x.sv] []=some (.bool x.names,[]):=by
 have hl:=Tm.length_le x.args
 have hx:=Tm.nodes_eq x
 have h1:∀ y∈x.args,E 177 [y.sv] []=some (.bool (!y.names),[]):=fun y hy=>by
  have h:=ih y hy
  refine Ai JT Gq (of_decide_eq_true rfl) ?_
  simp (disch:=omega) only [Gp,go_sem,Ab,h,Be]
 have h2:=Jv 177 (fun y=>!y.names) x.args (by omega) JU (by rw [Gq]) h1
 rw [Tm.EV,← Tm.any_not]
 cases hv:Cf x.name with
 | true =>
  have h3:=CW x.name
  rw [hv] at h3
  refine Ai DQ Be (of_decide_eq_true rfl) ?_
  simp (disch:=omega) only [Dl,go_sem,Ab,h3,Ae]
  rw [Jm]; cases x.args <;> simp <;> omega
 | false =>
  have h3:=CW x.name
  rw [hv] at h3
  have h4:=M4 x.name
  cases hs:DB x.name with
  | false =>
   rw [hs] at h4
   refine Ai DQ Be (of_decide_eq_true rfl) ?_
   simp (disch:=omega) only [Dl,go_sem,Ab,h2,h3,h4,Ae,BC]
  | true =>
   rw [hs] at h4
   rcases zN 4 x.args.length with h5 | h5
   ·refine Ai DQ Be (of_decide_eq_true rfl) ?_
    simp (disch:=omega) only [Dl,go_sem,Ab,h2,h3,h4,Ae,BC]
    simp; omega
   ·refine Ai DQ Be (of_decide_eq_true rfl) ?_
    simp (disch:=omega) only [Dl,go_sem,Ab,h2,h3,h4,Ae,BC,Ce]
    simp [h5]
theorem Hy (x:Tm) (hn:x.nodes≤1099511627776):E 146 [x.sv] []=some (.bool x.names,[]) :=
 Q9 x hn fun y hy=>Hy y (by have:=Tm.nodes_mem hy; have:=Tm.nodes_eq x; omega)
termination_by SizeOf.sizeOf x
decreasing_by exact Tm.lt_of_mem hy
def Dz:SC:=(.seq (.reg [⟨some 1,none,.boxv 30 2 (.t 0)⟩,⟨some 2,none,.mv (.c (.bool false))⟩]) (.seq (.seq (.reg [⟨some 4,none,.faddr 0 (.t 1)⟩,⟨some 5,none,.load false 1 (.t 4)⟩,⟨some 6,none,.call 77 [(.t 5)]⟩]) (.cond (.t 6) (.seq (.reg [⟨some 7,none,.faddr 1 (.t 1)⟩,⟨some 8,none,.load false 1 (.t 7)⟩,⟨some 9,none,.len false (.t 8)⟩,⟨some 10,none,.bin .eql false (.t 9) (.c (.int .i64 0))⟩,⟨some 2,none,.mv (.t 10)⟩]) .ret) .skip)) (.seq (.seq (.reg [⟨some 11,none,.faddr 0 (.t 1)⟩,⟨some 12,none,.load false 1 (.t 11)⟩,⟨some 13,none,.call 122 [(.t 12)]⟩,⟨some 14,none,.un .not (.t 13)⟩,⟨some 15,none,.mv (.t 14)⟩,⟨(some 16),(some (15,false)),(.faddr 1 (.t 1))⟩,⟨(some 17),(some (15,false)),(.load false 1 (.t 16))⟩,⟨(some 18),(some (15,false)),(.len false (.t 17))⟩,⟨(some 19),(some (15,false)),(.bin .gtr false (.t 18) (.c (.int .i64 4)))⟩,⟨some 20,none,.pick (.t 15) (.c (.bool true)) (.t 19)⟩]) (.cond (.t 20) (.seq (.reg [⟨some 2,none,.mv (.c (.bool false))⟩]) .ret) .skip)) (.seq (.seq (.reg [⟨some 3,none,.mv (.c (.int .i64 0))⟩]) (.block 0 (.loop [0,1,0,1,0,0,0,0,0,0,0,0,0,0,0,0,0,0,0,0,0,0,0,0,0,0,0,0,0,0,0,0,0,0,0] (.seq (.seq (.reg [⟨some 21,none,.mv (.t 3)⟩,⟨some 22,none,.faddr 1 (.t 1)⟩,⟨some 23,none,.load false 1 (.t 22)⟩,⟨some 24,none,.len false (.t 23)⟩,⟨some 25,none,.bin .lss false (.t 21) (.t 24)⟩]) (.cond (.t 25) .skip (.exit 0))) (.seq (.block 1 (.seq (.reg [⟨some 28,none,.faddr 1 (.t 1)⟩,⟨some 29,none,.load false 1 (.t 28)⟩,⟨some 30,none,.mv (.t 3)⟩,⟨some 31,none,.iaddr 2 (.t 29) (.t 30)⟩,⟨some 32,none,.load true 2 (.t 31)⟩,⟨some 33,none,.call 180 [(.t 32)]⟩,⟨some 34,none,.un .not (.t 33)⟩]) (.cond (.t 34) (.seq (.reg [⟨some 2,none,.mv (.c (.bool false))⟩]) .ret) .skip))) (.reg [⟨some 26,none,.mv (.t 3)⟩,⟨some 27,none,.bin .add false (.t 26) (.c (.int .i64 1))⟩,⟨some 3,none,.mv (.t 27)⟩])))))) (.seq (.reg [⟨some 2,none,.mv (.c (.bool true))⟩]) .ret)))))
theorem Ee:codeOf Tryz.prog 180=some ⟨35,Dz,[(.tmp 2)]⟩:=by kernel_rfl
theorem Bf:modes 180=⟨[],.asis,none,false⟩:=by unfold modes; rfl
theorem Sd (x:Tm) (hn:x.nodes≤1099511627776) (ih:∀ y∈x.args,E 180 [y.sv] []=some (.bool y.names,[])):E 180 [x.sv] []=some (.bool x.names,[]):=by
 have hl:=Tm.length_le x.args
 have hx:=Tm.nodes_eq x
 have h3:=I9 x.name
 have h4:=M5 x.name
 rw [Tm.EV]
 cases hv:Cf x.name with
 | true =>
  rw [hv] at h3
  refine Ai Ee Bf (of_decide_eq_true rfl) ?_
  simp (disch:=omega) only [Dz,go_sem,Ab,h3,Am]
  rw [Jm]; cases x.args <;> simp <;> omega
 | false =>
  rw [hv] at h3
  cases hs:DB x.name with
  | false =>
   rw [hs] at h4
   refine Ai Ee Bf (of_decide_eq_true rfl) ?_
   simp (disch:=omega) only [Dz,go_sem,Ab,h3,h4,Am,BD]
  | true =>
   rw [hs] at h4
   rcases zN 4 x.args.length with h5 | h5
   ·refine Ai Ee Bf (of_decide_eq_true rfl) ?_
    simp (disch:=omega) only [Dz,go_sem,Ab,h3,h4,Am,BD]
    simp; omega
   ·refine Ai Ee Bf (of_decide_eq_true rfl) ?_
    simp (disch:=omega) only [Dz,go_sem,Ab,h3,h4,Am,BD]
    refine go_loop (α:=Int) (fun a=>⟨slots 35 0 [(1,.ptr 0 0),(3,.int .i64 a)],[.box 30 [.str x.name,.arr (x.args.map Tm.d)]]⟩) (fun a=>∃ k:Nat,a=k∧k≤(x.args).length∧Tm.FN (x.args.drop k)=Tm.FN x.args) (fun a=>(x.args).length-(a).toNat) 0 ⟨0,rfl,zT _,by rw [zR]⟩ (by simp (disch:=omega) only [go_sem,Ab]) ?_
    rintro i ⟨k,hi,hk,hR⟩
    have hni:i.toNat=k:=by omega
    have hni1:(i+1).toNat=k+1:=by omega
    rcases zN k (x.args).length with hlt | hge
    ·have hg:=get_at Tm.d hlt
     rw [Tm.d_eq] at hg
     have hc:=ih x.args[k] (zJ hlt)
     rw [zI hlt,Tm.FN] at hR
     cases hp:x.args[k].names with
     | true =>
      rw [hp] at hc hR
      simp (disch:=omega) only [go_sem,Ab,hni,hg,hc,Bf]
      exact ⟨i+1,⟨k+1,by omega,hlt,by simpa using hR⟩,by omega,by first | trivial | rfl⟩
     | false =>
      rw [hp] at hc hR
      simp (disch:=omega) only [go_sem,Ab,hni,hg,hc,Bf]
      simp at hR ⊢; exact fun _=>hR
    ·rw [zP hge,Tm.FN] at hR
     simp (disch:=omega) only [go_sem,Ab,hni]
     simp [h5,← hR]
theorem IB (x:Tm) (hn:x.nodes≤1099511627776):E 180 [x.sv] []=some (.bool x.names,[]) :=
 Sd x hn fun y hy=>IB y (by have:=Tm.nodes_mem hy; have:=Tm.nodes_eq x; omega)
termination_by SizeOf.sizeOf x
decreasing_by exact Tm.lt_of_mem hy
def FO:SC:=(.seq (.reg [⟨some 1,none,.boxv 30 2 (.t 0)⟩,⟨some 2,none,.mv (.c (.bool false))⟩]) (.seq (.reg [⟨some 3,none,.load true 2 (.t 1)⟩,⟨some 4,none,.call 174 [(.t 3)]⟩,⟨some 5,none,.bin .leq false (.t 4) (.c (.int .i64 30))⟩,⟨some 6,none,.mv (.t 5)⟩,⟨(some 7),(some (6,true)),(.load true 2 (.t 1))⟩,⟨(some 8),(some (6,true)),(.call 175 [(.t 7)])⟩,⟨(some 9),(some (6,true)),(.bin .leq false (.t 8) (.c (.int .i64 8)))⟩,⟨some 10,none,.pick (.t 6) (.t 9) (.c (.bool false))⟩,⟨some 2,none,.mv (.t 10)⟩]) .ret))
theorem If:codeOf Tryz.prog 145=some ⟨11,FO,[(.tmp 2)]⟩:=by kernel_rfl
theorem BM:modes 145=⟨[],.asis,none,false⟩:=by unfold modes; rfl
def G9:SC:=(.seq (.reg [⟨some 1,none,.boxv 30 2 (.t 0)⟩,⟨some 2,none,.mv (.c (.bool false))⟩]) (.seq (.reg [⟨some 3,none,.load true 2 (.t 1)⟩,⟨some 4,none,.call 193 [(.t 3),(.c (.int .i64 30))]⟩,⟨some 5,none,.bin .leq false (.t 4) (.c (.int .i64 30))⟩,⟨some 6,none,.mv (.t 5)⟩,⟨(some 7),(some (6,true)),(.load true 2 (.t 1))⟩,⟨(some 8),(some (6,true)),(.call 194 [(.t 7)])⟩,⟨(some 9),(some (6,true)),(.bin .leq false (.t 8) (.c (.int .i64 8)))⟩,⟨some 10,none,.pick (.t 6) (.t 9) (.c (.bool false))⟩,⟨some 2,none,.mv (.t 10)⟩]) .ret))
theorem IS:codeOf Tryz.prog 179=some ⟨11,G9,[(.tmp 2)]⟩:=by kernel_rfl
theorem BW:modes 179=⟨[],.asis,none,false⟩:=by unfold modes; rfl
def DT:SC:=(.seq (.reg [⟨some 1,none,.boxv 30 2 (.t 0)⟩,⟨some 2,none,.mv (.c (.bool false))⟩]) (.seq (.reg [⟨some 3,none,.load true 2 (.t 1)⟩,⟨some 4,none,.call 145 [(.t 3)]⟩,⟨some 5,none,.mv (.t 4)⟩,⟨(some 6),(some (5,true)),(.load true 2 (.t 1))⟩,⟨(some 7),(some (5,true)),(.call 146 [(.t 6)])⟩,⟨some 8,none,.pick (.t 5) (.t 7) (.c (.bool false))⟩,⟨some 2,none,.mv (.t 8)⟩]) .ret))
theorem FP:codeOf Tryz.prog 147=some ⟨9,DT,[(.tmp 2)]⟩:=by kernel_rfl
theorem B5:modes 147=⟨[],.asis,none,false⟩:=by unfold modes; rfl
def GA:SC:=(.seq (.reg [⟨some 1,none,.boxv 30 2 (.t 0)⟩,⟨some 2,none,.mv (.c (.bool false))⟩]) (.seq (.reg [⟨some 3,none,.load true 2 (.t 1)⟩,⟨some 4,none,.call 179 [(.t 3)]⟩,⟨some 5,none,.mv (.t 4)⟩,⟨(some 6),(some (5,true)),(.load true 2 (.t 1))⟩,⟨(some 7),(some (5,true)),(.call 180 [(.t 6)])⟩,⟨some 8,none,.pick (.t 5) (.t 7) (.c (.bool false))⟩,⟨some 2,none,.mv (.t 8)⟩]) .ret))
theorem IT:codeOf Tryz.prog 181=some ⟨9,GA,[(.tmp 2)]⟩:=by kernel_rfl
theorem Cy:modes 181=⟨[],.asis,none,false⟩:=by unfold modes; rfl
def Gr:SC:=(.seq (.reg [⟨some 1,none,.boxv 30 2 (.t 0)⟩,⟨some 2,none,.mv (.c (.bool false))⟩]) (.seq (.reg [⟨some 3,none,.faddr 0 (.t 1)⟩,⟨some 4,none,.load false 1 (.t 3)⟩,⟨(some 5),none,(.bin .eql false (.t 4) (.c (.str ⟨#[61]⟩)))⟩,⟨some 2,none,.mv (.t 5)⟩]) .ret))
theorem JV:codeOf Tryz.prog 88=some ⟨6,Gr,[(.tmp 2)]⟩:=by kernel_rfl
theorem A5:modes 88=⟨[],.asis,none,false⟩:=by unfold modes; rfl
def BO:SC:=(.seq (.reg [⟨some 1,none,.boxv 30 2 (.t 0)⟩,⟨some 2,none,.mv (.c (.bool false))⟩]) (.seq (.seq (.reg [⟨some 3,none,.load true 2 (.t 1)⟩,⟨some 4,none,.call 88 [(.t 3)]⟩]) (.cond (.t 4) (.seq (.reg [⟨some 5,none,.faddr 1 (.t 1)⟩,⟨some 6,none,.load false 1 (.t 5)⟩,⟨some 7,none,.len false (.t 6)⟩,⟨some 8,none,.bin .eql false (.t 7) (.c (.int .i64 2))⟩,⟨some 9,none,.mv (.t 8)⟩,⟨(some 10),(some (9,true)),(.load true 2 (.t 1))⟩,⟨(some 11),(some (9,true)),(.call 145 [(.t 10)])⟩,⟨some 12,none,.pick (.t 9) (.t 11) (.c (.bool false))⟩,⟨some 13,none,.mv (.t 12)⟩,⟨(some 14),(some (13,true)),(.faddr 1 (.t 1))⟩,⟨(some 15),(some (13,true)),(.load false 1 (.t 14))⟩,⟨(some 16),(some (13,true)),(.iaddr 2 (.t 15) (.c (.int .i64 0)))⟩,⟨(some 17),(some (13,true)),(.load true 2 (.t 16))⟩,⟨(some 18),(some (13,true)),(.call 146 [(.t 17)])⟩,⟨some 19,none,.pick (.t 13) (.t 18) (.c (.bool false))⟩,⟨some 20,none,.mv (.t 19)⟩,⟨(some 21),(some (20,true)),(.faddr 1 (.t 1))⟩,⟨(some 22),(some (20,true)),(.load false 1 (.t 21))⟩,⟨(some 23),(some (20,true)),(.iaddr 2 (.t 22) (.c (.int .i64 1)))⟩,⟨(some 24),(some (20,true)),(.load true 2 (.t 23))⟩,⟨(some 25),(some (20,true)),(.call 146 [(.t 24)])⟩,⟨some 26,none,.pick (.t 20) (.t 25) (.c (.bool false))⟩,⟨some 2,none,.mv (.t 26)⟩]) .ret) .skip)) (.seq (.reg [⟨some 27,none,.faddr 0 (.t 1)⟩,⟨some 28,none,.load false 1 (.t 27)⟩,⟨some 29,none,.call 110 [(.t 28)]⟩,⟨some 30,none,.mv (.t 29)⟩,⟨(some 31),(some (30,true)),(.load true 2 (.t 1))⟩,⟨(some 32),(some (30,true)),(.call 147 [(.t 31)])⟩,⟨some 33,none,.pick (.t 30) (.t 32) (.c (.bool false))⟩,⟨some 2,none,.mv (.t 33)⟩]) .ret)))
theorem Ch:codeOf Tryz.prog 115=some ⟨34,BO,[(.tmp 2)]⟩:=by kernel_rfl
theorem Ad:modes 115=⟨[],.asis,none,false⟩:=by unfold modes; rfl
def CI:SC:=(.seq (.reg [⟨some 1,none,.boxv 30 2 (.t 0)⟩,⟨some 2,none,.mv (.c (.bool false))⟩]) (.seq (.seq (.reg [⟨some 3,none,.faddr 0 (.t 1)⟩,⟨some 4,none,.load false 1 (.t 3)⟩,⟨(some 5),none,(.bin .eql false (.t 4) (.c (.str ⟨#[61]⟩)))⟩]) (.cond (.t 5) (.seq (.reg [⟨some 6,none,.faddr 1 (.t 1)⟩,⟨some 7,none,.load false 1 (.t 6)⟩,⟨some 8,none,.len false (.t 7)⟩,⟨some 9,none,.bin .eql false (.t 8) (.c (.int .i64 2))⟩,⟨some 10,none,.mv (.t 9)⟩,⟨(some 11),(some (10,true)),(.load true 2 (.t 1))⟩,⟨(some 12),(some (10,true)),(.call 179 [(.t 11)])⟩,⟨some 13,none,.pick (.t 10) (.t 12) (.c (.bool false))⟩,⟨some 14,none,.mv (.t 13)⟩,⟨(some 15),(some (14,true)),(.faddr 1 (.t 1))⟩,⟨(some 16),(some (14,true)),(.load false 1 (.t 15))⟩,⟨(some 17),(some (14,true)),(.iaddr 2 (.t 16) (.c (.int .i64 0)))⟩,⟨(some 18),(some (14,true)),(.load true 2 (.t 17))⟩,⟨(some 19),(some (14,true)),(.call 180 [(.t 18)])⟩,⟨some 20,none,.pick (.t 14) (.t 19) (.c (.bool false))⟩,⟨some 21,none,.mv (.t 20)⟩,⟨(some 22),(some (21,true)),(.faddr 1 (.t 1))⟩,⟨(some 23),(some (21,true)),(.load false 1 (.t 22))⟩,⟨(some 24),(some (21,true)),(.iaddr 2 (.t 23) (.c (.int .i64 1)))⟩,⟨(some 25),(some (21,true)),(.load true 2 (.t 24))⟩,⟨(some 26),(some (21,true)),(.call 180 [(.t 25)])⟩,⟨some 27,none,.pick (.t 21) (.t 26) (.c (.bool false))⟩,⟨some 2,none,.mv (.t 27)⟩]) .ret) .skip)) (.seq (.reg [⟨some 28,none,.faddr 0 (.t 1)⟩,⟨some 29,none,.load false 1 (.t 28)⟩,⟨some 30,none,.call 122 [(.t 29)]⟩,⟨some 31,none,.mv (.t 30)⟩,⟨(some 32),(some (31,true)),(.load true 2 (.t 1))⟩,⟨(some 33),(some (31,true)),(.call 181 [(.t 32)])⟩,⟨some 34,none,.pick (.t 31) (.t 33) (.c (.bool false))⟩,⟨some 2,none,.mv (.t 34)⟩]) .ret)))
theorem Do:codeOf Tryz.prog 151=some ⟨35,CI,[(.tmp 2)]⟩:=by kernel_rfl
theorem Aj:modes 151=⟨[],.asis,none,false⟩:=by unfold modes; rfl
theorem Ox (x:Tm) (hn:x.nodes≤1099511627776):E 145 [x.sv] []=some (.bool x.small,[]):=by
 have h1:=VB x hn
 have h2:=Ta x hn
 have h3:=Tm.cap_spec x
 have h4:=Tm.many_spec x 30
 unfold Tm.small
 rcases zN 30 x.nodes with h5 | h5
 ·rw [decide_eq_false (by omega),y5]
  refine Ai If BM (of_decide_eq_true rfl) ?_
  simp (disch:=omega) only [FO,go_sem,Ab,h1,h2,EX,Fz]
 ·rw [decide_eq_true h5,xA]
  refine Ai If BM (of_decide_eq_true rfl) ?_
  simp (disch:=omega) only [FO,go_sem,Ab,h1,h2,EX,Fz]
  rcases zN 8 x.deep with h6 | h6
  ·rw [decide_eq_false (by omega),An (by omega)]
  ·rw [decide_eq_true h6,Ax (by omega)]
theorem QA (x:Tm) (hn:x.nodes≤1099511627776):E 179 [x.sv] []=some (.bool x.small,[]):=by
 have h1:=VC x 30 (by omega) (by omega) hn
 have h2:=Ow x hn
 have h3:=Tm.cap_spec x
 have h4:=Tm.many_spec x 30
 unfold Tm.small
 rcases zN 30 x.nodes with h5 | h5
 ·rw [decide_eq_false (by omega),y5]
  refine Ai IS BW (of_decide_eq_true rfl) ?_
  simp (disch:=omega) only [G9,go_sem,Ab,h1,h2,DI,Ed]
 ·rw [decide_eq_true h5,xA]
  refine Ai IS BW (of_decide_eq_true rfl) ?_
  simp (disch:=omega) only [G9,go_sem,Ab,h1,h2,DI,Ed]
  rcases zN 8 x.deep with h6 | h6
  ·rw [decide_eq_false (by omega),An (by omega)]
  ·rw [decide_eq_true h6,Ax (by omega)]
theorem Nx (x:Tm) (hn:x.nodes≤1099511627776):E 147 [x.sv] []=some (.bool x.valid,[]):=by
 have h1:=Ox x hn
 have h2:=Hy x hn
 unfold Tm.valid
 cases h3:x.small <;> rw [h3] at h1
 ·refine Ai FP B5 (of_decide_eq_true rfl) ?_
  simp (disch:=omega) only [DT,go_sem,Ab,h1,h2,BM,Be]
 ·refine Ai FP B5 (of_decide_eq_true rfl) ?_
  simp (disch:=omega) only [DT,go_sem,Ab,h1,h2,BM,Be]
theorem VF (x:Tm) (hn:x.nodes≤1099511627776):E 181 [x.sv] []=some (.bool x.valid,[]):=by
 have h1:=QA x hn
 have h2:=IB x hn
 unfold Tm.valid
 cases h3:x.small <;> rw [h3] at h1
 ·refine Ai IT Cy (of_decide_eq_true rfl) ?_
  simp (disch:=omega) only [GA,go_sem,Ab,h1,h2,BW,Bf]
 ·refine Ai IT Cy (of_decide_eq_true rfl) ?_
  simp (disch:=omega) only [GA,go_sem,Ab,h1,h2,BW,Bf]
theorem Ef (x:Tm):E 88 [x.sv] []=some (.bool x.eqn,[]):=by
 unfold Tm.eqn
 refine Ai JV A5 (of_decide_eq_true rfl) ?_
 simp (disch:=omega) only [Gr,go_sem,Ab]
theorem Ny (x:Tm) (hn:x.nodes≤1099511627776):E 115 [x.sv] []=some (.bool x.atom,[]):=by
 have hl:=Tm.length_le x.args
 have hx:=Tm.nodes_eq x
 have h0:=Ef x
 have h1:=Ox x hn
 have h2:=M4 x.name
 have h3:=Nx x hn
 have hE:dec (x.name=⟨#[61]⟩)=x.eqn:=rfl
 unfold Tm.atom
 cases he:x.eqn <;> rw [he] at h0 hE
 ·rw [if_neg (by simp)]
  cases hs:DB x.name <;> rw [hs] at h2
  ·refine Ai Ch Ad (of_decide_eq_true rfl) ?_
   simp (disch:=omega) only [BO,go_sem,Ab,h0,h1,h2,h3,hE,BM,Be,BC,B5,A5]
  ·refine Ai Ch Ad (of_decide_eq_true rfl) ?_
   simp (disch:=omega) only [BO,go_sem,Ab,h0,h1,h2,h3,hE,BM,Be,BC,B5,A5]
 ·rw [if_pos rfl]
  by_cases hc:x.args.length=2
  ·have hlt0:0<x.args.length:=by omega
   have hlt1:1<x.args.length:=by omega
   have hg0:=get_at Tm.d hlt0
   have hg1:=get_at Tm.d hlt1
   rw [Tm.d_eq] at hg0 hg1
   have hb0:=Tm.nodes_le x.args 0 hlt0
   have hb1:=Tm.nodes_le x.args 1 hlt1
   have hn0:=Hy x.args[0] (by omega)
   have hn1:=Hy x.args[1] (by omega)
   rw [Ou hc,show (x.args.length == 2)=true by simpa using hc]
   cases hs:x.small <;> rw [hs] at h1
   ·refine Ai Ch Ad (of_decide_eq_true rfl) ?_
    simp (disch:=omega) only [BO,go_sem,Ab,h0,h1,h2,h3,hE,hg0,hg1,hn0,hn1,hc,BM,Be,BC,B5,A5]
    try simp
   ·cases hq:(x.args[0]'hlt0).names <;> rw [hq] at hn0
    ·refine Ai Ch Ad (of_decide_eq_true rfl) ?_
     simp (disch:=omega) only [BO,go_sem,Ab,h0,h1,h2,h3,hE,hg0,hg1,hn0,hn1,hc,BM,Be,BC,B5,A5]
     try simp
    ·refine Ai Ch Ad (of_decide_eq_true rfl) ?_
     simp (disch:=omega) only [BO,go_sem,Ab,h0,h1,h2,h3,hE,hg0,hg1,hn0,hn1,hc,BM,Be,BC,B5,A5]
     try simp
  ·refine Ai Ch Ad (of_decide_eq_true rfl) ?_
   simp (disch:=omega) only [BO,go_sem,Ab,h0,h1,h2,h3,hE,BM,Be,BC,B5,A5]
   rw [show (x.args.length == 2)=false by simpa using hc]
   try simp
theorem VG (x:Tm) (hn:x.nodes≤1099511627776):E 151 [x.sv] []=some (.bool x.atom,[]):=by
 have hl:=Tm.length_le x.args
 have hx:=Tm.nodes_eq x
 have h0:=Ef x
 have h1:=QA x hn
 have h2:=M5 x.name
 have h3:=VF x hn
 have hE:dec (x.name=⟨#[61]⟩)=x.eqn:=rfl
 unfold Tm.atom
 cases he:x.eqn <;> rw [he] at h0 hE
 ·rw [if_neg (by simp)]
  cases hs:DB x.name <;> rw [hs] at h2
  ·refine Ai Do Aj (of_decide_eq_true rfl) ?_
   simp (disch:=omega) only [CI,go_sem,Ab,h0,h1,h2,h3,hE,BW,Bf,BD,Cy]
  ·refine Ai Do Aj (of_decide_eq_true rfl) ?_
   simp (disch:=omega) only [CI,go_sem,Ab,h0,h1,h2,h3,hE,BW,Bf,BD,Cy]
 ·rw [if_pos rfl]
  by_cases hc:x.args.length=2
  ·have hlt0:0<x.args.length:=by omega
   have hlt1:1<x.args.length:=by omega
   have hg0:=get_at Tm.d hlt0
   have hg1:=get_at Tm.d hlt1
   rw [Tm.d_eq] at hg0 hg1
   have hb0:=Tm.nodes_le x.args 0 hlt0
   have hb1:=Tm.nodes_le x.args 1 hlt1
   have hn0:=IB x.args[0] (by omega)
   have hn1:=IB x.args[1] (by omega)
   rw [Ou hc,show (x.args.length == 2)=true by simpa using hc]
   cases hs:x.small <;> rw [hs] at h1
   ·refine Ai Do Aj (of_decide_eq_true rfl) ?_
    simp (disch:=omega) only [CI,go_sem,Ab,h0,h1,h2,h3,hE,hg0,hg1,hn0,hn1,hc,BW,Bf,BD,Cy]
    try simp
   ·cases hq:(x.args[0]'hlt0).names <;> rw [hq] at hn0
    ·refine Ai Do Aj (of_decide_eq_true rfl) ?_
     simp (disch:=omega) only [CI,go_sem,Ab,h0,h1,h2,h3,hE,hg0,hg1,hn0,hn1,hc,BW,Bf,BD,Cy]
     try simp
    ·refine Ai Do Aj (of_decide_eq_true rfl) ?_
     simp (disch:=omega) only [CI,go_sem,Ab,h0,h1,h2,h3,hE,hg0,hg1,hn0,hn1,hc,BW,Bf,BD,Cy]
     try simp
  ·refine Ai Do Aj (of_decide_eq_true rfl) ?_
   simp (disch:=omega) only [CI,go_sem,Ab,h0,h1,h2,h3,hE,BW,Bf,BD,Cy]
   rw [show (x.args.length == 2)=false by simpa using hc]
   try simp
noncomputable def Tm.expr (x:Tm):Bool:=x.valid || x.atom
theorem Tm.Se {x:Tm} (h:x.expr=true):x.small=true:=by
 unfold Tm.expr Tm.atom Tm.valid at h
 cases hs:x.small with
 | true=>rfl
 | false =>
  rw [hs] at h
  split at h <;> simp at h
theorem Tm.MA {x:Tm} (h:x.expr=true):x.nodes≤30:=by
 have:=Tm.Se h
 unfold Tm.small at this
 rw [zB,decide_eq_true_eq] at this
 exact this.1
theorem Tm.X8 {x:Tm} (h:x.eqn=true):Cf x.name=false:=by
 unfold Tm.eqn at h
 rw [At.1 h]
 kernel_rfl
theorem E6 {s:ByteArray} (h:Cf s=true):s.size≤6:=by
 unfold Cf inB at h
 simp at h
 omega
theorem TZ {s:ByteArray} (h:DB s=true):s.size≤6:=by
 unfold DB inB at h
 simp at h
 omega
theorem Oy (c:List UInt8):∀ xs:List (List UInt8),Lib.join xs c=EW c xs
 | []=>rfl
 | [x]=>by rw [Lib.join_one]; rfl
 | x :: y :: r=>by
  have h:=Oy c (y :: r)
  rw [EW,← h,Lib.join_cons,Lib.join_cons]
  simp only [Lib.joinTail,zC,List.flatten_cons,zO]
def QB:List (List UInt8)→Nat
 | []=>0
 | x :: r=>x.length+1+QB r
theorem Oz (c:UInt8):∀ xs:List (List UInt8),(EW [c] xs).length≤QB xs
 | []=>by simp [EW,QB]
 | [x]=>by simp [EW,QB]
 | x :: y :: r=>by
  have h:=Oz c (y :: r)
  rw [EW,QB]
  simp only [z7,zK,zQ]
  omega
theorem Tm.O0:∀ xs:List Tm,(∀ x∈xs,x.fmt.length+1≤10*x.nodes)→QB (Tm.G8 xs)≤10*Tm.nodeS xs
 | [],_=>by simp [Tm.G8,QB]
 | x :: xs,h=>by
  have h1:=h x (by simp)
  have h2:=Tm.O0 xs fun y hy=>h y (by simp [hy])
  rw [Tm.G8,QB,Tm.nodeS]; omega
theorem Tm.fmt_len (x:Tm) (hx:x.names=true):x.fmt.length+1≤10*x.nodes:=by
 have h:=Tm.O0 x.args fun y hy=>Tm.fmt_len y (Tm.Hd hx hy)
 have h2:x.name.size≤6:=by
  rw [Tm.EV] at hx
  split at hx
  ·rename_i hv; exact E6 hv
  ·rw [zB,zB] at hx; exact TZ hx.1.1
 have h3:=Oz 44 (Tm.G8 x.args)
 rw [Tm.KE,Tm.nodes_eq,z7,AD]
 split
 ·simp only [zQ]; omega
 ·simp only [z7,zK,zQ]; omega
termination_by SizeOf.sizeOf x
decreasing_by exact Tm.lt_of_mem hy
def Tm.txt (x:Tm):ByteArray:=⟨x.fmt.toArray⟩
theorem Tm.txt_toList (x:Tm):x.txt.toList=x.fmt:=by
 rw [ByteArray.toList_eq]; unfold Tm.txt; simp
theorem Tm.txt_size (x:Tm):x.txt.size=x.fmt.length:=by rw [←AD,Tm.txt_toList]
theorem Bx (a b:ByteArray):(a++b).toList=a.toList++b.toList:=by
 rw [ByteArray.toList_eq,ByteArray.toList_eq,ByteArray.toList_eq]
 simp
theorem Tm.VH {x:Tm} (h:x.args=[]):x.txt=x.name:=by
 refine Bk ?_
 rw [Tm.txt_toList,Tm.KE,h]
 simp
theorem Tm.VI (xs:List Tm):H9 (xs.map Tm.txt) ⟨#[44]⟩=⟨(EW [44] (Tm.G8 xs)).toArray⟩:=by
 unfold H9
 rw [Oy,yO,Tm.Q7]
 have e:((fun x:ByteArray=>x.data.toList) ∘ Tm.txt)=Tm.fmt:=by
  funext x
  show x.txt.data.toList=x.fmt
  rw [←ByteArray.toList_eq,Tm.txt_toList]
 rw [e]
theorem BK (l:List UInt8):(⟨l.toArray⟩:ByteArray).toList=l:=by rw [ByteArray.toList_eq]
theorem Tm.VJ {x:Tm} (h:x.args.length≠0):x.name++⟨#[40]⟩++H9 (x.args.map Tm.txt) ⟨#[44]⟩++⟨#[41]⟩=x.txt:=by
 refine Bk ?_
 rw [Tm.txt_toList,Tm.KE,if_neg h,Bx,Bx,Bx,Tm.VI,BK (EW [44] (Tm.G8 x.args))]
 have e1:(⟨#[40]⟩:ByteArray).toList=[40]:=by rw [ByteArray.toList_eq]
 have e2:(⟨#[41]⟩:ByteArray).toList=[41]:=by rw [ByteArray.toList_eq]
 rw [e1,e2]
 simp only [zO]
theorem Tm.Ua {x:Tm} (h:x.names=true):x.eqn=false:=by
 cases he:x.eqn with
 | false=>rfl
 | true =>
  have hv:=Tm.X8 he
  rw [Tm.EV,if_neg (by rw [hv]; simp),zB,zB] at h
  unfold Tm.eqn at he
  rw [At.1 he] at h
  have:DB ⟨#[61]⟩=false:=by kernel_rfl
  rw [this] at h
  simp at h
def wdN (n:ByteArray):Prop:=n.toList≠[]∧∀ c∈n.toList,Cx (c.toNat:Int)=true
theorem F8 {c:Int} (h:Nt c=true):Cx c=true:=by
 unfold Nt at h
 rw [zB,decide_eq_true_eq,decide_eq_true_eq] at h
 unfold Cx
 rw [Ax h.1,Ax h.2]; rfl
theorem Ub {c:Int} (h:Mv c=true):Cx c=true:=by
 unfold Mv at h
 rw [zB,decide_eq_true_eq,decide_eq_true_eq] at h
 unfold Cx
 rw [Ax h.1,Ax h.2]; simp
theorem O1 {c:Int} (h:TD c=true):Cx c=true:=by
 unfold TD at h
 rw [zB,decide_eq_true_eq,decide_eq_true_eq] at h
 unfold Cx
 rw [Ax h.1,Ax h.2]; simp
theorem VK:Cx 95=true:=by unfold Cx; rw [Ax (rfl:(95:Int)=95)]; simp
theorem VL {n:ByteArray} {p:Nat→Int→Bool} (h1:Ea p n n.size=true) (h2:1≤n.size) (h3:∀ j c,p j c=true→Cx c=true):wdN n:=by
 refine ⟨fun e=>?_,fun c hc=>?_⟩
 ·have:=AD n
  rw [e] at this
  simp at this; omega
 ·obtain ⟨j,hj,rfl⟩:=yQ hc
  have hj':j<n.size:=by rw [←AD]; exact hj
  unfold Ea at h1
  rw [yF] at h1
  have h:=h3 j _ (h1 j (List.mem_range.2 hj'))
  unfold H7 at h
  rw [yC,zL hj,yA] at h
  exact h
theorem Pv {n:ByteArray} (h:Cf n=true):wdN n:=by
 unfold Cf inB at h
 rw [zB,zB,decide_eq_true_eq,decide_eq_true_eq] at h
 refine VL h.1 (by omega) fun j c hc=>?_
 unfold H8 FK at hc
 rw [zB,zX,zX,zX] at hc
 rcases hc.2 with h2 | h2 | h2
 ·have hj:j=0:=by simpa using h2
  subst hj
  rcases hc.1 with h1 | h1
  ·simp at h1
  ·exact Ub h1
 ·exact F8 h2
 ·exact O1 h2
theorem X9 {n:ByteArray} (h:DB n=true):wdN n:=by
 unfold DB inB at h
 rw [zB,zB,zB,decide_eq_true_eq,decide_eq_true_eq] at h
 refine VL h.1.1 (by omega) fun j c hc=>?_
 unfold Ia FK at hc
 rw [zB,zX,zX,zX] at hc
 rcases hc.2 with (h2 | h2) | h2
 ·exact F8 h2
 ·exact O1 h2
 ·have:c=95:=by simpa using h2
  subst this
  exact VK
theorem Tm.wd {x:Tm} (h:x.names=true):wdN x.name:=by
 rw [Tm.EV] at h
 split at h
 ·rename_i hv; exact Pv hv
 ·rw [zB,zB] at h; exact X9 h.1.1
theorem CX {s:ByteArray} {a b:Nat} (k:b≤s.size):(seg s a b).length=b-a:=by
 unfold seg
 rw [yW,xB,AD]; omega
theorem Cb {s:ByteArray} {i e:Nat} {A B:List UInt8} (h:seg s i e=A++B) (he:e≤s.size) (hi:i≤e):i+A.length≤e∧seg s i (i+A.length)=A∧seg s (i+A.length) e=B:=by
 have hl:=congrArg y8 h
 rw [CX he,z7] at hl
 have hk:i+A.length≤e:=by omega
 refine ⟨hk,?_⟩
 rw [IA (show i≤i+A.length by omega) hk] at h
 have:=List.append_inj h (by rw [CX (by omega)]; omega)
 exact this
theorem AZ {s:ByteArray} {i e:Nat} {c:UInt8} {B:List UInt8} (h:seg s i e=c :: B) (he:e≤s.size):i<e∧AV s i=(c.toNat:Int)∧seg s (i+1) e=B:=by
 have hl:=congrArg y8 h
 rw [CX he,zK] at hl
 have hi:i<e:=by omega
 obtain ⟨h1,h2,h3⟩:=Cb (A:=[c]) (B:=B) h he (by omega)
 refine ⟨hi,?_,h3⟩
 have hlt:i<s.size:=by omega
 have hl2:i<s.toList.length:=by rw [AD]; exact hlt
 have h2:seg s i (i+1)=[c]:=h2
 unfold seg at h2
 rw [zI hl2,show i+1-i=1 by omega,z8,y4] at h2
 rw [G7 hlt]
 simp only [zW,and_true] at h2
 rw [h2]
def Sf (s:ByteArray) (e:Nat):Prop:=e=s.size∨(e<s.size∧Cx (AV s e)=false∧¬ AV s e=40)
theorem FQ {s:ByteArray}:∀ (l:List UInt8) (i w:Nat),seg s i w=l→i≤w→w≤s.size→(∀ c∈l,Cx (c.toNat:Int)=true)→¬ (w<s.size∧Cx (AV s w)=true)→Bj s i=w
 | [],i,w,h,hi,hw,_,hs=>by
  have hl:=congrArg y8 h
  rw [CX hw] at hl
  obtain rfl:i=w:=by simp at hl; omega
  exact E5 hs
 | c :: l,i,w,h,hi,hw,ha,hs=>by
  obtain ⟨h1,h2,h3⟩:=AZ h hw
  rw [KD (by omega) (by rw [h2]; exact ha c (by simp))]
  exact FQ l (i+1) w h3 (by omega) hw (fun c hc=>ha c (by simp [hc])) hs
theorem EY {c:Int} (h:c=40∨c=41∨c=44∨c=32):Cx c=false:=by
 unfold Cx
 have a1:¬ 97≤c:=by omega
 have a2:¬ 65≤c:=by omega
 have a3:¬ 48≤c:=by omega
 have a4:¬ c=95:=by omega
 rw [An a1,An a2,An a3,An a4]; rfl
theorem QC {s:ByteArray} {n:Nat}:∀ (ts:List Tm) (m i e:Nat),ts≠[]→(∀ t∈ts,∀ i e,e≤s.size→i≤e→seg s i e=t.fmt→Sf s e→s.size-i<n→rd s n i=some (t,e))→e≤s.size→i≤e→seg s i e=EW [44] (Tm.G8 ts)++[41]→s.size-i<m→s.size-i<n→rdL (rd s n) s m i=some (ts,e)
 | [],_,_,_,h,_,_,_,_,_,_=>absurd rfl h
 | [t],m,i,e,_,ih,he,hi,h,hm,hn=>by
  obtain ⟨m,rfl⟩:∃ m',m=m'+1:=⟨m-1,by omega⟩
  have h:seg s i e=t.fmt++[41]:=h
  obtain ⟨h1,h2,h3⟩:=Cb h he hi
  obtain ⟨g1,g2,g3⟩:=AZ h3 he
  have hl:=congrArg y8 g3
  rw [CX he] at hl
  have hl:e-(i+t.fmt.length+1)=0:=hl
  have ht:=ih t (by simp) i (i+t.fmt.length) (by omega) (by omega) h2 (.inr ⟨by omega,EY (.inr (.inl g2)),by rw [g2]; decide⟩) hn
  rw [rdL,ht]
  have a1:Dj s (i+t.fmt.length) 44=false:=by
   cases hq:Dj s (i+t.fmt.length) 44 with
   | false=>rfl
   | true=>have:=(C1.1 hq).2; rw [g2] at this; exact absurd this (by decide)
  have a2:Dj s (i+t.fmt.length) 41=true:=C1.2 ⟨by omega,g2⟩
  simp only [a1,a2,cond_false,cond_true]
  have:i+t.fmt.length+1=e:=by omega
  rw [this]
 | t :: t2 :: r,m,i,e,_,ih,he,hi,h,hm,hn=>by
  obtain ⟨m,rfl⟩:∃ m',m=m'+1:=⟨m-1,by omega⟩
  have h:seg s i e=t.fmt++[44]++EW [44] (Tm.G8 (t2 :: r))++[41]:=h
  rw [zO,zO] at h
  obtain ⟨h1,h2,h3⟩:=Cb h he hi
  obtain ⟨g1,g2,g3⟩:=AZ h3 he
  have ht:=ih t (by simp) i (i+t.fmt.length) (by omega) (by omega) h2 (.inr ⟨by omega,EY (.inr (.inr (.inl g2))),by rw [g2]; decide⟩) hn
  have hr:=QC (t2 :: r) m (i+t.fmt.length+1) e (by simp) (fun t ht=>ih t (by simp [ht])) he (by omega) g3 (by omega) (by omega)
  rw [rdL,ht]
  have a1:Dj s (i+t.fmt.length) 44=true:=C1.2 ⟨by omega,g2⟩
  simp only [a1,cond_true,hr]
theorem LE {s:ByteArray} (t:Tm) (ht:t.names=true) (n i e:Nat) (he:e≤s.size) (hi:i≤e) (h:seg s i e=t.fmt) (hs:Sf s e) (hn:s.size-i<n):rd s n i=some (t,e):=by
 obtain ⟨n,rfl⟩:∃ n',n=n'+1:=⟨n-1,by omega⟩
 obtain ⟨w1,w2⟩:=Tm.wd ht
 rw [Tm.KE] at h
 obtain ⟨h1,h2,h3⟩:=Cb h he hi
 have hex:s.extract i (i+t.name.toList.length)=t.name:=Bk (by rw [toList_extract,h2])
 have hpos:0<t.name.toList.length:=List.length_pos_iff.2 w1
 rcases yB t.args.length with h0 | h0
 ·rw [if_pos h0] at h3
  have hl:=congrArg y8 h3
  rw [CX he] at hl
  have hl:e-(i+t.name.toList.length)=0:=hl
  have hw:Bj s i=i+t.name.toList.length:=FQ t.name.toList i _ h2 (by omega) (by omega) w2 fun ⟨k1,k2⟩=>by
   have e1:i+t.name.toList.length=e:=by omega
   rw [e1] at k1 k2
   rcases hs with hs | ⟨_,hs,_⟩
   ·omega
   ·rw [hs] at k2; cases k2
  have e1:i+t.name.toList.length=e:=by omega
  have hc:Dj s (i+t.name.toList.length) 40=false:=by
   cases hq:Dj s (i+t.name.toList.length) 40 with
   | false=>rfl
   | true =>
    obtain ⟨k1,k2⟩:=C1.1 hq
    rw [e1] at k1 k2
    rcases hs with hs | ⟨_,_,hs⟩
    ·omega
    ·exact absurd k2 hs
  have hargs:t.args=[]:=zE h0
  rw [rd,hw,An (by omega),cond_false,hc,cond_false,hex,e1]
  obtain ⟨nm,us⟩:=t
  have hargs:us=[]:=hargs
  subst hargs
  rfl
 ·rw [if_neg (by omega),zO] at h3
  obtain ⟨g1,g2,g3⟩:=AZ h3 he
  have hw:Bj s i=i+t.name.toList.length:=FQ t.name.toList i _ h2 (by omega) (by omega) w2 fun ⟨_,k2⟩=>by
   rw [EY (.inl g2)] at k2; cases k2
  have hc:Dj s (i+t.name.toList.length) 40=true:=C1.2 ⟨by omega,g2⟩
  have hne:t.args≠[]:=fun h=>by rw [h] at h0; simp at h0
  have hr:=QC (s:=s) (n:=n) t.args n (i+t.name.toList.length+1) e hne (fun y hy i e a b c d f=>LE y (Tm.Hd ht hy) n i e a b c d f) he (by omega) g3 (by omega) (by omega)
  rw [rd,hw,An (by omega),cond_false,hc,cond_true,hr,hex]
  obtain ⟨nm,us⟩:=t
  rfl
termination_by SizeOf.sizeOf t
decreasing_by exact Tm.lt_of_mem hy
def D0:SC:=(.seq (.reg [⟨some 2,none,.mv (.c (.bool false))⟩]) (.seq (.reg [⟨some 3,none,.mv (.t 0)⟩,⟨some 4,none,.bin .geq false (.t 3) (.c (.int .u8 65))⟩,⟨some 5,none,.mv (.t 4)⟩,⟨(some 6),(some (5,true)),(.mv (.t 0))⟩,⟨(some 7),(some (5,true)),(.bin .leq false (.t 6) (.c (.int .u8 90)))⟩,⟨some 8,none,.pick (.t 5) (.t 7) (.c (.bool false))⟩,⟨some 2,none,.mv (.t 8)⟩]) .ret))
theorem Eg:codeOf Tryz.prog 107=some ⟨9,D0,[(.tmp 2)]⟩:=by kernel_rfl
theorem BN:modes 107=⟨[],.asis,none,false⟩:=by unfold modes; rfl
def FR:SC:=(.seq (.reg [⟨some 2,none,.mv (.c (.bool false))⟩]) (.seq (.reg [⟨some 3,none,.mv (.t 0)⟩,⟨some 4,none,.bin .geq false (.t 3) (.c (.int .u8 97))⟩,⟨some 5,none,.mv (.t 4)⟩,⟨(some 6),(some (5,true)),(.mv (.t 0))⟩,⟨(some 7),(some (5,true)),(.bin .leq false (.t 6) (.c (.int .u8 122)))⟩,⟨some 8,none,.pick (.t 5) (.t 7) (.c (.bool false))⟩,⟨some 2,none,.mv (.t 8)⟩]) .ret))
theorem Ig:codeOf Tryz.prog 108=some ⟨9,FR,[(.tmp 2)]⟩:=by kernel_rfl
theorem C2:modes 108=⟨[],.asis,none,false⟩:=by unfold modes; rfl
def FS:SC:=(.seq (.reg [⟨some 2,none,.mv (.c (.bool false))⟩]) (.seq (.reg [⟨some 3,none,.mv (.t 0)⟩,⟨some 4,none,.bin .geq false (.t 3) (.c (.int .u8 48))⟩,⟨some 5,none,.mv (.t 4)⟩,⟨(some 6),(some (5,true)),(.mv (.t 0))⟩,⟨(some 7),(some (5,true)),(.bin .leq false (.t 6) (.c (.int .u8 57)))⟩,⟨some 8,none,.pick (.t 5) (.t 7) (.c (.bool false))⟩,⟨some 2,none,.mv (.t 8)⟩]) .ret))
theorem Ih:codeOf Tryz.prog 109=some ⟨9,FS,[(.tmp 2)]⟩:=by kernel_rfl
theorem C3:modes 109=⟨[],.asis,none,false⟩:=by unfold modes; rfl
def Fl:SC:=(.seq (.reg [⟨some 4,none,.mv (.c (.bool false))⟩]) (.seq (.reg [⟨some 5,none,.mv (.t 0)⟩,⟨some 6,none,.mv (.t 1)⟩,⟨some 7,none,.call 185 [(.t 5),(.t 6)]⟩,⟨some 4,none,.mv (.t 7)⟩]) .ret))
theorem IG:codeOf Tryz.prog 158=some ⟨8,Fl,[(.tmp 4)]⟩:=by kernel_rfl
theorem Fn:modes 158=⟨[],.asis,none,false⟩:=by unfold modes; rfl
def BX:SC:=(.seq (.reg [⟨some 4,none,.mv (.c (.bool false))⟩]) (.seq (.reg [⟨some 5,none,.mv (.t 0)⟩,⟨some 6,none,.len true (.t 5)⟩,⟨some 7,none,.mv (.t 1)⟩,⟨some 8,none,.len true (.t 7)⟩,⟨some 9,none,.bin .geq false (.t 6) (.t 8)⟩,⟨some 10,none,.mv (.t 9)⟩,⟨(some 11),(some (10,true)),(.mv (.t 0))⟩,⟨(some 12),(some (10,true)),(.mv (.t 1))⟩,⟨(some 13),(some (10,true)),(.len true (.t 12))⟩,⟨(some 14),(some (10,true)),(.slice true 0 (.t 11) none (some (.t 13)))⟩,⟨(some 15),(some (10,true)),(.mv (.t 1))⟩,⟨(some 16),(some (10,true)),(.bin .eql false (.t 14) (.t 15))⟩,⟨some 17,none,.pick (.t 10) (.t 16) (.c (.bool false))⟩,⟨some 4,none,.mv (.t 17)⟩]) .ret))
theorem CD:codeOf Tryz.prog 185=some ⟨18,BX,[(.tmp 4)]⟩:=by kernel_rfl
theorem BY:modes 185=⟨[],.asis,none,false⟩:=by unfold modes; rfl
def Eh:SC:=(.seq (.reg [⟨some 4,none,.mv (.c (.bool false))⟩]) (.seq (.dreg [[],[0],[1,0],[2,1,0],[3,2,1,0],[4,3,2,1,0],[5,4,3,2,1,0],[6,5,4,3,2,1,0],[7,6,5,4,3,2,1,0],[8,7,6,5,4,3,2,1,0],[5,4,3,2,1,0],[10,5,4,3,2,1,0],[11,10,5,4,3,2,1,0],[12,11,10,5,4,3,2,1,0],[9,8,7,6,5,4,3,2,1,0,13,12,11,10],[5,4,3,2,1,0],[14,9,8,7,6,5,4,3,2,1,0,13,12,11,10,15],[5,4,3,2,1,0,16,14,9,8,7,6,13,12,11,10,15],[17,5,4,3,2,1,0,16,14,9,8,7,6,13,12,11,10,15]] [⟨some 5,none,.mv (.t 0)⟩,⟨some 6,none,.nilchk (.t 5)⟩,⟨some 7,none,.faddr 2 (.t 6)⟩,⟨some 8,none,.load false 1 (.t 7)⟩,⟨some 9,none,.un .not (.t 8)⟩,⟨some 10,none,.mv (.t 9)⟩,⟨(some 11),(some (10,true)),(.mv (.t 0))⟩,⟨(some 12),(some (10,true)),(.nilchk (.t 11))⟩,⟨(some 13),(some (10,true)),(.faddr 0 (.t 12))⟩,⟨(some 14),(some (10,true)),(.load false 1 (.t 13))⟩,⟨(some 15),(some (10,true)),(.mv (.t 0))⟩,⟨(some 16),(some (10,true)),(.nilchk (.t 15))⟩,⟨(some 17),(some (10,true)),(.faddr 1 (.t 16))⟩,⟨(some 18),(some (10,true)),(.load false 1 (.t 17))⟩,⟨(some 19),(some (10,true)),(.slice true 0 (.t 14) (some (.t 18)) none)⟩,⟨(some 20),(some (10,true)),(.mv (.t 1))⟩,⟨(some 21),(some (10,true)),(.call 158 [(.t 19),(.t 20)])⟩,⟨some 22,none,.pick (.t 10) (.t 21) (.c (.bool false))⟩,⟨some 4,none,.mv (.t 22)⟩]) .ret))
theorem Gs:codeOf Tryz.prog 130=some ⟨23,Eh,[(.tmp 4)]⟩:=by kernel_rfl
theorem CE:modes 130=⟨[],.asis,none,false⟩:=by unfold modes; rfl
def CY:SC:=(.seq (.reg [⟨some 4,none,.mv (.c (.bool false))⟩]) (.seq (.reg [⟨some 6,none,.mv (.t 0)⟩,⟨some 7,none,.mv (.t 1)⟩,⟨some 8,none,.call 130 [(.t 6),(.t 7)]⟩,⟨some 5,none,.mv (.t 8)⟩]) (.seq (.seq (.reg [⟨some 9,none,.mv (.t 5)⟩]) (.cond (.t 9) (.reg [⟨some 10,none,.mv (.t 0)⟩,⟨some 11,none,.nilchk (.t 10)⟩,⟨some 12,none,.faddr 1 (.t 11)⟩,⟨some 13,none,.load false 1 (.t 12)⟩,⟨some 14,none,.mv (.t 1)⟩,⟨some 15,none,.len true (.t 14)⟩,⟨some 16,none,.bin .add false (.t 13) (.t 15)⟩,⟨some 17,none,.nilchk (.t 10)⟩,⟨some 18,none,.faddr 1 (.t 17)⟩,⟨none,none,(.store 1 (.t 18) (.t 16))⟩]) .skip)) (.seq (.reg [⟨some 19,none,.mv (.t 5)⟩,⟨some 4,none,.mv (.t 19)⟩]) .ret))))
theorem DU:codeOf Tryz.prog 90=some ⟨20,CY,[(.tmp 4)]⟩:=by kernel_rfl
theorem Ao:modes 90=⟨[],.asis,none,false⟩:=by unfold modes; rfl
def CZ:SC:=(.seq (.reg [⟨some 4,none,.mv (.t 0)⟩,⟨some 5,none,.mv (.t 1)⟩,⟨some 6,none,.call 90 [(.t 4),(.t 5)]⟩,⟨some 7,none,.un .not (.t 6)⟩]) (.cond (.t 7) (.reg [⟨some 8,none,.mv (.t 0)⟩,⟨some 9,none,.nilchk (.t 8)⟩,⟨some 10,none,.faddr 2 (.t 9)⟩,⟨none,none,(.store 1 (.t 10) (.c (.bool true)))⟩]) .skip))
theorem DV:codeOf Tryz.prog 92=some ⟨11,CZ,[]⟩:=by kernel_rfl
theorem Ap:modes 92=⟨[],.asis,none,false⟩:=by unfold modes; rfl
def DC:SC:=(.seq (.reg [⟨some 2,none,.mv (.c (.bool false))⟩]) (.seq (.dreg [[],[0],[1,0],[2,1,0],[3,2,1,0],[4,3,2,1,0],[5,4,3,2,1,0],[6,5,4,3,2,1,0],[7,6,5,4,3,2,1,0],[8,7,6,5,4,3,2,1,0],[5,4,3,2,1,0],[10,5,4,3,2,1,0],[11,10,5,4,3,2,1,0],[12,11,10,5,4,3,2,1,0],[13,12,11,10,5,4,3,2,1,0],[9,8,7,6,5,4,3,2,1,0,14,13,12,11,10],[5,4,3,2,1,0,15,9,8,7,6,14,13,12,11,10],[16,5,4,3,2,1,0,15,9,8,7,6,14,13,12,11,10]] [⟨some 3,none,.mv (.t 0)⟩,⟨some 4,none,.nilchk (.t 3)⟩,⟨some 5,none,.faddr 2 (.t 4)⟩,⟨some 6,none,.load false 1 (.t 5)⟩,⟨some 7,none,.un .not (.t 6)⟩,⟨some 8,none,.mv (.t 7)⟩,⟨(some 9),(some (8,true)),(.mv (.t 0))⟩,⟨(some 10),(some (8,true)),(.nilchk (.t 9))⟩,⟨(some 11),(some (8,true)),(.faddr 1 (.t 10))⟩,⟨(some 12),(some (8,true)),(.load false 1 (.t 11))⟩,⟨(some 13),(some (8,true)),(.mv (.t 0))⟩,⟨(some 14),(some (8,true)),(.nilchk (.t 13))⟩,⟨(some 15),(some (8,true)),(.faddr 0 (.t 14))⟩,⟨(some 16),(some (8,true)),(.load false 1 (.t 15))⟩,⟨(some 17),(some (8,true)),(.len true (.t 16))⟩,⟨(some 18),(some (8,true)),(.bin .eql false (.t 12) (.t 17))⟩,⟨some 19,none,.pick (.t 8) (.t 18) (.c (.bool false))⟩,⟨some 2,none,.mv (.t 19)⟩]) .ret))
theorem Fo:codeOf Tryz.prog 46=some ⟨20,DC,[(.tmp 2)]⟩:=by kernel_rfl
theorem BG:modes 46=⟨[],.asis,none,false⟩:=by unfold modes; rfl
def DW:SC:=(.seq (.reg [⟨(some 2),none,(.mv (.c (.str ⟨#[]⟩)))⟩]) (.seq (.reg [⟨some 4,none,.mv (.t 0)⟩,⟨some 5,none,.nilchk (.t 4)⟩,⟨some 6,none,.faddr 1 (.t 5)⟩,⟨some 7,none,.load false 1 (.t 6)⟩,⟨some 3,none,.mv (.t 7)⟩]) (.seq (.block 0 (.loop [1,0,0,1,0,0,0,0,0,0,0,0,0,0,0,0,0,0,0,0,0,0,0,0,0,0,0,0,0,0,0,0,0,0,0,0,0,0,0,0,0,0,0,0,0,0,0,0,0,0,0,0,0,0,0,0,0,0,0,0,0,0,0,0,0,0,0,0,0,0,0,0,0,0,0,0,0,0,0,0,0,0,0,0,0,0,0,0,0,0,0,0,0,0,0,0,0,0] (.seq (.seq (.dreg [[],[0],[1,0],[2,1,0],[],[4],[5,4],[6,5,4],[7,6,5,4],[3,2,1,0,8,7,6,5,4],[9,3,2,1,0,8,7,6,5,4],[10,9,3,2,1,0,8,7,6,5,4],[11,10,9,3,2,1,0,8,7,6,5,4],[12,11,10,9,3,2,1,0,8,7,6,5,4],[13,12,11,10,9,3,2,1,0,8,7,6,5,4],[10,9,3,2,1,0,8,7,6,5,4],[15,10,9,3,2,1,0,8,7,6,5,4],[16,15,10,9,3,2,1,0,8,7,6,5,4],[17,16,15,10,9,3,2,1,0,8,7,6,5,4],[14,13,12,11,10,9,3,2,1,0,8,7,6,5,4,18,17,16,15],[19,14,13,12,11,10,9,3,2,1,0,8,7,6,5,4,18,17,16,15],[20,19,14,13,12,11,10,9,3,2,1,0,8,7,6,5,4,18,17,16,15],[21,20,19,14,13,12,11,10,9,3,2,1,0,8,7,6,5,4,18,17,16,15],[22,21,20,19,14,13,12,11,10,9,3,2,1,0,8,7,6,5,4,18,17,16,15],[23,22,21,20,19,14,13,12,11,10,9,3,2,1,0,8,7,6,5,4,18,17,16,15],[24,23,22,21,20,19,14,13,12,11,10,9,3,2,1,0,8,7,6,5,4,18,17,16,15],[21,20,19,14,13,12,11,10,9,3,2,1,0,8,7,6,5,4,18,17,16,15],[26,21,20,19,14,13,12,11,10,9,3,2,1,0,8,7,6,5,4,18,17,16,15],[27,26,21,20,19,14,13,12,11,10,9,3,2,1,0,8,7,6,5,4,18,17,16,15],[28,27,26,21,20,19,14,13,12,11,10,9,3,2,1,0,8,7,6,5,4,18,17,16,15],[25,24,23,22,21,20,19,14,13,12,11,10,9,3,2,1,0,8,7,6,5,4,18,17,16,15,29,28,27,26],[30,25,24,23,22,21,20,19,14,13,12,11,10,9,3,2,1,0,8,7,6,5,4,18,17,16,15,29,28,27,26],[21,20,19,14,13,12,11,10,9,3,2,1,0,8,7,6,5,4,18,17,16,15,31,30,25,24,23,22,29,28,27,26],[32,21,20,19,14,13,12,11,10,9,3,2,1,0,8,7,6,5,4,18,17,16,15,31,30,25,24,23,22,29,28,27,26],[33,32,21,20,19,14,13,12,11,10,9,3,2,1,0,8,7,6,5,4,18,17,16,15,31,30,25,24,23,22,29,28,27,26],[34,33,32,21,20,19,14,13,12,11,10,9,3,2,1,0,8,7,6,5,4,18,17,16,15,31,30,25,24,23,22,29,28,27,26],[35,34,33,32,21,20,19,14,13,12,11,10,9,3,2,1,0,8,7,6,5,4,18,17,16,15,31,30,25,24,23,22,29,28,27,26],[36,35,34,33,32,21,20,19,14,13,12,11,10,9,3,2,1,0,8,7,6,5,4,18,17,16,15,31,30,25,24,23,22,29,28,27,26],[33,32,21,20,19,14,13,12,11,10,9,3,2,1,0,8,7,6,5,4,18,17,16,15,31,30,25,24,23,22,29,28,27,26],[38,33,32,21,20,19,14,13,12,11,10,9,3,2,1,0,8,7,6,5,4,18,17,16,15,31,30,25,24,23,22,29,28,27,26],[39,38,33,32,21,20,19,14,13,12,11,10,9,3,2,1,0,8,7,6,5,4,18,17,16,15,31,30,25,24,23,22,29,28,27,26],[40,39,38,33,32,21,20,19,14,13,12,11,10,9,3,2,1,0,8,7,6,5,4,18,17,16,15,31,30,25,24,23,22,29,28,27,26],[37,36,35,34,33,32,21,20,19,14,13,12,11,10,9,3,2,1,0,8,7,6,5,4,18,17,16,15,31,30,25,24,23,22,29,28,27,26,41,40,39,38],[42,37,36,35,34,33,32,21,20,19,14,13,12,11,10,9,3,2,1,0,8,7,6,5,4,18,17,16,15,31,30,25,24,23,22,29,28,27,26,41,40,39,38],[33,32,21,20,19,14,13,12,11,10,9,3,2,1,0,8,7,6,5,4,18,17,16,15,31,30,25,24,23,22,29,28,27,26,43,42,37,36,35,34,41,40,39,38],[44,33,32,21,20,19,14,13,12,11,10,9,3,2,1,0,8,7,6,5,4,18,17,16,15,31,30,25,24,23,22,29,28,27,26,43,42,37,36,35,34,41,40,39,38],[45,44,33,32,21,20,19,14,13,12,11,10,9,3,2,1,0,8,7,6,5,4,18,17,16,15,31,30,25,24,23,22,29,28,27,26,43,42,37,36,35,34,41,40,39,38],[46,45,44,33,32,21,20,19,14,13,12,11,10,9,3,2,1,0,8,7,6,5,4,18,17,16,15,31,30,25,24,23,22,29,28,27,26,43,42,37,36,35,34,41,40,39,38],[47,46,45,44,33,32,21,20,19,14,13,12,11,10,9,3,2,1,0,8,7,6,5,4,18,17,16,15,31,30,25,24,23,22,29,28,27,26,43,42,37,36,35,34,41,40,39,38],[48,47,46,45,44,33,32,21,20,19,14,13,12,11,10,9,3,2,1,0,8,7,6,5,4,18,17,16,15,31,30,25,24,23,22,29,28,27,26,43,42,37,36,35,34,41,40,39,38],[45,44,33,32,21,20,19,14,13,12,11,10,9,3,2,1,0,8,7,6,5,4,18,17,16,15,31,30,25,24,23,22,29,28,27,26,43,42,37,36,35,34,41,40,39,38],[50,45,44,33,32,21,20,19,14,13,12,11,10,9,3,2,1,0,8,7,6,5,4,18,17,16,15,31,30,25,24,23,22,29,28,27,26,43,42,37,36,35,34,41,40,39,38],[51,50,45,44,33,32,21,20,19,14,13,12,11,10,9,3,2,1,0,8,7,6,5,4,18,17,16,15,31,30,25,24,23,22,29,28,27,26,43,42,37,36,35,34,41,40,39,38],[52,51,50,45,44,33,32,21,20,19,14,13,12,11,10,9,3,2,1,0,8,7,6,5,4,18,17,16,15,31,30,25,24,23,22,29,28,27,26,43,42,37,36,35,34,41,40,39,38],[49,48,47,46,45,44,33,32,21,20,19,14,13,12,11,10,9,3,2,1,0,8,7,6,5,4,18,17,16,15,31,30,25,24,23,22,29,28,27,26,43,42,37,36,35,34,41,40,39,38,53,52,51,50],[54,49,48,47,46,45,44,33,32,21,20,19,14,13,12,11,10,9,3,2,1,0,8,7,6,5,4,18,17,16,15,31,30,25,24,23,22,29,28,27,26,43,42,37,36,35,34,41,40,39,38,53,52,51,50],[45,44,33,32,21,20,19,14,13,12,11,10,9,3,2,1,0,8,7,6,5,4,18,17,16,15,31,30,25,24,23,22,29,28,27,26,43,42,37,36,35,34,41,40,39,38,55,54,49,48,47,46,53,52,51,50],[10,9,3,2,1,0,8,7,6,5,4,56,45,44,33,32,21,20,19,14,13,12,11,18,17,16,15,31,30,25,24,23,22,29,28,27,26,43,42,37,36,35,34,41,40,39,38,55,54,49,48,47,46,53,52,51,50]] [⟨some 8,none,.mv (.t 0)⟩,⟨some 9,none,.nilchk (.t 8)⟩,⟨some 10,none,.faddr 1 (.t 9)⟩,⟨some 11,none,.load false 1 (.t 10)⟩,⟨some 12,none,.mv (.t 0)⟩,⟨some 13,none,.nilchk (.t 12)⟩,⟨some 14,none,.faddr 0 (.t 13)⟩,⟨some 15,none,.load false 1 (.t 14)⟩,⟨some 16,none,.len true (.t 15)⟩,⟨some 17,none,.bin .lss false (.t 11) (.t 16)⟩,⟨some 18,none,.mv (.t 17)⟩,⟨(some 19),(some (18,true)),(.mv (.t 0))⟩,⟨(some 20),(some (18,true)),(.nilchk (.t 19))⟩,⟨(some 21),(some (18,true)),(.faddr 0 (.t 20))⟩,⟨(some 22),(some (18,true)),(.load false 1 (.t 21))⟩,⟨(some 23),(some (18,true)),(.mv (.t 0))⟩,⟨(some 24),(some (18,true)),(.nilchk (.t 23))⟩,⟨(some 25),(some (18,true)),(.faddr 1 (.t 24))⟩,⟨(some 26),(some (18,true)),(.load false 1 (.t 25))⟩,⟨(some 27),(some (18,true)),(.idx (.t 22) (.t 26))⟩,⟨(some 28),(some (18,true)),(.call 108 [(.t 27)])⟩,⟨(some 29),(some (18,true)),(.mv (.t 28))⟩,⟨(some 30),(some (29,false)),(.mv (.t 0))⟩,⟨(some 31),(some (29,false)),(.nilchk (.t 30))⟩,⟨(some 32),(some (29,false)),(.faddr 0 (.t 31))⟩,⟨(some 33),(some (29,false)),(.load false 1 (.t 32))⟩,⟨(some 34),(some (29,false)),(.mv (.t 0))⟩,⟨(some 35),(some (29,false)),(.nilchk (.t 34))⟩,⟨(some 36),(some (29,false)),(.faddr 1 (.t 35))⟩,⟨(some 37),(some (29,false)),(.load false 1 (.t 36))⟩,⟨(some 38),(some (29,false)),(.idx (.t 33) (.t 37))⟩,⟨(some 39),(some (29,false)),(.call 107 [(.t 38)])⟩,⟨(some 40),(some (18,true)),(.pick (.t 29) (.c (.bool true)) (.t 39))⟩,⟨(some 41),(some (18,true)),(.mv (.t 40))⟩,⟨(some 42),(some (41,false)),(.mv (.t 0))⟩,⟨(some 43),(some (41,false)),(.nilchk (.t 42))⟩,⟨(some 44),(some (41,false)),(.faddr 0 (.t 43))⟩,⟨(some 45),(some (41,false)),(.load false 1 (.t 44))⟩,⟨(some 46),(some (41,false)),(.mv (.t 0))⟩,⟨(some 47),(some (41,false)),(.nilchk (.t 46))⟩,⟨(some 48),(some (41,false)),(.faddr 1 (.t 47))⟩,⟨(some 49),(some (41,false)),(.load false 1 (.t 48))⟩,⟨(some 50),(some (41,false)),(.idx (.t 45) (.t 49))⟩,⟨(some 51),(some (41,false)),(.call 109 [(.t 50)])⟩,⟨(some 52),(some (18,true)),(.pick (.t 41) (.c (.bool true)) (.t 51))⟩,⟨(some 53),(some (18,true)),(.mv (.t 52))⟩,⟨(some 54),(some (53,false)),(.mv (.t 0))⟩,⟨(some 55),(some (53,false)),(.nilchk (.t 54))⟩,⟨(some 56),(some (53,false)),(.faddr 0 (.t 55))⟩,⟨(some 57),(some (53,false)),(.load false 1 (.t 56))⟩,⟨(some 58),(some (53,false)),(.mv (.t 0))⟩,⟨(some 59),(some (53,false)),(.nilchk (.t 58))⟩,⟨(some 60),(some (53,false)),(.faddr 1 (.t 59))⟩,⟨(some 61),(some (53,false)),(.load false 1 (.t 60))⟩,⟨(some 62),(some (53,false)),(.idx (.t 57) (.t 61))⟩,⟨(some 63),(some (53,false)),(.bin .eql false (.t 62) (.c (.int .u8 95)))⟩,⟨(some 64),(some (18,true)),(.pick (.t 53) (.c (.bool true)) (.t 63))⟩,⟨some 65,none,.pick (.t 18) (.t 64) (.c (.bool false))⟩]) (.cond (.t 65) .skip (.exit 0))) (.block 1 (.reg [⟨some 66,none,.mv (.t 0)⟩,⟨some 67,none,.nilchk (.t 66)⟩,⟨some 68,none,.faddr 1 (.t 67)⟩,⟨some 69,none,.load false 1 (.t 68)⟩,⟨some 70,none,.bin .add false (.t 69) (.c (.int .i64 1))⟩,⟨some 71,none,.nilchk (.t 66)⟩,⟨some 72,none,.faddr 1 (.t 71)⟩,⟨none,none,(.store 1 (.t 72) (.t 70))⟩]))))) (.seq (.seq (.reg [⟨some 73,none,.mv (.t 0)⟩,⟨some 74,none,.nilchk (.t 73)⟩,⟨some 75,none,.faddr 2 (.t 74)⟩,⟨some 76,none,.load false 1 (.t 75)⟩,⟨some 77,none,.mv (.t 76)⟩,⟨(some 78),(some (77,false)),(.mv (.t 3))⟩,⟨(some 79),(some (77,false)),(.mv (.t 0))⟩,⟨(some 80),(some (77,false)),(.nilchk (.t 79))⟩,⟨(some 81),(some (77,false)),(.faddr 1 (.t 80))⟩,⟨(some 82),(some (77,false)),(.load false 1 (.t 81))⟩,⟨(some 83),(some (77,false)),(.bin .eql false (.t 78) (.t 82))⟩,⟨some 84,none,.pick (.t 77) (.c (.bool true)) (.t 83)⟩]) (.cond (.t 84) (.seq (.reg [⟨some 85,none,.mv (.t 0)⟩,⟨some 86,none,.nilchk (.t 85)⟩,⟨some 87,none,.faddr 2 (.t 86)⟩,⟨none,none,(.store 1 (.t 87) (.c (.bool true)))⟩]) (.seq (.reg [⟨(some 2),none,(.mv (.c (.str ⟨#[]⟩)))⟩]) .ret)) .skip)) (.seq (.dreg [[],[0],[1,0],[2,1,0],[],[],[5],[6,5],[7,6,5],[3,2,1,0,4,8,7,6,5],[9,3,2,1,0,4,8,7,6,5]] [⟨some 88,none,.mv (.t 0)⟩,⟨some 89,none,.nilchk (.t 88)⟩,⟨some 90,none,.faddr 0 (.t 89)⟩,⟨some 91,none,.load false 1 (.t 90)⟩,⟨some 92,none,.mv (.t 3)⟩,⟨some 93,none,.mv (.t 0)⟩,⟨some 94,none,.nilchk (.t 93)⟩,⟨some 95,none,.faddr 1 (.t 94)⟩,⟨some 96,none,.load false 1 (.t 95)⟩,⟨some 97,none,.slice true 0 (.t 91) (some (.t 92)) (some (.t 96))⟩,⟨some 2,none,.mv (.t 97)⟩]) .ret)))))
theorem FT:codeOf Tryz.prog 91=some ⟨98,DW,[(.tmp 2)]⟩:=by kernel_rfl
theorem Av:modes 91=⟨[],.asis,none,false⟩:=by unfold modes; rfl
theorem QD (n:Int):E 108 [.int .u8 n] []=some (.bool (dec (97≤n)&&dec (n≤122)),[]):=by
 cases h1:dec (97≤n)
 ·refine Ai Ig C2 (of_decide_eq_true rfl) ?_
  simp (disch:=omega) only [FR,go_sem,Ab,h1]
 ·refine Ai Ig C2 (of_decide_eq_true rfl) ?_
  simp (disch:=omega) only [FR,go_sem,Ab,h1]
theorem QE (n:Int):E 107 [.int .u8 n] []=some (.bool (dec (65≤n)&&dec (n≤90)),[]):=by
 cases h1:dec (65≤n)
 ·refine Ai Eg BN (of_decide_eq_true rfl) ?_
  simp (disch:=omega) only [D0,go_sem,Ab,h1]
 ·refine Ai Eg BN (of_decide_eq_true rfl) ?_
  simp (disch:=omega) only [D0,go_sem,Ab,h1]
theorem QF (n:Int):E 109 [.int .u8 n] []=some (.bool (dec (48≤n)&&dec (n≤57)),[]):=by
 cases h1:dec (48≤n)
 ·refine Ai Ih C3 (of_decide_eq_true rfl) ?_
  simp (disch:=omega) only [FS,go_sem,Ab,h1]
 ·refine Ai Ih C3 (of_decide_eq_true rfl) ?_
  simp (disch:=omega) only [FS,go_sem,Ab,h1]
noncomputable def preB (a b:ByteArray):Bool:=dec (b.size≤a.size)&&dec (a.extract 0 b.size=b)
theorem Pw (a b:ByteArray):E 185 [.str a,.str b] []=some (.bool (preB a b),[]):=by
 unfold preB
 by_cases h:b.size≤a.size
 ·have h1:((b.size:Int)≤(a.size:Int))=True:=eq_true (by omega)
  rw [Ax h,xA]
  refine Ai CD BY (of_decide_eq_true rfl) ?_
  simp (disch:=omega) only [BX,go_sem,Ab,h1,xF]
 ·have h1:((b.size:Int)≤(a.size:Int))=False:=eq_false (by omega)
  rw [An h,y5]
  refine Ai CD BY (of_decide_eq_true rfl) ?_
  simp (disch:=omega) only [BX,go_sem,Ab,h1]
theorem QG (a b:ByteArray):E 158 [.str a,.str b] []=some (.bool (preB a b),[]):=by
 have h:=Pw a b
 refine Ai IG Fn (of_decide_eq_true rfl) ?_
 simp (disch:=omega) only [Fl,go_sem,Ab,h,BY]
noncomputable def hasB (s:ByteArray) (i:Nat) (x:ByteArray):Bool:=preB (s.extract i s.size) x
theorem XA {s:ByteArray} {a b:Nat} (h:a≤b) (k:b≤s.size):(seg s a b).length=b-a:=by
 unfold seg
 rw [yW,xB,AD]; omega
theorem Nz {s:ByteArray} {a b:Nat} (h:a≤b) (k:b≤s.size):(s.extract a b).size=b-a:=by
 rw [←AD,toList_extract,XA h k]
theorem VM {a b:ByteArray}:preB a b=true ↔ b.toList=a.toList.take b.size∧b.size≤a.size:=by
 unfold preB
 rw [zB,At,At]
 constructor
 ·rintro ⟨h1,h2⟩
  refine ⟨?_,h1⟩
  rw [←h2,toList_extract]
  unfold seg
  rw [zR,xC,h2]
 ·rintro ⟨h1,h2⟩
  refine ⟨h2,Bk ?_⟩
  rw [toList_extract,h1]
  unfold seg
  rw [zR,xC]
theorem Cq {s:ByteArray} {i:Nat} {x:ByteArray} (hi:i≤s.size):hasB s i x=true ↔ i+x.size≤s.size∧seg s i (i+x.size)=x.toList:=by
 unfold hasB
 rw [VM,toList_extract,Nz hi (yG _)]
 have hs:seg s i s.size=s.toList.drop i:=by
  unfold seg
  rw [List.take_of_length_le (by rw [xB,AD]; exact yG _)]
 rw [hs]
 unfold seg
 rw [show i+x.size-i=x.size by omega]
 constructor
 ·rintro ⟨h1,h2⟩; exact ⟨by omega,h1.symm⟩
 ·rintro ⟨h1,h2⟩; exact ⟨h2.symm,by omega⟩
theorem Ii {s:ByteArray} {i:Nat} (hi:i≤s.size) (c:UInt8):hasB s i ⟨#[c]⟩=Dj s i c.toNat:=by
 cases h:Dj s i c.toNat with
 | true =>
  obtain ⟨h1,h2⟩:=C1.1 h
  refine (Cq hi).2 ⟨h1,?_⟩
  show seg s i (i+1)=_
  rw [LD h1 h2,ByteArray.toList_eq]
 | false =>
  cases k:hasB s i ⟨#[c]⟩ with
  | false=>rfl
  | true =>
   obtain ⟨k1,k2⟩:=(Cq hi).1 k
   have k1:i+1≤s.size:=k1
   have k2:seg s i (i+1)=[c]:=by rw [ByteArray.toList_eq] at k2; exact k2
   have hl:i<s.toList.length:=by rw [AD]; exact k1
   unfold seg at k2
   rw [zI hl,show i+1-i=1 by omega,z8,y4] at k2
   have:Dj s i c.toNat=true:=C1.2 ⟨k1,by rw [G7 k1]; simp only [zW,and_true] at k2; rw [k2]⟩
   rw [this] at h; cases h
abbrev psr (s:ByteArray) (i:Nat) (f:Bool):Ob:=.box 83 [.str s,.int .i64 (i:Int),.bool f]
theorem Zr (s:ByteArray) (i:Nat) (x:ByteArray):E 130 [.ptr 0 0,.str x] [psr s i true]=some (.bool false,[psr s i true]):=by
 refine Ai Gs CE (of_decide_eq_true rfl) ?_
 simp (disch:=omega) only [Eh,go_sem,Ab]
theorem XU (s:ByteArray) (i:Nat) (x:ByteArray) (hi:i≤s.size):E 130 [.ptr 0 0,.str x] [psr s i false]=some (.bool (hasB s i x),[psr s i false]):=by
 have h:=QG (s.extract i s.size) x
 unfold hasB
 refine Ai Gs CE (of_decide_eq_true rfl) ?_
 simp (disch:=omega) only [Eh,go_sem,Ab,h,Fn]
theorem FU (s:ByteArray) (i:Nat) (x:ByteArray):E 90 [.ptr 0 0,.str x] [psr s i true]=some (.bool false,[psr s i true]):=by
 have h:=Zr s i x
 refine Ai DU Ao (of_decide_eq_true rfl) ?_
 simp (disch:=omega) only [CY,go_sem,Ab,h,CE]
theorem F0 (s:ByteArray) (i:Nat) (x:ByteArray) (hi:i≤s.size) (hh:hasB s i x=false):E 90 [.ptr 0 0,.str x] [psr s i false]=some (.bool false,[psr s i false]):=by
 have h:=XU s i x hi
 rw [hh] at h
 refine Ai DU Ao (of_decide_eq_true rfl) ?_
 simp (disch:=omega) only [CY,go_sem,Ab,h,CE]
theorem EZ (s:ByteArray) (i:Nat) (x:ByteArray) (hi:i+x.size≤1099511627776) (hi2:i≤s.size) (hh:hasB s i x=true):E 90 [.ptr 0 0,.str x] [psr s i false]=some (.bool true,[psr s (i+x.size) false]):=by
 have h:=XU s i x hi2
 rw [hh] at h
 refine Ai DU Ao (of_decide_eq_true rfl) ?_
 simp (disch:=omega) only [CY,go_sem,Ab,h,CE]
 simp only [psr,Int.natCast_add]
theorem VN (s:ByteArray) (i:Nat) (x:ByteArray):E 92 [.ptr 0 0,.str x] [psr s i true]=some (.tup [],[psr s i true]):=by
 have h:=FU s i x
 refine Ai DV Ap (of_decide_eq_true rfl) ?_
 simp (disch:=omega) only [CZ,go_sem,Ab,h,Ao]
theorem Tc (s:ByteArray) (i:Nat) (x:ByteArray) (hi:i≤s.size) (hh:hasB s i x=false):E 92 [.ptr 0 0,.str x] [psr s i false]=some (.tup [],[psr s i true]):=by
 have h:=F0 s i x hi hh
 refine Ai DV Ap (of_decide_eq_true rfl) ?_
 simp (disch:=omega) only [CZ,go_sem,Ab,h,Ao]
theorem QH (s:ByteArray) (i:Nat) (x:ByteArray) (hi:i+x.size≤1099511627776) (hi2:i≤s.size) (hh:hasB s i x=true):E 92 [.ptr 0 0,.str x] [psr s i false]=some (.tup [],[psr s (i+x.size) false]):=by
 have h:=EZ s i x hi hi2 hh
 refine Ai DV Ap (of_decide_eq_true rfl) ?_
 simp (disch:=omega) only [CZ,go_sem,Ab,h,Ao]
theorem XB (s:ByteArray) (i:Nat):E 46 [.ptr 0 0] [psr s i true]=some (.bool false,[psr s i true]):=by
 refine Ai Fo BG (of_decide_eq_true rfl) ?_
 simp (disch:=omega) only [DC,go_sem,Ab]
theorem XC (s:ByteArray) (i:Nat):E 46 [.ptr 0 0] [psr s i false]=some (.bool (dec (i=s.size)),[psr s i false]):=by
 have e:dec (i=s.size)=dec ((i:Int)=(s.size:Int)):=by
  by_cases h:i=s.size
  ·rw [Ax h,Ax (by omega)]
  ·rw [An h,An (by omega)]
 rw [e]
 refine Ai Fo BG (of_decide_eq_true rfl) ?_
 simp (disch:=omega) only [DC,go_sem,Ab]
theorem Sg (s:ByteArray) (i:Nat) (hi:i≤s.size) (hs:s.size≤1048576):E 91 [.ptr 0 0] [psr s i false]=some (.str (bif dec (Bj s i=i) then ⟨#[]⟩ else s.extract i (Bj s i)),[psr s (Bj s i) (dec (Bj s i=i))]):=by
 refine Ai FT Av (of_decide_eq_true rfl) ?_
 simp (disch:=omega) only [DW,go_sem,Ab]
 refine go_loop (α:=Nat) (fun j=>⟨slots 98 0 [(0,.ptr 0 0),(3,.int .i64 (i:Int))],[psr s j false]⟩) (fun j=>i≤j∧j≤s.size∧Bj s j=Bj s i) (fun j=>s.size-j) i ⟨yG _,hi,rfl⟩ (by simp (disch:=omega) only [go_sem,Ab]) ?_
 rintro j ⟨h1,h2,h3⟩
 have hj:((j:Nat):Int).toNat=j:=Int.toNat_natCast j
 rcases zN j s.size with hlt | hge
 ·have hw:=@KD s j hlt
  have hx:Cx (AV s j)=false→Bj s j=j:=fun h=>E5 (fun k=>by rw [h] at k; exact absurd k.2 (by simp))
  have a1:=QD (AV s j)
  have a2:=QE (AV s j)
  have a3:=QF (AV s j)
  unfold Cx at hw hx
  generalize hg1:(dec (97≤AV s j)&&dec (AV s j≤122))=q1 at *
  generalize hg2:(dec (65≤AV s j)&&dec (AV s j≤90))=q2 at *
  generalize hg3:(dec (48≤AV s j)&&dec (AV s j≤57))=q3 at *
  generalize hg4:dec (AV s j=95)=q4 at *
  cases q1 <;> cases q2 <;> cases q3 <;> cases q4
  all_goals
   simp only [Bool.or_true,Bool.or_false,Bool.true_or,Bool.false_or,true_implies,Bool.true_eq_false,Bool.false_eq_true,false_implies] at hw hx
  case false.false.false.false =>
   have e:Bj s i=j:=by rw [←h3,hx]
   rw [e]
   by_cases h0:j=i
   ·subst h0
    simp (disch:=omega) only [go_sem,Ab,hj,a1,a2,a3,hg4,C2,BN,C3,Ha]
   ·have h0':((i:Int)=(j:Int))=False:=eq_false (by omega)
    rw [An h0]
    simp (disch:=omega) only [go_sem,Ab,hj,a1,a2,a3,hg4,h0',C2,BN,C3]
  all_goals
   simp (disch:=omega) only [go_sem,Ab,hj,a1,a2,a3,hg4,C2,BN,C3]
   exact ⟨j+1,⟨by omega,by omega,by omega⟩,by omega,by first | trivial | (simp only [psr,Int.natCast_add,Int.natCast_one]) | rfl⟩
 ·have e:Bj s i=j:=by rw [←h3]; exact E5 (by omega)
  rw [e]
  by_cases h0:j=i
  ·subst h0
   simp (disch:=omega) only [go_sem,Ab,hj,Ha]
  ·have h0':((i:Int)=(j:Int))=False:=eq_false (by omega)
   rw [An h0]
   simp (disch:=omega) only [go_sem,Ab,hj,h0']
def C4:SC:=(.seq (.reg [⟨(some 2),none,(.alloc 30 [(.str ⟨#[]⟩),.nil])⟩]) (.seq (.reg [⟨some 4,none,.mv (.t 0)⟩,⟨some 5,none,.call 91 [(.t 4)]⟩,⟨(some 6),none,(.build [(.str ⟨#[]⟩),.nil] [(0,(1,(.t 5)))])⟩,⟨(some 3),none,(.alloc 30 [(.str ⟨#[]⟩),.nil])⟩,⟨none,none,(.store 2 (.t 3) (.t 6))⟩]) (.seq (.seq (.reg [⟨some 7,none,.mv (.t 0)⟩,⟨(some 8),none,(.call 90 [(.t 7),(.c (.str ⟨#[40]⟩))])⟩]) (.cond (.t 8) (.seq (.dreg [[],[0],[],[2],[3,2],[1,0,4,3,2],[0,1,2,3,4,5],[6,0,1,2,3,4,5]] [⟨some 9,none,.faddr 1 (.t 3)⟩,⟨some 10,none,.load false 1 (.t 9)⟩,⟨some 11,none,.mv (.t 0)⟩,⟨some 12,none,.call 132 [(.t 11)]⟩,⟨(some 13),none,(.mkrow 30 2 [(.str ⟨#[]⟩),.nil] 1 [(0,(.t 12))])⟩,⟨(some 14),none,(.append 30 2 40 [(.str ⟨#[]⟩),.nil] (.t 10) (.t 13))⟩,⟨some 15,none,.faddr 1 (.t 3)⟩,⟨none,none,(.store 1 (.t 15) (.t 14))⟩]) (.seq (.block 0 (.loop [1,0,1,1,0,0,0,0,0,0,0,0,0,0,0,0,0,0,0,0,0,0,0,0,0,0,0,0] (.seq (.seq (.reg [⟨some 16,none,.mv (.t 0)⟩,⟨(some 17),none,(.call 90 [(.t 16),(.c (.str ⟨#[44]⟩))])⟩]) (.cond (.t 17) .skip (.exit 0))) (.block 1 (.dreg [[],[0],[],[2],[3,2],[1,0,4,3,2],[0,1,2,3,4,5],[6,0,1,2,3,4,5]] [⟨some 18,none,.faddr 1 (.t 3)⟩,⟨some 19,none,.load false 1 (.t 18)⟩,⟨some 20,none,.mv (.t 0)⟩,⟨some 21,none,.call 132 [(.t 20)]⟩,⟨(some 22),none,(.mkrow 30 2 [(.str ⟨#[]⟩),.nil] 1 [(0,(.t 21))])⟩,⟨(some 23),none,(.append 30 2 40 [(.str ⟨#[]⟩),.nil] (.t 19) (.t 22))⟩,⟨some 24,none,.faddr 1 (.t 3)⟩,⟨none,none,(.store 1 (.t 24) (.t 23))⟩]))))) (.reg [⟨some 25,none,.mv (.t 0)⟩,⟨(some 26),none,(.call 92 [(.t 25),(.c (.str ⟨#[41]⟩))])⟩]))) .skip)) (.seq (.reg [⟨some 27,none,.load true 2 (.t 3)⟩,⟨none,none,(.store 2 (.t 2) (.t 27))⟩]) .ret))))
theorem FV:codeOf Tryz.prog 132=some ⟨28,C4,[(.cell 2 true 2)]⟩:=by kernel_rfl
theorem B6:modes 132=⟨[],.own [none,some (30,2)],none,false⟩:=by unfold modes; rfl
theorem QI (s:ByteArray) (i:Nat) (c:UInt8) (hi:i≤s.size) (hh:Dj s i c.toNat=false):E 90 [.ptr 0 0,.str ⟨#[c]⟩] [psr s i false]=some (.bool false,[psr s i false]) :=
 F0 s i _ hi (by rw [Ii hi]; exact hh)
theorem O2 (s:ByteArray) (i:Nat) (c:UInt8) (hs:s.size≤1048576) (hi:i≤s.size) (hh:Dj s i c.toNat=true):E 90 [.ptr 0 0,.str ⟨#[c]⟩] [psr s i false]=some (.bool true,[psr s (i+1) false]) :=
 EZ s i ⟨#[c]⟩ (by show i+1≤_; omega) hi (by rw [Ii hi]; exact hh)
theorem VO (s:ByteArray) (i:Nat) (c:UInt8) (hi:i≤s.size) (hh:Dj s i c.toNat=false):E 92 [.ptr 0 0,.str ⟨#[c]⟩] [psr s i false]=some (.tup [],[psr s i true]) :=
 Tc s i _ hi (by rw [Ii hi]; exact hh)
theorem Uc (s:ByteArray) (i:Nat) (c:UInt8) (hs:s.size≤1048576) (hi:i≤s.size) (hh:Dj s i c.toNat=true):E 92 [.ptr 0 0,.str ⟨#[c]⟩] [psr s i false]=some (.tup [],[psr s (i+1) false]) :=
 QH s i ⟨#[c]⟩ (by show i+1≤_; omega) hi (by rw [Ii hi]; exact hh)
noncomputable def JW (r:Nat→Option (Tm × Nat)) (s:ByteArray) (m:Nat) (acc:List Tm) (e:Nat):Option (List Tm × Nat) :=
 bif Dj s e 44 then (match rdL r s m (e+1) with
  | none=>none
  | some (ts,e')=>some (acc++ts,e')) else bif Dj s e 41 then some (acc,e+1) else none
theorem O3 (r:Nat→Option (Tm × Nat)) (s:ByteArray) (m i:Nat):rdL r s (m+1) i=match r i with
  | none=>none
  | some (t,e)=>JW r s m [t] e:=by
 rw [rdL]
 cases r i with
 | none=>rfl
 | some p=>rfl
theorem Sh {r:Nat→Option (Tm × Nat)} {s:ByteArray} {m:Nat} {acc:List Tm} {e:Nat} (h:Dj s e 44=true):JW r s (m+1) acc e=match r (e+1) with
  | none=>none
  | some (t,e2)=>JW r s m (acc++[t]) e2:=by
 unfold JW
 rw [h,cond_true,O3]
 cases r (e+1) with
 | none=>rfl
 | some p =>
  obtain ⟨t,e2⟩:=p
  simp only
  unfold JW
  cases Dj s e2 44 with
  | true =>
   simp only [cond_true]
   cases rdL r s m (e2+1) with
   | none=>rfl
   | some q=>simp only [zO]
  | false =>
   simp only [cond_false]
   cases Dj s e2 41 with
   | true=>rfl
   | false=>rfl
theorem Ud {r:Nat→Option (Tm × Nat)} {s:ByteArray} {m:Nat} {acc:List Tm} {e:Nat} (h:Dj s e 44=false):JW r s m acc e=bif Dj s e 41 then some (acc,e+1) else none:=by
 unfold JW
 rw [h,cond_false]
def Td (s:ByteArray) (i:Nat) (r:Option (Tm × Nat)) (out:SV × List Ob):Prop :=
 ∃ (t:Tm) (j:Nat) (f:Bool),out=(.agg [.str t.name,.ref 1],[psr s j f,.row 30 2 (t.args.map Tm.o)])∧i≤j∧j≤s.size∧(match r with
  | some (t0,e)=>t=t0∧j=e∧f=false
  | none=>f=true)
theorem XD (s:ByteArray) (hs:s.size≤1048576) (n:Nat) (ih:∀ i,i≤s.size→s.size-i<n→∃ out,E 132 [.ptr 0 0] [psr s i false]=some out∧Td s i (rd s n i) out) (i:Nat) (hi:i≤s.size) (hn:s.size-i<n+1):∃ out,E 132 [.ptr 0 0] [psr s i false]=some out∧Td s i (rd s (n+1) i) out:=by
 have hw:=Sg s i hi hs
 have w1:=Gn s i
 have w2:=F7 s i hi
 rw [rd]
 refine A7 FV B6 (of_decide_eq_true rfl) ?_
 by_cases h0:Bj s i=i
 ·rw [Ax h0] at hw ⊢
  rw [cond_true] at hw ⊢
  have ht:=FU s (Bj s i) ⟨#[40]⟩
  simp (disch:=omega) only [C4,go_sem,Ab,hw,ht,Av,Ao,Ap]
  exact ⟨_,rfl,.mk ⟨#[]⟩ [],Bj s i,true,rfl,w1,w2,rfl⟩
 ·rw [An h0] at hw ⊢
  rw [cond_false] at hw ⊢
  cases hc:Dj s (Bj s i) 40 with
  | false =>
   have ht:=QI s (Bj s i) 40 w2 hc
   simp only [cond_false]
   simp (disch:=omega) only [C4,go_sem,Ab,hw,ht,Av,Ao,Ap]
   exact ⟨_,rfl,.mk (s.extract i (Bj s i)) [],Bj s i,false,rfl,w1,w2,rfl,rfl,rfl⟩
  | true =>
   obtain ⟨c1,c2⟩:=C1.1 hc
   have ht:=O2 s (Bj s i) 40 hs w2 hc
   obtain ⟨m,rfl⟩:∃ m,n=m+1:=⟨n-1,by omega⟩
   obtain ⟨total,htot⟩:∃ total,total=rdL (rd s (m+1)) s (m+1) (Bj s i+1):=⟨_,rfl⟩
   rw [←htot]
   simp only [cond_true]
   rw [O3] at htot
   obtain ⟨out1,hc1,t1,j1,f1,rfl,g1,g2,g3⟩:=ih (Bj s i+1) (by omega) (by omega)
   have start:i≤j1∧j1≤s.size∧[t1].length≤j1∧(f1=true→total=none)∧(f1=false→∃ q,s.size-j1≤q∧total=JW (rd s (m+1)) s q [t1] j1):=by
    refine ⟨by omega,g2,by simp only [zK,zQ]; omega,?_,?_⟩
    ·rintro rfl
     cases hr:rd s (m+1) (Bj s i+1) with
     | none=>rw [hr] at htot; exact htot
     | some p=>rw [hr] at g3; exact absurd g3.2.2 (by simp)
    ·rintro rfl
     cases hr:rd s (m+1) (Bj s i+1) with
     | none=>rw [hr] at g3; cases g3
     | some p =>
      obtain ⟨t0,e0⟩:=p
      rw [hr] at g3 htot
      obtain ⟨rfl,rfl,_⟩:=g3
      exact ⟨m,by omega,htot⟩
   simp (disch:=omega) only [C4,go_sem,Ab,hw,ht,hc1,Av,Ao,Ap,B6]
   refine go_loop (α:=List Tm × Nat × Bool) (fun a=>⟨slots 28 0 [(0,.ptr 0 0),(2,.ptr 1 0),(3,.ptr 2 0)],[psr s a.2.1 a.2.2,.box 30 [.str ⟨#[]⟩,.nil],.box 30 [.str (s.extract i (Bj s i)),.ref 3],.row 30 2 (a.1.map Tm.o)]⟩) (fun a=>i≤a.2.1∧a.2.1≤s.size∧a.1.length≤a.2.1∧(a.2.2=true→total=none)∧(a.2.2=false→∃ q,s.size-a.2.1≤q∧total=JW (rd s (m+1)) s q a.1 a.2.1)) (fun a=>if a.2.2 then 0 else s.size-a.2.1+1) ([t1],j1,f1) start (by simp (disch:=omega) only [go_sem,Ab,zC,yU,Tm.o_eq]) ?_
   rintro ⟨acc,j,fl⟩ ⟨hij,hj,hal,hR1,hR2⟩
   dsimp only at hij hj hal hR1 hR2
   cases fl with
   | true =>
    have htk:=FU s j ⟨#[44]⟩
    have hmu:=VN s j ⟨#[41]⟩
    rw [hR1 rfl]
    simp (disch:=omega) only [go_sem,Ab,htk,hmu,Av,Ao,Ap]
    exact ⟨_,rfl,.mk (s.extract i (Bj s i)) acc,j,true,rfl,by omega,hj,rfl⟩
   | false =>
    obtain ⟨q,hq,hR⟩:=hR2 rfl
    cases hcm:Dj s j 44 with
    | false =>
     rw [Ud hcm] at hR
     have htk:=QI s j 44 hj hcm
     cases hcl:Dj s j 41 with
     | false =>
      have hmu:=VO s j 41 hj hcl
      rw [hcl,cond_false] at hR
      rw [hR]
      simp (disch:=omega) only [go_sem,Ab,htk,hmu,Av,Ao,Ap]
      exact ⟨_,rfl,.mk (s.extract i (Bj s i)) acc,j,true,rfl,by omega,hj,rfl⟩
     | true =>
      obtain ⟨d1,d2⟩:=C1.1 hcl
      have hmu:=Uc s j 41 hs hj hcl
      rw [hcl,cond_true] at hR
      rw [hR]
      simp (disch:=omega) only [go_sem,Ab,htk,hmu,Av,Ao,Ap]
      exact ⟨_,rfl,.mk (s.extract i (Bj s i)) acc,j+1,false,rfl,by omega,by omega,rfl,rfl,rfl⟩
    | true =>
     obtain ⟨d1,d2⟩:=C1.1 hcm
     have htk:=O2 s j 44 hs hj hcm
     obtain ⟨q,rfl⟩:∃ q',q=q'+1:=⟨q-1,by omega⟩
     rw [Sh hcm] at hR
     obtain ⟨out2,hc2,t2,j2,f2,rfl,k1,k2,k3⟩:=ih (j+1) (by omega) (by omega)
     simp (disch:=omega) only [go_sem,Ab,htk,hc2,Av,Ao,Ap,B6,zM]
     refine ⟨(acc++[t2],j2,f2),⟨by dsimp only; omega,k2,by simp only [z7,zK,zQ]; omega,?_,?_⟩,?_,?_⟩
     ·intro hf
      dsimp only at hf
      subst hf
      cases hr:rd s (m+1) (j+1) with
      | none=>rw [hr] at hR; exact hR
      | some p=>rw [hr] at k3; exact absurd k3.2.2 (by simp)
     ·intro hf
      dsimp only at hf
      subst hf
      cases hr:rd s (m+1) (j+1) with
      | none=>rw [hr] at k3; cases k3
      | some p =>
       obtain ⟨t0,e0⟩:=p
       rw [hr] at k3 hR
       obtain ⟨rfl,rfl,_⟩:=k3
       exact ⟨q,by dsimp only; omega,hR⟩
     ·show (if f2=true then 0 else s.size-j2+1)<s.size-j+1
      split
      ·omega
      ·cases hr:rd s (m+1) (j+1) with
       | none=>rw [hr] at k3; simp only at k3; rename_i h; exact absurd k3 h
       | some p=>omega
     ·exact ⟨rfl,by simp only [yI,zC,yU,Tm.o_eq]⟩
theorem Px (s:ByteArray) (hs:s.size≤1048576):∀ (n i:Nat),i≤s.size→s.size-i<n→∃ out,E 132 [.ptr 0 0] [psr s i false]=some out∧Td s i (rd s n i) out
 | 0,i,_,h=>absurd h (by omega)
 | n+1,i,hi,hn=>XD s hs n (fun i hi hn=>Px s hs n i hi hn) i hi hn
theorem Ij:modes 129=⟨[],.asis,some (JN Oh),false⟩:=by unfold modes; rfl
theorem YK (xs:List ByteArray) (sep:ByteArray) (h1:xs.length≤1099511627776) (h2:(H9 xs sep).size≤1099511627776):E 129 [.arr (xs.map fun s=>[D.str s]),.str sep] []=some (.str (H9 xs sep),[]):=by
 refine Q6 (g:=Oh) (congrArg FM.ext Ij) ?_
 have e:(xs.map fun s=>[D.str s]).map My=xs:=by
  rw [yO]
  have:(My ∘ fun s=>[D.str s])=id:=rfl
  rw [this,List.map_id]
 simp only [Oh,e]
 rw [Ax ⟨fun e he=>by obtain ⟨s,_,rfl⟩:=List.mem_map.1 he; exact ⟨s,rfl⟩,by simpa using h1,h2⟩,cond_true]
def Dv:SC:=(.seq (.reg [⟨some 1,none,.boxv 30 2 (.t 0)⟩,⟨(some 2),none,(.mv (.c (.str ⟨#[]⟩)))⟩]) (.seq (.seq (.reg [⟨some 6,none,.load true 2 (.t 1)⟩,⟨some 7,none,.call 88 [(.t 6)]⟩]) (.cond (.t 7) (.seq (.dreg [[],[0],[1,0],[2,1,0],[3,2,1,0],[4,3,2,1,0],[],[6],[7,6],[8,7,6],[9,8,7,6,4,3,2,1,0],[5,4,3,2,1,0,10,9,8,7,6],[11,5,4,3,2,1,0,10,9,8,7,6]] [⟨some 8,none,.faddr 1 (.t 1)⟩,⟨some 9,none,.load false 1 (.t 8)⟩,⟨some 10,none,.iaddr 2 (.t 9) (.c (.int .i64 0))⟩,⟨some 11,none,.load true 2 (.t 10)⟩,⟨some 12,none,.call 87 [(.t 11)]⟩,⟨(some 13),none,(.bin .add false (.t 12) (.c (.str ⟨#[32,61,32]⟩)))⟩,⟨some 14,none,.faddr 1 (.t 1)⟩,⟨some 15,none,.load false 1 (.t 14)⟩,⟨some 16,none,.iaddr 2 (.t 15) (.c (.int .i64 1))⟩,⟨some 17,none,.load true 2 (.t 16)⟩,⟨some 18,none,.call 87 [(.t 17)]⟩,⟨some 19,none,.bin .add false (.t 13) (.t 18)⟩,⟨some 2,none,.mv (.t 19)⟩]) .ret) .skip)) (.seq (.seq (.reg [⟨some 20,none,.faddr 1 (.t 1)⟩,⟨some 21,none,.load false 1 (.t 20)⟩,⟨some 22,none,.len false (.t 21)⟩,⟨some 23,none,.bin .eql false (.t 22) (.c (.int .i64 0))⟩]) (.cond (.t 23) (.seq (.reg [⟨some 24,none,.faddr 0 (.t 1)⟩,⟨some 25,none,.load false 1 (.t 24)⟩,⟨some 2,none,.mv (.t 25)⟩]) .ret) .skip)) (.seq (.reg [⟨(some 26),none,(.mkrow 9 1 [(.str ⟨#[]⟩)] 0 [])⟩,⟨some 3,none,.mv (.t 26)⟩]) (.seq (.seq (.reg [⟨some 27,none,.faddr 1 (.t 1)⟩,⟨some 28,none,.load false 1 (.t 27)⟩,⟨some 29,none,.len false (.t 28)⟩,⟨some 30,none,.mv (.c (.int .i64 0))⟩]) (.block 0 (.loop [0,1,0,1,0,0,0,0,0,0,0,0,0,0,0,0,0,0,0,0,0,0,0,0,0,0,0,0,1,1,1,0,0,0,0,0,0,0,0,0,0,0,0,0,0,0,0] (.seq (.reg [⟨some 31,none,.bin .lss false (.t 30) (.t 29)⟩]) (.seq (.cond (.t 31) .skip (.exit 0)) (.seq (.block 1 (.seq (.reg [⟨some 32,none,.iaddr 2 (.t 28) (.t 30)⟩,⟨some 33,none,.load true 2 (.t 32)⟩,⟨(some 5),none,(.alloc 30 [(.str ⟨#[]⟩),.nil])⟩,⟨none,none,(.store 2 (.t 5) (.t 33))⟩]) (.reg [⟨some 34,none,.mv (.t 3)⟩,⟨some 35,none,.load true 2 (.t 5)⟩,⟨some 36,none,.call 87 [(.t 35)]⟩,⟨(some 37),none,(.mkrow 9 1 [(.str ⟨#[]⟩)] 1 [(0,(.t 36))])⟩,⟨(some 38),none,(.append 9 1 16 [(.str ⟨#[]⟩)] (.t 34) (.t 37))⟩,⟨some 3,none,.mv (.t 38)⟩]))) (.reg [⟨some 39,none,.bin .add false (.t 30) (.c (.int .i64 1))⟩,⟨some 30,none,.mv (.t 39)⟩]))))))) (.seq (.dreg [[],[0],[1,0],[],[3],[2,1,0,4,3],[5,2,1,0,4,3],[6,5,2,1,0,4,3]] [⟨some 40,none,.faddr 0 (.t 1)⟩,⟨some 41,none,.load false 1 (.t 40)⟩,⟨(some 42),none,(.bin .add false (.t 41) (.c (.str ⟨#[40]⟩)))⟩,⟨some 43,none,.mv (.t 3)⟩,⟨(some 44),none,(.call 129 [(.t 43),(.c (.str ⟨#[44]⟩))])⟩,⟨some 45,none,.bin .add false (.t 42) (.t 44)⟩,⟨(some 46),none,(.bin .add false (.t 45) (.c (.str ⟨#[41]⟩)))⟩,⟨some 2,none,.mv (.t 46)⟩]) .ret))))))
theorem Ei:codeOf Tryz.prog 87=some ⟨47,Dv,[(.tmp 2)]⟩:=by kernel_rfl
theorem AO:modes 87=⟨[],.asis,none,false⟩:=by unfold modes; rfl
theorem Ue {α β:Type} (f:α→β) {xs:List α} {k:Nat} (h:k<xs.length):(xs.take k).map f++[f xs[k]]=(xs.take (k+1)).map f:=by
 rw [yE h,yI]; rfl
theorem N0 (x:Tm) (hx:x.names=true) (hn:x.nodes≤1048576) (ih:∀ y∈x.args,E 87 [y.sv] []=some (.str y.txt,[])):E 87 [x.sv] []=some (.str x.txt,[]):=by
 have hl:=Tm.length_le x.args
 have hne:=Tm.nodes_eq x
 have he:=Ef x
 rw [Tm.Ua hx] at he
 have hsz:=Tm.fmt_len x hx
 rw [←Tm.txt_size] at hsz
 rcases yB x.args.length with h0 | h0
 ·have hx0:x.args=[]:=zE h0
  have hz:((x.args.length:Int)=0)=True:=by rw [hx0]; simp
  rw [Tm.VH hx0]
  refine Ai Ei AO (of_decide_eq_true rfl) ?_
  simp (disch:=omega) only [Dv,go_sem,Ab,hz,he,A5]
 ·have hz:((x.args.length:Int)=0)=False:=eq_false (by omega)
  have hnode:=Tm.VJ (x:=x) (by omega)
  have hs1:(x.name++(⟨#[40]⟩:ByteArray)).size=x.name.size+1:=by rw [zY]; rfl
  have hs2:x.name.size+1+(H9 (x.args.map Tm.txt) ⟨#[44]⟩).size+1=x.txt.size:=by
   rw [←hnode,zY,zY,zY]; rfl
  have hs3:(x.name++(⟨#[40]⟩:ByteArray)++H9 (x.args.map Tm.txt) ⟨#[44]⟩).size=x.name.size+1+(H9 (x.args.map Tm.txt) ⟨#[44]⟩).size:=by rw [zY,hs1]
  have hs4:(⟨#[40]⟩:ByteArray).size=1:=rfl
  have hs5:(⟨#[41]⟩:ByteArray).size=1:=rfl
  have hj:=YK (x.args.map Tm.txt) ⟨#[44]⟩ (by simp; omega) (by omega)
  rw [yO] at hj
  have hf:∀ k,OT.AM ((x.args.take k).map fun y=>[OT.str y.txt])=true:=fun k=>by
   have:=JQ ((x.args.take k).map Tm.txt)
   rwa [yO] at this
  have her:∀ k,OT.erss ((x.args.take k).map fun y=>[OT.str y.txt])=(x.args.take k).map fun y=>[D.str y.txt]:=fun k=>by
   have:=LB ((x.args.take k).map Tm.txt)
   rwa [yO,yO] at this
  have htl:x.args.take x.args.length=x.args:=List.take_length
  have hfx:=hf x.args.length
  have herx:=her x.args.length
  rw [htl] at hfx herx
  have hjm:(x.args.map ((fun s=>[D.str s]) ∘ Tm.txt))=x.args.map fun y=>[D.str y.txt]:=rfl
  rw [hjm] at hj
  refine Ai Ei AO (of_decide_eq_true rfl) ?_
  simp (disch:=omega) only [Dv,go_sem,Ab,hz,he,A5]
  refine go_loop (α:=Int) (fun a=>⟨slots 47 0 [(1,.ptr 0 0),(3,.ref 1),(28,.arr (x.args.map Tm.d)),(29,.int .i64 x.args.length),(30,.int .i64 a)],[.box 30 [.str x.name,.arr (x.args.map Tm.d)],.row 9 1 ((x.args.take a.toNat).map fun y=>[OT.str y.txt])]⟩) (fun a=>∃ k:Nat,a=k∧k≤(x.args).length) (fun a=>(x.args).length-(a).toNat) 0 ⟨0,rfl,zT _⟩ (by simp (disch:=omega) only [go_sem,Ab,xF]) ?_
  rintro i ⟨k,hi,hk⟩
  have hni:i.toNat=k:=by omega
  have hni1:(i+1).toNat=k+1:=by omega
  rcases zN k (x.args).length with hlt | hge
  ·have hg:=get_at Tm.d hlt
   rw [Tm.d_eq] at hg
   have hc:=ih x.args[k] (zJ hlt)
   have hse:=Ue (fun y:Tm=>[OT.str y.txt]) hlt
   have hkl:((x.args.take k).map fun y=>[OT.str y.txt]).length=k:=by rw [zM,yW]; omega
   have hkl2:(x.args.take k).length=k:=by rw [yW]; omega
   simp (disch:=omega) only [go_sem,Ab,hni,hg,hc,hkl,hkl2,hse,AO]
   refine ⟨i+1,⟨k+1,by omega,hlt⟩,by omega,?_⟩
   simp (disch:=omega) only [go_sem,Ab,hni1,hse]
  ·obtain rfl:k=x.args.length:=by omega
   simp (disch:=omega) only [go_sem,Ab,hni,htl,hfx,herx,hj,hs1,hs2,hs3,hs4,hs5,hnode,Ij]
theorem F1 (x:Tm) (hx:x.names=true) (hn:x.nodes≤1048576):E 87 [x.sv] []=some (.str x.txt,[]) :=
 N0 x hx hn fun y hy=>F1 y (Tm.Hd hx hy) (by have:=Tm.nodes_mem hy; have:=Tm.nodes_eq x; omega)
termination_by SizeOf.sizeOf x
decreasing_by exact Tm.lt_of_mem hy
theorem O4 {r:Nat→Option (Tm × Nat)} {s:ByteArray} (hr:∀ i t e,r i=some (t,e)→i+t.nodes≤e) :
  ∀ (m i:Nat) (ts:List Tm) (e:Nat),rdL r s m i=some (ts,e)→i+Tm.nodeS ts≤e
 | 0,i,ts,e,h=>by cases h
 | m+1,i,ts,e,h=>by
  rw [rdL] at h
  cases hq:r i with
  | none=>rw [hq] at h; cases h
  | some p =>
   obtain ⟨t,e0⟩:=p
   rw [hq] at h
   simp only at h
   have h1:=hr i t e0 hq
   cases hc:Dj s e0 44 with
   | true =>
    rw [hc,cond_true] at h
    cases hl:rdL r s m (e0+1) with
    | none=>rw [hl] at h; cases h
    | some q =>
     obtain ⟨us,e1⟩:=q
     rw [hl] at h
     simp only [zD,zG] at h
     obtain ⟨rfl,rfl⟩:=h
     have:=O4 hr m (e0+1) us e1 hl
     rw [Tm.nodeS]; omega
   | false =>
    rw [hc,cond_false] at h
    cases hc2:Dj s e0 41 with
    | true =>
     rw [hc2,cond_true] at h
     simp only [zD,zG] at h
     obtain ⟨rfl,rfl⟩:=h
     rw [Tm.nodeS,Tm.nodeS]; omega
    | false=>rw [hc2] at h; cases h
theorem MB {s:ByteArray}:∀ (n i:Nat) (t:Tm) (e:Nat),rd s n i=some (t,e)→i+t.nodes≤e
 | 0,i,t,e,h=>by cases h
 | n+1,i,t,e,h=>by
  rw [rd] at h
  have w1:=Gn s i
  by_cases h0:Bj s i=i
  ·rw [Ax h0] at h; cases h
  ·rw [An h0,cond_false] at h
   cases hc:Dj s (Bj s i) 40 with
   | true =>
    rw [hc,cond_true] at h
    cases hl:rdL (rd s n) s n (Bj s i+1) with
    | none=>rw [hl] at h; cases h
    | some q =>
     obtain ⟨us,e1⟩:=q
     rw [hl] at h
     simp only [zD,zG] at h
     obtain ⟨rfl,rfl⟩:=h
     have:=O4 (MB n) n _ us e1 hl
     rw [Tm.nodes_eq]
     show i+(1+Tm.nodeS us)≤_
     omega
   | false =>
    rw [hc,cond_false] at h
    simp only [zD,zG] at h
    obtain ⟨rfl,rfl⟩:=h
    rw [Tm.nodes_eq]
    show i+(1+Tm.nodeS [])≤_
    rw [Tm.nodeS]; omega
theorem Da {t:Tm} (h:t.valid=true):t.names=true:=by
 unfold Tm.valid at h; rw [zB] at h; exact h.2
theorem Db {t:Tm} (h:t.valid=true):t.nodes≤30:=Tm.MA (by unfold Tm.expr; rw [h]; rfl)
theorem Lp {t:Tm} (h:t.valid=true):t.txt.size≤4000:=by
 have h1:=Tm.fmt_len t (Da h)
 have h2:=Db h
 rw [Tm.txt_size]; omega
def eqSign:List UInt8:=[32,61,32]
def Tm.Zs (g:List UInt8):List Tm→List UInt8
 | [a,b]=>a.fmt++g++b.fmt
 | _=>[]
noncomputable def Tm.fmtA (x:Tm):List UInt8:=bif x.eqn then Tm.Zs eqSign x.args else x.fmt
noncomputable def Tm.txtA (x:Tm):ByteArray:=⟨x.fmtA.toArray⟩
theorem Tm.CU (x:Tm):x.txtA.toList=x.fmtA:=BK _
theorem Tm.Hz {x:Tm} (h:x.atom=true):(x.eqn=false∧x.valid=true)∨(∃ a b,x=.mk ⟨#[61]⟩ [a,b]∧x.eqn=true∧a.names=true∧b.names=true∧x.small=true):=by
 have h0:=h
 unfold Tm.atom at h
 split at h
 ·rename_i he
  rw [zB,zB] at h
  right
  have hl:x.args.length=2:=by simpa using h.1.1
  obtain ⟨nm,us⟩:=x
  have hnm:nm=⟨#[61]⟩:=by unfold Tm.eqn at he; exact At.1 he
  match us,hl with
  | [a,b],_ =>
   refine ⟨a,b,by rw [hnm],he,?_,?_,h.1.2⟩
   ·have:=h.2
    rw [Tm.F6,yF] at this
    exact this a (by simp [Tm.args])
   ·have:=h.2
    rw [Tm.F6,yF] at this
    exact this b (by simp [Tm.args])
 ·rename_i he
  rw [zB] at h
  exact .inl ⟨by simpa using he,h.2⟩
theorem MC {a b:Tm} {n:ByteArray} (h:(Tm.mk n [a,b]).small=true):a.small=true∧b.small=true:=by
 unfold Tm.small at h ⊢
 rw [zB,decide_eq_true_eq,decide_eq_true_eq,Tm.nodes_eq,Tm.LC] at h
 have e1:(Tm.mk n [a,b]).args=[a,b]:=rfl
 rw [e1,Tm.nodeS,Tm.nodeS,Tm.nodeS,Tm.EU,Tm.EU,Tm.EU] at h
 rw [zB,decide_eq_true_eq,decide_eq_true_eq,zB,decide_eq_true_eq,decide_eq_true_eq]
 omega
def Z8 (g:List UInt8) (s:ByteArray) (t:Tm):Prop:=∃ a b:Tm,t=.mk ⟨#[61]⟩ [a,b]∧a.valid=true∧b.valid=true∧t.atom=true∧s.toList=a.fmt++g++b.fmt
def Z9 (s:ByteArray) (t:Tm):Prop:=t.atom=true∧t.txtA=s
theorem VP {s:ByteArray} {t:Tm}:Z9 s t ↔ Z8 eqSign s t∨(t.eqn=false∧t.atom=true∧t.valid=true∧s.toList=t.fmt):=by
 constructor
 ·rintro ⟨h1,rfl⟩
  rw [Tm.CU]
  unfold Tm.fmtA
  rcases Tm.Hz h1 with ⟨h2,h3⟩ | ⟨a,b,rfl,h2,h3,h4,h5⟩
  ·right
   refine ⟨h2,h1,h3,by rw [h2]; rfl⟩
  ·left
   obtain ⟨g1,g2⟩:=MC h5
   refine ⟨a,b,rfl,by unfold Tm.valid; rw [g1,h3]; rfl,by unfold Tm.valid; rw [g2,h4]; rfl,h1,?_⟩
   rw [Tm.CU]
   unfold Tm.fmtA
   rw [h2]; rfl
 ·rintro (⟨a,b,rfl,h1,h2,h3,h4⟩ | ⟨h1,h2,h3,h4⟩)
  ·refine ⟨h3,Bk ?_⟩
   rw [Tm.CU,h4]
   have he:(Tm.mk ⟨#[61]⟩ [a,b]).eqn=true:=by unfold Tm.eqn; exact Ax rfl
   unfold Tm.fmtA
   rw [he]; rfl
  ·refine ⟨h2,Bk ?_⟩
   rw [Tm.CU,h4]
   unfold Tm.fmtA
   rw [h1]; rfl
open Classical in
theorem VQ {t:Tm} (h:t.atom=true):t.txtA.size≤4000:=by
 obtain hq:=VP.1 ⟨h,rfl⟩
 rcases hq with ⟨a,b,rfl,h1,h2,h3,h4⟩ | ⟨_,_,h1,h2⟩
 ·have l1:=Tm.fmt_len a (Da h1)
  have l2:=Tm.fmt_len b (Da h2)
  have n1:=Db h1
  have n2:=Db h2
  rw [←AD,h4]
  simp only [z7,eqSign,zK,zQ]
  omega
 ·have l1:=Tm.fmt_len t (Da h1)
  have n1:=Db h1
  rw [←AD,h2]; omega
noncomputable def Ik (g s:ByteArray) (n i:Nat):Option (Tm × Nat):=match rd s n i with
 | none=>none
 | some (a,e)=>bif hasB s e g then (match rd s n (e+g.size) with
  | none=>none
  | some (b,e2)=>some (.mk ⟨#[61]⟩ [a,b],e2)) else some (a,e)
theorem VR {s g:ByteArray} (hg:0<g.size):hasB s s.size g=false:=by
 cases h:hasB s s.size g with
 | false=>rfl
 | true=>have:=((Cq (yG _)).1 h).1; omega
theorem QJ {gb s:ByteArray} {n i:Nat} {t:Tm} {e:Nat} (h:Ik gb s n i=some (t,e)) (hs:∀ i t e,rd s n i=some (t,e)→e≤s.size):t.nodes≤2*s.size+1:=by
 unfold Ik at h
 cases h1:rd s n i with
 | none=>rw [h1] at h; cases h
 | some p =>
  obtain ⟨a,e0⟩:=p
  rw [h1] at h
  simp only at h
  have n1:=MB _ _ _ _ h1
  have z1:=hs _ _ _ h1
  cases hh:hasB s e0 gb with
  | false=>rw [hh] at h; simp only [cond_false,zD,zG] at h; obtain ⟨rfl,rfl⟩:=h; omega
  | true =>
   rw [hh] at h
   simp only [cond_true] at h
   cases h2:rd s n (e0+gb.size) with
   | none=>rw [h2] at h; cases h
   | some p =>
    obtain ⟨b,e2⟩:=p
    rw [h2] at h
    simp only [zD,zG] at h
    obtain ⟨rfl,rfl⟩:=h
    have n2:=MB _ _ _ _ h2
    have z2:=hs _ _ _ h2
    rw [Tm.nodes_eq]
    show 1+Tm.nodeS [a,b]≤_
    rw [Tm.nodeS,Tm.nodeS,Tm.nodeS]
    omega
theorem YL {s:ByteArray} (i:Nat) (t:Tm) (e:Nat) (h:rd s (s.size+1) i=some (t,e)):e≤s.size:=by
 rcases zN s.size i with hi | hi
 ·exfalso
  rw [rd] at h
  have hw:Bj s i=i:=E5 (by omega)
  rw [hw,Ha] at h; cases h
 ·exact (SZ _ i t e hi h).2.1
mutual
def Fm.nodes:Fm→Nat
 | .mk _ _ _ args=>1+Fm.nodeS args
def Fm.nodeS:List Fm→Nat
 | []=>0
 | x :: xs=>Fm.nodes x+Fm.nodeS xs
end
theorem Fm.nodes_eq (x:Fm):x.nodes=1+Fm.nodeS x.parts:=by
 obtain ⟨op,atom,var,parts⟩:=x
 rw [Fm.nodes]; rfl
theorem Fm.nodes_pos (x:Fm):1≤x.nodes:=by rw [Fm.nodes_eq]; omega
theorem Fm.nodes_le:∀ (xs:List Fm) (k:Nat) (h:k<xs.length),xs[k].nodes≤Fm.nodeS xs
 | [],k,h=>absurd h (by simp)
 | x :: xs,0,_=>by rw [Fm.nodeS]; simp
 | x :: xs,k+1,h=>by
  have:=Fm.nodes_le xs k (by simpa using h)
  rw [Fm.nodeS]; simp only [yV]; omega
theorem Fm.MD:∀ (xs:List Fm) (k:Nat) (h:k<xs.length),Fm.nodeS (xs.take (k+1))=Fm.nodeS (xs.take k)+xs[k].nodes
 | [],k,h=>absurd h (by simp)
 | x :: xs,0,_=>by simp [Fm.nodeS]
 | x :: xs,k+1,h=>by
  have:=Fm.MD xs k (by simpa using h)
  simp only [z8,Fm.nodeS,yV,this]; omega
theorem Fm.N1 (xs:List Fm) (k:Nat):Fm.nodeS (xs.take k)≤Fm.nodeS xs:=by
 induction xs generalizing k with
 | nil=>simp [Fm.nodeS]
 | cons x xs ih =>
  cases k with
  | zero=>simp [Fm.nodeS]
  | succ k=>simp only [z8,Fm.nodeS]; have:=ih k; omega
theorem Fm.nodes_mem {xs:List Fm} {y:Fm} (h:y∈xs):y.nodes≤Fm.nodeS xs:=by
 obtain ⟨k,hk,rfl⟩:=yQ h
 exact Fm.nodes_le xs k hk
mutual
def Fm.cap:Fm→Int
 | .mk _ _ _ xs=>Fm.capL xs 1
def Fm.capL:List Fm→Int→Int
 | [],n=>n
 | x :: xs,n=>if 40 < n then n else Fm.capL xs (n+Fm.cap x)
end
theorem Fm.cap_eq (x:Fm):x.cap=Fm.capL x.parts 1:=by
 obtain ⟨op,atom,var,xs⟩:=x
 rw [Fm.cap]; rfl
theorem Fm.capL_spec:∀ (xs:List Fm) (n:Int),(∀ x∈xs,1≤x.cap∧x.cap≤x.nodes∧(x.cap≤40→x.cap=x.nodes))→1≤n→n≤Fm.capL xs n∧Fm.capL xs n≤n+Fm.nodeS xs∧(Fm.capL xs n≤40→Fm.capL xs n=n+Fm.nodeS xs)
 | [],n,_,h=>by simp [Fm.capL,Fm.nodeS]
 | x :: xs,n,hx,h=>by
  rw [Fm.capL,Fm.nodeS]
  have h1:=hx x (by simp)
  split
  ·omega
  ·have:=Fm.capL_spec xs (n+x.cap) (fun y hy=>hx y (by simp [hy])) (by omega)
   omega
theorem Fm.cap_spec (x:Fm):1≤x.cap∧x.cap≤x.nodes∧(x.cap≤40→x.cap=x.nodes):=by
 rw [Fm.cap_eq,Fm.nodes_eq]
 have:=Fm.capL_spec x.parts 1 (fun y hy=>Fm.cap_spec y) (by omega)
 omega
termination_by SizeOf.sizeOf x
decreasing_by exact Fm.lt_of_mem hy
mutual
def Fm.many:Fm→Int→Int
 | .mk _ _ _ xs,m=>Fm.manyL xs m 1
def Fm.manyL:List Fm→Int→Int→Int
 | [],_,n=>n
 | x :: xs,m,n=>if n≤m then Fm.manyL xs m (n+Fm.many x (m-n)) else n
end
theorem Fm.many_eq (x:Fm) (m:Int):x.many m=Fm.manyL x.parts m 1:=by
 obtain ⟨op,atom,var,xs⟩:=x
 rw [Fm.many]; rfl
theorem Fm.manyL_spec (m:Int):∀ (xs:List Fm) (n:Int),(∀ x∈xs,∀ m,0≤m→1≤x.many m∧x.many m≤x.nodes∧(x.many m≤m→x.many m=x.nodes))→1≤n→n≤Fm.manyL xs m n∧Fm.manyL xs m n≤n+Fm.nodeS xs∧(Fm.manyL xs m n≤m→Fm.manyL xs m n=n+Fm.nodeS xs)
 | [],n,_,h=>by simp [Fm.manyL,Fm.nodeS]
 | x :: xs,n,hx,h=>by
  rw [Fm.manyL,Fm.nodeS]
  split
  ·have h1:=hx x (by simp) (m-n) (by omega)
   have:=Fm.manyL_spec m xs (n+x.many (m-n)) (fun y hy=>hx y (by simp [hy])) (by omega)
   omega
  ·omega
theorem Fm.many_spec (x:Fm) (m:Int):1≤x.many m∧x.many m≤x.nodes∧(x.many m≤m→x.many m=x.nodes):=by
 rw [Fm.many_eq,Fm.nodes_eq]
 have:=Fm.manyL_spec m x.parts 1 (fun y hy m _=>Fm.many_spec y m) (by omega)
 omega
termination_by SizeOf.sizeOf x
decreasing_by exact Fm.lt_of_mem hy
noncomputable def Tm.isZ (x:Tm):Bool:=dec (x.name=⟨#[]⟩)&&x.args.length == 0
noncomputable def Fm.form (x:Fm):Bool :=
 if x.op=1∨x.op=2 then x.parts.length == 0&&x.atom.isZ&&dec (x.var=⟨#[]⟩)
 else if x.op=3 then x.parts.length == 0&&x.atom.atom&&dec (x.var=⟨#[]⟩)
 else if x.op=4 then x.parts.length == 1&&x.atom.isZ&&dec (x.var=⟨#[]⟩)
 else if x.op=5∨x.op=6∨x.op=7 then x.parts.length == 2&&x.atom.isZ&&dec (x.var=⟨#[]⟩)
 else if x.op=8∨x.op=9 then x.parts.length == 1&&x.atom.isZ&&Cf x.var
 else false
theorem ME (n:Int):n=1∨n=2∨n=3∨n=4∨n=5∨n=6∨n=7∨n=8∨n=9∨(n≠1∧n≠2∧n≠3∧n≠4∧n≠5∧n≠6∧n≠7∧n≠8∧n≠9):=by omega
mutual
noncomputable def Fm.forms:Fm→Bool
 | .mk op atom var parts=>Fm.form (.mk op atom var parts)&&Fm.He parts
noncomputable def Fm.He:List Fm→Bool
 | []=>true
 | x :: xs=>Fm.forms x&&Fm.He xs
end
theorem Fm.DJ (x:Fm):x.forms=(x.form&&Fm.He x.parts):=by
 obtain ⟨op,atom,var,parts⟩:=x
 rw [Fm.forms]; rfl
theorem Fm.KF:∀ xs:List Fm,Fm.He xs=xs.all Fm.forms
 | []=>rfl
 | x :: xs=>by rw [Fm.He,Fm.KF xs]; rfl
theorem Fm.any_not (xs:List Fm):(!xs.any fun y=>!y.forms)=Fm.He xs:=by
 rw [Fm.KF]
 induction xs with
 | nil=>rfl
 | cons x xs ih=>simp only [y9,xG,Bool.not_or,Bool.not_not,ih]
noncomputable def Fm.valid (x:Fm):Bool:=decide (x.nodes≤40)&&x.forms
theorem Fm.length_le:∀ xs:List Fm,xs.length≤Fm.nodeS xs
 | []=>by simp
 | x :: xs=>by
  have h:=Fm.length_le xs
  have h1:=Fm.nodes_pos x
  rw [Fm.nodeS,zK]; omega
mutual
def Fm.tame:Fm→Prop
 | .mk _ atom _ parts=>atom.nodes≤1099511627776∧Fm.BQ parts
def Fm.BQ:List Fm→Prop
 | []=>True
 | x :: xs=>Fm.tame x∧Fm.BQ xs
end
theorem Fm.DR (x:Fm):x.tame=(x.atom.nodes≤1099511627776∧Fm.BQ x.parts):=by
 obtain ⟨op,atom,var,parts⟩:=x
 rw [Fm.tame]; rfl
theorem Fm.O5:∀ {xs:List Fm},Fm.BQ xs→∀ y∈xs,y.tame
 | [],_,y,hy=>by cases hy
 | x :: xs,h,y,hy=>by
  rw [Fm.BQ] at h
  rcases zU.1 hy with rfl | hy
  ·exact h.1
  ·exact Fm.O5 h.2 y hy
theorem Fm.H0 {x:Fm} (h:x.tame):x.atom.nodes≤1099511627776:=by rw [Fm.DR] at h; exact h.1
theorem Fm.IC {x y:Fm} (h:x.tame) (hy:y∈x.parts):y.tame:=by rw [Fm.DR] at h; exact Fm.O5 h.2 y hy
mutual
def Fm.vn:Fm→Nat
 | .mk _ atom _ parts=>atom.nodes+Fm.vnS parts
def Fm.vnS:List Fm→Nat
 | []=>0
 | x :: xs=>Fm.vn x+Fm.vnS xs
end
theorem Fm.HC (x:Fm):x.vn=x.atom.nodes+Fm.vnS x.parts:=by
 obtain ⟨op,atom,var,parts⟩:=x
 rw [Fm.vn]; rfl
theorem CF {x:Fm} (h:x.valid=true):x.nodes≤40∧x.forms=true:=by
 unfold Fm.valid at h
 rw [zB,decide_eq_true_eq] at h
 exact h
theorem Tm.Uf {x:Tm} (h:x.atom=true):x.expr=true:=by unfold Tm.expr; rw [h,Bool.or_true]
theorem Tm.MG {x:Tm} (h:x.atom=true):x.nodes≤30:=Tm.MA (Tm.Uf h)
theorem Tm.Py {x:Tm} (h:x.isZ=true):x=.mk ⟨#[]⟩ []:=by
 obtain ⟨n,a⟩:=x
 unfold Tm.isZ at h
 rw [zB] at h
 have h1:n=⟨#[]⟩:=At.1 h.1
 have h3:(a.length == 0)=true:=h.2
 have h2:a=[]:=zE (by simpa using h3)
 rw [h1,h2]
theorem Fm.E7 {x:Fm} (h:x.form=true) (ho:x.op=3):x.parts=[]∧x.atom.atom=true∧x.var=⟨#[]⟩:=by
 unfold Fm.form at h
 simp only [ho] at h
 simp at h
 exact ⟨h.1.1,h.1.2,At.1 h.2⟩
theorem Fm.FW {x:Fm} (h:x.form=true) (ho:¬ x.op=3):x.atom=.mk ⟨#[]⟩ []:=by
 unfold Fm.form at h
 split at h
 ·rw [zB,zB] at h; exact Tm.Py h.1.2
 ·try rw [if_neg ho] at h
  split at h
  ·rw [zB,zB] at h; exact Tm.Py h.1.2
  ·split at h
   ·rw [zB,zB] at h; exact Tm.Py h.1.2
   ·split at h
    ·rw [zB,zB] at h; exact Tm.Py h.1.2
    ·cases h
theorem Fm.Dc {x:Fm} (h:x.form=true) (ho:qB x.op=true):Cf x.var=true∧∃ p,x.parts=[p]:=by
 unfold qB at ho
 rw [zX,At,At] at ho
 unfold Fm.form at h
 rw [if_neg (by omega),if_neg (by omega),if_neg (by omega),if_neg (by omega),if_pos (by omega),zB,zB] at h
 refine ⟨h.2,?_⟩
 have hl:x.parts.length=1:=by simpa using h.1.1
 match hq:x.parts,hl with
 | [p],_=>exact ⟨p,rfl⟩
theorem Fm.Cv {x y:Fm} (h:x.forms=true) (hy:y∈x.parts):y.forms=true:=by
 rw [Fm.DJ,zB,Fm.KF,yF] at h
 exact h.2 y hy
theorem Fm.By {x:Fm} (h:x.forms=true):x.form=true:=by
 rw [Fm.DJ,zB] at h
 exact h.1
theorem Fm.Pz {x:Fm} (h:x.form=true):x.atom.nodes≤30:=by
 by_cases ho:x.op=3
 ·exact Tm.MG (Fm.E7 h ho).2.1
 ·rw [Fm.FW h ho,Tm.nodes_eq]
  simp [Tm.args,Tm.nodeS]
theorem Fm.MH (x:Fm) (h:x.forms=true):x.tame:=by
 have key:∀ xs:List Fm,(∀ y∈xs,y.tame)→Fm.BQ xs:=by
  intro xs
  induction xs with
  | nil=>intro _; rw [Fm.BQ]; trivial
  | cons y ys ih=>intro hh; rw [Fm.BQ]; exact ⟨hh y (by simp),ih fun z hz=>hh z (by simp [hz])⟩
 have h1:=Fm.Pz (Fm.By h)
 rw [Fm.DR]
 exact ⟨by omega,key _ fun y hy=>Fm.MH y (Fm.Cv h hy)⟩
termination_by SizeOf.sizeOf x
decreasing_by exact Fm.lt_of_mem hy
theorem Fm.Dp {x:Fm} (h:x.form=true) (ho:x.op=1∨x.op=2):x=.mk x.op Tm.zero ⟨#[]⟩ []:=by
 have ha:=Fm.FW h (by omega)
 unfold Fm.form at h
 rw [if_pos ho,zB,zB] at h
 have hl:x.parts.length=0:=by simpa using h.1.1
 have hp:x.parts=[]:=zE hl
 have hv:x.var=⟨#[]⟩:=At.1 h.2
 obtain ⟨op,atom,var,parts⟩:=x
 change atom=_ at ha
 change parts=_ at hp
 change var=_ at hv
 subst ha hp hv; rfl
theorem Fm.Il {x:Fm} (h:x.form=true) (ho:x.op=4):∃ p,x=.mk 4 Tm.zero ⟨#[]⟩ [p]:=by
 have ha:=Fm.FW h (by omega)
 unfold Fm.form at h
 rw [if_neg (by omega),if_neg (by omega),if_pos ho,zB,zB] at h
 have hl:x.parts.length=1:=by simpa using h.1.1
 have hv:x.var=⟨#[]⟩:=At.1 h.2
 obtain ⟨op,atom,var,parts⟩:=x
 change atom=_ at ha
 change parts.length=_ at hl
 change var=_ at hv
 change op=_ at ho
 subst ha hv ho
 match parts,hl with
 | [p],_=>exact ⟨p,rfl⟩
theorem Fm.FX {x:Fm} (h:x.form=true) (ho:x.op=5∨x.op=6∨x.op=7):∃ p q,x=.mk x.op Tm.zero ⟨#[]⟩ [p,q]:=by
 have ha:=Fm.FW h (by omega)
 unfold Fm.form at h
 rw [if_neg (by omega),if_neg (by omega),if_neg (by omega),if_pos ho,zB,zB] at h
 have hl:x.parts.length=2:=by simpa using h.1.1
 have hv:x.var=⟨#[]⟩:=At.1 h.2
 obtain ⟨op,atom,var,parts⟩:=x
 change atom=_ at ha
 change parts.length=_ at hl
 change var=_ at hv
 subst ha hv
 match parts,hl with
 | [p,q],_=>exact ⟨p,q,rfl⟩
theorem Fm.GB {x:Fm} (h:x.form=true) (ho:x.op=8∨x.op=9):∃ p,x=.mk x.op Tm.zero x.var [p]:=by
 have ha:=Fm.FW h (by omega)
 obtain ⟨_,p,hp⟩:=Fm.Dc h (by unfold qB; rw [zX,At,At]; exact ho)
 obtain ⟨op,atom,var,parts⟩:=x
 change atom=_ at ha
 change parts=_ at hp
 subst ha hp
 exact ⟨p,rfl⟩
theorem Fm.Im {x:Fm} (h:x.form=true):x.op=1∨x.op=2∨x.op=3∨x.op=4∨x.op=5∨x.op=6∨x.op=7∨x.op=8∨x.op=9:=by
 rcases ME x.op with h1 | h1 | h1 | h1 | h1 | h1 | h1 | h1 | h1 | h1 <;> try omega
 unfold Fm.form at h
 rw [if_neg (by omega),if_neg (by omega),if_neg (by omega),if_neg (by omega),if_neg (by omega)] at h
 cases h
def P0:List UInt8:=[97,108,108,32]
def JX:List UInt8:=[115,111,109,101,32]
def bTrue:List UInt8:=[116,114,117,101]
def bFalse:List UInt8:=[102,97,108,115,101]
def sgn (op:Int):List UInt8:=if op=5 then [32,38,32] else if op=6 then [32,124,32] else [32,61,62,32]
noncomputable def YM:List Fm→Bool
 | []=>false
 | p :: _=>p.atom.eqn
noncomputable def fmtC (op:Int) (a:Tm) (v:ByteArray) (q:Bool) (t0 t1:List UInt8):List UInt8 :=
 if op=1 then bTrue else if op=2 then bFalse else if op=3 then a.fmtA else if op=4 then (bif q then 126 :: 40 :: (t0++[41]) else 126 :: t0)
 else if op=8 then P0++(v.toList++46 :: t0) else if op=9 then JX++(v.toList++46 :: t0) else 40 :: (t0++(sgn op++(t1++[41])))
mutual
noncomputable def Fm.fmt:Fm→List UInt8
 | .mk op a v ps=>fmtC op a v (YM ps) ((Fm.JY ps).getD 0 []) ((Fm.JY ps).getD 1 [])
noncomputable def Fm.JY:List Fm→List (List UInt8)
 | []=>[]
 | x :: xs=>Fm.fmt x :: Fm.JY xs
end
noncomputable def Fm.txt (x:Fm):ByteArray:=⟨x.fmt.toArray⟩
theorem Fm.txt_toList (x:Fm):x.txt.toList=x.fmt:=BK _
theorem QK (a:Tm) (v:ByteArray) (ps:List Fm):(Fm.mk 1 a v ps).fmt=bTrue:=by rw [Fm.fmt]; unfold fmtC; rw [if_pos rfl]
theorem QL (a:Tm) (v:ByteArray) (ps:List Fm):(Fm.mk 2 a v ps).fmt=bFalse:=by rw [Fm.fmt]; unfold fmtC; rw [if_neg (by omega),if_pos rfl]
theorem QM (a:Tm) (v:ByteArray) (ps:List Fm):(Fm.mk 3 a v ps).fmt=a.fmtA:=by rw [Fm.fmt]; unfold fmtC; rw [if_neg (by omega),if_neg (by omega),if_pos rfl]
theorem O6 (a:Tm) (v:ByteArray) (p:Fm):(Fm.mk 4 a v [p]).fmt=bif p.atom.eqn then 126 :: 40 :: (p.fmt++[41]) else 126 :: p.fmt:=by
 rw [Fm.fmt]; unfold fmtC; rw [if_neg (by omega),if_neg (by omega),if_neg (by omega),if_pos rfl,Fm.JY]; rfl
theorem QN (a:Tm) (v:ByteArray) (p:Fm):(Fm.mk 8 a v [p]).fmt=P0++(v.toList++46 :: p.fmt):=by
 rw [Fm.fmt]; unfold fmtC; rw [if_neg (by omega),if_neg (by omega),if_neg (by omega),if_neg (by omega),if_pos rfl,Fm.JY]; rfl
theorem QO (a:Tm) (v:ByteArray) (p:Fm):(Fm.mk 9 a v [p]).fmt=JX++(v.toList++46 :: p.fmt):=by
 rw [Fm.fmt]; unfold fmtC; rw [if_neg (by omega),if_neg (by omega),if_neg (by omega),if_neg (by omega),if_neg (by omega),if_pos rfl,Fm.JY]; rfl
theorem QP {op:Int} (ho:op=5∨op=6∨op=7) (a:Tm) (v:ByteArray) (p q:Fm):(Fm.mk op a v [p,q]).fmt=40 :: (p.fmt++(sgn op++(q.fmt++[41]))):=by
 rw [Fm.fmt]; unfold fmtC; rw [if_neg (by omega),if_neg (by omega),if_neg (by omega),if_neg (by omega),if_neg (by omega),if_neg (by omega),Fm.JY,Fm.JY,Fm.JY]; rfl
theorem Gt {s x:ByteArray} {i:Nat} {c:UInt8} {r:List UInt8} (hx:x.toList=c :: r) (hi:i≤s.size) (h:hasB s i x=true):i<s.size∧AV s i=(c.toNat:Int):=by
 obtain ⟨h1,h2⟩:=(Cq hi).1 h
 rw [hx] at h2
 obtain ⟨h3,h4,_⟩:=AZ h2 h1
 have hz:x.size=r.length+1:=by rw [←AD,hx]; rfl
 exact ⟨by omega,h4⟩
theorem JZ {s x:ByteArray} {i:Nat} {c d:UInt8} {r:List UInt8} (hx:x.toList=c :: r) (hi:i≤s.size) (hd:AV s i=(d.toNat:Int)) (hne:c≠d):hasB s i x=false:=by
 cases h:hasB s i x with
 | false=>rfl
 | true =>
  have h2:=(Gt hx hi h).2
  rw [hd] at h2
  exact absurd (UInt8.toNat_inj.1 (by exact_mod_cast h2)).symm hne
theorem EG {s x:ByteArray} {i e:Nat} {r:List UInt8} (h:seg s i e=x.toList++r) (he:e≤s.size) (hi:i≤e):hasB s i x=true:=by
 obtain ⟨h1,h2,_⟩:=Cb h he hi
 rw [AD] at h1 h2
 exact (Cq (by omega)).2 ⟨by omega,h2⟩
theorem MJ:(⟨#[97,108,108,32]⟩:ByteArray).toList=[97,108,108,32]:=BK [97,108,108,32]
theorem Ka:(⟨#[115,111,109,101,32]⟩:ByteArray).toList=[115,111,109,101,32]:=BK [115,111,109,101,32]
theorem ML:(⟨#[126]⟩:ByteArray).toList=[126]:=BK [126]
theorem MM:(⟨#[40]⟩:ByteArray).toList=[40]:=BK [40]
theorem Si:(⟨#[41]⟩:ByteArray).toList=[41]:=BK [41]
theorem P1:(⟨#[46]⟩:ByteArray).toList=[46]:=BK [46]
theorem Te:(⟨#[32,61,32]⟩:ByteArray).toList=[32,61,32]:=BK [32,61,32]
def Kb (s:ByteArray) (e:Nat):Prop:=Sf s e∧hasB s e ⟨#[32,61,32]⟩=false
theorem Ug (s:ByteArray):Kb s s.size:=⟨.inl rfl,VR (by show 0<3; omega)⟩
theorem O7 {s:ByteArray} {e:Nat} (h:e<s.size) (hb:AV s e=41):Kb s e:=⟨.inr ⟨h,EY (.inr (.inl hb)),by rw [hb]; decide⟩,JZ Te (by omega) (d:=41) hb (by decide)⟩
theorem O8 (op:Int):∃ b r,sgn op=32 :: b :: r∧(b≠61∨∃ r',r=62 :: r'):=by
 unfold sgn
 split
 ·exact ⟨_,_,rfl,.inl (by decide)⟩
 ·split
  ·exact ⟨_,_,rfl,.inl (by decide)⟩
  ·exact ⟨_,_,rfl,.inr ⟨_,rfl⟩⟩
theorem Uh {s:ByteArray} {i e:Nat} {op:Int} {r:List UInt8} (h:seg s i e=sgn op++r) (he:e≤s.size):Kb s i:=by
 obtain ⟨b,q,hs,hb⟩:=O8 op
 rw [hs,z6,z6] at h
 obtain ⟨h1,h2,h3⟩:=AZ h he
 obtain ⟨h4,h5,h6⟩:=AZ h3 he
 refine ⟨.inr ⟨by omega,EY (.inr (.inr (.inr h2))),by rw [h2]; decide⟩,?_⟩
 cases k:hasB s i ⟨#[32,61,32]⟩ with
 | false=>rfl
 | true =>
  obtain ⟨k1,k2⟩:=(Cq (by omega)).1 k
  rw [Te] at k2
  have k1:i+3≤s.size:=k1
  obtain ⟨_,_,k3⟩:=AZ k2 k1
  obtain ⟨_,k4,k5⟩:=AZ k3 k1
  obtain ⟨_,k6,_⟩:=AZ k5 k1
  rcases hb with hb | ⟨r',rfl⟩
  ·rw [h5] at k4
   exact absurd (UInt8.toNat_inj.1 (by exact_mod_cast k4)) hb
  ·rw [z6] at h6
   obtain ⟨_,h7,_⟩:=AZ h6 he
   rw [h7] at k6
   exact absurd k6 (by decide)
theorem XE {s:ByteArray} {n i:Nat} {u:Tm} {e:Nat} (h:rd s n i=some (u,e)):i<Bj s i∧u.name=s.extract i (Bj s i):=by
 cases n with
 | zero=>rw [rd] at h; cases h
 | succ n =>
  rw [rd] at h
  have hle:=Gn s i
  by_cases hw:Bj s i=i
  ·rw [Ax hw,cond_true] at h; cases h
  ·rw [An hw,cond_false] at h
   refine ⟨by omega,?_⟩
   cases hq:Dj s (Bj s i) 40 with
   | false =>
    rw [hq,cond_false] at h
    simp only [zD,zG] at h
    rw [←h.1]; rfl
   | true =>
    rw [hq,cond_true] at h
    split at h
    ·cases h
    ·simp only [zD,zG] at h
     rw [←h.1]; rfl
theorem QR {s:ByteArray} {i e:Nat} {t:Tm} (ht:t.atom=true) (h:seg s i e=t.fmtA) (he:e≤s.size) (hi:i≤e) (hs:Kb s e) :
  Ik ⟨#[32,61,32]⟩ s (s.size+1) i=some (t,e)∧∃ u k,rd s (s.size+1) i=some (u,k)∧u.names=true:=by
 unfold Tm.fmtA at h
 rcases Tm.Hz ht with ⟨h1,h2⟩ | ⟨a,b,rfl,h1,h2,h3,h4⟩
 ·rw [h1,cond_false] at h
  have hn:=Da h2
  have r:=LE (s:=s) t hn (s.size+1) i e he hi h hs.1 (by omega)
  refine ⟨?_,t,e,r,hn⟩
  unfold Ik
  rw [r]
  simp only [hs.2,cond_false]
 ·rw [h1,cond_true] at h
  have h:seg s i e=a.fmt++eqSign++b.fmt:=h
  rw [zO] at h
  obtain ⟨k1,k2,k3⟩:=Cb h he hi
  have hh:=EG (x:=⟨#[32,61,32]⟩) (r:=b.fmt) (by rw [Te]; exact k3) he k1
  obtain ⟨g1,g2,g3⟩:=Cb k3 he k1
  have g1:i+a.fmt.length+3≤e:=g1
  have g3:seg s (i+a.fmt.length+3) e=b.fmt:=g3
  have hb:=Gt Te (by omega) hh
  have r1:=LE (s:=s) a h2 (s.size+1) i (i+a.fmt.length) (by omega) (by omega) k2 (.inr ⟨hb.1,EY (.inr (.inr (.inr hb.2))),by rw [hb.2]; decide⟩) (by omega)
  have r2:=LE (s:=s) b h3 (s.size+1) (i+a.fmt.length+3) e he g1 g3 hs.1 (by omega)
  refine ⟨?_,a,_,r1,h2⟩
  unfold Ik
  rw [r1]
  have r2:rd s (s.size+1) (i+a.fmt.length+(⟨#[32,61,32]⟩:ByteArray).size)=some (b,e):=r2
  simp only [hh,cond_true,r2]
theorem YN {w:List UInt8} {u:Tm} (hw:w=[97,108,108]∨w=[115,111,109,101]) (hu:u.names=true) (h:u.name.toList=w):False:=by
 rw [Tm.EV] at hu
 rcases hw with rfl | rfl
 ·have e:u.name=⟨#[97,108,108]⟩:=Bk (by rw [h]; exact (BK [97,108,108]).symm)
  rw [e,show Cf ⟨#[97,108,108]⟩=false by decide +kernel,show DB ⟨#[97,108,108]⟩=false by decide +kernel] at hu
  simp at hu
 ·have e:u.name=⟨#[115,111,109,101]⟩:=Bk (by rw [h]; exact (BK [115,111,109,101]).symm)
  rw [e,show Cf ⟨#[115,111,109,101]⟩=false by decide +kernel,show DB ⟨#[115,111,109,101]⟩=false by decide +kernel] at hu
  simp at hu
theorem Tf {s x:ByteArray} {i:Nat} {w:List UInt8} (hx:x.toList=w++[32]) (hw:w=[97,108,108]∨w=[115,111,109,101]) (hi:i≤s.size) {u:Tm} (hu:u.names=true) (hn:u.name=s.extract i (Bj s i)):hasB s i x=false:=by
 cases h:hasB s i x with
 | false=>rfl
 | true =>
  exfalso
  obtain ⟨h1,h2⟩:=(Cq hi).1 h
  rw [hx] at h2
  have hz:x.size=w.length+1:=by rw [←AD,hx,z7]; rfl
  obtain ⟨k1,k2,k3⟩:=Cb h2 (by omega) (by omega)
  obtain ⟨_,k4,_⟩:=AZ k3 (by omega)
  have hwe:Bj s i=i+w.length:=FQ w i _ k2 (by omega) (by omega) (by
   rcases hw with rfl | rfl
   ·intro c hc
    simp only [zU,List.not_mem_nil,or_false] at hc
    rcases hc with rfl | rfl | rfl <;> exact F8 (by decide +kernel)
   ·intro c hc
    simp only [zU,List.not_mem_nil,or_false] at hc
    rcases hc with rfl | rfl | rfl | rfl <;> exact F8 (by decide +kernel)) fun ⟨_,k⟩=>by
   rw [EY (.inr (.inr (.inr k4)))] at k; cases k
  refine YN hw hu ?_
  rw [hn,hwe,toList_extract,k2]
theorem Kc {s:ByteArray} {i e:Nat} {x:Fm} (hx:x.forms=true) (h:seg s i e=x.fmt) (he:e≤s.size) (hi:i≤e) (hs:Kb s e) :
  hasB s i ⟨#[97,108,108,32]⟩=dec (x.op=8)∧hasB s i ⟨#[115,111,109,101,32]⟩=dec (x.op=9)∧hasB s i ⟨#[126]⟩=dec (x.op=4)∧hasB s i ⟨#[40]⟩=dec (x.op=5∨x.op=6∨x.op=7):=by
 have hf:=Fm.By hx
 have hi2:i≤s.size:=by omega
 have fst:∀ (c:UInt8) (r:List UInt8),x.fmt=c :: r→(97≠c→hasB s i ⟨#[97,108,108,32]⟩=false)∧(115≠c→hasB s i ⟨#[115,111,109,101,32]⟩=false)∧(126≠c→hasB s i ⟨#[126]⟩=false)∧(40≠c→hasB s i ⟨#[40]⟩=false):=fun c r hc=>by
  rw [hc] at h
  obtain ⟨_,hb,_⟩:=AZ h he
  exact ⟨JZ MJ hi2 hb,JZ Ka hi2 hb,JZ ML hi2 hb,JZ MM hi2 hb⟩
 rcases Fm.Im hf with ho | ho | ho | ho | ho | ho | ho | ho | ho
 ·have e0:=Fm.Dp hf (.inl ho)
  rw [ho] at e0
  obtain ⟨f1,f2,f3,f4⟩:=fst 116 [114,117,101] (by rw [e0,QK]; rfl)
  rw [ho,f1 (by decide),f2 (by decide),f3 (by decide),f4 (by decide),An (by omega),An (by omega),An (by omega),An (by omega)]
  exact ⟨rfl,rfl,rfl,rfl⟩
 ·have e0:=Fm.Dp hf (.inr ho)
  rw [ho] at e0
  obtain ⟨f1,f2,f3,f4⟩:=fst 102 [97,108,115,101] (by rw [e0,QL]; rfl)
  rw [ho,f1 (by decide),f2 (by decide),f3 (by decide),f4 (by decide),An (by omega),An (by omega),An (by omega),An (by omega)]
  exact ⟨rfl,rfl,rfl,rfl⟩
 ·obtain ⟨hp,hat,hv⟩:=Fm.E7 hf ho
  have e0:x.fmt=x.atom.fmtA:=by
   obtain ⟨op,a,v,ps⟩:=x
   have ho:op=3:=ho
   subst ho
   exact QM a v ps
  rw [e0] at h
  obtain ⟨_,u,k,r,hu⟩:=QR hat h he hi hs
  obtain ⟨hw1,hw2⟩:=XE r
  have hc:i<s.size∧Cx (AV s i)=true:=by
   cases Classical.em (i<s.size∧Cx (AV s i)=true) with
   | inl h=>exact h
   | inr h=>rw [E5 h] at hw1; omega
  have f1:=Tf (x:=⟨#[97,108,108,32]⟩) (w:=[97,108,108]) MJ (.inl rfl) hi2 hu hw2
  have f2:=Tf (x:=⟨#[115,111,109,101,32]⟩) (w:=[115,111,109,101]) Ka (.inr rfl) hi2 hu hw2
  have f3:hasB s i ⟨#[126]⟩=false:=by
   cases hq:hasB s i ⟨#[126]⟩ with
   | false=>rfl
   | true =>
    have:=(Gt ML hi2 hq).2
    rw [this] at hc
    have h2:Cx ((126:UInt8).toNat:Int)=false:=by
     unfold Cx
     have e:((126:UInt8).toNat:Int)=126:=rfl
     rw [e,An (p:=(126:Int)≤122) (by omega),An (p:=(126:Int)≤90) (by omega),An (p:=(126:Int)≤57) (by omega),An (p:=(126:Int)=95) (by omega)]
     simp
    rw [h2] at hc; cases hc.2
  have f4:hasB s i ⟨#[40]⟩=false:=by
   cases hq:hasB s i ⟨#[40]⟩ with
   | false=>rfl
   | true =>
    have:=(Gt MM hi2 hq).2
    rw [this] at hc
    have h2:Cx ((40:UInt8).toNat:Int)=false:=EY (.inl rfl)
    rw [h2] at hc; cases hc.2
  rw [ho,f1,f2,f3,f4,An (by omega),An (by omega),An (by omega),An (by omega)]
  exact ⟨rfl,rfl,rfl,rfl⟩
 ·obtain ⟨p,e0⟩:=Fm.Il hf ho
  obtain ⟨r,hr⟩:∃ r,x.fmt=126 :: r:=by
   rw [e0,O6]
   cases p.atom.eqn with
   | true=>exact ⟨_,rfl⟩
   | false=>exact ⟨_,rfl⟩
  obtain ⟨f1,f2,f3,f4⟩:=fst 126 r hr
  have g:hasB s i ⟨#[126]⟩=true:=EG (r:=r) (by rw [h,hr,ML]; rfl) he hi
  rw [ho,f1 (by decide),f2 (by decide),g,f4 (by decide),An (by omega),An (by omega),Ax (by omega),An (by omega)]
  exact ⟨rfl,rfl,rfl,rfl⟩
 iterate 3
  ·obtain ⟨p,q,e0⟩:=Fm.FX hf (by omega)
   obtain ⟨r,hr⟩:∃ r,x.fmt=40 :: r:=by
    rw [e0,QP (by omega)]
    exact ⟨_,rfl⟩
   obtain ⟨f1,f2,f3,f4⟩:=fst 40 r hr
   have g:hasB s i ⟨#[40]⟩=true:=EG (r:=r) (by rw [h,hr,MM]; rfl) he hi
   rw [ho,f1 (by decide),f2 (by decide),f3 (by decide),g,An (by omega),An (by omega),An (by omega),Ax (by omega)]
   exact ⟨rfl,rfl,rfl,rfl⟩
 ·obtain ⟨p,e0⟩:=Fm.GB hf (.inl ho)
  rw [ho] at e0
  have hr:x.fmt=P0++(x.var.toList++46 :: p.fmt):=by rw [e0]; exact QN _ _ _
  obtain ⟨f1,f2,f3,f4⟩:=fst 97 _ hr
  have g:hasB s i ⟨#[97,108,108,32]⟩=true:=EG (r:=x.var.toList++46 :: p.fmt) (by rw [h,hr,MJ]; rfl) he hi
  rw [ho,g,f2 (by decide),f3 (by decide),f4 (by decide),Ax rfl,An (by omega),An (by omega),An (by omega)]
  exact ⟨rfl,rfl,rfl,rfl⟩
 ·obtain ⟨p,e0⟩:=Fm.GB hf (.inr ho)
  rw [ho] at e0
  have hr:x.fmt=JX++(x.var.toList++46 :: p.fmt):=by rw [e0]; exact QO _ _ _
  obtain ⟨f1,f2,f3,f4⟩:=fst 115 _ hr
  have g:hasB s i ⟨#[115,111,109,101,32]⟩=true:=EG (r:=x.var.toList++46 :: p.fmt) (by rw [h,hr,Ka]; rfl) he hi
  rw [ho,f1 (by decide),g,f3 (by decide),f4 (by decide),An (by omega),Ax rfl,An (by omega),An (by omega)]
  exact ⟨rfl,rfl,rfl,rfl⟩
theorem MN:(⟨#[32,61,32]⟩:ByteArray).toList=eqSign:=BK [32,61,32]
theorem Ui (x:Tm) (hx:x.atom=true):E 87 [x.sv] []=some (.str x.txtA,[]):=by
 rcases Tm.Hz hx with ⟨h1,h2⟩ | ⟨a,b,rfl,h1,h2,h3,h4⟩
 ·have e:x.txtA=x.txt:=Bk (by rw [Tm.CU,Tm.txt_toList]; unfold Tm.fmtA; rw [h1]; rfl)
  rw [e]
  exact F1 x (Da h2) (by have:=Db h2; omega)
 ·have he:=Ef (.mk ⟨#[61]⟩ [a,b])
  rw [h1] at he
  obtain ⟨s1,s2⟩:=MC h4
  have va:a.valid=true:=by unfold Tm.valid; rw [s1,h2]; rfl
  have vb:b.valid=true:=by unfold Tm.valid; rw [s2,h3]; rfl
  have f1:=F1 a h2 (by have:=Db va; omega)
  have f2:=F1 b h3 (by have:=Db vb; omega)
  have z1:=Lp va
  have z2:=Lp vb
  have hs1:(a.txt++(⟨#[32,61,32]⟩:ByteArray)).size=a.txt.size+3:=by rw [zY]; rfl
  have hs2:(⟨#[32,61,32]⟩:ByteArray).size=3:=rfl
  have ht:a.txt++⟨#[32,61,32]⟩++b.txt=(Tm.mk ⟨#[61]⟩ [a,b]).txtA:=by
   refine Bk ?_
   rw [Bx,Bx,Tm.txt_toList,Tm.txt_toList,Tm.CU,MN]
   unfold Tm.fmtA
   rw [h1]; rfl
  have g0:([a,b].map Tm.d)[(0:Nat)]?=some [D.str a.name,D.arr (a.args.map Tm.d)]:=by rw [zC,Tm.d_eq]; rfl
  have g1:([a,b].map Tm.d)[(1:Nat)]?=some [D.str b.name,D.arr (b.args.map Tm.d)]:=by rw [zC,zC,Tm.d_eq b]; rfl
  have hsv:(Tm.mk ⟨#[61]⟩ [a,b]).sv=.agg [.str ⟨#[61]⟩,.arr ([a,b].map Tm.d)]:=rfl
  rw [hsv] at he ⊢
  obtain ⟨ds,hds⟩:∃ ds,ds=[a,b].map Tm.d:=⟨_,rfl⟩
  rw [←hds] at he g0 g1 ⊢
  refine Ai Ei AO (of_decide_eq_true rfl) ?_
  simp (disch:=omega) only [Dv,go_sem,Ab,he,g0,g1,f1,f2,hs1,hs2,ht,xF,Int.toNat_one,A5,AO]
def C5:SC:=(.seq (.reg [⟨(some 2),none,(.alloc 30 [(.str ⟨#[]⟩),.nil])⟩]) (.seq (.reg [⟨some 4,none,.mv (.t 0)⟩,⟨some 5,none,.call 132 [(.t 4)]⟩,⟨(some 3),none,(.alloc 30 [(.str ⟨#[]⟩),.nil])⟩,⟨none,none,(.store 2 (.t 3) (.t 5))⟩]) (.seq (.seq (.reg [⟨some 6,none,.mv (.t 0)⟩,⟨(some 7),none,(.call 90 [(.t 6),(.c (.str ⟨#[32,61,32]⟩))])⟩]) (.cond (.t 7) (.seq (.dreg [[],[],[1],[0,2,1],[3,0,2,1],[4,3,0,2,1]] [⟨some 8,none,.load true 2 (.t 3)⟩,⟨some 9,none,.mv (.t 0)⟩,⟨some 10,none,.call 132 [(.t 9)]⟩,⟨(some 11),none,(.mkrow 30 2 [(.str ⟨#[]⟩),.nil] 2 [(0,(.t 8)),(1,(.t 10))])⟩,⟨(some 12),none,(.build [(.str ⟨#[]⟩),.nil] [(0,(1,(.c (.str ⟨#[61]⟩)))),(1,(1,(.t 11)))])⟩,⟨none,none,(.store 2 (.t 2) (.t 12))⟩]) .ret) .skip)) (.seq (.reg [⟨some 13,none,.load true 2 (.t 3)⟩,⟨none,none,(.store 2 (.t 2) (.t 13))⟩]) .ret))))
theorem FY:codeOf Tryz.prog 96=some ⟨14,C5,[(.cell 2 true 2)]⟩:=by kernel_rfl
theorem AJ:modes 96=⟨[],.own [none,some (30,2)],none,false⟩:=by unfold modes; rfl
theorem XF (s:ByteArray) (hs:s.size≤1048576) (i:Nat) (hi:i≤s.size):∃ out,E 96 [.ptr 0 0] [psr s i false]=some out∧Td s i (Ik ⟨#[32,61,32]⟩ s (s.size+1) i) out:=by
 obtain ⟨out1,h1,t,j,f,rfl,g1,g2,g3⟩:=Px s hs (s.size+1) i hi (by omega)
 refine A7 FY AJ (of_decide_eq_true rfl) ?_
 unfold Ik
 cases hr:rd s (s.size+1) i with
 | none =>
  rw [hr] at g3
  have g3:f=true:=g3
  subst g3
  have ht:=FU s j ⟨#[32,61,32]⟩
  simp (disch:=omega) only [C5,go_sem,Ab,h1,ht,B6,Ao]
  exact ⟨_,rfl,t,j,true,rfl,g1,g2,rfl⟩
 | some p =>
  obtain ⟨a,e⟩:=p
  rw [hr] at g3
  obtain ⟨rfl,rfl,rfl⟩:=g3
  cases hh:hasB s j ⟨#[32,61,32]⟩ with
  | false =>
   have ht:=F0 s j ⟨#[32,61,32]⟩ g2 hh
   simp only [hh,cond_false]
   simp (disch:=omega) only [C5,go_sem,Ab,h1,ht,B6,Ao]
   exact ⟨_,rfl,t,j,false,rfl,g1,g2,rfl,rfl,rfl⟩
  | true =>
   have ht:E 90 [.ptr 0 0,.str ⟨#[32,61,32]⟩] [psr s j false]=some (.bool true,[psr s (j+3) false]):=EZ s j ⟨#[32,61,32]⟩ (by show j+3≤_; omega) g2 hh
   have hj3:j+3≤s.size:=((Cq g2).1 hh).1
   obtain ⟨out2,h2,t2,j2,f2,rfl,k1,k2,k3⟩:=Px s hs (s.size+1) (j+3) hj3 (by omega)
   simp only [hh,cond_true]
   have e3:rd s (s.size+1) (j+(⟨#[32,61,32]⟩:ByteArray).size)=rd s (s.size+1) (j+3):=rfl
   rw [e3]
   have ho:(Tm.mk ⟨#[61]⟩ [t,t2]).args.map Tm.o=[[OT.str t.name,.ow (t.args.map Tm.o)],[OT.str t2.name,.ow (t2.args.map Tm.o)]]:=by
    show [t,t2].map Tm.o=_
    rw [zC,zC,yU,Tm.o_eq,Tm.o_eq]
   simp (disch:=omega) only [C5,go_sem,Ab,h1,ht,h2,B6,Ao]
   cases hr2:rd s (s.size+1) (j+3) with
   | none =>
    rw [hr2] at k3
    have k3:f2=true:=k3
    subst k3
    exact ⟨_,rfl,.mk ⟨#[61]⟩ [t,t2],j2,true,by rw [ho]; rfl,by omega,k2,rfl⟩
   | some p =>
    obtain ⟨b,e⟩:=p
    rw [hr2] at k3
    obtain ⟨rfl,rfl,rfl⟩:=k3
    exact ⟨_,rfl,.mk ⟨#[61]⟩ [t,t2],j2,false,by rw [ho]; rfl,by omega,k2,rfl,rfl,rfl⟩
def IU:SC:=(.seq (.reg [⟨some 1,none,.boxv 33 5 (.t 0)⟩,⟨some 2,none,.mv (.c (.int .i64 0))⟩]) (.seq (.reg [⟨some 3,none,.mv (.c (.int .i64 1))⟩]) (.seq (.seq (.reg [⟨some 6,none,.faddr 4 (.t 1)⟩,⟨some 7,none,.load false 1 (.t 6)⟩,⟨some 8,none,.len false (.t 7)⟩,⟨some 9,none,.mv (.c (.int .i64 0))⟩]) (.block 0 (.loop [0,0,0,1,0,0,0,1,1,1,0,0,0,0,0,0,0,0,0,0,0,0] (.seq (.reg [⟨some 10,none,.bin .lss false (.t 9) (.t 8)⟩]) (.seq (.cond (.t 10) .skip (.exit 0)) (.seq (.block 1 (.seq (.reg [⟨some 11,none,.iaddr 5 (.t 7) (.t 9)⟩,⟨some 12,none,.load true 5 (.t 11)⟩,⟨(some 5),none,(.alloc 33 [(.int .i64 0),(.str ⟨#[]⟩),.nil,(.str ⟨#[]⟩),.nil])⟩,⟨none,none,(.store 5 (.t 5) (.t 12))⟩]) (.seq (.seq (.reg [⟨some 13,none,.mv (.t 3)⟩,⟨some 14,none,.bin .gtr false (.t 13) (.c (.int .i64 40))⟩]) (.cond (.t 14) (.seq (.reg [⟨some 15,none,.mv (.t 3)⟩,⟨some 2,none,.mv (.t 15)⟩]) .ret) .skip)) (.reg [⟨some 16,none,.mv (.t 3)⟩,⟨some 17,none,.load true 5 (.t 5)⟩,⟨some 18,none,.call 51 [(.t 17)]⟩,⟨some 19,none,.bin .add false (.t 16) (.t 18)⟩,⟨some 3,none,.mv (.t 19)⟩])))) (.reg [⟨some 20,none,.bin .add false (.t 9) (.c (.int .i64 1))⟩,⟨some 9,none,.mv (.t 20)⟩]))))))) (.seq (.reg [⟨some 21,none,.mv (.t 3)⟩,⟨some 2,none,.mv (.t 21)⟩]) .ret))))
theorem N2:codeOf Tryz.prog 51=some ⟨22,IU,[(.tmp 2)]⟩:=by kernel_rfl
theorem Dq:modes 51=⟨[],.asis,none,false⟩:=by unfold modes; rfl
theorem VS (x:Fm) (hn:x.nodes≤1099511627776) (ih:∀ y∈x.parts,E 51 [y.sv] []=some (.int .i64 y.cap,[])):E 51 [x.sv] []=some (.int .i64 x.cap,[]):=by
 have hl:=Fm.length_le x.parts
 have hx:=Fm.nodes_eq x
 rw [Fm.cap_eq]
 refine Ai N2 Dq (of_decide_eq_true rfl) ?_
 simp (disch:=omega) only [IU,go_sem,Ab]
 refine go_loop (α:=Int × Int) (fun a=>⟨slots 22 0 [(3,.int .i64 a.2),(7,.arr (x.parts.map Fm.d)),(8,.int .i64 x.parts.length),(9,.int .i64 a.1)],[]⟩) (fun a=>∃ k:Nat,a.1=k∧k≤x.parts.length∧1≤a.2∧a.2+Fm.nodeS (x.parts.drop k)≤x.nodes∧Fm.capL (x.parts.drop k) a.2=Fm.capL x.parts 1) (fun a=>x.parts.length-a.1.toNat) (0,1) ⟨0,rfl,zT _,by dsimp only; omega,by rw [zR]; dsimp only; omega,rfl⟩ (by simp (disch:=omega) only [go_sem,Ab]) ?_
 rintro ⟨i,n⟩ ⟨k,hi,hk,hn0,hn1,hs⟩
 dsimp only at hi hn0 hn1 hs
 have hni:i.toNat=k:=by omega
 rcases zN k x.parts.length with hlt | hge
 ·have hg:=get_at Fm.d hlt
  rw [Fm.d_eq] at hg
  have hd:x.parts.drop k=x.parts[k] :: x.parts.drop (k+1):=zI hlt
  have hc:=ih x.parts[k] (zJ hlt)
  have hp:=Fm.cap_spec x.parts[k]
  rw [hd,Fm.capL] at hs
  rw [hd,Fm.nodeS] at hn1
  rcases xD 40 n with h30 | h30
  ·rw [if_pos h30] at hs
   simp (disch:=omega) only [go_sem,Ab,hni,hg,hc,Dq]
   exact hs
  ·rw [if_neg (by omega)] at hs
   simp (disch:=omega) only [go_sem,Ab,hni,hg,hc,Dq]
   refine ⟨(i+1,n+x.parts[k].cap),⟨k+1,by dsimp only; omega,hlt,by dsimp only; omega,by dsimp only; omega,hs⟩,by dsimp only; omega,?_⟩
   simp only [and_self]
 ·have hd:x.parts.drop k=[]:=zP hge
  rw [hd,Fm.capL] at hs
  simp (disch:=omega) only [go_sem,Ab,hni]
  exact hs
theorem P2 (x:Fm) (hn:x.nodes≤1099511627776):E 51 [x.sv] []=some (.int .i64 x.cap,[]) :=
 VS x hn fun y hy=>P2 y (by have:=Fm.nodes_mem hy; have:=Fm.nodes_eq x; omega)
termination_by SizeOf.sizeOf x
decreasing_by exact Fm.lt_of_mem hy
def IW:SC:=(.seq (.reg [⟨some 2,none,.boxv 33 5 (.t 0)⟩,⟨some 4,none,.mv (.c (.int .i64 0))⟩]) (.seq (.reg [⟨some 5,none,.mv (.c (.int .i64 1))⟩]) (.seq (.seq (.reg [⟨some 6,none,.mv (.c (.int .i64 0))⟩]) (.block 0 (.loop [0,1,1,0,0,1,1,0,0,0,0,0,0,0,0,0,0,0,0,0,0,0,0,0,0,0,0,0,0,0,0] (.seq (.seq (.reg [⟨some 7,none,.mv (.t 6)⟩,⟨some 8,none,.faddr 4 (.t 2)⟩,⟨some 9,none,.load false 1 (.t 8)⟩,⟨some 10,none,.len false (.t 9)⟩,⟨some 11,none,.bin .lss false (.t 7) (.t 10)⟩,⟨some 12,none,.mv (.t 11)⟩,⟨(some 13),(some (12,true)),(.mv (.t 5))⟩,⟨(some 14),(some (12,true)),(.mv (.t 1))⟩,⟨(some 15),(some (12,true)),(.bin .leq false (.t 13) (.t 14))⟩,⟨some 16,none,.pick (.t 12) (.t 15) (.c (.bool false))⟩]) (.cond (.t 16) .skip (.exit 0))) (.seq (.block 1 (.reg [⟨some 19,none,.mv (.t 5)⟩,⟨some 20,none,.faddr 4 (.t 2)⟩,⟨some 21,none,.load false 1 (.t 20)⟩,⟨some 22,none,.mv (.t 6)⟩,⟨some 23,none,.iaddr 5 (.t 21) (.t 22)⟩,⟨some 24,none,.load true 5 (.t 23)⟩,⟨some 25,none,.mv (.t 1)⟩,⟨some 26,none,.mv (.t 5)⟩,⟨some 27,none,.bin .sub false (.t 25) (.t 26)⟩,⟨some 28,none,.call 78 [(.t 24),(.t 27)]⟩,⟨some 29,none,.bin .add false (.t 19) (.t 28)⟩,⟨some 5,none,.mv (.t 29)⟩])) (.reg [⟨some 17,none,.mv (.t 6)⟩,⟨some 18,none,.bin .add false (.t 17) (.c (.int .i64 1))⟩,⟨some 6,none,.mv (.t 18)⟩])))))) (.seq (.reg [⟨some 30,none,.mv (.t 5)⟩,⟨some 4,none,.mv (.t 30)⟩]) .ret))))
theorem N3:codeOf Tryz.prog 78=some ⟨31,IW,[(.tmp 4)]⟩:=by kernel_rfl
theorem DK:modes 78=⟨[],.asis,none,false⟩:=by unfold modes; rfl
theorem VT (x:Fm) (m:Int) (hm:0≤m) (hm1:m≤1099511627776) (hn:x.nodes≤1099511627776) (ih:∀ y∈x.parts,∀ m:Int,0≤m→m≤1099511627776→E 78 [y.sv,.int .i64 m] []=some (.int .i64 (y.many m),[])):E 78 [x.sv,.int .i64 m] []=some (.int .i64 (x.many m),[]):=by
 have hl:=Fm.length_le x.parts
 have hx:=Fm.nodes_eq x
 rw [Fm.many_eq]
 refine Ai N3 DK (of_decide_eq_true rfl) ?_
 simp (disch:=omega) only [IW,go_sem,Ab]
 refine go_loop (α:=Int × Int) (fun a=>⟨slots 31 0 [(1,.int .i64 m),(2,.ptr 0 0),(5,.int .i64 a.2),(6,.int .i64 a.1)],[.box 33 [.int .i64 x.op,.str x.atom.name,.arr (x.atom.args.map Tm.d),.str x.var,.arr (x.parts.map Fm.d)]]⟩) (fun a=>∃ k:Nat,a.1=k∧k≤x.parts.length∧1≤a.2∧a.2+Fm.nodeS (x.parts.drop k)≤x.nodes∧Fm.manyL (x.parts.drop k) m a.2=Fm.manyL x.parts m 1) (fun a=>x.parts.length-a.1.toNat) (0,1) ⟨0,rfl,zT _,by dsimp only; omega,by rw [zR]; dsimp only; omega,rfl⟩ (by simp (disch:=omega) only [go_sem,Ab]) ?_
 rintro ⟨i,n⟩ ⟨k,hi,hk,hn0,hn1,hs⟩
 dsimp only at hi hn0 hn1 hs
 have hni:i.toNat=k:=by omega
 rcases zN k x.parts.length with hlt | hge
 ·have hg:=get_at Fm.d hlt
  rw [Fm.d_eq] at hg
  have hd:x.parts.drop k=x.parts[k] :: x.parts.drop (k+1):=zI hlt
  rw [hd,Fm.manyL] at hs
  rw [hd,Fm.nodeS] at hn1
  rcases xD m n with h30 | h30
  ·rw [if_neg (by omega)] at hs
   simp (disch:=omega) only [go_sem,Ab,hni,hg,DK]
   exact hs
  ·rw [if_pos h30] at hs
   have hc:=ih x.parts[k] (zJ hlt) (m-n) (by omega) (by omega)
   have hp:=Fm.many_spec x.parts[k] (m-n)
   simp (disch:=omega) only [go_sem,Ab,hni,hg,hc,DK]
   refine ⟨(i+1,n+x.parts[k].many (m-n)),⟨k+1,by dsimp only; omega,hlt,by dsimp only; omega,by dsimp only; omega,hs⟩,by dsimp only; omega,?_⟩
   simp only [and_self]
 ·have hd:x.parts.drop k=[]:=zP hge
  rw [hd,Fm.manyL] at hs
  simp (disch:=omega) only [go_sem,Ab,hni]
  exact hs
theorem Tg (x:Fm) (m:Int) (hm:0≤m) (hm1:m≤1099511627776) (hn:x.nodes≤1099511627776):E 78 [x.sv,.int .i64 m] []=some (.int .i64 (x.many m),[]) :=
 VT x m hm hm1 hn fun y hy m hm hm1=>Tg y m hm hm1 (by have:=Fm.nodes_mem hy; have:=Fm.nodes_eq x; omega)
termination_by SizeOf.sizeOf x
decreasing_by exact Fm.lt_of_mem hy
end Go.Proofs.YtfgkiemoglcppaaGreat
