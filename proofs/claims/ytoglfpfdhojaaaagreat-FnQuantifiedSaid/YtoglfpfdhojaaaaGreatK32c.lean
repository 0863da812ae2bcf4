/-
  Texts of this claim, one behind the other, each built on those ahead of it. No condition.
-/
import Derived.Test.YtoglfpfdhojaaaaGreatK32b
import Derived.Shelf.Lays2
import Derived.Test.YtoglfpfdhojaaaaGreatChecked
import Derived.Shelf.Slices.Clone
import Derived.Shelf.Sort.Plain
import Derived.Sort.EncStr
import Derived.Shelf.Lays
import Derived.Shelf.Slices.In.SortNone
set_option maxHeartbeats 16000000
open List renaming map_cons → zA, length_replicate → zC, eq_nil_of_length_eq_zero → zE, getElem_mem → zF, getElem?_eq_getElem → zG, map_nil → zH, replicate → zK, drop_eq_getElem_cons → zL, drop_eq_nil_of_le → zM, length_cons → zR, mem_cons → zS, all_eq_true → zT, drop_zero → zV, length_map → zY, map_append → zZ, getD_eq_getElem?_getD → z7, nil_append → yA, getElem_of_mem → yB, getElem_map → yC, length_append → yD, any_cons → yE, cons_append → yG, all_cons → yI, length_nil → yJ, set_cons_zero → yK, set_cons_succ → yL, take_of_length_le → yN, getElem_cons_succ → yO, length_drop → yQ, take_succ_cons → yT, mem_map → yU, getElem?_map → yY, not_mem_nil → y0, mem_append → y5
open Bool renaming and_eq_true → zB, and_self → zD, false_and → zP, and_true → zQ, true_and → zW, or_eq_false_iff → yR, and_false → yX, or_eq_true → y4
open Option.some renaming inj → zI, injEq → zN
open Nat renaming lt_or_ge → zJ, eq_zero_or_pos → zO, zero_le → zX, le_refl → yF, pow_le_pow_right → yS, lt_of_lt_of_le → yW, add_zero → y2, zero_add → y3, mul_one → y6
open Prod.mk renaming injEq → zU, inj → yM
open Array renaming getD_eq_getD_getElem? → z6, getElem?_eq_getElem → z8, getElem?_eq_some_iff → yV
open Int renaming lt_or_le → yH, mul_le_mul_of_nonneg_right → yP, toNat_zero → y7
open Option renaming getD_some → yZ
set_option maxRecDepth 100000
set_option linter.unusedSimpArgs false
set_option linter.unusedVariables false
set_option linter.unusedSectionVars false
namespace Go.Proofs.YtoglfpfdhojaaaaGreat
open Go.RowKit
theorem SO (s:ByteArray) (w:World) (hs:s.size≤9223372036854775807):Calls Tryz.prog 62 #[.string s] w (Same w (.bool (Cj s))):=by
  cases hin:inB s.size 1 4
  · go_enter Tryz.func62,Tryz.ntmps62
    go_wp2_with (first
      | (go_at_call 32; refine (Ii _ _ _ _).mono ?_; rintro e w' ⟨rfl,rfl⟩))
    go_ret
    exact Same.mk' _ (by unfold Cj; rw [hin]; simp)
  · have hpos:0<s.size:=by simp [inB] at hin; omega
    have Hb:=Lib.hid (Fa hpos)
    go_enter Tryz.func62,Tryz.ntmps62
    go_wp2_with (first
      | (go_at_call 32; refine (Ii _ _ _ _).mono ?_; rintro e w' ⟨rfl,rfl⟩))
    all_goals first
      | (go_ret
         refine Same.mk' _ ?_
         unfold Cj
         rw [Ev hpos (by rw [←Hb.out]; simp [HI,M4]; omega)]
         rfl)
      | skip
    · go_loopw [3] (fun i wr=>Cnt w s.size (fun k=>1≤k∧E7 HI s k=true) i wr) (fun i _=>s.size-(intOf i).toNat)
      case atStart=>exact ⟨1,hpos,rfl,⟨yF _,by rw [Ga,← Hb.out]; simp [E7,HI,M4]; omega⟩,rfl⟩
      case round =>
        obtain ⟨k,hk,rfl,⟨hk1,hok⟩,rfl⟩:=hrel
        have Hok:=Lib.hid hok
        clear hok
        by_cases hlt:k<s.size
        · have Hbk:=Lib.hid (Fa hlt)
          have hk0:k≠0:=by omega
          go_wp2_with (first
            | (go_at_call 96; refine (Lm _ _).mono ?_; rintro e w' ⟨rfl,rfl⟩))
          all_goals first
            | (go_ret
               refine Same.mk' _ ?_
               unfold Cj
               rw [Ev hlt (by rw [←Hbk.out]; simp_all [HI] <;> omega)]
               rfl)
            | (go_roundw
               case rel=>exact ⟨_,hlt,by go_num,⟨by omega,H2 Hok.out (by rw [←Hbk.out]; simp_all [HI] <;> omega)⟩,rfl⟩
               case measure=>first | exact HS hlt | (simp [intOf]; omega))
        · obtain rfl:k=s.size:=by omega
          go_wp2_with fail
          go_ret
          exact Same.mk' _ (by unfold Cj; rw [Hok.out,hin]; rfl)
theorem Sd (s:ByteArray):Un s=(s.toList == [116,114,117,101] || s.toList == [102,97,108,115,101] || s.toList == [116,114,117,116,104] || s.toList == [98,111,116,104] || s.toList == [101,105,116,104,101,114] || s.toList == [105,102] || s.toList == [97,108,108] || s.toList == [115,111,109,101]):=by
 unfold Un T9 words
 simp [List.range,List.range.loop,Bool.or_assoc]
theorem ON (s:ByteArray) (w:World) (hs:s.size≤9223372036854775807):Calls Tryz.prog 95 #[.string s] w (Same w (.bool (Ee s))):=by
  cases hin:inB s.size 1 6
  · go_enter Tryz.func95,Tryz.ntmps95
    go_wp2_with (first
      | (go_at_call 32; refine (Ii _ _ _ _).mono ?_; rintro e w' ⟨rfl,rfl⟩))
    go_ret
    exact Same.mk' _ (by unfold Ee; rw [hin]; simp)
  · have hpos:0<s.size:=by simp [inB] at hin; omega
    have Hb:=Lib.hid (Fa hpos)
    cases hres:Un s
    case true =>
      have Hres:=Lib.hid hres
      rw [Sd] at hres
      go_enter Tryz.func95,Tryz.ntmps95
      go_wp2_with (first
        | (go_at_call 32; refine (Ii _ _ _ _).mono ?_; rintro e w' ⟨rfl,rfl⟩))
      all_goals first
        | (go_ret
           refine Same.mk' _ ?_
           unfold Ee
           rw [Hres.out]; simp)
        | (exfalso; simp_all; done)
    have Hres:=Lib.hid hres
    rw [Sd] at hres
    simp only [yR] at hres
    obtain ⟨⟨⟨⟨⟨⟨⟨e1,e2⟩,e3⟩,e4⟩,e5⟩,e6⟩,e7⟩,e8⟩:=hres
    go_enter Tryz.func95,Tryz.ntmps95
    go_wp2_with (first
      | (go_at_call 32; refine (Ii _ _ _ _).mono ?_; rintro e w' ⟨rfl,rfl⟩))
    all_goals first
      | (go_ret
         refine Same.mk' _ ?_
         unfold Ee
         rw [Ev hpos (by rw [←Hb.out]; simp [HH,Nr]; omega)]; rfl)
      | skip
    go_loopw [3] (fun i wr=>Cnt w s.size (fun k=>1≤k∧E7 HH s k=true) i wr) (fun i _=>s.size-(intOf i).toNat)
    case atStart=>exact ⟨1,hpos,rfl,⟨yF _,by rw [Ga,← Hb.out]; simp [E7,HH,H1,Nr]; omega⟩,rfl⟩
    case round =>
      obtain ⟨k,hk,rfl,⟨hk1,hok⟩,rfl⟩:=hrel
      have Hok:=Lib.hid hok
      clear hok
      by_cases hlt:k<s.size
      · have Hbk:=Lib.hid (Fa hlt)
        have hk0:k≠0:=by omega
        go_wp2_with (first
          | (go_at_call 96; refine (Lm _ _).mono ?_; rintro e w' ⟨rfl,rfl⟩))
        all_goals first
          | (go_ret
             refine Same.mk' _ ?_
             unfold Ee
             rw [Ev hlt (by rw [←Hbk.out]; simp_all [HH] <;> omega)]
             rfl)
          | (go_roundw
             case rel=>exact ⟨_,hlt,by go_num,⟨by omega,H2 Hok.out (by rw [←Hbk.out]; simp_all [HH] <;> omega)⟩,rfl⟩
             case measure=>first | exact HS hlt | (simp [intOf]; omega))
      · obtain rfl:k=s.size:=by omega
        go_wp2_with fail
        go_ret
        exact Same.mk' _ (by unfold Ee; rw [Hok.out,hin,Hres.out]; rfl)
end Go.Proofs.YtoglfpfdhojaaaaGreat
set_option maxRecDepth 100000
namespace Go.Proofs.YtoglfpfdhojaaaaGreat
open Go.Shelf
def so_CloneS_ren:Go.Shelf.Ren:=⟨fun | 16=>114 | n=>n,fun | 24=>73 | 9=>9 | 4=>4 | n=>n,fun | n=>n⟩
theorem KA:Go.Proofs.Lays2.n16 Tryz.prog so_CloneS_ren:={
 mixed:=by kernel_rfl,
 f16:=Tryz.func114.trans (congrArg some (by kernel_rfl)),
 t4:=Tryz.underlying4,
 a4:=Tryz.isAgg4,
 z4:=Tryz.sizeOf4,
 v4:=Tryz.zeroValue4,
 t9:=Tryz.underlying9,
 a9:=Tryz.isAgg9,
 z9:=Tryz.sizeOf9,
 v9:=Tryz.zeroValue9,
 t24:=Tryz.underlying73,
 a24:=Tryz.isAgg73,
 z24:=Tryz.sizeOf73,
 v24:=Tryz.zeroValue73,
 i9:=by kernel_rfl }
end Go.Proofs.YtoglfpfdhojaaaaGreat
set_option maxRecDepth 100000
set_option linter.unusedSimpArgs false
set_option linter.unusedVariables false
set_option linter.unusedSectionVars false
namespace Go.Proofs.YtoglfpfdhojaaaaGreat
open Go.RowKit
theorem Ij {w w':World} {I:Nat→Prop} {V:Nat→Option Value} {B:Nat→Nat→Prop} (hwf:Wf w I V B (Ar [])) (hbel:Below w.heap.size w w') {v:Value} {t:TypeId} {os:List OT} {vals:List Value} (hl:vals.length=os.length)
  (hown:w'.ownsRow w.heap.size t 1 v os.length vals) (hv:∀ i (h:i<os.length),ORep w' I (fun _=>False) os[i] (vals.getD i undef)) :
  ∃ V' B',RepV w' I V' (.ref 0) v∧FunPost w I V B [] [.row t 1 (os.map fun o=>[o])] w' I V' B':=by
 have hV0:V 0=none:=hwf.fr 0 rfl
 have hn:=hbel.size
 have gS:∀ (e:List (List OT)) (g:Nat),Ar [Ob.row t 1 e] (g+1)=.free:=fun _ _=>rfl
 obtain ⟨hx,hform⟩:=hown
 let B':Nat→Nat→Prop:=fun g b=>g=0∧w.heap.size≤b∧b<w'.heap.size∧∃ o n c,v=.slice (some ⟨b,o,none⟩) n c
 have hform2:∃ a n c,v=.slice a n c:=by
  rcases hform with ⟨rfl,_⟩ | ⟨g,cap,cur,rfl,_⟩
  ·exact ⟨_,_,_,rfl⟩
  ·exact ⟨_,_,_,rfl⟩
 have hrow:RowR w' I (B' 0) t 1 (os.map fun o=>[o]) v:=by
  rcases hform with ⟨rfl,h0⟩ | ⟨g,cap,cur,rfl,hg,hb,h1,h2,h3,h4⟩
  ·left
   have:os=[]:=zE h0
   subst this
   exact ⟨rfl,rfl⟩
  ·right
   have hlt:=(yV.1 hb).1
   refine ⟨g,cap,cur,fun _ _ _=>False,by rw [zY],⟨rfl,hg,hlt,_,_,_,rfl⟩,hb,by rw [zY]; exact h1,by unfold maxLen at h2; omega,h3,fun i hi=>by simp,fun _ _ _ h=>h.elim,fun _ _ _ _ _ h=>h.elim,fun i j hi hj=>?_⟩
   have hi':i<os.length:=by simpa using hi
   have hj0:j=0:=by simpa using hj
   subst hj0
   have e:cur.getD (i*1+0) undef=vals.getD i undef:=by
    have hc:i<cur.size:=by omega
    rw [←h4,y6,y2,z6,z7,List.getElem?_take]
    simp only [y6,hi',if_true,Array.getElem?_toList]
   rw [e]
   have:=hv i hi'
   simpa using this
 refine ⟨fun g=>if g=0 then some v else V g,B',?_,?_⟩
 ·simp only [RepV]
  exact ⟨by simp,by obtain ⟨a,n,c,e⟩:=hform2; rw [e]; rfl⟩
 ·refine ⟨⟨hbel.os,⟨hbel.tape,fun h=>False.elim h⟩,hbel.output,hn,fun x hx _=>hbel.block x hx⟩,fun x hx=>hx,fun x hx=>.inl hx,fun g u hu=>?_,⟨fun x hx=>yW (hwf.ilt x hx) hn,fun g hl=>?_,fun g b hl hb=>hb.2.2.1,fun g b hl hb hI=>?_,fun g g' b hl hl' hb hb'=>?_,fun g hg=>?_,hwf.gl.keep ⟨hn,fun x _ hlt=>hbel.block x hlt⟩ fun _ h=>h⟩,fun g b hl hb=>.inr hb.2.1⟩
  ·by_cases h0:g=0
   ·subst h0; rw [hV0] at hu; cases hu
   ·simp only [if_neg h0]; exact hu
  ·cases g with
   | zero=>exact ⟨v,by simp,hrow⟩
   | succ g=>rw [gS] at hl; exact hl.elim
  ·have:=hwf.ilt b hI
   have:=hb.2.1
   omega
  ·rw [hb.1,hb'.1]
  ·cases g with
   | zero=>cases hg
   | succ g=>simp only [Nat.add_eq_zero_iff,Nat.succ_ne_self,and_false,if_false]; exact hwf.fr (g+1) rfl
theorem QX {w:World} {I:Nat→Prop} {es:List (List D)} {v:Value} (h:DRep false w I (.arr es) v) (hsz:∀ e∈es,e.length=1) :
  (es=[]∧∃ a c,v=.slice a 0 c)∨∃ b off cap,v=.slice (some ⟨b,off,none⟩) es.length cap∧∀ i (hi:i<es.length),∃ u,w.cell? ⟨b,off+i,none⟩=some u∧∃ S,DRep false w S (es[i].headD (.int 0)) u:=by
 cases h with
 | arr S sz es a cap f Sub h1 h2 h3 h4 h5 h6 h7 =>
  rcases h3 with h3 | ⟨b,off,rfl,hS,hb,hc,_⟩
  ·left
   have he:es=[]:=zE h3
   subst he
   exact ⟨rfl,_,_,rfl⟩
  ·rcases zO es.length with h0 | h0
   ·left
    have he:es=[]:=zE h0
    subst he
    exact ⟨rfl,_,_,rfl⟩
   ·right
    have hs1:sz=1:=by rw [←h4 0 h0]; exact hsz _ (zF h0)
    subst hs1
    refine ⟨b,off,cap,rfl,fun i hi=>⟨f i 0,by have:=hc i 0 hi (by omega); simpa using this,Sub i 0,?_⟩⟩
    have hl:=hsz _ (zF hi)
    have:=h7 i 0 hi (by omega)
    have key:∀ (l:List D) (h:0<l.length),l.headD (.int 0)=l[0]:=fun l h=>by
     cases l with
     | nil=>cases h
     | cons d r=>rfl
    have e:=key es[i] (by omega)
    rw [e]
    exact this
def unS:List D→ByteArray
 | D.str s :: _=>s
 | _=>⟨#[]⟩
noncomputable def KB (xs:List SV) (ob:List Ob):Option (SV × List Ob) :=
 match xs,ob with
 | [.arr es],[]=>bif dec ((∀ e∈es,∃ s,e=[D.str s])∧es.length≤1048576) then some (.ref 0,[.row 9 1 (es.map fun e=>[OT.str (unS e)])]) else none
 | _,_=>none
theorem PS {xs:List SV} {ob:List Ob} {r:SV} {ob':List Ob} (h:KB xs ob=some (r,ob')):Fun Tryz.prog 114 xs ob r ob':=by
 unfold KB at h
 split at h
 ·rename_i es
  obtain ⟨h1,h2⟩:=Az h
  obtain ⟨k1,k2⟩:=Av.1 h1
  simp only [zN,zU] at h2
  obtain ⟨rfl,rfl⟩:=h2
  intro w I V B vs hwf hvs
  obtain ⟨v,q,rfl,hv,hvs⟩:=FN hvs
  obtain rfl:=M3 hvs
  simp only [RepV] at hv
  have hsz:∀ e∈es,e.length=1:=fun e he=>by obtain ⟨s,rfl⟩:=k1 e he; rfl
  have hmap:(es.map fun e=>[OT.str (unS e)])=((es.map fun e=>OT.str (unS e)).map fun o=>[o]):=by rw [List.map_map]; rfl
  rcases QX hv hsz with ⟨rfl,a,c,rfl⟩ | ⟨b,off,cap,rfl,hcell⟩
  ·cases a with
   | none =>
    have hcon:=Any.slices_Clone_string_nil KA 0 c w
    change Calls Tryz.prog 114 _ _ _ at hcon
    refine hcon.mono ?_
    rintro e w' ⟨rfl,rfl⟩
    obtain ⟨V',B',h3,h4⟩:=Ij (t:=9) (os:=[]) (vals:=[]) hwf (Below.refl _ _) rfl ⟨rfl,.inl ⟨rfl,rfl⟩⟩ (fun i h=>absurd h (by simp))
    exact ⟨_,I,V',B',rfl,h3,h4⟩
   | some a =>
    have hcon:=Any.slices_Clone_string_zero KA a c w
    change Calls Tryz.prog 114 _ _ _ at hcon
    refine hcon.mono ?_
    rintro e w' ⟨v',rfl,hown,_,hbel⟩
    obtain ⟨V',B',h3,h4⟩:=Ij (t:=9) (os:=[]) (vals:=[]) hwf hbel rfl hown (fun i h=>absurd h (by simp))
    exact ⟨_,I,V',B',rfl,h3,h4⟩
  ·obtain ⟨zs,hzs⟩:∃ zs,zs=es.map unS:=⟨_,rfl⟩
   have hzl:zs.length=es.length:=by rw [hzs,zY]
   have hcz:∀ j (hj:j<es.length),w.cell? ⟨b,off+j,none⟩=some (Value.string (unS es[j]))∧(unS es[j]).size≤9223372036854775807:=fun j hj=>by
    obtain ⟨u,hu,S,hd⟩:=hcell j hj
    obtain ⟨s,he⟩:=k1 es[j] (zF hj)
    rw [he] at hd ⊢
    simp only [List.headD_cons] at hd
    cases hd
    exact ⟨hu,by assumption⟩
   have hcon:=Any.slices_Clone_string KA b off es.length cap zs w (by omega) (by omega) (fun j hj=>by
    have hj':j<es.length:=by omega
    rw [(hcz j hj').1]
    rw [z7,zG hj]
    simp [hzs])
   change Calls Tryz.prog 114 _ _ _ at hcon
   refine hcon.mono ?_
   rintro e w' ⟨v',rfl,hown,_,hbel⟩
   have ht:zs.take es.length=zs:=yN (by omega)
   rw [ht] at hown
   have hown2:w'.ownsRow w.heap.size 9 1 v' (es.map fun e=>OT.str (unS e)).length (zs.map Value.string):=by rw [zY]; exact hown
   obtain ⟨V',B',h3,h4⟩:=Ij (t:=9) (os:=es.map fun e=>OT.str (unS e)) (vals:=zs.map Value.string) hwf hbel (by simp [hzl]) hown2 (fun i hi=>by
    have hi':i<es.length:=by simpa using hi
    have e:(zs.map Value.string).getD i undef=Value.string (unS es[i]):=by
     rw [z7,yY,zG (by omega)]
     simp [hzs]
    rw [e,yC]
    exact .str _ _ (hcz i hi').2)
   rw [hmap]
   exact ⟨_,I,V',B',rfl,h3,h4⟩
 ·cases h
def unI:List D→Int
 | D.int s :: _=>s
 | _=>0
noncomputable def Yg (xs:List SV) (ob:List Ob):Option (SV × List Ob) :=
 match xs,ob with
 | [.arr es],[]=>bif dec ((∀ e∈es,∃ s,e=[D.int s])∧es.length≤1048576) then some (.ref 0,[.row 3 1 (es.map fun e=>[OT.int (unI e)])]) else none
 | _,_=>none
end Go.Proofs.YtoglfpfdhojaaaaGreat
set_option maxRecDepth 100000
set_option linter.unusedSimpArgs false
set_option linter.unusedVariables false
set_option linter.unusedSectionVars false
namespace Go.Proofs.YtoglfpfdhojaaaaGreat
open Go.RowKit Go.Shelf Go.Lib Go.Sort
theorem Wc {w w':World} {I:Nat→Prop} {V:Nat→Option Value} {B:Nat→Nat→Prop} {t:TypeId} {sz:Nat} {es es':List (List OT)} {b cap:Nat} {cur cur':Array Value} (Sub:Nat→Nat→Nat→Prop)
  (hwf:Wf w I V B (Ar [.row t sz es])) (hv:V 0=some (.slice (some ⟨b,0,none⟩) es.length cap)) (hn:es'.length=es.length) (hs:B 0 b) (hb:w.heap[b]?=some (.cells cur t (0,0)))
  (h1:es.length≤cap) (h2:cap≤9223372036854775807) (h3:cur.size=cap*sz) (h4:∀ i (h:i<es'.length),es'[i].length=sz) (h5:∀ i j x,Sub i j x→B 0 x∧x≠b)
  (h6:∀ i j i' j' x,Sub i j x→Sub i' j' x→i=i'∧j=j')
  (hos:w'.os=w.os) (htape:TapeOk w w') (hout:w'.output=w.output) (hsz:w.heap.size≤w'.heap.size) (hblk:∀ x,x<w.heap.size→x≠b→w'.heap[x]?=w.heap[x]?)
  (hb':w'.heap[b]?=some (.cells cur' t (0,0))) (hcs:cur'.size=cur.size)
  (h7:∀ i j (h:i<es'.length) (h':j<es'[i].length),ORep w' I (Sub i j) (es'[i][j]) (cur'.getD (i*sz+j) undef)) :
  FunPost w I V B [.row t sz es] [.row t sz es'] w' I V B:=by
 have g0:∀ (e:List (List OT)),Ar [Ob.row t sz e] 0=.row t sz e:=fun _=>rfl
 have gS:∀ (e:List (List OT)) (g:Nat),Ar [Ob.row t sz e] (g+1)=.free:=fun _ _=>rfl
 have lv:∀ (e e':List (List OT)) (g:Nat),(Ar [Ob.row t sz e] g).live→(Ar [Ob.row t sz e'] g).live:=fun e e' g h=>by
  cases g with
  | zero=>trivial
  | succ g=>rw [gS] at h; exact h.elim
 have hbS:∀ x,B 0 x→HB B [Ob.row t sz es] x:=fun x hx=>⟨0,trivial,hx⟩
 refine ⟨⟨hos,htape,hout,hsz,fun x hx hn=>hblk x hx fun e=>hn (hbS x (e▸hs))⟩,fun _ h=>h,fun _ h=>.inl h,VLe.refl _,?_,fun g x hl hx=>.inl ⟨g,lv _ _ g hl,hx⟩⟩
 refine ⟨fun x hx=>yW (hwf.ilt x hx) hsz,fun g hl=>?_,fun g x hl hx=>yW (hwf.lt g x (lv _ _ g hl) hx) hsz,fun g x hl hx=>hwf.dI g x (lv _ _ g hl) hx,fun g g' x hl hl' hx hx'=>hwf.dO g g' x (lv _ _ g hl) (lv _ _ g' hl') hx hx',fun g hf=>?_,hwf.gl.keep ⟨hsz,fun x hx hlt=>hblk x hlt fun e=>hwf.dI 0 x trivial (e▸hs) hx⟩ fun _ h=>h⟩
 ·cases g with
  | zero =>
   refine ⟨_,hv,.inr ⟨b,cap,cur',Sub,by rw [hn],hs,hb',by rw [hn]; exact h1,h2,by rw [hcs]; exact h3,h4,h5,h6,h7⟩⟩
  | succ g=>rw [gS] at hl; exact hl.elim
 ·cases g with
  | zero=>cases hf
  | succ g=>exact hwf.fr (g+1) rfl
theorem Uo {w:World} {I:Nat→Prop} {V:Nat→Option Value} {B:Nat→Nat→Prop} {ob:List Ob} (hwf:Wf w I V B (Ar ob)):FunPost w I V B ob ob w I V B :=
 ⟨⟨rfl,TapeOk.mk' rfl rfl,rfl,yF _,fun _ _ _=>rfl⟩,fun _ h=>h,fun _ h=>.inl h,VLe.refl _,hwf,fun g b hl hb=>.inl ⟨g,hl,hb⟩⟩
def QY:List OT→ByteArray
 | .str s :: _=>s
 | _=>⟨#[]⟩
end Go.Proofs.YtoglfpfdhojaaaaGreat
set_option maxRecDepth 100000
namespace Go.Proofs.YtoglfpfdhojaaaaGreat
open Go.Shelf
def so_SortS_ren:Go.Shelf.Ren:=⟨fun | 190=>94 | 125=>116 | 258=>115 | 128=>139 | 129=>140 | 302=>130 | 303=>131 | 304=>132 | 305=>133 | 306=>134 | 307=>135 | 308=>136 | 309=>137 | 310=>138 | 333=>146 | 329=>147 | 330=>148 | 334=>149 | 335=>150 | 336=>122 | 344=>153 | n=>n,fun | 31=>73 | 9=>9 | 3=>3 | 46=>111 | 0=>0 | 51=>135 | 53=>51 | 4=>4 | 183=>128 | 182=>127 | 131=>90 | 5=>5 | 218=>138 | 222=>142 | 228=>145 | 229=>146 | n=>n,fun | n=>n⟩
theorem PT:Go.Proofs.Lays.n190 Tryz.prog so_SortS_ren:={
 mixed:=by kernel_rfl,
 f125:=Tryz.func116.trans (congrArg some (by kernel_rfl)),
 f128:=Tryz.func139.trans (congrArg some (by kernel_rfl)),
 f129:=Tryz.func140.trans (congrArg some (by kernel_rfl)),
 f190:=Tryz.func94.trans (congrArg some (by kernel_rfl)),
 f258:=Tryz.func115.trans (congrArg some (by kernel_rfl)),
 f302:=Tryz.func130.trans (congrArg some (by kernel_rfl)),
 f303:=Tryz.func131.trans (congrArg some (by kernel_rfl)),
 f304:=Tryz.func132.trans (congrArg some (by kernel_rfl)),
 f305:=Tryz.func133.trans (congrArg some (by kernel_rfl)),
 f306:=Tryz.func134.trans (congrArg some (by kernel_rfl)),
 f307:=Tryz.func135.trans (congrArg some (by kernel_rfl)),
 f308:=Tryz.func136.trans (congrArg some (by kernel_rfl)),
 f309:=Tryz.func137.trans (congrArg some (by kernel_rfl)),
 f310:=Tryz.func138.trans (congrArg some (by kernel_rfl)),
 f329:=Tryz.func147.trans (congrArg some (by kernel_rfl)),
 f330:=Tryz.func148.trans (congrArg some (by kernel_rfl)),
 f333:=Tryz.func146.trans (congrArg some (by kernel_rfl)),
 f334:=Tryz.func149.trans (congrArg some (by kernel_rfl)),
 f335:=Tryz.func150.trans (congrArg some (by kernel_rfl)),
 f336:=Tryz.func122.trans (congrArg some (by kernel_rfl)),
 f344:=Tryz.func153.trans (congrArg some (by kernel_rfl)),
 t0:=Tryz.underlying0,
 a0:=Tryz.isAgg0,
 z0:=Tryz.sizeOf0,
 v0:=Tryz.zeroValue0,
 t3:=Tryz.underlying3,
 a3:=Tryz.isAgg3,
 z3:=Tryz.sizeOf3,
 v3:=Tryz.zeroValue3,
 t4:=Tryz.underlying4,
 a4:=Tryz.isAgg4,
 z4:=Tryz.sizeOf4,
 v4:=Tryz.zeroValue4,
 t5:=Tryz.underlying5,
 a5:=Tryz.isAgg5,
 z5:=Tryz.sizeOf5,
 v5:=Tryz.zeroValue5,
 t9:=Tryz.underlying9,
 a9:=Tryz.isAgg9,
 z9:=Tryz.sizeOf9,
 v9:=Tryz.zeroValue9,
 t31:=Tryz.underlying73,
 a31:=Tryz.isAgg73,
 z31:=Tryz.sizeOf73,
 v31:=Tryz.zeroValue73,
 t46:=Tryz.underlying111,
 a46:=Tryz.isAgg111,
 z46:=Tryz.sizeOf111,
 v46:=Tryz.zeroValue111,
 t51:=Tryz.underlying135,
 a51:=Tryz.isAgg135,
 z51:=Tryz.sizeOf135,
 v51:=Tryz.zeroValue135,
 t53:=Tryz.underlying51,
 a53:=Tryz.isAgg51,
 z53:=Tryz.sizeOf51,
 v53:=Tryz.zeroValue51,
 t131:=Tryz.underlying90,
 a131:=Tryz.isAgg90,
 z131:=Tryz.sizeOf90,
 v131:=Tryz.zeroValue90,
 t182:=Tryz.underlying127,
 a182:=Tryz.isAgg127,
 z182:=Tryz.sizeOf127,
 v182:=Tryz.zeroValue127,
 t183:=Tryz.underlying128,
 a183:=Tryz.isAgg128,
 z183:=Tryz.sizeOf128,
 v183:=Tryz.zeroValue128,
 t218:=Tryz.underlying138,
 a218:=Tryz.isAgg138,
 z218:=Tryz.sizeOf138,
 v218:=Tryz.zeroValue138,
 t222:=Tryz.underlying142,
 a222:=Tryz.isAgg142,
 z222:=Tryz.sizeOf142,
 v222:=Tryz.zeroValue142,
 t228:=Tryz.underlying145,
 a228:=Tryz.isAgg145,
 z228:=Tryz.sizeOf145,
 v228:=Tryz.zeroValue145,
 t229:=Tryz.underlying146,
 a229:=Tryz.isAgg146,
 z229:=Tryz.sizeOf146,
 v229:=Tryz.zeroValue146 }
end Go.Proofs.YtoglfpfdhojaaaaGreat
set_option maxRecDepth 100000
set_option linter.unusedSimpArgs false
set_option linter.unusedVariables false
set_option linter.unusedSectionVars false
namespace Go.Proofs.YtoglfpfdhojaaaaGreat
open Go.RowKit Go.Shelf Go.Lib Go.Sort
theorem Oe (w:World) (b m:Nat) (ss:List (List UInt8)) (os:Array Obj) (x:Nat) (hx:x<w.heap.size) :
  (Sort.grow (putRow encStr (Sort.ahead w m) b 0 ss.toArray) os).heap[x]?=if b=x then (w.heap[x]?).map (onCells (putCells encStr 0 ss.toArray)) else w.heap[x]?:=by
 unfold Sort.grow putRow mapBlock Sort.ahead
 have hx':x<(w.heap.modify b (onCells (putCells encStr 0 ss.toArray))).size:=by simpa using hx
 simp only [Array.getElem?_append,Array.size_modify,hx,if_true,Array.getElem?_modify]
def srt (ss:List (List UInt8)):List (List UInt8):=ss.mergeSort fun x y=>decide (x≤y)
def Se (l:List UInt8):List OT:=[.str ⟨l.toArray⟩]
noncomputable def sortStr (xs:List SV) (ob:List Ob):Option (SV × List Ob) :=
 match xs,ob with
 | [.ref 0],[.row t sz es]=>bif dec (sz=1∧(∀ e∈es,∃ s,e=[.str s])∧es.length≤1099511627776) then some (.tup [],[.row t sz ((srt (es.map fun e=>(QY e).toList)).map Se)]) else none
 | _,_=>none
theorem ORep.Yh {w:World} {I S:Nat→Prop} {s:ByteArray} {v:Value} (h:ORep w I S (.str s) v):v=.string s∧s.size≤9223372036854775807:=by
 cases h with
 | str _ _ hz=>exact ⟨rfl,hz⟩
theorem J1 (s:ByteArray):(⟨s.toList.toArray⟩:ByteArray)=s:=K3 (by rw [ByteArray.toList_eq])
theorem OO {xs:List SV} {ob:List Ob} {r:SV} {ob':List Ob} (h:sortStr xs ob=some (r,ob')):Fun Tryz.prog 94 xs ob r ob':=by
 unfold sortStr at h
 split at h
 ·rename_i t sz es
  obtain ⟨h1,h2⟩:=Az h
  obtain ⟨rfl,hk1,hk3⟩:=Av.1 h1
  simp only [zN,zU] at h2
  obtain ⟨rfl,rfl⟩:=h2
  intro w I V B vs hwf hvs
  obtain ⟨v,q,rfl,hv,hvs⟩:=FN hvs
  obtain rfl:=M3 hvs
  simp only [RepV] at hv
  obtain ⟨val,hval,hrow⟩:=hwf.obj 0 trivial
  rw [hv.1] at hval
  obtain rfl:=zI hval
  have hv0:=hv.1
  have hrow:RowR w I (B 0) t 1 es v:=hrow
  rcases zO es.length with h0 | h0
  ·have he:es=[]:=zE h0
   subst he
   obtain ⟨a,c,rfl,_⟩:=hrow.form
   have hcon:=Any.slices_Sort_string_none PT a c w
   change Calls Tryz.prog 94 _ _ _ at hcon
   refine hcon.mono ?_
   rintro e w' ⟨rfl,rfl⟩
   have e0:(srt ([].map fun e:List OT=>(QY e).toList)).map Se=[]:=by simp [srt]
   rw [e0]
   exact ⟨_,I,V,B,rfl,by simp only [RepV,RepVs]; exact ⟨[],rfl,rfl⟩,Uo hwf⟩
  ·rcases hrow with ⟨he,_⟩ | ⟨b,cap,cur,Sub,rfl,hs,hb,g1,g2,g3,g4,g5,g6,g7⟩
   ·subst he; simp at h0
   have hblt:=(yV.1 hb).1
   obtain ⟨ss,hss⟩:∃ ss,ss=es.map fun e=>(QY e).toList:=⟨_,rfl⟩
   have hsl:ss.length=es.length:=by rw [hss]; simp
   rw [←hss]
   have cellv:∀ i (hi:i<es.length),cur[i]?=some (.string (QY es[i]))∧(QY es[i]).size≤9223372036854775807:=fun i hi=>by
    obtain ⟨s,he⟩:=hk1 es[i] (zF hi)
    have hlt:i<cur.size:=by rw [g3]; omega
    have l0:=g7 i 0 hi (by rw [g4 i hi]; omega)
    simp only [he,List.getElem_cons_zero,y6,y2,z6,z8 hlt,yZ] at l0
    rw [z8 hlt,he]
    obtain ⟨z1,z2⟩:=ORep.Yh l0
    exact ⟨by rw [z1]; rfl,z2⟩
   have hH:Holds encStr w b 0 ss.toArray:=by
    intro j hj
    have hj1:j<ss.length:=by simpa using hj
    have hj':j<es.length:=by rw [←hsl]; exact hj1
    refine ⟨?_,?_⟩
    ·rw [y3,cell_of_row w b _ _ _ _ hb,(cellv j hj').1,getElem!_pos ss.toArray j hj]
     simp only [List.getElem_toArray,hss,yC,encStr,J1]
    ·unfold World.frozen?
     rw [hb]
     simp
   have hcon:=Any.slices_Sort_string PT b 0 cap ss w hH hblt (by rw [hsl]; omega)
   change Calls Tryz.prog 94 _ _ _ at hcon
   rw [hsl] at hcon
   refine hcon.mono ?_
   rintro e w' ⟨rfl,m,os,rfl⟩
   refine ⟨_,I,V,B,rfl,by simp only [RepV,RepVs]; exact ⟨[],rfl,rfl⟩,?_⟩
   have hper:(srt ss).Perm ss:=List.mergeSort_perm _ _
   have hsl2:(srt ss).length=es.length:=by rw [hper.length_eq,hsl]
   have hgrow:∀ x,x<w.heap.size→x≠b→(Sort.grow (putRow encStr (Sort.ahead w m) b 0 (srt ss).toArray) os).heap[x]?=w.heap[x]?:=fun x hx hne=>by
    rw [Oe w b m _ os x hx,if_neg (fun e=>hne e.symm)]
   have hbl:(Sort.grow (putRow encStr (Sort.ahead w m) b 0 (srt ss).toArray) os).heap[b]?=some (.cells (putCells encStr 0 (srt ss).toArray cur) t (0,0)):=by
    rw [Oe w b m _ os b hblt,if_pos rfl,hb]; rfl
   have hsz:w.heap.size≤(Sort.grow (putRow encStr (Sort.ahead w m) b 0 (srt ss).toArray) os).heap.size:=by
    unfold Sort.grow
    simp [putRow,mapBlock,Sort.ahead]
   have hmem:∀ l∈ss,∃ e∈es,(QY e).toList=l:=by
    rw [hss]
    intro l h
    exact yU.1 h
   have hstr:∀ i (hi:i<(srt ss).length),(⟨(srt ss)[i].toArray⟩:ByteArray).size≤9223372036854775807:=fun i hi=>by
    obtain ⟨e,he,heq⟩:=hmem _ (hper.mem_iff.1 (zF hi))
    obtain ⟨k,hk,rfl⟩:=yB he
    have:=(cellv k hk).2
    rw [←heq,J1]
    exact this
   refine Wc (fun _ _ _=>False) hwf hv0 (by rw [zY,hsl2]) hs hb g1 g2 g3 (fun i hi=>by rw [yC]; rfl) (fun i j x h=>h.elim) (fun i j i' j' x h h'=>h.elim) rfl ⟨rfl,fun h=>False.elim h⟩ rfl hsz hgrow hbl (by simp [putCells]) (fun i j hi hj=>?_)
   have hi':i<(srt ss).length:=by simpa using hi
   have hj':j<1:=by simpa [Se] using hj
   obtain rfl:j=0:=by omega
   have hlt:i<cur.size:=by rw [g3]; omega
   have hc:(putCells encStr 0 (srt ss).toArray cur).getD (i*1+0) undef=.string ⟨(srt ss)[i].toArray⟩:=by
    simp only [y6,y2,putCells,z6,Array.getElem?_mapIdx,z8 hlt,Option.map_some,yZ,zX,true_and,y3,List.size_toArray,hi',if_true,Nat.sub_zero]
    rw [getElem!_pos (srt ss).toArray i (by simpa using hi')]
    rfl
   rw [hc]
   simp only [yC,Se,List.getElem_cons_zero]
   exact .str _ _ (hstr i hi')
 ·cases h
end Go.Proofs.YtoglfpfdhojaaaaGreat
set_option maxRecDepth 100000
set_option linter.unusedSimpArgs false
set_option linter.unusedVariables false
set_option linter.unusedSectionVars false
namespace Go.Proofs.YtoglfpfdhojaaaaGreat
open Go.RowKit
def Ft:List Tl:=[⟨⟨#[97]⟩,0,false,[]⟩,⟨⟨#[98]⟩,0,false,[]⟩,⟨⟨#[102]⟩,1,false,[]⟩,⟨⟨#[103]⟩,2,false,[]⟩,⟨⟨#[112]⟩,1,true,[]⟩,⟨⟨#[113]⟩,2,true,[]⟩,⟨⟨#[114]⟩,0,true,[]⟩]
def Tl.nd (x:Tl):List D:=[.str x.name,.int x.arity,.bool x.pred,.nl]
theorem Tl.XS (x:Tl):x.nd=[.str x.name,.int x.arity,.bool x.pred,.nl]:=rfl
def M6:List SV→Option SV
 | []=>some (.arr (Ft.map Tl.nd))
 | _=>none
def Ew:Array Value:=#[.string ⟨#[97]⟩,.int .i64 0,.bool false,.slice none 0 0,.string ⟨#[98]⟩,.int .i64 0,.bool false,.slice none 0 0,.string ⟨#[102]⟩,.int .i64 1,.bool false,.slice none 0 0,.string ⟨#[103]⟩,.int .i64 2,.bool false,.slice none 0 0,.string ⟨#[112]⟩,.int .i64 1,.bool true,.slice none 0 0,.string ⟨#[113]⟩,.int .i64 2,.bool true,.slice none 0 0,.string ⟨#[114]⟩,.int .i64 0,.bool true,.slice none 0 0]
theorem OP (w:World):Calls Tryz.prog 72 #[] w (fun e w'=>e=.returned (.slice (some ⟨w.heap.size,0,none⟩) 7 7)∧w'=w.alloc (.cells Ew 44)):=by
 go_enter Tryz.func72,Tryz.ntmps72
 go_wp2
 go_ret
 exact ⟨rfl,rfl⟩
theorem QZ {w:World} {k:Nat} (hk:k<28):(w.alloc (.cells Ew 44)).cell? ⟨w.heap.size,k,none⟩=some (Ew.getD k undef):=by
 unfold World.cell?
 have h:(w.alloc (.cells Ew 44)).heap[w.heap.size]?=some (.cells Ew 44):=heap_alloc_new w _
 have hs:Ew.size=28:=rfl
 generalize w.alloc (.cells Ew 44)=W at h ⊢
 simp only [h]
 have hk2:k<Ew.size:=by omega
 have e:Ew[k]?=some (Ew.getD k undef):=by rw [z6,z8 hk2]; rfl
 simpa using e
theorem SP (w:World) (I:Nat→Prop) (hI:I w.heap.size):DRep false (w.alloc (.cells Ew 44)) I (.arr (Ft.map Tl.nd)) (.slice (some ⟨w.heap.size,0,none⟩) 7 7):=by
 have hlt:w.heap.size<(w.alloc (.cells Ew 44)).heap.size:=by simp
 refine DRep.arr I 4 (Ft.map Tl.nd) (some ⟨w.heap.size,0,none⟩) 7 (fun i j=>Ew.getD (i*4+j) undef) (fun _ _ _=>False) (by decide) (by decide) (.inr ⟨w.heap.size,0,rfl,hI,hlt,fun i j hi hj=>?_,fun h=>by cases h⟩) (fun i hi=>?_) (fun _ _ _ h=>h.elim) (fun h=>by cases h) (fun i j hi hj=>?_)
 ·have hi:i<7:=hi
  rw [QZ (by omega),y3]
 ·rw [yC]; rfl
 ·have hi:i<7:=hi
  have hj4:j<4:=by
   rw [yC] at hj; exact hj
  rcases (show i=0∨i=1∨i=2∨i=3∨i=4∨i=5∨i=6 by omega) with rfl | rfl | rfl | rfl | rfl | rfl | rfl
  all_goals
   rcases (show j=0∨j=1∨j=2∨j=3 by omega) with rfl | rfl | rfl | rfl
   ·exact .str _ _ (by decide)
   ·exact .int _ _
   ·exact .bool _ _
   ·exact .nl _
theorem PU {xs:List SV} {r:SV} (h:M6 xs=some r):Fun Tryz.prog 72 xs [] r []:=by
 unfold M6 at h
 split at h
 ·obtain rfl:=zI h
  intro w I V B vs hwf hvs
  obtain rfl:=M3 hvs
  refine (OP w).mono ?_
  rintro e w' ⟨rfl,rfl⟩
  have hlt:w.heap.size<(w.alloc (.cells Ew 44)).heap.size:=by simp
  have hbl:∀ x,x<w.heap.size→(w.alloc (.cells Ew 44)).heap[x]?=w.heap[x]?:=fun x hx=>Below.heap_alloc _ _ _ hx
  have hno:∀ g,¬ (Ar ([]:List Ob) g).live:=fun g h=>by
   have e:Ar ([]:List Ob) g=.free:=rfl
   rw [e] at h
   exact h
  refine ⟨_,fun x=>I x∨x=w.heap.size,V,B,rfl,?_,?_⟩
  ·simp only [RepV]
   exact SP w _ (.inr rfl)
  ·refine ⟨⟨rfl,⟨rfl,fun h=>False.elim h⟩,rfl,Nat.le_of_lt hlt,fun x hx _=>hbl x hx⟩,fun x hx=>.inl hx,fun x hx=>hx.elim .inl fun e=>.inr (.inl (by omega)),VLe.refl _,⟨fun x hx=>?_,fun g hl=>(hno g hl).elim,fun g x hl=>(hno g hl).elim,fun g x hl=>(hno g hl).elim,fun g g' x hl=>(hno g hl).elim,fun g hg=>hwf.fr g hg,hwf.gl.keep ⟨Nat.le_of_lt hlt,fun x _ hx=>hbl x hx⟩ fun _ h=>.inl h⟩,fun g x hl=>(hno g hl).elim⟩
   rcases hx with hx | rfl
   ·exact Nat.lt_trans (hwf.ilt x hx) hlt
   ·exact hlt
 ·cases h
def Sf:List (Nat × FM)→Nat→FM
 | [],_=>⟨[],.asis,none,false⟩
 | (f,m) :: r,g=>bif f == g then m else Sf r g
theorem SQ {l:List (Nat × FM)} {f:Nat} {g:List SV→List Ob→Option (SV × List Ob)} (h:(Sf l f).ext=some g):∃ m,(f,m)∈l∧m.ext=some g:=by
 induction l with
 | nil=>cases h
 | cons x r ih =>
  obtain ⟨f',m⟩:=x
  simp only [Sf] at h
  cases e:f' == f with
  | true =>
   rw [e] at h
   obtain rfl:f'=f:=by simpa using e
   exact ⟨m,by simp,h⟩
  | false =>
   rw [e] at h
   obtain ⟨m',h1,h2⟩:=ih h
   exact ⟨m',by simp [h1],h2⟩
noncomputable def Yk:List SV→Option SV
 | [.int .i64 k]=>bif dec (1≤k)&&dec (k≤1099511627776) then some (.str (XR k)) else none
 | _=>none
def Up:List SV→Option SV
 | [.str s]=>some (.bool (Cj s))
 | _=>none
theorem SR {xs:List SV} {r:SV} (h:Up xs=some r):Fun Tryz.prog 42 xs [] r []:=by
 unfold Up at h
 split at h
 ·rename_i s
  obtain rfl:=zI h
  refine Fun.of_same (rv:=.bool (Cj s)) (fun w I V=>by simp only [RepV]) fun w I V vs h=>?_
  obtain ⟨v,r,rfl,h3,h⟩:=FN h
  obtain rfl:=M3 h
  obtain ⟨rfl,h4⟩:=LE h3
  exact M5 s w h4
 ·cases h
def Uq:List SV→Option SV
 | [.str s]=>some (.bool (Cj s))
 | _=>none
theorem SS {xs:List SV} {r:SV} (h:Uq xs=some r):Fun Tryz.prog 62 xs [] r []:=by
 unfold Uq at h
 split at h
 ·rename_i s
  obtain rfl:=zI h
  refine Fun.of_same (rv:=.bool (Cj s)) (fun w I V=>by simp only [RepV]) fun w I V vs h=>?_
  obtain ⟨v,r,rfl,h3,h⟩:=FN h
  obtain rfl:=M3 h
  obtain ⟨rfl,h4⟩:=LE h3
  exact SO s w h4
 ·cases h
def Ur:List SV→Option SV
 | [.str s]=>some (.bool (Ee s))
 | _=>none
theorem ST {xs:List SV} {r:SV} (h:Ur xs=some r):Fun Tryz.prog 80 xs [] r []:=by
 unfold Ur at h
 split at h
 ·rename_i s
  obtain rfl:=zI h
  refine Fun.Um (rv:=.bool (Ee s)) (fun w I V=>by simp only [RepV]) fun w I V vs h=>?_
  obtain ⟨v,r,rfl,h3,h⟩:=FN h
  obtain rfl:=M3 h
  obtain ⟨rfl,h4⟩:=LE h3
  exact OM s w h4
 ·cases h
def Us:List SV→Option SV
 | [.str s]=>some (.bool (Ee s))
 | _=>none
theorem SU {xs:List SV} {r:SV} (h:Us xs=some r):Fun Tryz.prog 95 xs [] r []:=by
 unfold Us at h
 split at h
 ·rename_i s
  obtain rfl:=zI h
  refine Fun.of_same (rv:=.bool (Ee s)) (fun w I V=>by simp only [RepV]) fun w I V vs h=>?_
  obtain ⟨v,r,rfl,h3,h⟩:=FN h
  obtain rfl:=M3 h
  obtain ⟨rfl,h4⟩:=LE h3
  exact ON s w h4
 ·cases h
noncomputable def modes:FuncId→FM:=Sf [(42,⟨[],.asis,some (JW Up),false⟩),(62,⟨[],.asis,some (JW Uq),false⟩),(80,⟨[],.asis,some (JW Ur),false⟩),(95,⟨[],.asis,some (JW Us),false⟩),(72,⟨[],.asis,some (JW M6),false⟩),(94,⟨[true],.asis,some sortStr,false⟩),(114,⟨[],.asis,some KB,false⟩),(129,⟨[true],.asis,none,false⟩),(93,⟨[true],.asis,none,false⟩),(19,⟨[],.frz,none,false⟩),(55,⟨[],.frz,none,false⟩),(99,⟨[],.frz,none,false⟩),(103,⟨[],.half [none,some (30,2)],none,false⟩),(74,⟨[],.half [none,some (30,2)],none,false⟩),(102,⟨[],.half [none,some (30,2)],none,false⟩),(75,⟨[],.half [none,some (30,2)],none,false⟩),(76,⟨[],.half [none,some (30,2)],none,false⟩),(40,⟨[],.half [none,some (30,2)],none,false⟩),(73,⟨[],.half [none,none,some (30,2),none,some (33,5)],none,false⟩),(39,⟨[],.half [none,none,some (30,2),none,some (33,5)],none,false⟩),(18,⟨[],.half [none,none,some (30,2),none,some (33,5)],none,false⟩),(35,⟨[],.half [none,some (44,4)],none,false⟩),(16,⟨[],.halfg 75 9 [none,some (44,4)],none,false⟩),(17,⟨[],.frz,none,false⟩),(6,⟨[],.frz,none,false⟩)]
theorem noExt {l:List (Nat × FM)} (h:(l.all fun p=>p.2.ext.isNone)=true) {f:Nat} {m:FM} {g:List SV→List Ob→Option (SV × List Ob)} (h1:(f,m)∈l) (h2:m.ext=some g):False:=by
 have h3:=zT.1 h _ h1
 rw [h2] at h3
 cases h3
theorem Ra:LD Tryz.prog modes:=by
 intro f g xs ob r ob' hg hx
 obtain ⟨m,h1,h2⟩:=SQ hg
 rcases zS.1 h1 with h1 | h1
 ·obtain ⟨rfl,rfl⟩:=yM h1
  obtain rfl:=zI h2
  exact Ha SR hx
 rcases zS.1 h1 with h1 | h1
 ·obtain ⟨rfl,rfl⟩:=yM h1
  obtain rfl:=zI h2
  exact Ha SS hx
 rcases zS.1 h1 with h1 | h1
 ·obtain ⟨rfl,rfl⟩:=yM h1
  obtain rfl:=zI h2
  exact Ha ST hx
 rcases zS.1 h1 with h1 | h1
 ·obtain ⟨rfl,rfl⟩:=yM h1
  obtain rfl:=zI h2
  exact Ha SU hx
 rcases zS.1 h1 with h1 | h1
 ·obtain ⟨rfl,rfl⟩:=yM h1
  obtain rfl:=zI h2
  exact Ha PU hx
 rcases zS.1 h1 with h1 | h1
 ·obtain ⟨rfl,rfl⟩:=yM h1
  obtain rfl:=zI h2
  exact OO hx
 rcases zS.1 h1 with h1 | h1
 ·obtain ⟨rfl,rfl⟩:=yM h1
  obtain rfl:=zI h2
  exact PS hx
 exact (noExt rfl h1 h2).elim
noncomputable def E:FEnv:=ev Tryz.prog modes
noncomputable def calls:CallF:=Dq modes E
theorem WZ {f:FuncId} {xs:List SV} {ob:List Ob} {r:SV} {ob':List Ob} (h:E f xs ob=some (r,ob')):Fun Tryz.prog f xs ob r ob':=VY WV Ra f xs ob r ob' h
noncomputable def run (n0:Nat):SC→St→Option (X × St):=fr Tryz.prog calls (Jz n0)
def go (n0:Nat) (sc:SC) (st:St) (K:X→St→Prop):Prop:=∃ x st',run n0 sc st=some (x,st')∧K x st'
def Wd (n0:Nat) (b:SC) (K:X→St→Prop):X→St→Prop
 | .normal,st=>go n0 b st K
 | .exit i,st=>K (.exit i) st
 | .ret,st=>K .ret st
def blk (id:Nat) (K:X→St→Prop):X→St→Prop
 | .normal,st=>K .normal st
 | .exit i,st=>if i=id then K .normal st else K (.exit i) st
 | .ret,st=>K .ret st
def Ut (r:Option St) (k:X→St→Prop):Prop :=
 match r with
 | some st=>k .normal st
 | none=>False
def Uu (anc:List (List Nat)) (r:Option (List Ent × St)) (k:X→St→Prop):Prop :=
 match r with
 | some (es,st)=>obB anc [] (Jp es) 0=true∧k .normal st
 | none=>False
def M7 (v:SV) (a b:Unit→Prop):Prop :=
 match v with
 | .bool true=>a ()
 | .bool false=>b ()
 | _=>False
noncomputable def Rb (ops:List SOper) (st:St):Option St:=Ml Tryz.prog calls ops st
noncomputable def Rc (ops:List SOper) (acc:List Ent) (st:St):Option (List Ent × St):=GU Tryz.prog calls ops acc st
section
variable {n0:Nat} {st:St} {K:X→St→Prop}
theorem go_skip:go n0 .skip st K=K .normal st:=by
 refine propext ⟨fun ⟨x,st',h,k⟩=>?_,fun k=>⟨_,_,rfl,k⟩⟩
 obtain ⟨rfl,rfl⟩:X.normal=x∧st=st':=by simpa [run,fr] using h
 exact k
theorem We {i:Nat}:go n0 (.exit i) st K=K (.exit i) st:=by
 refine propext ⟨fun ⟨x,st',h,k⟩=>?_,fun k=>⟨_,_,rfl,k⟩⟩
 obtain ⟨rfl,rfl⟩:X.exit i=x∧st=st':=by simpa [run,fr] using h
 exact k
theorem go_ret:go n0 .ret st K=K .ret st:=by
 refine propext ⟨fun ⟨x,st',h,k⟩=>?_,fun k=>⟨_,_,rfl,k⟩⟩
 obtain ⟨rfl,rfl⟩:X.ret=x∧st=st':=by simpa [run,fr] using h
 exact k
theorem Xa {ops:List SOper}:go n0 (.reg ops) st K=Ut (Rb ops st) K:=by
 unfold Ut Rb
 refine propext ⟨fun ⟨x,st',h,k⟩=>?_,fun k=>?_⟩
 ·simp only [run,fr] at h
  split at h
  ·rename_i s hs
   simp only [zN,zU] at h
   obtain ⟨rfl,rfl⟩:=h
   first | exact k | (simp only [hs]; exact k)
  ·cases h
 ·split at k
  ·rename_i s hs
   exact ⟨.normal,s,by simp only [run,fr,hs],k⟩
  ·exact k.elim
theorem Wg {anc:List (List Nat)} {ops:List SOper}:go n0 (.dreg anc ops) st K=Uu anc (Rc ops [] st) K:=by
 unfold Uu Rc
 refine propext ⟨fun ⟨x,st',h,k⟩=>?_,fun k=>?_⟩
 ·simp only [run,fr] at h
  split at h
  ·rename_i es s hs
   obtain ⟨h1,h2⟩:=Az h
   simp only [zN,zU] at h2
   obtain ⟨rfl,rfl⟩:=h2
   first | exact ⟨h1,k⟩ | (simp only [hs]; exact ⟨h1,k⟩)
  ·cases h
 ·split at k
  ·rename_i es s hs
   exact ⟨.normal,s,by simp only [run,fr,hs,k.1,cond_true],k.2⟩
  ·exact k.elim
theorem Xb {a b:SC}:go n0 (.seq a b) st K=go n0 a st (Wd n0 b K):=by
 refine propext ⟨fun ⟨x,st',h,k⟩=>?_,fun ⟨x,st',h,k⟩=>?_⟩
 ·simp only [run,fr,Db] at h
  split at h
  ·rename_i s hs
   exact ⟨.normal,s,hs,x,st',h,k⟩
  ·rename_i i s hs
   simp only [zN,zU] at h
   obtain ⟨rfl,rfl⟩:=h
   exact ⟨_,_,hs,k⟩
  ·rename_i s hs
   simp only [zN,zU] at h
   obtain ⟨rfl,rfl⟩:=h
   exact ⟨_,_,hs,k⟩
  ·cases h
 ·simp only [run] at h
  cases x with
  | normal =>
   obtain ⟨x2,st2,h2,k2⟩:=k
   exact ⟨x2,st2,by simp only [run,fr,Db,h]; exact h2,k2⟩
  | exit i=>exact ⟨_,st',by simp only [run,fr,Db,h],k⟩
  | ret=>exact ⟨_,st',by simp only [run,fr,Db,h],k⟩
theorem Uv {n:Nat} {b:SC}:go n0 (.ghost n b) st K=go n0 b (PK n st) K:=by simp only [go,run,fr]
theorem Uw {id:Nat} {b:SC}:go n0 (.block id b) st K=go n0 b st (blk id K):=by
 refine propext ⟨fun ⟨x,st',h,k⟩=>?_,fun ⟨x,st',h,k⟩=>?_⟩
 ·simp only [run,fr,Hy] at h
  split at h
  ·rename_i s hs
   simp only [zN,zU] at h
   obtain ⟨rfl,rfl⟩:=h
   exact ⟨.normal,s,hs,k⟩
  ·rename_i i s hs
   refine ⟨.exit i,s,hs,?_⟩
   simp only [blk]
   by_cases hi:i=id
   ·simp only [if_pos hi,zN,zU] at h ⊢
    obtain ⟨rfl,rfl⟩:=h
    exact k
   ·simp only [if_neg hi,zN,zU] at h ⊢
    obtain ⟨rfl,rfl⟩:=h
    exact k
  ·rename_i s hs
   simp only [zN,zU] at h
   obtain ⟨rfl,rfl⟩:=h
   exact ⟨_,s,hs,k⟩
  ·cases h
 ·simp only [run] at h
  cases x with
  | normal=>exact ⟨_,st',by simp only [run,fr,Hy,h],k⟩
  | exit i =>
   simp only [blk] at k
   by_cases hi:i=id
   ·simp only [if_pos hi] at k
    exact ⟨.normal,st',by simp only [run,fr,Hy,h,if_pos hi],k⟩
   ·simp only [if_neg hi] at k
    exact ⟨.exit i,st',by simp only [run,fr,Hy,h,if_neg hi],k⟩
  | ret=>exact ⟨_,st',by simp only [run,fr,Hy,h],k⟩
theorem Ab {q:SX} {a b:SC}:go n0 (.cond q a b) st K=M7 (A7 (gets st.sl) q) (fun _=>go n0 a st K) (fun _=>go n0 b st K):=by
 unfold M7
 refine propext ⟨fun ⟨x,st',h,k⟩=>?_,fun k=>?_⟩
 ·simp only [run,fr] at h
  split at h
  ·rename_i t ht
   simp only [ht]
   cases t with
   | true=>exact ⟨x,st',h,k⟩
   | false=>exact ⟨x,st',h,k⟩
  ·cases h
 ·split at k
  ·rename_i ht
   obtain ⟨x,st',h,k⟩:=k
   exact ⟨x,st',by simp only [run,fr,ht,cond_true]; exact h,k⟩
  ·rename_i ht
   obtain ⟨x,st',h,k⟩:=k
   exact ⟨x,st',by simp only [run,fr,ht,cond_false]; exact h,k⟩
  ·exact k.elim
theorem Wh {a b:Unit→Prop}:M7 (.bool true) a b=a ():=rfl
theorem Wi {a b:Unit→Prop}:M7 (.bool false) a b=b ():=rfl
theorem Wj {t:Bool} {a b:Unit→Prop}:M7 (.bool (!t)) a b=M7 (.bool t) b a:=by cases t <;> rfl
theorem At {q:SX} {a b:SC} (h:A7 (gets st.sl) q=.bool true) (k:go n0 a st K):go n0 (.cond q a b) st K:=by rw [Ab,h]; exact k
theorem Au {q:SX} {a b:SC} (h:A7 (gets st.sl) q=.bool false) (k:go n0 b st K):go n0 (.cond q a b) st K:=by rw [Ab,h]; exact k
theorem PV {t:Bool} {a b:Unit→Prop} (h1:t=true→a ()) (h2:t=false→b ()):M7 (.bool t) a b:=by
 cases t with
 | true=>exact h1 rfl
 | false=>exact h2 rfl
theorem Xc {b:SC}:Wd n0 b K .normal st=go n0 b st K:=rfl
theorem Xd {b:SC} {i:Nat}:Wd n0 b K (.exit i) st=K (.exit i) st:=rfl
theorem Xe {b:SC}:Wd n0 b K .ret st=K .ret st:=rfl
theorem XT {id:Nat}:blk id K .normal st=K .normal st:=rfl
theorem XU {id i:Nat}:blk id K (.exit i) st=if i=id then K .normal st else K (.exit i) st:=rfl
theorem XV {id:Nat}:blk id K .ret st=K .ret st:=rfl
theorem Wk:Ut (some st) K=K .normal st:=rfl
def quiet:List Ent→Bool
 | []=>true
 | ⟨_,_,[],_⟩ :: r=>quiet r
 | ⟨_,_,_ :: _,_⟩ :: _=>false
theorem M8 {anc:List (List Nat)} {rd:List Nat} {j:Nat}:∀ {l:List Ent} {i:Nat},quiet l=true→Q6 anc rd [] j (Jp l) i=true
 | [],i,_=>rfl
 | ⟨_,_,[],rdi⟩ :: r,i,h=>by
  have:=M8 (anc:=anc) (rd:=rd) (j:=j) (l:=r) (i:=i+1) h
  simp only [Jp,zA,zH] at this ⊢
  simp only [Q6,this,zQ]
  have e1:meets [] (rd++[])=false:=rfl
  have e2:meets rdi []=false:=by cases rdi <;> simp [meets]
  rw [e1,e2]; rfl
theorem SW {l l':List Ent} (h:quiet l=true) (h':quiet l'=true):quiet (l++l')=true:=by
 induction l with
 | nil=>exact h'
 | cons x r ih =>
  obtain ⟨a,b,c,d⟩:=x
  cases c with
  | nil=>exact ih h
  | cons _ _=>cases h
theorem Of {anc:List (List Nat)}:∀ {l pre:List Ent} {j:Nat},quiet pre=true→quiet l=true→obB anc (Jp pre) (Jp l) j=true
 | [],pre,j,_,_=>rfl
 | ⟨a,b,[],rd⟩ :: r,pre,j,hp,h=>by
  have e:=Of (anc:=anc) (l:=r) (pre:=pre++[⟨a,b,[],rd⟩]) (j:=j+1) (SW hp rfl) h
  have e2:=M8 (anc:=anc) (rd:=rd) (j:=j) (i:=0) hp
  simp only [Jp,zZ,zA,zH] at e e2 ⊢
  simp only [obB,e2,e,zD]
theorem Wl {anc:List (List Nat)} {es:List Ent}:Uu anc (some (es,st)) K=match quiet es with
  | true=>K .normal st
  | false=>obB anc [] (Jp es) 0=true∧K .normal st:=by
 show (obB anc [] (Jp es) 0=true∧K .normal st)=_
 cases h:quiet es with
 | true=>exact propext ⟨fun h=>h.2,fun h'=>⟨Of (pre:=[]) rfl h,h'⟩⟩
 | false=>rfl
noncomputable def Xf (r:List SOper) (e:Option (Ent × St)):Option St :=
 match e with
 | some (_,st)=>Rb r st
 | none=>none
noncomputable def Xg (r:List SOper) (acc:List Ent) (e:Option (Ent × St)):Option (List Ent × St) :=
 match e with
 | some (x,st)=>Rc r (acc++[x]) st
 | none=>none
noncomputable def opF (so:SOp) (sl:List SV) (ob:List Ob):Option R3:=fOp Tryz.prog calls so sl ob
theorem Ux:Rb [] st=some st:=rfl
theorem SY {d:Option Tmp} {so:SOp} {r:List SOper} {sl:List SV} {ob:List Ob}:Rb (⟨d,none,so⟩ :: r) ⟨sl,ob⟩=Xf r (IR d ⟨sl,ob⟩ (opF so sl ob)):=rfl
noncomputable def gdF (d:Option Tmp) (so:SOp) (want:Bool) (sl:List SV) (ob:List Ob) (v:SV):Option (Ent × St) :=
 match v with
 | .bool b=>bif QI b want then IR d ⟨sl,ob⟩ (opF so sl ob) else some (⟨false,.tup [],[],[]⟩,⟨FT sl d (.tup []),ob⟩)
 | .tup []=>some (⟨false,.tup [],[],[]⟩,⟨FT sl d (.tup []),ob⟩)
 | _=>none
theorem Wm {d:Option Tmp} {k:Nat} {want:Bool} {so:SOp} {r:List SOper} {sl:List SV} {ob:List Ob}:Rb (⟨d,some (k,want),so⟩ :: r) ⟨sl,ob⟩=Xf r (gdF d so want sl ob (gets sl k)):=rfl
theorem Uy {acc:List Ent}:Rc [] acc st=some (acc,st):=rfl
theorem SZ {d:Option Tmp} {so:SOp} {r:List SOper} {acc:List Ent} {sl:List SV} {ob:List Ob}:Rc (⟨d,none,so⟩ :: r) acc ⟨sl,ob⟩=Xg r acc (IR d ⟨sl,ob⟩ (opF so sl ob)):=rfl
theorem Wn {d:Option Tmp} {k:Nat} {want:Bool} {so:SOp} {r:List SOper} {acc:List Ent} {sl:List SV} {ob:List Ob}:Rc (⟨d,some (k,want),so⟩ :: r) acc ⟨sl,ob⟩=Xg r acc (gdF d so want sl ob (gets sl k)):=rfl
theorem Xh {r:List SOper} {e:Ent}:Xf r (some (e,st))=Rb r st:=rfl
theorem Xi {r:List SOper} {acc:List Ent} {e:Ent}:Xg r acc (some (e,st))=Rc r (acc++[e]) st:=rfl
theorem XW {d:Option Tmp} {so:SOp} {sl:List SV} {ob:List Ob}:gdF d so true sl ob (.bool true)=IR d ⟨sl,ob⟩ (opF so sl ob):=rfl
theorem Xj {d:Option Tmp} {so:SOp} {sl:List SV} {ob:List Ob}:gdF d so false sl ob (.bool false)=IR d ⟨sl,ob⟩ (opF so sl ob):=rfl
theorem Xk {d:Option Tmp} {so:SOp} {sl:List SV} {ob:List Ob}:gdF d so true sl ob (.bool false)=some (⟨false,.tup [],[],[]⟩,⟨FT sl d (.tup []),ob⟩):=rfl
theorem Xl {d:Option Tmp} {so:SOp} {sl:List SV} {ob:List Ob}:gdF d so false sl ob (.bool true)=some (⟨false,.tup [],[],[]⟩,⟨FT sl d (.tup []),ob⟩):=rfl
theorem XX {d:Option Tmp} {so:SOp} {want:Bool} {sl:List SV} {ob:List Ob}:gdF d so want sl ob (.tup [])=some (⟨false,.tup [],[],[]⟩,⟨FT sl d (.tup []),ob⟩):=rfl
theorem Xm {d:Option Tmp} {x:SV} {rd:List Nat}:IR d st (some (x,[],rd))=some (⟨true,x,[],rd⟩,⟨FT st.sl d x,st.ob⟩):=rfl
theorem Xn {d:Option Tmp} {x:SV} {q:Nat × Ob} {u:List (Nat × Ob)} {rd:List Nat}:IR d st (some (x,q :: u,rd))=bif SE (DL st.ob (q :: u)).length (q :: u) then some (⟨true,x,q :: u,rd⟩,⟨FT st.sl d x,DL st.ob (q :: u)⟩) else none:=rfl
def PW (ob:List Ob) (xs:List SV) (sel:List Nat) (r:Option (SV × List Ob)) (n:Nat):Option R3 :=
 match r with
 | some (r,fob')=>bif decide (n≤fob'.length) then some (Gw sel (BH sel xs) ob.length r fob') else none
 | none=>none
def Xo (hd:List Bool) (f:FuncId) (xs:List SV) (ob:List Ob) (sel:List Nat) (e:List SV→List Ob→Option (SV × List Ob)) (b:Option (List Ob)):Option R3 :=
 match b with
 | some fob=>bif GB sel&&Jw ob.length sel&&Hw fob.length fob then PW ob xs sel (e (Gv hd (Ar ob) sel xs) fob) fob.length else none
 | none=>none
def Uz (hd:List Bool) (f:FuncId) (xs:List SV) (ob:List Ob) (sel:List Nat) (e:List SV→List Ob→Option (SV × List Ob)):Option R3:=Xo hd f xs ob sel e (FF sel ob sel)
theorem U0 {f:FuncId} {xs:List SV} {ob:List Ob}:calls f xs ob=FW (modes f).res (Uz (modes f).hand f xs ob (reach ob 64 (GY (modes f).hand xs) []) (E f)):=rfl
theorem Xp {r:Option R3}:FW .asis r=r:=rfl
theorem Xq {r:Option R3}:FW .frz r=r:=rfl
theorem Xr {l:List (Option (Nat × Nat))} {r:Option R3}:FW (.own l) r=r:=rfl
theorem Xs {l:List (Option (Nat × Nat))} {r:Option R3}:FW (.half l) r=r:=rfl
theorem Xt {l:List (Option (Nat × Nat))} {r:Option R3}:FW (.tr l) r=r:=rfl
theorem Xu {d n:Nat} {r:Option R3}:FW (.frzg d n) r=r:=rfl
theorem Xv {d n:Nat} {l:List (Option (Nat × Nat))} {r:Option R3}:FW (.halfg d n l) r=r:=rfl
theorem Xw {l:List Nat} {r:Option R3}:FW (.frl l) r=r:=rfl
theorem Xx {r:R3}:FW .late (some r)=PF r:=rfl
theorem J2:∀ u:List (Nat × Ob),Ed [] u=u
 | []=>rfl
 | (g,o) :: u=>by rw [Ed,J2 u]; rfl
theorem Xy {m:RM} {b:Bool} {u:List (Nat × Ob)} {rd:List Nat}:FW m (some (.bool b,u,rd))=some (.bool b,u,rd):=by
 cases m <;> first | rfl | (show some (SV.bool b,Ed [] u,rd)=_; rw [J2])
theorem Xz {m:RM} {k:IntKind} {n:Int} {u:List (Nat × Ob)} {rd:List Nat}:FW m (some (.int k n,u,rd))=some (.int k n,u,rd):=by
 cases m <;> first | rfl | (show some (SV.int k n,Ed [] u,rd)=_; rw [J2])
theorem Ta {hd:List Bool} {f:FuncId} {xs:List SV} {ob:List Ob} {e:List SV→List Ob→Option (SV × List Ob)}:Uz hd f xs ob [] e=PW ob xs [] (e (Gv hd (Ar ob) [] xs) []) 0:=rfl
theorem Rd {hd:List Bool} {f:FuncId} {xs:List SV} {ob:List Ob} {g:Nat} {r:List Nat} {e:List SV→List Ob→Option (SV × List Ob)}:Uz hd f xs ob (g :: r) e=Xo hd f xs ob (g :: r) e (FF (g :: r) ob (g :: r)):=rfl
theorem Wo {ob:List Ob} {xs:List SV} {r:SV} {fob':List Ob}:PW ob xs [] (some (r,fob')) 0=some (Gw [] (BH [] xs) ob.length r fob'):=rfl
theorem Wp {ob:List Ob} {xs:List SV} {sel:List Nat} {r:SV} {fob':List Ob} {n:Nat}:PW ob xs sel (some (r,fob')) n=bif decide (n≤fob'.length) then some (Gw sel (BH sel xs) ob.length r fob') else none:=rfl
theorem X1 {hd:List Bool} {f:FuncId} {xs:List SV} {ob:List Ob} {sel:List Nat} {fob:List Ob} {e:List SV→List Ob→Option (SV × List Ob)}:Xo hd f xs ob sel e (some fob)=bif GB sel&&Jw ob.length sel&&Hw fob.length fob then PW ob xs sel (e (Gv hd (Ar ob) sel xs) fob) fob.length else none:=rfl
theorem Tc {p:Nat} {r:SV}:Gw [] [] p r []=(r.ren (sgp [] p),[],[]):=rfl
def OQ {α:Type} (n0:Nat) (keep:List Nat) (H:α→St) (R:α→Prop) (μ:α→Nat) (a:α) (K:X→St→Prop):X→St→Prop
 | .normal,st'=>∃ y,R y∧μ y < μ a∧canon n0 keep st'=H y
 | .exit i,st'=>K (.exit i) st'
 | .ret,st'=>K .ret st'
theorem U1 {α:Type} {keep:List Nat} {H:α→St} {R:α→Prop} {μ:α→Nat} {a:α} {st':St}:OQ n0 keep H R μ a K .normal st'=∃ y,R y∧μ y < μ a∧canon n0 keep st'=H y:=rfl
theorem U2 {α:Type} {keep:List Nat} {H:α→St} {R:α→Prop} {μ:α→Nat} {a:α} {i:Nat} {st':St}:OQ n0 keep H R μ a K (.exit i) st'=K (.exit i) st':=rfl
theorem U3 {α:Type} {keep:List Nat} {H:α→St} {R:α→Prop} {μ:α→Nat} {a:α} {st':St}:OQ n0 keep H R μ a K .ret st'=K .ret st':=rfl
theorem go_loop {α:Type} {keep:List Nat} {b:SC} (H:α→St) (R:α→Prop) (μ:α→Nat) (a0:α) (hR:R a0) (h0:canon n0 keep st=H a0) (round:∀ a,R a→go n0 b (H a) (OQ n0 keep H R μ a K)):go n0 (.loop keep b) st K:=by
 have key:∀ (n:Nat) (a:α) (st:St),μ a≤n→R a→canon n0 keep st=H a→∃ x st',NZ n0 keep (run n0 b) st=some (x,st')∧K x st':=by
  intro n
  induction n with
  | zero =>
   intro a st hn hR hc
   obtain ⟨x,st',h,k⟩:=round a hR
   cases x with
   | normal =>
    obtain ⟨y,_,h2,_⟩:=k
    omega
   | exit i=>exact ⟨_,st',by rw [Ih,hc,h]; rfl,k⟩
   | ret=>exact ⟨_,st',by rw [Ih,hc,h]; rfl,k⟩
  | succ n ih =>
   intro a st hn hR hc
   obtain ⟨x,st',h,k⟩:=round a hR
   cases x with
   | normal =>
    obtain ⟨y,h1,h2,h3⟩:=k
    obtain ⟨x2,st2,h4,k2⟩:=ih y st' (by omega) h1 h3
    exact ⟨x2,st2,by rw [Ih,hc,h]; exact h4,k2⟩
   | exit i=>exact ⟨_,st',by rw [Ih,hc,h]; rfl,k⟩
   | ret=>exact ⟨_,st',by rw [Ih,hc,h]; rfl,k⟩
 exact key (μ a0) a0 st (yF _) hR h0
def LG (n0:Nat) (keep keepO:List Nat) (H:EL→St) (F:X × St) (p:EL):X→St→Prop
 | .normal,st'=>canon n0 keep st'=H p
 | .exit i,st'=>F=(.exit i,canon n0 keepO st')
 | .ret,st'=>F=(.ret,canon n0 keepO st')
def U4 (n0:Nat) (keepO:List Nat) (F:X × St):X→St→Prop
 | .normal,_=>False
 | .exit i,st'=>F=(.exit i,canon n0 keepO st')
 | .ret,st'=>F=(.ret,canon n0 keepO st')
theorem Td {keep keepO:List Nat} {H:EL→St} {F:X × St} {p:EL} {st':St}:LG n0 keep keepO H F p .normal st'=(canon n0 keep st'=H p):=rfl
theorem Te {keep keepO:List Nat} {H:EL→St} {F:X × St} {p:EL} {i:Nat} {st':St}:LG n0 keep keepO H F p (.exit i) st'=(F=(.exit i,canon n0 keepO st')):=rfl
theorem Tf {keep keepO:List Nat} {H:EL→St} {F:X × St} {p:EL} {st':St}:LG n0 keep keepO H F p .ret st'=(F=(.ret,canon n0 keepO st')):=rfl
theorem Wq {keepO:List Nat} {F:X × St} {i:Nat} {st':St}:U4 n0 keepO F (.exit i) st'=(F=(.exit i,canon n0 keepO st')):=rfl
theorem Wr {keepO:List Nat} {F:X × St} {st':St}:U4 n0 keepO F .ret st'=(F=(.ret,canon n0 keepO st')):=rfl
theorem U5 {keep keepO:List Nat} {it:SX} {nx more:Nat} {b:SC} (f:MF) (hfin:∃ l,Enum f l) (F:X × St) (hF:K F.1 F.2) (H:EL→St) (g:Nat) (ks:Bool)
  (h0:canon n0 keep st=H []) (hit:∀ p:EL,OI it (H p)=some (g,ks,f,(p.map (·.1)).reverse))
  (round:∀ (p:EL) (k:MK) (x:MV),(p.map (·.1)).Nodup→(∀ e,e∈p→f e.1=some e.2)→f k=some x→k ∉ p.map (·.1)→go n0 b (F4 nx more (H p) true [(g,.it ks f (k :: (p.map (·.1)).reverse) (some (k,x)))]) (LG n0 keep keepO H F (p++[(k,x)])))
  (fin:∀ p:EL,Enum f p→go n0 b (F4 nx more (H p) false []) (U4 n0 keepO F)):go n0 (.mloop keep keepO it nx more b) st K:=by
 have key:∀ (l p:EL) (s:St),Enum f (p++l)→canon n0 keep s=H p→Mv n0 keepO (Fs n0 ⟨keepO,it,nx,more⟩ keep (run n0 b) f l (p.map (·.1)).reverse s)=some F:=by
  intro l
  induction l with
  | nil =>
   intro p s hE hs
   rw [List.append_nil] at hE
   unfold Fs
   rw [hs,hit p]
   simp only
   try rw [A1 (p:=f=f) rfl,A1 (p:=(p.map (·.1)).reverse=(p.map (·.1)).reverse) rfl]
   simp only [A1 True.intro,zD,cond_true]
   obtain ⟨x,st',h1,h2⟩:=fin p hE
   rw [h1]
   cases x with
   | normal=>exact h2.elim
   | exit i=>have h2:F=_:=h2; rw [h2]; rfl
   | ret=>have h2:F=_:=h2; rw [h2]; rfl
  | cons e l ih =>
   intro p s hE hs
   obtain ⟨k,x⟩:=e
   have hnd:=hE.nd
   rw [zZ,List.nodup_append] at hnd
   have hpm:∀ e,e∈p→f e.1=some e.2:=fun e he=>(hE.mem e.1 e.2).1 (by simp [he])
   have hk:f k=some x:=(hE.mem k x).1 (by simp)
   have hn:k ∉ p.map (·.1):=fun hm=>hnd.2.2 k hm k (by simp) rfl
   obtain ⟨x1,st1,h1,h2⟩:=round p k x hnd.1 hpm hk hn
   unfold Fs
   rw [hs,hit p]
   simp only
   try rw [A1 (p:=f=f) rfl,A1 (p:=(p.map (·.1)).reverse=(p.map (·.1)).reverse) rfl]
   simp only [A1 True.intro,zD,cond_true]
   rw [h1]
   cases x1 with
   | normal =>
    have h2:canon n0 keep st1=H (p++[(k,x)]):=h2
    have:=ih (p++[(k,x)]) st1 (by rw [List.append_assoc]; exact hE) h2
    have hrev:((p++[(k,x)]).map (·.1)).reverse=k :: (p.map (·.1)).reverse:=by simp
    rw [hrev] at this
    exact this
   | exit i=>have h2:F=_:=h2; rw [h2]; rfl
   | ret=>have h2:F=_:=h2; rw [h2]; rfl
 refine ⟨F.1,F.2,?_,hF⟩
 have:GZ n0 ⟨keepO,it,nx,more⟩ keep (run n0 b) st=some F:=by
  unfold GZ
  rw [h0,hit []]
  exact EV.2 ⟨hfin,fun l hl=>key l [] st (by simpa using hl) h0⟩
 exact this
end
def slots:Nat→Nat→List (Nat × SV)→List SV
 | 0,_,_=>[]
 | n+1,k,[]=>.any :: slots n (k+1) []
 | n+1,k,(j,x) :: r=>bif j == k then x :: slots n (k+1) r else .any :: slots n (k+1) ((j,x) :: r)
def Ws (res:RM) (n0:Nat) (rs:List RX) (out:SV × List Ob) (x:X) (st:St):Prop:=fin res n0 rs x st=some out
def X2 (res:RM) (n0:Nat) (r:Option (SV × List Ob)):Option (SV × List Ob) :=
 match r with
 | some (r,ob)=>order res n0 r ob
 | none=>none
def PX (res:RM) (n0:Nat) (ob:List Ob) (r:Option SV):Option (SV × List Ob) :=
 match r with
 | some r0=>X2 res n0 (gc n0 r0 ob)
 | none=>none
theorem X3 {res:RM} {n0:Nat} {rs:List RX} {out:SV × List Ob} {sl:List SV} {ob:List Ob}:Ws res n0 rs out .ret ⟨sl,ob⟩=(PX res n0 ob (No ⟨sl,ob⟩ rs)=some out):=rfl
theorem X4 {res:RM} {n0:Nat} {rs:List RX} {out:SV × List Ob} {sl:List SV} {ob:List Ob}:Ws res n0 rs out .normal ⟨sl,ob⟩=(PX res n0 ob (No ⟨sl,ob⟩ rs)=some out):=rfl
theorem Wt {res:RM} {n0:Nat} {ob:List Ob} {r:SV}:PX res n0 ob (some r)=X2 res n0 (gc n0 r ob):=rfl
theorem X5 {n0:Nat} {r:SV} {ob:List Ob} {res:RM}:X2 res n0 (some (r,ob))=order res n0 r ob:=rfl
theorem Al {f:FuncId} {fc:FC} {hand:List Bool} {res:RM} {tr:Bool} {xs:List SV} {ob:List Ob} {out:SV × List Ob} (hc:As Tryz.prog f=some fc) (hr:modes f=⟨hand,res,none,tr⟩) (hn:xs.length≤fc.nt) (h:go ob.length (F9 res fc.sc) ⟨xs++JT (fc.nt-xs.length),entry tr ob⟩ (Ws res ob.length fc.rs out)):E f xs ob=some out:=by
 obtain ⟨x,st',h1,h2⟩:=h
 unfold E
 rw [WH]
 unfold Gz
 rw [hc,hr]
 simp only
 rw [decide_eq_true hn,cond_true]
 have h1:fr Tryz.prog (Dq modes (ev Tryz.prog modes)) (Jz ob.length) (F9 res fc.sc) ⟨xs++JT (fc.nt-xs.length),entry tr ob⟩=some (x,st'):=h1
 rw [h1]
 exact h2
theorem Re {f:FuncId} {g:List SV→List Ob→Option (SV × List Ob)} {xs:List SV} {ob:List Ob} (hg:(modes f).ext=some g):E f xs ob=g xs ob:=by
 unfold E
 rw [WH]
 unfold Gz
 rw [hg]
theorem PY {f:FuncId} {g:List SV→Option SV} {xs:List SV} {r:SV} (hg:(modes f).ext=some (JW g)) (h:g xs=some r):E f xs []=some (r,[]):=by
 rw [Re hg]
 simp only [JW,h]
theorem Ae:modes 42=⟨[],.asis,some (JW Up),false⟩:=by unfold modes; rfl
theorem CS (s:ByteArray):E 42 [.str s] []=some (.bool (Cj s),[]):=PY (g:=Up) (congrArg FM.ext Ae) rfl
theorem An:modes 62=⟨[],.asis,some (JW Uq),false⟩:=by unfold modes; rfl
theorem FG (s:ByteArray):E 62 [.str s] []=some (.bool (Cj s),[]):=PY (g:=Uq) (congrArg FM.ext An) rfl
theorem Bf:modes 80=⟨[],.asis,some (JW Ur),false⟩:=by unfold modes; rfl
theorem J3 (s:ByteArray):E 80 [.str s] []=some (.bool (Ee s),[]):=PY (g:=Ur) (congrArg FM.ext Bf) rfl
theorem AM:modes 95=⟨[],.asis,some (JW Us),false⟩:=by unfold modes; rfl
theorem J4 (s:ByteArray):E 95 [.str s] []=some (.bool (Ee s),[]):=PY (g:=Us) (congrArg FM.ext AM) rfl
abbrev Tm.sv (x:Tm):SV:=.agg [.str x.name,.arr (x.args.map Tm.d)]
mutual
def Tm.o:Tm→List OT
 | .mk name args=>[.str name,.ow (Tm.os args)]
def Tm.os:List Tm→List (List OT)
 | []=>[]
 | x :: xs=>Tm.o x :: Tm.os xs
end
theorem Tm.os_eq:∀ xs:List Tm,Tm.os xs=xs.map Tm.o
 | []=>rfl
 | x :: xs=>by rw [Tm.os,Tm.os_eq xs]; rfl
theorem Tm.o_eq (x:Tm):Tm.o x=[.str x.name,.ow (x.args.map Tm.o)]:=by
 obtain ⟨name,args⟩:=x
 rw [Tm.o,Tm.os_eq]; rfl
theorem Tm.ers_of:∀ xs:List Tm,(∀ x∈xs,OT.ers (Tm.o x)=Tm.d x)→OT.erss (xs.map Tm.o)=xs.map Tm.d
 | [],_=>rfl
 | x :: xs,h=>by
  simp only [zA,OT.erss]
  rw [h x (by simp),Tm.ers_of xs fun y hy=>h y (by simp [hy])]
theorem Tm.er (x:Tm):OT.ers (Tm.o x)=Tm.d x:=by
 have h:=Tm.ers_of x.args fun y hy=>Tm.er y
 rw [Tm.o_eq,Tm.d_eq]
 simp only [OT.ers,OT.er,h]
termination_by SizeOf.sizeOf x
decreasing_by exact Tm.lt_of_mem hy
theorem Tm.erss (xs:List Tm):OT.erss (xs.map Tm.o)=xs.map Tm.d:=Tm.ers_of xs fun x _=>Tm.er x
theorem Tm.nos_of:∀ xs:List Tm,(∀ x∈xs,OT.Ez (Tm.o x)=true)→OT.CD (xs.map Tm.o)=true
 | [],_=>rfl
 | x :: xs,h=>by
  simp only [zA,OT.CD]
  rw [h x (by simp),Tm.nos_of xs fun y hy=>h y (by simp [hy])]; rfl
theorem Tm.no (x:Tm):OT.Ez (Tm.o x)=true:=by
 have h:=Tm.nos_of x.args fun y hy=>Tm.no y
 rw [Tm.o_eq]
 simp only [OT.Ez,OT.noSh,h,zD,zQ]
termination_by SizeOf.sizeOf x
decreasing_by exact Tm.lt_of_mem hy
theorem Tm.noss (xs:List Tm):OT.CD (xs.map Tm.o)=true:=Tm.nos_of xs fun x _=>Tm.no x
abbrev Fm.sv (x:Fm):SV:=.agg [.int .i64 x.op,.str x.atom.name,.arr (x.atom.args.map Tm.d),.str x.var,.arr (x.parts.map Fm.d)]
mutual
def Fm.o:Fm→List OT
 | .mk op atom var parts=>[.int op,.str atom.name,.ow (atom.args.map Tm.o),.str var,.ow (Fm.os parts)]
def Fm.os:List Fm→List (List OT)
 | []=>[]
 | x :: xs=>Fm.o x :: Fm.os xs
end
theorem Fm.os_eq:∀ xs:List Fm,Fm.os xs=xs.map Fm.o
 | []=>rfl
 | x :: xs=>by rw [Fm.os,Fm.os_eq xs]; rfl
theorem Fm.o_eq (x:Fm):Fm.o x=[.int x.op,.str x.atom.name,.ow (x.atom.args.map Tm.o),.str x.var,.ow (x.parts.map Fm.o)]:=by
 obtain ⟨op,atom,var,parts⟩:=x
 rw [Fm.o,Fm.os_eq]; rfl
theorem Fm.ers_of:∀ xs:List Fm,(∀ x∈xs,OT.ers (Fm.o x)=Fm.d x)→OT.erss (xs.map Fm.o)=xs.map Fm.d
 | [],_=>rfl
 | x :: xs,h=>by
  simp only [zA,OT.erss]
  rw [h x (by simp),Fm.ers_of xs fun y hy=>h y (by simp [hy])]
theorem Fm.er (x:Fm):OT.ers (Fm.o x)=Fm.d x:=by
 have h:=Fm.ers_of x.parts fun y hy=>Fm.er y
 rw [Fm.o_eq,Fm.d_eq]
 simp only [OT.ers,OT.er,h,Tm.erss]
termination_by SizeOf.sizeOf x
decreasing_by exact Fm.lt_of_mem hy
theorem Fm.erss (xs:List Fm):OT.erss (xs.map Fm.o)=xs.map Fm.d:=Fm.ers_of xs fun x _=>Fm.er x
theorem Fm.nos_of:∀ xs:List Fm,(∀ x∈xs,OT.Ez (Fm.o x)=true)→OT.CD (xs.map Fm.o)=true
 | [],_=>rfl
 | x :: xs,h=>by
  simp only [zA,OT.CD]
  rw [h x (by simp),Fm.nos_of xs fun y hy=>h y (by simp [hy])]; rfl
theorem Fm.no (x:Fm):OT.Ez (Fm.o x)=true:=by
 have h:=Fm.nos_of x.parts fun y hy=>Fm.no y
 rw [Fm.o_eq]
 simp only [OT.Ez,OT.noSh,h,Tm.noss,zD,zQ]
termination_by SizeOf.sizeOf x
decreasing_by exact Fm.lt_of_mem hy
theorem Fm.noss (xs:List Fm):OT.CD (xs.map Fm.o)=true:=Fm.nos_of xs fun x _=>Fm.no x
def Ag.o (x:Ag):List OT:=[.str x.var,.int x.elem]
theorem Ag.er (x:Ag):OT.ers (Ag.o x)=Ag.d x:=by
 simp only [Ag.o,Ag.d,OT.ers,OT.er]
theorem Ag.erss:∀ xs:List Ag,OT.erss (xs.map Ag.o)=xs.map Ag.d
 | []=>rfl
 | x :: xs=>by simp only [zA,OT.erss,Ag.er,Ag.erss xs]
theorem Ag.no (x:Ag):OT.Ez (Ag.o x)=true:=by
 simp only [Ag.o,OT.Ez,OT.noSh,zD,zQ]
theorem Ag.noss:∀ xs:List Ag,OT.CD (xs.map Ag.o)=true
 | []=>rfl
 | x :: xs=>by simp only [zA,OT.CD,Ag.no,Ag.noss xs,zD]
abbrev Tl.sv (x:Tl):SV:=.agg [.str x.name,.int .i64 x.arity,.bool x.pred,.arr (x.vals.map fun n=>[D.int n])]
def Tl.o (x:Tl):List OT:=[.str x.name,.int x.arity,.bool x.pred,.ow (x.vals.map fun n=>[OT.int n])]
theorem Tl.o_eq (x:Tl):Tl.o x=[.str x.name,.int x.arity,.bool x.pred,.ow (x.vals.map fun n=>[OT.int n])]:=rfl
theorem Tl.er (x:Tl):OT.ers (Tl.o x)=Tl.d x:=by
 simp only [Tl.o,Tl.d,OT.ers,OT.er,LF]
theorem Tl.erss:∀ xs:List Tl,OT.erss (xs.map Tl.o)=xs.map Tl.d
 | []=>rfl
 | x :: xs=>by simp only [zA,OT.erss,Tl.er,Tl.erss xs]
theorem Tl.no (x:Tl):OT.Ez (Tl.o x)=true:=by
 simp only [Tl.o,OT.Ez,OT.noSh,Sc,zD,zQ]
theorem Tl.noss:∀ xs:List Tl,OT.CD (xs.map Tl.o)=true
 | []=>rfl
 | x :: xs=>by simp only [zA,OT.CD,Tl.no,Tl.noss xs,zD]
abbrev Ip.sv (x:Ip):SV:=.agg [.int .i64 x.size,.arr (x.tables.map Tl.d)]
def Ip.o (x:Ip):List OT:=[.int x.size,.ow (x.tables.map Tl.o)]
theorem Ip.er (x:Ip):OT.ers (Ip.o x)=Ip.d x:=by
 simp only [Ip.o,Ip.d,OT.ers,OT.er,Tl.erss]
theorem Ip.erss:∀ xs:List Ip,OT.erss (xs.map Ip.o)=xs.map Ip.d
 | []=>rfl
 | x :: xs=>by simp only [zA,OT.erss,Ip.er,Ip.erss xs]
theorem Ip.no (x:Ip):OT.Ez (Ip.o x)=true:=by
 simp only [Ip.o,OT.Ez,OT.noSh,Tl.noss,zD,zQ]
theorem Ip.noss:∀ xs:List Ip,OT.CD (xs.map Ip.o)=true
 | []=>rfl
 | x :: xs=>by simp only [zA,OT.CD,Ip.no,Ip.noss xs,zD]
theorem Ea {n:Int} (h1:-9223372036854775808≤n) (h2:n≤9223372036854775807):dec (inK .i64 n)=true:=A1 (VI.2 ⟨h1,h2⟩)
theorem get_at {α β:Type} (f:α→β) {xs:List α} {k:Nat} (h:k<xs.length):(xs.map f)[k]?=some (f xs[k]):=by rw [yY,zG h]; rfl
theorem XY:dec True=true:=A1 trivial
theorem XZ:dec False=false:=Aj fun h=>h
attribute [go_sem] VW VV Xv Xu Uv PK SC.DY Uj pfx EO IZ OT.Cf OT.Gy OT.half Xs VT Gv P5 SV.isNil Ob.idsB SV.idsB SV.Ld List.getElem?_cons_zero List.getElem?_cons_succ OT.AI OT.Da OT.full entry toTree RZ PJ RY Fq GX ET TX NC Uf OT.erss OT.ers OT.er OT.CD OT.Ez OT.noSh quiet obB Q6 Jp meets HT go_skip We go_ret Xa Wg Xb Uw Wh Wi Wj Xc Xd Xe XT XU XV Wk Wl Ux SY Wm Uy SZ Wn Xh Xi XW Xj Xk Xl XX Xm Xn U0 Xp Xq Xr Xt Xw Xx Xy Xz PF PE Ed seen Ta Rd Wo Wp X1 Tc Gw U1 U2 U3 X3 X4 Wt X5 order opF fOp Fp RT VJ RR RS TW Ib eqK A7 gets Ar Nn FT DL JM Md AX SE SV.cellsN SV.one IV splice Eg Pq IU JK DX Ce C1 Cb GK HF Q8 eOp.mkEs eOp.addS D.sv OT.sv D.ot GS GB reach SV.refs SV.NO SV.ptrs SV.NP Ob.refs Ob.liveB GY FF SV.back SV.Le Ob.back GQ HG CP BH BG Jw Hw SV.ren SV.JQ Ob.ren mkU sgp gc Li names JU VM VN VO Ms Ug VP VQ VR VS VU VX SC.mark NT FX slots No QG rxV JT PD SV.noSh SV.La Ob.noSh SV.own SV.OH F5 cond_true cond_false zR yJ zA zH List.drop_succ_cons zV List.drop_nil yT List.take_zero List.take_nil List.append_nil yA yG yI List.all_nil List.getD_cons_zero List.getD_cons_succ yE List.any_nil List.contains_cons List.contains_nil List.isEmpty_nil List.isEmpty_cons List.flatten_cons List.flatten_nil List.replicate_succ List.replicate_zero yK yL y2 y3 yF zX zQ zW zD Bool.or_false Bool.false_or Bool.true_or Bool.or_true Bool.not_true Bool.not_false zP yX decide_true decide_false beq_self_eq_true if_true if_false Option.map_some Option.map_none zN yZ Option.getD_none Int.toNat_natCast true_and and_true and_self eq_self_iff_true zY Bool.false_eq_true Bool.true_eq_false zU SV.int.injEq SV.bool.injEq SV.str.injEq SV.agg.injEq SV.tup.injEq SV.arr.injEq List.cons.injEq St.mk.injEq Int.zero_add XY XZ Ea A1 Aj XL svK svD TC svM MV.sv RF TY PA TZ F4 St.app OI MK.sv Td Te Tf Wq Wr
attribute [go_sem_proc] Nat.reduceAdd Nat.reduceSub Nat.reduceLT Nat.reduceLeDiff Nat.reduceEqDiff Nat.reduceBEq Nat.reduceBneDiff Nat.reduceMul Int.reduceToNat Int.reduceNeg Int.reduceAdd reduceCtorEq
attribute [go_sem_proc ↓] reduceIte
theorem Sg:∀ xs:List ByteArray,OT.AI (xs.map fun s=>[OT.str s])=true
 | []=>rfl
 | x :: xs=>by simp only [zA,OT.AI,OT.Da,OT.full,Sg xs,zD]
theorem LH:∀ xs:List Int,OT.AI (xs.map fun n=>[OT.int n])=true
 | []=>rfl
 | x :: xs=>by simp only [zA,OT.AI,OT.Da,OT.full,LH xs,zD]
theorem Tm.fu_of:∀ xs:List Tm,(∀ x∈xs,OT.Da (Tm.o x)=true)→OT.AI (xs.map Tm.o)=true
 | [],_=>rfl
 | x :: xs,h=>by
  simp only [zA,OT.AI]
  rw [h x (by simp),Tm.fu_of xs fun y hy=>h y (by simp [hy])]; rfl
theorem Tm.fu (x:Tm):OT.Da (Tm.o x)=true:=by
 have h:=Tm.fu_of x.args fun y hy=>Tm.fu y
 rw [Tm.o_eq]
 simp only [OT.Da,OT.full,h,zD,zQ]
termination_by SizeOf.sizeOf x
decreasing_by exact Tm.lt_of_mem hy
theorem Tm.fus (xs:List Tm):OT.AI (xs.map Tm.o)=true:=Tm.fu_of xs fun x _=>Tm.fu x
theorem Fm.fu_of:∀ xs:List Fm,(∀ x∈xs,OT.Da (Fm.o x)=true)→OT.AI (xs.map Fm.o)=true
 | [],_=>rfl
 | x :: xs,h=>by
  simp only [zA,OT.AI]
  rw [h x (by simp),Fm.fu_of xs fun y hy=>h y (by simp [hy])]; rfl
theorem Fm.fu (x:Fm):OT.Da (Fm.o x)=true:=by
 have h:=Fm.fu_of x.parts fun y hy=>Fm.fu y
 rw [Fm.o_eq]
 simp only [OT.Da,OT.full,h,Tm.fus,zD,zQ]
termination_by SizeOf.sizeOf x
decreasing_by exact Fm.lt_of_mem hy
theorem Fm.fus (xs:List Fm):OT.AI (xs.map Fm.o)=true:=Fm.fu_of xs fun x _=>Fm.fu x
theorem Ag.fu (x:Ag):OT.Da (Ag.o x)=true:=by
 simp only [Ag.o,OT.Da,OT.full,zD,zQ]
theorem Ag.fus:∀ xs:List Ag,OT.AI (xs.map Ag.o)=true
 | []=>rfl
 | x :: xs=>by simp only [zA,OT.AI,Ag.fu,Ag.fus xs,zD]
theorem Tl.fu (x:Tl):OT.Da (Tl.o x)=true:=by
 simp only [Tl.o,OT.Da,OT.full,LH,zD,zQ]
theorem Tl.fus:∀ xs:List Tl,OT.AI (xs.map Tl.o)=true
 | []=>rfl
 | x :: xs=>by simp only [zA,OT.AI,Tl.fu,Tl.fus xs,zD]
theorem Ip.fu (x:Ip):OT.Da (Ip.o x)=true:=by
 simp only [Ip.o,OT.Da,OT.full,Tl.fus,zD,zQ]
theorem Ip.fus:∀ xs:List Ip,OT.AI (xs.map Ip.o)=true
 | []=>rfl
 | x :: xs=>by simp only [zA,OT.AI,Ip.fu,Ip.fus xs,zD]
attribute [go_sem] Sg LH VZ LF Wa Sc Tm.fus Tm.erss Tm.noss Fm.fus Fm.erss Fm.noss Ag.fus Ag.erss Ag.noss Tl.fus Tl.erss Tl.noss Ip.fus Ip.erss Ip.noss
section
variable {α β:Type} (f:α→β) (z:β) {xs:List α} {k:Nat}
end
theorem Wu (a b:Int):(bif dec (a<b) then b else a)=max a b:=by
 by_cases h:a<b
 ·rw [A1 h,cond_true,Int.max_eq_right (by omega)]
 ·rw [Aj h,cond_false,Int.max_eq_left (by omega)]
def CE {α:Type} (p:α→Bool):List α→Int→Int
 | [],_=>-1
 | x :: xs,i=>if p x then i else CE p xs (i+1)
theorem Hf {α:Type} (p:α→Bool):∀ (xs:List α),dec (0≤CE p xs 0)=xs.any p:=by
 have key:∀ (xs:List α) (i:Int),0≤i→(0≤CE p xs i ↔ xs.any p=true):=by
  intro xs
  induction xs with
  | nil=>intro i h; simp [CE]
  | cons x xs ih =>
   intro i h
   simp only [CE,yE,y4]
   by_cases hp:p x=true
   ·simp [hp,h]
   ·rw [if_neg hp,ih (i+1) (by omega)]; simp [hp]
 intro xs
 cases h:xs.any p with
 | true=>exact A1 ((key xs 0 (by omega)).2 h)
 | false=>exact Aj fun h'=>by rw [(key xs 0 (by omega)).1 h'] at h; cases h
mutual
def Tm.nodes:Tm→Nat
 | .mk _ args=>1+Tm.nodeS args
def Tm.nodeS:List Tm→Nat
 | []=>0
 | x :: xs=>Tm.nodes x+Tm.nodeS xs
end
mutual
def Tm.deep:Tm→Nat
 | .mk _ args=>Tm.G0 args+1
def Tm.G0:List Tm→Nat
 | []=>0
 | x :: xs=>max (Tm.deep x) (Tm.G0 xs)
end
mutual
def Tm.names:Tm→Bool
 | .mk name args=>if Cj name then args.length == 0 else Ee name&&decide (args.length≤4)&&Tm.Gb args
def Tm.Gb:List Tm→Bool
 | []=>true
 | x :: xs=>Tm.names x&&Tm.Gb xs
end
def Tm.small (x:Tm):Bool:=decide (x.nodes≤30)&&decide (x.deep≤8)
def Tm.valid (x:Tm):Bool:=x.small&&x.names
noncomputable def Tm.eqn (x:Tm):Bool:=dec (x.name=⟨#[61]⟩)
noncomputable def Tm.atom (x:Tm):Bool:=if x.eqn then x.args.length == 2&&x.small&&Tm.Gb x.args else Ee x.name&&x.valid
noncomputable def Tm.expr (x:Tm):Bool:=x.valid || x.atom
noncomputable def Tm.isZ (x:Tm):Bool:=dec (x.name=⟨#[]⟩)&&x.args.length == 0
mutual
def Fm.nodes:Fm→Nat
 | .mk _ _ _ args=>1+Fm.nodeS args
def Fm.nodeS:List Fm→Nat
 | []=>0
 | x :: xs=>Fm.nodes x+Fm.nodeS xs
end
noncomputable def Fm.form (x:Fm):Bool :=
 if x.op=1∨x.op=2 then x.parts.length == 0&&x.atom.isZ&&dec (x.var=⟨#[]⟩)
 else if x.op=3 then x.parts.length == 0&&x.atom.atom&&dec (x.var=⟨#[]⟩)
 else if x.op=4 then x.parts.length == 1&&x.atom.isZ&&dec (x.var=⟨#[]⟩)
 else if x.op=5∨x.op=6∨x.op=7 then x.parts.length == 2&&x.atom.isZ&&dec (x.var=⟨#[]⟩)
 else if x.op=8∨x.op=9 then x.parts.length == 1&&x.atom.isZ&&Cj x.var
 else false
mutual
noncomputable def Fm.forms:Fm→Bool
 | .mk op atom var parts=>Fm.form (.mk op atom var parts)&&Fm.Ja parts
noncomputable def Fm.Ja:List Fm→Bool
 | []=>true
 | x :: xs=>Fm.forms x&&Fm.Ja xs
end
noncomputable def Fm.valid (x:Fm):Bool:=decide (x.nodes≤40)&&x.forms
theorem Tm.nodes_eq (x:Tm):x.nodes=1+Tm.nodeS x.args:=by
 obtain ⟨name,args⟩:=x
 rw [Tm.nodes]; rfl
theorem Tm.nodes_pos (x:Tm):1≤x.nodes:=by rw [Tm.nodes_eq]; omega
theorem Tm.nodes_le:∀ (xs:List Tm) (k:Nat) (h:k<xs.length),xs[k].nodes≤Tm.nodeS xs
 | [],k,h=>absurd h (by simp)
 | x :: xs,0,_=>by rw [Tm.nodeS]; simp
 | x :: xs,k+1,h=>by
  have:=Tm.nodes_le xs k (by simpa using h)
  rw [Tm.nodeS]; simp only [yO]; omega
theorem Tm.OR (x:Tm):x.deep=Tm.G0 x.args+1:=by
 obtain ⟨name,args⟩:=x
 rw [Tm.deep]; rfl
theorem Tm.Ik:∀ xs:List Tm,(∀ y∈xs,y.deep≤y.nodes)→Tm.G0 xs≤Tm.nodeS xs
 | [],_=>by simp [Tm.G0]
 | x :: xs,h=>by
  have h1:=h x (by simp)
  have h2:=Tm.Ik xs fun y hy=>h y (by simp [hy])
  rw [Tm.G0,Tm.nodeS]; omega
theorem Tm.GC (x:Tm):x.deep≤x.nodes:=by
 rw [Tm.OR,Tm.nodes_eq]
 have:=Tm.Ik x.args fun y hy=>Tm.GC y
 omega
termination_by SizeOf.sizeOf x
decreasing_by exact Tm.lt_of_mem hy
theorem Tm.JX (x:Tm):x.names=if Cj x.name then x.args.length == 0 else Ee x.name&&decide (x.args.length≤4)&&Tm.Gb x.args:=by
 obtain ⟨name,args⟩:=x
 rw [Tm.names]; rfl
theorem Tm.IK:∀ xs:List Tm,Tm.Gb xs=xs.all Tm.names
 | []=>rfl
 | x :: xs=>by rw [Tm.Gb,Tm.IK xs]; rfl
theorem Tm.length_le:∀ xs:List Tm,xs.length≤Tm.nodeS xs
 | []=>yF _
 | x :: xs=>by
  have:=Tm.length_le xs
  have:=Tm.nodes_pos x
  rw [Tm.nodeS]; simp only [zR]; omega
theorem Tm.nodes_mem {xs:List Tm} {y:Tm} (h:y∈xs):y.nodes≤Tm.nodeS xs:=by
 obtain ⟨k,hk,rfl⟩:=yB h
 exact Tm.nodes_le xs k hk
theorem Og {xs:List Tm} (h:xs.length=2):Tm.Gb xs=((xs[0]'(by omega)).names&&(xs[1]'(by omega)).names):=by
 match xs,h with
 | [a,b],_=>simp [Tm.Gb]
mutual
def Tm.cap:Tm→Int
 | .mk _ xs=>Tm.capL xs 1
def Tm.capL:List Tm→Int→Int
 | [],n=>n
 | x :: xs,n=>if 30 < n then n else Tm.capL xs (n+Tm.cap x)
end
theorem Tm.cap_eq (x:Tm):x.cap=Tm.capL x.args 1:=by
 obtain ⟨n,xs⟩:=x
 rw [Tm.cap]; rfl
theorem Tm.capL_spec:∀ (xs:List Tm) (n:Int),(∀ x∈xs,1≤x.cap∧x.cap≤x.nodes∧(x.cap≤30→x.cap=x.nodes))→1≤n→n≤Tm.capL xs n∧Tm.capL xs n≤n+Tm.nodeS xs∧(Tm.capL xs n≤30→Tm.capL xs n=n+Tm.nodeS xs)
 | [],n,_,h=>by simp [Tm.capL,Tm.nodeS]
 | x :: xs,n,hx,h=>by
  rw [Tm.capL,Tm.nodeS]
  have h1:=hx x (by simp)
  split
  ·omega
  ·have:=Tm.capL_spec xs (n+x.cap) (fun y hy=>hx y (by simp [hy])) (by omega)
   omega
theorem Tm.cap_spec (x:Tm):1≤x.cap∧x.cap≤x.nodes∧(x.cap≤30→x.cap=x.nodes):=by
 rw [Tm.cap_eq,Tm.nodes_eq]
 have:=Tm.capL_spec x.args 1 (fun y hy=>Tm.cap_spec y) (by omega)
 omega
termination_by SizeOf.sizeOf x
decreasing_by exact Tm.lt_of_mem hy
mutual
def Tm.many:Tm→Int→Int
 | .mk _ xs,m=>Tm.manyL xs m 1
def Tm.manyL:List Tm→Int→Int→Int
 | [],_,n=>n
 | x :: xs,m,n=>if n≤m then Tm.manyL xs m (n+Tm.many x (m-n)) else n
end
theorem Tm.many_eq (x:Tm) (m:Int):x.many m=Tm.manyL x.args m 1:=by
 obtain ⟨n,xs⟩:=x
 rw [Tm.many]; rfl
theorem Tm.manyL_spec (m:Int):∀ (xs:List Tm) (n:Int),(∀ x∈xs,∀ m,0≤m→1≤x.many m∧x.many m≤x.nodes∧(x.many m≤m→x.many m=x.nodes))→1≤n→n≤Tm.manyL xs m n∧Tm.manyL xs m n≤n+Tm.nodeS xs∧(Tm.manyL xs m n≤m→Tm.manyL xs m n=n+Tm.nodeS xs)
 | [],n,_,h=>by simp [Tm.manyL,Tm.nodeS]
 | x :: xs,n,hx,h=>by
  rw [Tm.manyL,Tm.nodeS]
  split
  ·have h1:=hx x (by simp) (m-n) (by omega)
   have:=Tm.manyL_spec m xs (n+x.many (m-n)) (fun y hy=>hx y (by simp [hy])) (by omega)
   omega
  ·omega
theorem Tm.many_spec (x:Tm) (m:Int):1≤x.many m∧x.many m≤x.nodes∧(x.many m≤m→x.many m=x.nodes):=by
 rw [Tm.many_eq,Tm.nodes_eq]
 have:=Tm.manyL_spec m x.args 1 (fun y hy m _=>Tm.many_spec y m) (by omega)
 omega
termination_by SizeOf.sizeOf x
decreasing_by exact Tm.lt_of_mem hy
def X6 (res:RM) (n0:Nat) (rs:List RX) (Q:SV × List Ob→Prop) (x:X) (st:St):Prop:=∃ out,Ws res n0 rs out x st∧Q out
theorem exq {α:Type} {a:α} {Q:α→Prop}:(∃ out,some a=some out∧Q out)=Q a:=propext ⟨fun ⟨o,h,q⟩=>by obtain rfl:=zI h; exact q,fun q=>⟨a,rfl,q⟩⟩
theorem X7 {res:RM} {n0:Nat} {rs:List RX} {Q:SV × List Ob→Prop} {sl:List SV} {ob:List Ob}:X6 res n0 rs Q .ret ⟨sl,ob⟩=∃ out,PX res n0 ob (No ⟨sl,ob⟩ rs)=some out∧Q out:=rfl
theorem X8 {res:RM} {n0:Nat} {rs:List RX} {Q:SV × List Ob→Prop} {sl:List SV} {ob:List Ob}:X6 res n0 rs Q .normal ⟨sl,ob⟩=∃ out,PX res n0 ob (No ⟨sl,ob⟩ rs)=some out∧Q out:=rfl
theorem AL {f:FuncId} {fc:FC} {hand:List Bool} {res:RM} {tr:Bool} {xs:List SV} {ob:List Ob} {Q:SV × List Ob→Prop} (hc:As Tryz.prog f=some fc) (hr:modes f=⟨hand,res,none,tr⟩) (hn:xs.length≤fc.nt) (h:go ob.length (F9 res fc.sc) ⟨xs++JT (fc.nt-xs.length),entry tr ob⟩ (X6 res ob.length fc.rs Q)):∃ out,E f xs ob=some out∧Q out:=by
 obtain ⟨x,st',h1,out,h2,h3⟩:=h
 exact ⟨out,Al hc hr hn ⟨x,st',h1,h2⟩,h3⟩
attribute [go_sem] X7 X8 exq
def Tm.osh (x:Tm):List OT:=[.str x.name,.sh (x.args.map Tm.d)]
theorem Tm.M9 (x:Tm):x.osh=[.str x.name,.sh (x.args.map Tm.d)]:=rfl
theorem Tm.JY:∀ xs:List Tm,OT.AI (xs.map Tm.osh)=true
 | []=>rfl
 | x :: xs=>by rw [zA,Tm.M9]; simp [OT.AI,OT.Da,OT.full,Tm.JY xs]
theorem Tm.MA:∀ xs:List Tm,OT.erss (xs.map Tm.osh)=xs.map Tm.d
 | []=>rfl
 | x :: xs=>by rw [zA,zA,Tm.M9,Tm.d_eq]; simp [OT.erss,OT.ers,OT.er,Tm.MA xs]
def E8:SC:=(.seq (.reg [⟨some 2,none,.mv (.c (.int .i64 0))⟩]) (.seq (.reg [⟨some 3,none,.mv (.c (.int .i64 0))⟩]) (.seq (.seq (.dreg [[],[0],[1,0],[2,1,0],[],[4],[5,4],[6,5,4],[7,6,5,4],[3,2,1,0,8,7,6,5,4]] [⟨some 4,none,.mv (.t 0)⟩,⟨some 5,none,.nilchk (.t 4)⟩,⟨some 6,none,.faddr 1 (.t 5)⟩,⟨some 7,none,.load false 1 (.t 6)⟩,⟨some 8,none,.mv (.t 0)⟩,⟨some 9,none,.nilchk (.t 8)⟩,⟨some 10,none,.faddr 0 (.t 9)⟩,⟨some 11,none,.load false 1 (.t 10)⟩,⟨some 12,none,.len false (.t 11)⟩,⟨some 13,none,.bin .lss false (.t 7) (.t 12)⟩]) (.cond (.t 13) (.dreg [[],[0],[1,0],[2,1,0],[],[4],[5,4],[6,5,4],[3,2,1,0,7,6,5,4],[8,3,2,1,0,7,6,5,4],[9,8,3,2,1,0,7,6,5,4],[10,9,8,3,2,1,0,7,6,5,4]] [⟨some 14,none,.mv (.t 0)⟩,⟨some 15,none,.nilchk (.t 14)⟩,⟨some 16,none,.faddr 0 (.t 15)⟩,⟨some 17,none,.load false 1 (.t 16)⟩,⟨some 18,none,.mv (.t 0)⟩,⟨some 19,none,.nilchk (.t 18)⟩,⟨some 20,none,.faddr 1 (.t 19)⟩,⟨some 21,none,.load false 1 (.t 20)⟩,⟨some 22,none,.iaddr 1 (.t 17) (.t 21)⟩,⟨some 23,none,.load false 1 (.t 22)⟩,⟨some 24,none,.conv .i64 (.t 23)⟩,⟨some 3,none,.mv (.t 24)⟩]) .skip)) (.seq (.reg [⟨some 25,none,.mv (.t 0)⟩,⟨some 26,none,.nilchk (.t 25)⟩,⟨some 27,none,.faddr 1 (.t 26)⟩,⟨some 28,none,.load false 1 (.t 27)⟩,⟨some 29,none,.bin .add false (.t 28) (.c (.int .i64 1))⟩,⟨some 30,none,.nilchk (.t 25)⟩,⟨some 31,none,.faddr 1 (.t 30)⟩,⟨none,none,(.store 1 (.t 31) (.t 29))⟩]) (.seq (.reg [⟨some 32,none,.mv (.t 0)⟩,⟨some 33,none,.mv (.t 0)⟩,⟨some 34,none,.nilchk (.t 33)⟩,⟨some 35,none,.faddr 2 (.t 34)⟩,⟨some 36,none,.load false 1 (.t 35)⟩,⟨some 37,none,.bin .mul false (.t 36) (.c (.int .u64 6364136223846793005))⟩,⟨some 38,none,.mv (.t 3)⟩,⟨some 39,none,.conv .u64 (.t 38)⟩,⟨some 40,none,.bin .add false (.t 37) (.t 39)⟩,⟨some 41,none,.bin .add false (.t 40) (.c (.int .u64 892892))⟩,⟨some 42,none,.nilchk (.t 32)⟩,⟨some 43,none,.faddr 2 (.t 42)⟩,⟨none,none,(.store 1 (.t 43) (.t 41))⟩]) (.seq (.seq (.dreg [[],[0],[1,0],[2,1,0],[],[4],[5,4],[6,5,4],[7,6,5,4],[3,2,1,0,8,7,6,5,4]] [⟨some 44,none,.mv (.t 0)⟩,⟨some 45,none,.nilchk (.t 44)⟩,⟨some 46,none,.faddr 1 (.t 45)⟩,⟨some 47,none,.load false 1 (.t 46)⟩,⟨some 48,none,.mv (.t 0)⟩,⟨some 49,none,.nilchk (.t 48)⟩,⟨some 50,none,.faddr 0 (.t 49)⟩,⟨some 51,none,.load false 1 (.t 50)⟩,⟨some 52,none,.len false (.t 51)⟩,⟨some 53,none,.bin .leq false (.t 47) (.t 52)⟩]) (.cond (.t 53) (.seq (.reg [⟨some 54,none,.mv (.t 3)⟩,⟨some 2,none,.mv (.t 54)⟩]) .ret) .skip)) (.seq (.reg [⟨some 55,none,.mv (.t 0)⟩,⟨some 56,none,.nilchk (.t 55)⟩,⟨some 57,none,.faddr 2 (.t 56)⟩,⟨some 58,none,.load false 1 (.t 57)⟩,⟨some 59,none,.bin .shr false (.t 58) (.c (.int .u64 40))⟩,⟨some 60,none,.bin .and false (.t 59) (.c (.int .u64 255))⟩,⟨some 61,none,.conv .i64 (.t 60)⟩,⟨some 2,none,.mv (.t 61)⟩]) .ret)))))))
theorem G1:As Tryz.prog 67=some ⟨62,E8,[(.tmp 2)]⟩:=by kernel_rfl
theorem E9:modes 67=⟨[],.asis,none,false⟩:=by unfold modes; rfl
def EA:SC:=(.seq (.reg [⟨some 4,none,.mv (.c (.int .i64 0))⟩]) (.seq (.seq (.reg [⟨some 6,none,.mv (.t 1)⟩,⟨some 7,none,.bin .leq false (.t 6) (.c (.int .i64 1))⟩]) (.cond (.t 7) (.seq (.reg [⟨some 4,none,.mv (.c (.int .i64 0))⟩]) .ret) .skip)) (.seq (.reg [⟨some 8,none,.mv (.t 0)⟩,⟨some 9,none,.call 67 [(.t 8)]⟩,⟨some 5,none,.mv (.t 9)⟩]) (.seq (.seq (.reg [⟨some 10,none,.mv (.t 1)⟩,⟨some 11,none,.bin .gtr false (.t 10) (.c (.int .i64 200))⟩]) (.cond (.t 11) (.reg [⟨some 12,none,.mv (.t 5)⟩,⟨some 13,none,.bin .mul false (.t 12) (.c (.int .i64 256))⟩,⟨some 14,none,.mv (.t 0)⟩,⟨some 15,none,.call 67 [(.t 14)]⟩,⟨some 16,none,.bin .add false (.t 13) (.t 15)⟩,⟨some 5,none,.mv (.t 16)⟩]) .skip)) (.seq (.reg [⟨some 17,none,.mv (.t 5)⟩,⟨some 18,none,.mv (.t 1)⟩,⟨some 19,none,.bin .rem false (.t 17) (.t 18)⟩,⟨some 4,none,.mv (.t 19)⟩]) .ret)))))
theorem G2:As Tryz.prog 28=some ⟨20,EA,[(.tmp 4)]⟩:=by kernel_rfl
theorem Am:modes 28=⟨[],.asis,none,false⟩:=by unfold modes; rfl
def Hg:SC:=(.seq (.reg [⟨some 4,none,.mv (.c (.bool false))⟩]) (.seq (.reg [⟨some 5,none,.mv (.t 0)⟩,⟨some 6,none,.mv (.t 1)⟩,⟨some 7,none,.call 28 [(.t 5),(.t 6)]⟩,⟨some 8,none,.bin .eql false (.t 7) (.c (.int .i64 0))⟩,⟨some 4,none,.mv (.t 8)⟩]) .ret))
theorem KC:As Tryz.prog 29=some ⟨9,Hg,[(.tmp 4)]⟩:=by kernel_rfl
theorem Ay:modes 29=⟨[],.asis,none,false⟩:=by unfold modes; rfl
def HJ:SC:=(.seq (.reg [⟨(some 4),none,(.mv (.c (.str ⟨#[]⟩)))⟩]) (.seq (.reg [⟨some 5,none,.mv (.t 1)⟩,⟨some 6,none,.mv (.t 0)⟩,⟨some 7,none,.mv (.t 1)⟩,⟨some 8,none,.len false (.t 7)⟩,⟨some 9,none,.call 28 [(.t 6),(.t 8)]⟩,⟨some 10,none,.iaddr 1 (.t 5) (.t 9)⟩,⟨some 11,none,.load false 1 (.t 10)⟩,⟨some 4,none,.mv (.t 11)⟩]) .ret))
theorem Ly:As Tryz.prog 37=some ⟨12,HJ,[(.tmp 4)]⟩:=by kernel_rfl
theorem Aq:modes 37=⟨[],.asis,none,false⟩:=by unfold modes; rfl
def Gc:SC:=(.seq (.reg [⟨some 4,none,.mv (.c (.int .i64 0))⟩]) (.seq (.reg [⟨some 5,none,.mv (.t 1)⟩,⟨some 6,none,.mv (.t 0)⟩,⟨some 7,none,.mv (.t 1)⟩,⟨some 8,none,.len false (.t 7)⟩,⟨some 9,none,.call 28 [(.t 6),(.t 8)]⟩,⟨some 10,none,.iaddr 1 (.t 5) (.t 9)⟩,⟨some 11,none,.load false 1 (.t 10)⟩,⟨some 4,none,.mv (.t 11)⟩]) .ret))
theorem J5:As Tryz.prog 36=some ⟨12,Gc,[(.tmp 4)]⟩:=by kernel_rfl
theorem Ax:modes 36=⟨[],.asis,none,false⟩:=by unfold modes; rfl
theorem Yi {α:Type} {a:α} {Q:α→Prop}:(∃ out,a=out∧Q out)=Q a:=propext ⟨fun ⟨o,h,q⟩=>by subst h; exact q,fun q=>⟨a,rfl,q⟩⟩
attribute [go_sem] Yi
abbrev by_ (b:Int):List D:=[D.byte b]
def Bytes (l:List Int):Prop:=∀ b∈l,0≤b∧b≤255
abbrev cur (l:List Int) (p s:Int):Ob:=.box 53 [.arr (l.map by_),.int .i64 p,.int .u64 s]
theorem X9 (a:Int):0≤bits .and .u64 a 255∧bits .and .u64 a 255≤255:=by
 have h:(BitVec.ofInt 64 a &&& BitVec.ofInt 64 255).toNat≤255:=by
  rw [BitVec.toNat_and]
  exact Nat.and_le_right
 have e:bits .and .u64 a 255=(((BitVec.ofInt 64 a &&& BitVec.ofInt 64 255).toNat:Nat):Int):=by
  show IntKind.u64.wrap _=_
  refine Ps ⟨?_,?_⟩
  ·show (0:Int)≤_; omega
  ·show _≤(18446744073709551615:Int)
   have:(BitVec.ofInt 64 a &&& BitVec.ofInt 64 255).toNat≤255:=h
   show (((BitVec.ofInt 64 a &&& BitVec.ofInt 64 255).toNat:Nat):Int)≤_
   omega
 rw [e]
 omega
theorem Wv (l:List Int) (hl:Bytes l) (hn:l.length≤1099511627776) (p s:Int) (hp0:0≤p) (hp:p≤1099511627776):∃ v s',E 67 [.ptr 0 0] [cur l p s]=some (.int .i64 v,[cur l (p+1) s'])∧0≤v∧v≤255:=by
 obtain ⟨Q,hQ⟩:∃ Q:SV × List Ob→Prop,Q=fun out=>∃ v s',out=(.int .i64 v,[cur l (p+1) s'])∧0≤v∧v≤255:=⟨_,rfl⟩
 suffices h:∃ out,E 67 [.ptr 0 0] [cur l p s]=some out∧Q out by
  obtain ⟨out,h1,h2⟩:=h
  rw [hQ] at h2
  obtain ⟨v,s',rfl,h3⟩:=h2
  exact ⟨v,s',h1,h3⟩
 by_cases hlt:p<l.length
 ·have hg:=get_at by_ (show p.toNat<l.length by omega)
  have hb:=hl _ (zF (show p.toNat<l.length by omega))
  have hi:dec (inK .i64 l[p.toNat])=true:=Ea (by omega) (by omega)
  have h1:(p<(l.length:Int))=True:=eq_true (by omega)
  have h2:(p+1≤(l.length:Int))=True:=eq_true (by omega)
  refine AL G1 E9 (of_decide_eq_true rfl) ?_
  simp (disch:=omega) only [E8,go_sem,Ab,hg,hi,h1,h2]
  rw [hQ]
  exact ⟨_,_,rfl,hb⟩
 ·have h1:(p<(l.length:Int))=False:=eq_false (by omega)
  have h2:(p+1≤(l.length:Int))=False:=eq_false (by omega)
  have hb:=fun a=>X9 a
  have hi:∀ a,dec (inK .i64 (bits .and .u64 a 255))=true:=fun a=>Ea (by have:=hb a; omega) (by have:=hb a; omega)
  refine AL G1 E9 (of_decide_eq_true rfl) ?_
  simp (disch:=omega) only [E8,go_sem,Ab,hi,h1,h2]
  rw [hQ]
  exact ⟨_,_,rfl,hb _⟩
theorem Dh (l:List Int) (hl:Bytes l) (hn:l.length≤1099511627776) (n:Int) (h1:1≤n) (h2:n≤200) (p s:Int) (hp0:0≤p) (hp:p≤1099511627776):∃ v p' s',E 28 [.ptr 0 0,.int .i64 n] [cur l p s]=some (.int .i64 v,[cur l p' s'])∧(0≤v∧v<n)∧p≤p'∧p'≤p+1:=by
 by_cases hn1:n≤1
 ·refine ⟨0,p,s,?_,by omega,by omega,by omega⟩
  have q1:(n≤1)=True:=eq_true hn1
  refine Al G2 Am (of_decide_eq_true rfl) ?_
  simp (disch:=omega) only [EA,go_sem,Ab,q1]
 ·obtain ⟨v,s',hv,hv1,hv2⟩:=Wv l hl hn p s hp0 hp
  have hm1:=Int.emod_nonneg v (show n≠0 by omega)
  have hm2:=Int.emod_lt_of_pos v (show 0<n by omega)
  have hm3:v.tmod n=v % n:=Int.tmod_eq_emod_of_nonneg hv1
  refine ⟨v.tmod n,p+1,s',?_,by omega,by omega,by omega⟩
  have q1:(n≤1)=False:=eq_false hn1
  have q2:(200<n)=False:=eq_false (by omega)
  have q3:(n=0)=False:=eq_false (by omega)
  refine Al G2 Am (of_decide_eq_true rfl) ?_
  simp (disch:=omega) only [EA,go_sem,Ab,q1,q2,q3,hv,E9]
theorem Ln (l:List Int) (hl:Bytes l) (hn:l.length≤1099511627776) (n:Int) (h1:1≤n) (h2:n≤200) (p s:Int) (hp0:0≤p) (hp:p≤1099511627776):∃ b p' s',E 29 [.ptr 0 0,.int .i64 n] [cur l p s]=some (.bool b,[cur l p' s'])∧p≤p'∧p'≤p+1:=by
 obtain ⟨v,p',s',hv,_,h3,h4⟩:=Dh l hl hn n h1 h2 p s hp0 hp
 refine ⟨dec (v=0),p',s',?_,h3,h4⟩
 refine Al KC Ay (of_decide_eq_true rfl) ?_
 simp (disch:=omega) only [Hg,go_sem,Ab,hv,Am]
theorem OS (l:List Int) (hl:Bytes l) (hn:l.length≤1099511627776) (xs:List ByteArray) (h1:1≤xs.length) (h2:xs.length≤200) (p s:Int) (hp0:0≤p) (hp:p≤1099511627776):∃ x p' s',E 37 [.ptr 0 0,.arr (xs.map fun s=>[D.str s])] [cur l p s]=some (.str x,[cur l p' s'])∧x∈xs∧p≤p'∧p'≤p+1:=by
 obtain ⟨v,p',s',hv,⟨hv0,hv1⟩,h3,h4⟩:=Dh l hl hn xs.length (by omega) (by omega) p s hp0 hp
 have hg:=get_at (fun s=>[D.str s]) (show v.toNat<xs.length by omega)
 refine ⟨xs[v.toNat],p',s',?_,zF _,h3,h4⟩
 refine Al Ly Aq (of_decide_eq_true rfl) ?_
 simp (disch:=omega) only [HJ,go_sem,Ab,hv,hg,Am]
theorem IL (l:List Int) (hl:Bytes l) (hn:l.length≤1099511627776) (xs:List Int) (h1:1≤xs.length) (h2:xs.length≤200) (p s:Int) (hp0:0≤p) (hp:p≤1099511627776):∃ x p' s',E 36 [.ptr 0 0,.arr (xs.map fun n=>[D.int n])] [cur l p s]=some (.int .i64 x,[cur l p' s'])∧x∈xs∧p≤p'∧p'≤p+1:=by
 obtain ⟨v,p',s',hv,⟨hv0,hv1⟩,h3,h4⟩:=Dh l hl hn xs.length (by omega) (by omega) p s hp0 hp
 have hg:=get_at (fun n=>[D.int n]) (show v.toNat<xs.length by omega)
 refine ⟨xs[v.toNat],p',s',?_,zF _,h3,h4⟩
 refine Al J5 Ax (of_decide_eq_true rfl) ?_
 simp (disch:=omega) only [Gc,go_sem,Ab,hv,hg,Am]
theorem Tm.Oh {x:Tm} (h:x.names=true) (hv:Cj x.name=true):x.args=[]:=by
 rw [Tm.JX,if_pos hv] at h
 exact zE (by simpa using h)
theorem Tm.KD {x:Tm} (h:x.names=true) {y:Tm} (hy:y∈x.args):y.names=true:=by
 rw [Tm.JX] at h
 split at h
 ·have:x.args=[]:=zE (by simpa using h)
  rw [this] at hy; cases hy
 ·rw [zB,Tm.IK,zT] at h
  exact h.2 y hy
def Lo:SC:=(.seq (.reg [⟨some 1,none,.boxv 30 2 (.t 0)⟩,⟨some 2,none,.mv (.c (.int .i64 0))⟩]) (.seq (.reg [⟨some 3,none,.mv (.c (.int .i64 1))⟩]) (.seq (.seq (.reg [⟨some 6,none,.faddr 1 (.t 1)⟩,⟨some 7,none,.load false 1 (.t 6)⟩,⟨some 8,none,.len false (.t 7)⟩,⟨some 9,none,.mv (.c (.int .i64 0))⟩]) (.block 0 (.loop [0,0,0,1,0,0,0,1,1,1,0,0,0,0,0,0,0,0,0,0,0,0] (.seq (.reg [⟨some 10,none,.bin .lss false (.t 9) (.t 8)⟩]) (.seq (.cond (.t 10) .skip (.exit 0)) (.seq (.block 1 (.seq (.reg [⟨some 11,none,.iaddr 2 (.t 7) (.t 9)⟩,⟨some 12,none,.load true 2 (.t 11)⟩,⟨(some 5),none,(.alloc 30 [(.str ⟨#[]⟩),.nil])⟩,⟨none,none,(.store 2 (.t 5) (.t 12))⟩]) (.seq (.seq (.reg [⟨some 13,none,.mv (.t 3)⟩,⟨some 14,none,.bin .gtr false (.t 13) (.c (.int .i64 30))⟩]) (.cond (.t 14) (.seq (.reg [⟨some 15,none,.mv (.t 3)⟩,⟨some 2,none,.mv (.t 15)⟩]) .ret) .skip)) (.reg [⟨some 16,none,.mv (.t 3)⟩,⟨some 17,none,.load true 2 (.t 5)⟩,⟨some 18,none,.call 124 [(.t 17)]⟩,⟨some 19,none,.bin .add false (.t 16) (.t 18)⟩,⟨some 3,none,.mv (.t 19)⟩])))) (.reg [⟨some 20,none,.bin .add false (.t 9) (.c (.int .i64 1))⟩,⟨some 9,none,.mv (.t 20)⟩]))))))) (.seq (.reg [⟨some 21,none,.mv (.t 3)⟩,⟨some 2,none,.mv (.t 21)⟩]) .ret))))
theorem PZ:As Tryz.prog 124=some ⟨22,Lo,[(.tmp 2)]⟩:=by kernel_rfl
theorem Fu:modes 124=⟨[],.asis,none,false⟩:=by unfold modes; rfl
theorem Ww (x:Tm) (hn:x.nodes≤1099511627776) (ih:∀ y∈x.args,E 124 [y.sv] []=some (.int .i64 y.cap,[])):E 124 [x.sv] []=some (.int .i64 x.cap,[]):=by
 have hl:=Tm.length_le x.args
 have hx:=Tm.nodes_eq x
 rw [Tm.cap_eq]
 refine Al PZ Fu (of_decide_eq_true rfl) ?_
 simp (disch:=omega) only [Lo,go_sem,Ab]
 refine go_loop (α:=Int × Int) (fun a=>⟨slots 22 0 [(3,.int .i64 a.2),(7,.arr (x.args.map Tm.d)),(8,.int .i64 x.args.length),(9,.int .i64 a.1)],[]⟩) (fun a=>∃ k:Nat,a.1=k∧k≤x.args.length∧1≤a.2∧a.2+Tm.nodeS (x.args.drop k)≤x.nodes∧Tm.capL (x.args.drop k) a.2=Tm.capL x.args 1) (fun a=>x.args.length-a.1.toNat) (0,1) ⟨0,rfl,zX _,by dsimp only; omega,by rw [zV]; dsimp only; omega,rfl⟩ (by simp (disch:=omega) only [go_sem,Ab]) ?_
 rintro ⟨i,n⟩ ⟨k,hi,hk,hn0,hn1,hs⟩
 dsimp only at hi hn0 hn1 hs
 have hni:i.toNat=k:=by omega
 rcases zJ k x.args.length with hlt | hge
 ·have hg:=get_at Tm.d hlt
  rw [Tm.d_eq] at hg
  have hd:x.args.drop k=x.args[k] :: x.args.drop (k+1):=zL hlt
  have hc:=ih x.args[k] (zF hlt)
  have hp:=Tm.cap_spec x.args[k]
  rw [hd,Tm.capL] at hs
  rw [hd,Tm.nodeS] at hn1
  rcases yH 30 n with h30 | h30
  ·rw [if_pos h30] at hs
   simp (disch:=omega) only [go_sem,Ab,hni,hg,hc,Fu]
   exact hs
  ·rw [if_neg (by omega)] at hs
   simp (disch:=omega) only [go_sem,Ab,hni,hg,hc,Fu]
   refine ⟨(i+1,n+x.args[k].cap),⟨k+1,by dsimp only; omega,hlt,by dsimp only; omega,by dsimp only; omega,hs⟩,by dsimp only; omega,?_⟩
   simp only [and_self]
 ·have hd:x.args.drop k=[]:=zM hge
  rw [hd,Tm.capL] at hs
  simp (disch:=omega) only [go_sem,Ab,hni]
  exact hs
theorem U6 (x:Tm) (hn:x.nodes≤1099511627776):E 124 [x.sv] []=some (.int .i64 x.cap,[]) :=
 Ww x hn fun y hy=>U6 y (by have:=Tm.nodes_mem hy; have:=Tm.nodes_eq x; omega)
termination_by SizeOf.sizeOf x
decreasing_by exact Tm.lt_of_mem hy
def Jb:SC:=(.seq (.reg [⟨some 2,none,.boxv 30 2 (.t 0)⟩,⟨some 4,none,.mv (.c (.int .i64 0))⟩]) (.seq (.reg [⟨some 5,none,.mv (.c (.int .i64 1))⟩]) (.seq (.seq (.reg [⟨some 6,none,.mv (.c (.int .i64 0))⟩]) (.block 0 (.loop [0,1,1,0,0,1,1,0,0,0,0,0,0,0,0,0,0,0,0,0,0,0,0,0,0,0,0,0,0,0,0] (.seq (.seq (.reg [⟨some 7,none,.mv (.t 6)⟩,⟨some 8,none,.faddr 1 (.t 2)⟩,⟨some 9,none,.load false 1 (.t 8)⟩,⟨some 10,none,.len false (.t 9)⟩,⟨some 11,none,.bin .lss false (.t 7) (.t 10)⟩,⟨some 12,none,.mv (.t 11)⟩,⟨(some 13),(some (12,true)),(.mv (.t 5))⟩,⟨(some 14),(some (12,true)),(.mv (.t 1))⟩,⟨(some 15),(some (12,true)),(.bin .leq false (.t 13) (.t 14))⟩,⟨some 16,none,.pick (.t 12) (.t 15) (.c (.bool false))⟩]) (.cond (.t 16) .skip (.exit 0))) (.seq (.block 1 (.reg [⟨some 19,none,.mv (.t 5)⟩,⟨some 20,none,.faddr 1 (.t 2)⟩,⟨some 21,none,.load false 1 (.t 20)⟩,⟨some 22,none,.mv (.t 6)⟩,⟨some 23,none,.iaddr 2 (.t 21) (.t 22)⟩,⟨some 24,none,.load true 2 (.t 23)⟩,⟨some 25,none,.mv (.t 1)⟩,⟨some 26,none,.mv (.t 5)⟩,⟨some 27,none,.bin .sub false (.t 25) (.t 26)⟩,⟨some 28,none,.call 151 [(.t 24),(.t 27)]⟩,⟨some 29,none,.bin .add false (.t 19) (.t 28)⟩,⟨some 5,none,.mv (.t 29)⟩])) (.reg [⟨some 17,none,.mv (.t 6)⟩,⟨some 18,none,.bin .add false (.t 17) (.c (.int .i64 1))⟩,⟨some 6,none,.mv (.t 18)⟩])))))) (.seq (.reg [⟨some 30,none,.mv (.t 5)⟩,⟨some 4,none,.mv (.t 30)⟩]) .ret))))
theorem Nt:As Tryz.prog 151=some ⟨31,Jb,[(.tmp 4)]⟩:=by kernel_rfl
theorem Ej:modes 151=⟨[],.asis,none,false⟩:=by unfold modes; rfl
theorem Wx (x:Tm) (m:Int) (hm:0≤m) (hm1:m≤1099511627776) (hn:x.nodes≤1099511627776) (ih:∀ y∈x.args,∀ m:Int,0≤m→m≤1099511627776→E 151 [y.sv,.int .i64 m] []=some (.int .i64 (y.many m),[])):E 151 [x.sv,.int .i64 m] []=some (.int .i64 (x.many m),[]):=by
 have hl:=Tm.length_le x.args
 have hx:=Tm.nodes_eq x
 rw [Tm.many_eq]
 refine Al Nt Ej (of_decide_eq_true rfl) ?_
 simp (disch:=omega) only [Jb,go_sem,Ab]
 refine go_loop (α:=Int × Int) (fun a=>⟨slots 31 0 [(1,.int .i64 m),(2,.ptr 0 0),(5,.int .i64 a.2),(6,.int .i64 a.1)],[.box 30 [.str x.name,.arr (x.args.map Tm.d)]]⟩) (fun a=>∃ k:Nat,a.1=k∧k≤x.args.length∧1≤a.2∧a.2+Tm.nodeS (x.args.drop k)≤x.nodes∧Tm.manyL (x.args.drop k) m a.2=Tm.manyL x.args m 1) (fun a=>x.args.length-a.1.toNat) (0,1) ⟨0,rfl,zX _,by dsimp only; omega,by rw [zV]; dsimp only; omega,rfl⟩ (by simp (disch:=omega) only [go_sem,Ab]) ?_
 rintro ⟨i,n⟩ ⟨k,hi,hk,hn0,hn1,hs⟩
 dsimp only at hi hn0 hn1 hs
 have hni:i.toNat=k:=by omega
 rcases zJ k x.args.length with hlt | hge
 ·have hg:=get_at Tm.d hlt
  rw [Tm.d_eq] at hg
  have hd:x.args.drop k=x.args[k] :: x.args.drop (k+1):=zL hlt
  rw [hd,Tm.manyL] at hs
  rw [hd,Tm.nodeS] at hn1
  rcases yH m n with h30 | h30
  ·rw [if_neg (by omega)] at hs
   simp (disch:=omega) only [go_sem,Ab,hni,hg,Ej]
   exact hs
  ·rw [if_pos h30] at hs
   have hc:=ih x.args[k] (zF hlt) (m-n) (by omega) (by omega)
   have hp:=Tm.many_spec x.args[k] (m-n)
   simp (disch:=omega) only [go_sem,Ab,hni,hg,hc,Ej]
   refine ⟨(i+1,n+x.args[k].many (m-n)),⟨k+1,by dsimp only; omega,hlt,by dsimp only; omega,by dsimp only; omega,hs⟩,by dsimp only; omega,?_⟩
   simp only [and_self]
 ·have hd:x.args.drop k=[]:=zM hge
  rw [hd,Tm.manyL] at hs
  simp (disch:=omega) only [go_sem,Ab,hni]
  exact hs
theorem U7 (x:Tm) (m:Int) (hm:0≤m) (hm1:m≤1099511627776) (hn:x.nodes≤1099511627776):E 151 [x.sv,.int .i64 m] []=some (.int .i64 (x.many m),[]) :=
 Wx x m hm hm1 hn fun y hy m hm hm1=>U7 y m hm hm1 (by have:=Tm.nodes_mem hy; have:=Tm.nodes_eq x; omega)
termination_by SizeOf.sizeOf x
decreasing_by exact Tm.lt_of_mem hy
def JZ:SC:=(.seq (.reg [⟨some 1,none,.boxv 30 2 (.t 0)⟩,⟨some 2,none,.mv (.c (.int .i64 0))⟩]) (.seq (.reg [⟨some 3,none,.mv (.c (.int .i64 0))⟩]) (.seq (.seq (.reg [⟨some 6,none,.faddr 1 (.t 1)⟩,⟨some 7,none,.load false 1 (.t 6)⟩,⟨some 8,none,.len false (.t 7)⟩,⟨some 9,none,.mv (.c (.int .i64 0))⟩]) (.block 0 (.loop [0,0,0,1,0,0,0,1,1,1,0,0,0,0,0,0,0,0,0,0] (.seq (.reg [⟨some 10,none,.bin .lss false (.t 9) (.t 8)⟩]) (.seq (.cond (.t 10) .skip (.exit 0)) (.seq (.block 1 (.seq (.reg [⟨some 11,none,.iaddr 2 (.t 7) (.t 9)⟩,⟨some 12,none,.load true 2 (.t 11)⟩,⟨(some 5),none,(.alloc 30 [(.str ⟨#[]⟩),.nil])⟩,⟨none,none,(.store 2 (.t 5) (.t 12))⟩]) (.reg [⟨some 13,none,.mv (.t 3)⟩,⟨some 14,none,.load true 2 (.t 5)⟩,⟨some 15,none,.call 125 [(.t 14)]⟩,⟨some 16,none,.minmax true (.t 13) (.t 15)⟩,⟨some 3,none,.mv (.t 16)⟩]))) (.reg [⟨some 17,none,.bin .add false (.t 9) (.c (.int .i64 1))⟩,⟨some 9,none,.mv (.t 17)⟩]))))))) (.seq (.reg [⟨some 18,none,.mv (.t 3)⟩,⟨some 19,none,.bin .add false (.t 18) (.c (.int .i64 1))⟩,⟨some 2,none,.mv (.t 19)⟩]) .ret))))
theorem OU:As Tryz.prog 125=some ⟨20,JZ,[(.tmp 2)]⟩:=by kernel_rfl
theorem FH:modes 125=⟨[],.asis,none,false⟩:=by unfold modes; rfl
def Jc:SC:=(.seq (.reg [⟨some 4,none,.mv (.c (.int .i64 0))⟩]) (.seq (.seq (.reg [⟨some 5,none,.mv (.t 0)⟩,⟨some 6,none,.mv (.t 1)⟩,⟨some 7,none,.bin .gtr false (.t 5) (.t 6)⟩]) (.cond (.t 7) (.seq (.reg [⟨some 8,none,.mv (.t 0)⟩,⟨some 4,none,.mv (.t 8)⟩]) .ret) .skip)) (.seq (.reg [⟨some 9,none,.mv (.t 1)⟩,⟨some 4,none,.mv (.t 9)⟩]) .ret)))
theorem Nu:As Tryz.prog 38=some ⟨10,Jc,[(.tmp 4)]⟩:=by kernel_rfl
theorem BT:modes 38=⟨[],.asis,none,false⟩:=by unfold modes; rfl
def Il:SC:=(.seq (.reg [⟨some 1,none,.boxv 30 2 (.t 0)⟩,⟨some 2,none,.mv (.c (.int .i64 0))⟩]) (.seq (.reg [⟨some 3,none,.mv (.c (.int .i64 0))⟩]) (.seq (.seq (.reg [⟨some 4,none,.mv (.c (.int .i64 0))⟩]) (.block 0 (.loop [0,1,0,1,1,0,0,0,0,0,0,0,0,0,0,0,0,0,0,0,0,0] (.seq (.seq (.reg [⟨some 5,none,.mv (.t 4)⟩,⟨some 6,none,.faddr 1 (.t 1)⟩,⟨some 7,none,.load false 1 (.t 6)⟩,⟨some 8,none,.len false (.t 7)⟩,⟨some 9,none,.bin .lss false (.t 5) (.t 8)⟩]) (.cond (.t 9) .skip (.exit 0))) (.seq (.block 1 (.reg [⟨some 12,none,.mv (.t 3)⟩,⟨some 13,none,.faddr 1 (.t 1)⟩,⟨some 14,none,.load false 1 (.t 13)⟩,⟨some 15,none,.mv (.t 4)⟩,⟨some 16,none,.iaddr 2 (.t 14) (.t 15)⟩,⟨some 17,none,.load true 2 (.t 16)⟩,⟨some 18,none,.call 152 [(.t 17)]⟩,⟨some 19,none,.call 38 [(.t 12),(.t 18)]⟩,⟨some 3,none,.mv (.t 19)⟩])) (.reg [⟨some 10,none,.mv (.t 4)⟩,⟨some 11,none,.bin .add false (.t 10) (.c (.int .i64 1))⟩,⟨some 4,none,.mv (.t 11)⟩])))))) (.seq (.reg [⟨some 20,none,.mv (.t 3)⟩,⟨some 21,none,.bin .add false (.t 20) (.c (.int .i64 1))⟩,⟨some 2,none,.mv (.t 21)⟩]) .ret))))
theorem MB:As Tryz.prog 152=some ⟨22,Il,[(.tmp 2)]⟩:=by kernel_rfl
theorem EB:modes 152=⟨[],.asis,none,false⟩:=by unfold modes; rfl
theorem Qa (a b:Int):E 38 [.int .i64 a,.int .i64 b] []=some (.int .i64 (max a b),[]):=by
 refine Al Nu BT (of_decide_eq_true rfl) ?_
 simp (disch:=omega) only [Jc,go_sem,Ab]
 repeat' (refine PV (fun hq=>?_) (fun hq=>?_) <;> (first | replace hq:=Av.1 hq | replace hq:=E4.1 hq) <;> (try simp (disch:=omega) only [go_sem,Ab]))
 all_goals omega
theorem U8 (x:Tm) (hn:x.nodes≤1099511627776) (ih:∀ y∈x.args,E 125 [y.sv] []=some (.int .i64 y.deep,[])):E 125 [x.sv] []=some (.int .i64 x.deep,[]):=by
 have hl:=Tm.length_le x.args
 have hx:=Tm.nodes_eq x
 have hd1:=Tm.OR x
 have hd2:=Tm.GC x
 refine Al OU FH (of_decide_eq_true rfl) ?_
 simp (disch:=omega) only [JZ,go_sem,Ab]
 refine go_loop (α:=Int × (Int)) (fun a=>⟨slots 20 0 [(3,.int .i64 (a.2)),(7,.arr (x.args.map Tm.d)),(8,.int .i64 x.args.length),(9,.int .i64 (a.1))],[]⟩) (fun a=>∃ k:Nat,a.1=k∧k≤(x.args).length∧0≤(a.2)∧max (a.2) (Tm.G0 (x.args.drop k):Nat)=(Tm.G0 x.args:Nat)) (fun a=>(x.args).length-(a.1).toNat) (0,0) ⟨0,rfl,zX _,by dsimp only; omega,by rw [zV]; dsimp only; omega⟩ (by simp (disch:=omega) only [go_sem,Ab]) ?_
 rintro ⟨i,n⟩ ⟨k,hi,hk,hR⟩
 dsimp only at hi hR
 have hni:i.toNat=k:=by omega
 have hni1:(i+1).toNat=k+1:=by omega
 rcases zJ k (x.args).length with hlt | hge
 ·have hg:=get_at Tm.d hlt
  rw [Tm.d_eq] at hg
  have hc:=ih x.args[k] (zF hlt)
  rw [zL hlt,Tm.G0] at hR
  simp (disch:=omega) only [go_sem,Ab,hni,hg,hc,FH,Wu]
  refine ⟨(i+1,max n (x.args[k].deep:Int)),⟨k+1,by dsimp only; omega,hlt,by dsimp only; omega⟩,by dsimp only; omega,?_⟩
  simp only [and_self]
 ·rw [zM hge,Tm.G0] at hR
  simp (disch:=omega) only [go_sem,Ab,hni]
  omega
theorem Sh (x:Tm) (hn:x.nodes≤1099511627776):E 125 [x.sv] []=some (.int .i64 x.deep,[]) :=
 U8 x hn fun y hy=>Sh y (by have:=Tm.nodes_mem hy; have:=Tm.nodes_eq x; omega)
termination_by SizeOf.sizeOf x
decreasing_by exact Tm.lt_of_mem hy
theorem Rf (x:Tm) (hn:x.nodes≤1099511627776) (ih:∀ y∈x.args,E 152 [y.sv] []=some (.int .i64 y.deep,[])):E 152 [x.sv] []=some (.int .i64 x.deep,[]):=by
 have hl:=Tm.length_le x.args
 have hx:=Tm.nodes_eq x
 have hd1:=Tm.OR x
 have hd2:=Tm.GC x
 refine Al MB EB (of_decide_eq_true rfl) ?_
 simp (disch:=omega) only [Il,go_sem,Ab]
 refine go_loop (α:=Int × (Int)) (fun a=>⟨slots 22 0 [(1,.ptr 0 0),(3,.int .i64 (a.2)),(4,.int .i64 (a.1))],[.box 30 [.str x.name,.arr (x.args.map Tm.d)]]⟩) (fun a=>∃ k:Nat,a.1=k∧k≤(x.args).length∧0≤(a.2)∧max (a.2) (Tm.G0 (x.args.drop k):Nat)=(Tm.G0 x.args:Nat)) (fun a=>(x.args).length-(a.1).toNat) (0,0) ⟨0,rfl,zX _,by dsimp only; omega,by rw [zV]; dsimp only; omega⟩ (by simp (disch:=omega) only [go_sem,Ab]) ?_
 rintro ⟨i,n⟩ ⟨k,hi,hk,hR⟩
 dsimp only at hi hR
 have hni:i.toNat=k:=by omega
 have hni1:(i+1).toNat=k+1:=by omega
 rcases zJ k (x.args).length with hlt | hge
 ·have hg:=get_at Tm.d hlt
  rw [Tm.d_eq] at hg
  have hc:=ih x.args[k] (zF hlt)
  rw [zL hlt,Tm.G0] at hR
  simp (disch:=omega) only [go_sem,Ab,hni,hg,hc,EB,Qa,BT]
  refine ⟨(i+1,max n (x.args[k].deep:Int)),⟨k+1,by dsimp only; omega,hlt,by dsimp only; omega⟩,by dsimp only; omega,?_⟩
  simp only [and_self]
 ·rw [zM hge,Tm.G0] at hR
  simp (disch:=omega) only [go_sem,Ab,hni]
  omega
theorem Oi (x:Tm) (hn:x.nodes≤1099511627776):E 152 [x.sv] []=some (.int .i64 x.deep,[]) :=
 Rf x hn fun y hy=>Oi y (by have:=Tm.nodes_mem hy; have:=Tm.nodes_eq x; omega)
termination_by SizeOf.sizeOf x
decreasing_by exact Tm.lt_of_mem hy
def C2:SC:=(.seq (.reg [⟨some 4,none,.mv (.c (.int .i64 0))⟩]) (.seq (.seq (.reg [⟨some 6,none,.mv (.t 0)⟩,⟨some 7,none,.len false (.t 6)⟩,⟨some 8,none,.mv (.c (.int .i64 0))⟩]) (.block 0 (.loop [1,1,0,0,0,0,0,1,1,0,0,0,0,0,0,0,0,0,0] (.seq (.reg [⟨some 9,none,.bin .lss false (.t 8) (.t 7)⟩]) (.seq (.cond (.t 9) .skip (.exit 0)) (.seq (.block 1 (.seq (.reg [⟨some 10,none,.mv (.t 8)⟩,⟨some 5,none,.mv (.t 10)⟩]) (.seq (.reg [⟨some 11,none,.mv (.t 1)⟩,⟨some 12,none,.mv (.t 0)⟩,⟨some 13,none,.mv (.t 5)⟩,⟨some 14,none,.iaddr 2 (.t 12) (.t 13)⟩,⟨some 15,none,.load true 2 (.t 14)⟩,⟨some 16,none,.callv (.t 11) [(.t 15)]⟩]) (.cond (.t 16) (.seq (.reg [⟨some 17,none,.mv (.t 5)⟩,⟨some 4,none,.mv (.t 17)⟩]) .ret) .skip)))) (.reg [⟨some 18,none,.bin .add false (.t 8) (.c (.int .i64 1))⟩,⟨some 8,none,.mv (.t 18)⟩]))))))) (.seq (.reg [⟨some 4,none,.mv (.c (.int .i64 (-(0+1))))⟩]) .ret)))
theorem DM:As Tryz.prog 145=some ⟨19,C2,[(.tmp 4)]⟩:=by kernel_rfl
theorem C3:modes 145=⟨[],.asis,none,false⟩:=by unfold modes; rfl
def Cs:SC:=(.seq (.reg [⟨some 4,none,.mv (.c (.bool false))⟩]) (.seq (.reg [⟨some 5,none,.mv (.t 0)⟩,⟨some 6,none,.mv (.t 1)⟩,⟨some 7,none,.call 145 [(.t 5),(.t 6)]⟩,⟨some 8,none,.bin .geq false (.t 7) (.c (.int .i64 0))⟩,⟨some 4,none,.mv (.t 8)⟩]) .ret))
theorem D2:As Tryz.prog 126=some ⟨9,Cs,[(.tmp 4)]⟩:=by kernel_rfl
theorem Ct:modes 126=⟨[],.asis,none,false⟩:=by unfold modes; rfl
theorem Lz (fid:Nat) (p:Tm→Bool) (xs:List Tm) (hl:xs.length≤1099511627776) (hg:HP Tryz.prog fid=true) (hm:(modes fid).hand=[]) (hE:∀ x∈xs,E fid [x.sv] []=some (.bool (p x),[])):E 145 [.arr (xs.map Tm.d),.fn fid []] []=some (.int .i64 (CE p xs 0),[]):=by
 refine Al DM C3 (of_decide_eq_true rfl) ?_
 simp (disch:=omega) only [C2,go_sem,Ab]
 refine go_loop (α:=Int) (fun a=>⟨slots 19 0 [(0,.arr (xs.map Tm.d)),(1,.fn fid []),(7,.int .i64 xs.length),(8,.int .i64 a)],[]⟩) (fun a=>∃ k:Nat,a=k∧k≤(xs).length∧CE p (xs.drop k) a=CE p xs 0) (fun a=>(xs).length-(a).toNat) 0 ⟨0,rfl,zX _,by rw [zV]⟩ (by simp (disch:=omega) only [go_sem,Ab]) ?_
 rintro i ⟨k,hi,hk,hR⟩
 have hni:i.toNat=k:=by omega
 have hni1:(i+1).toNat=k+1:=by omega
 rcases zJ k (xs).length with hlt | hge
 ·have hg':=get_at Tm.d hlt
  rw [Tm.d_eq] at hg'
  have hc:=hE xs[k] (zF hlt)
  rw [zL hlt,CE] at hR
  cases hp:p xs[k] with
  | true =>
   rw [hp] at hc hR
   simp (disch:=omega) only [go_sem,Ab,hni,hg',hc,hg,hm]
   simpa using hR
  | false =>
   rw [hp] at hc hR
   simp (disch:=omega) only [go_sem,Ab,hni,hg',hc,hg,hm]
   exact ⟨i+1,⟨k+1,by omega,hlt,by simpa using hR⟩,by omega,by first | trivial | rfl⟩
 ·rw [zM hge,CE] at hR
  simp (disch:=omega) only [go_sem,Ab,hni]
  exact hR
theorem J6 (fid:Nat) (p:Tm→Bool) (xs:List Tm) (hl:xs.length≤1099511627776) (hg:HP Tryz.prog fid=true) (hm:(modes fid).hand=[]) (hE:∀ x∈xs,E fid [x.sv] []=some (.bool (p x),[])):E 126 [.arr (xs.map Tm.d),.fn fid []] []=some (.bool (xs.any p),[]):=by
 have h:=Lz fid p xs hl hg hm hE
 refine Al D2 Ct (of_decide_eq_true rfl) ?_
 simp (disch:=omega) only [Cs,go_sem,Ab,h,C3]
 rw [Hf]
def D3:SC:=(.seq (.reg [⟨some 1,none,.boxv 30 2 (.t 0)⟩,⟨some 2,none,.mv (.c (.bool false))⟩]) (.seq (.seq (.reg [⟨some 3,none,.faddr 0 (.t 1)⟩,⟨some 4,none,.load false 1 (.t 3)⟩,⟨some 5,none,.call 42 [(.t 4)]⟩]) (.cond (.t 5) (.seq (.reg [⟨some 6,none,.faddr 1 (.t 1)⟩,⟨some 7,none,.load false 1 (.t 6)⟩,⟨some 8,none,.len false (.t 7)⟩,⟨some 9,none,.bin .eql false (.t 8) (.c (.int .i64 0))⟩,⟨some 2,none,.mv (.t 9)⟩]) .ret) .skip)) (.seq (.reg [⟨some 10,none,.faddr 0 (.t 1)⟩,⟨some 11,none,.load false 1 (.t 10)⟩,⟨some 12,none,.call 80 [(.t 11)]⟩,⟨some 13,none,.mv (.t 12)⟩,⟨(some 14),(some (13,true)),(.faddr 1 (.t 1))⟩,⟨(some 15),(some (13,true)),(.load false 1 (.t 14))⟩,⟨(some 16),(some (13,true)),(.len false (.t 15))⟩,⟨(some 17),(some (13,true)),(.bin .leq false (.t 16) (.c (.int .i64 4)))⟩,⟨some 18,none,.pick (.t 13) (.t 17) (.c (.bool false))⟩,⟨some 19,none,.mv (.t 18)⟩,⟨(some 20),(some (19,true)),(.faddr 1 (.t 1))⟩,⟨(some 21),(some (19,true)),(.load false 1 (.t 20))⟩,⟨(some 22),(some (19,true)),(.call 126 [(.t 21),(.c (.fn 127 []))])⟩,⟨(some 23),(some (19,true)),(.un .not (.t 22))⟩,⟨some 24,none,.pick (.t 19) (.t 23) (.c (.bool false))⟩,⟨some 2,none,.mv (.t 24)⟩]) .ret)))
theorem Ep:As Tryz.prog 109=some ⟨25,D3,[(.tmp 2)]⟩:=by kernel_rfl
theorem Br:modes 109=⟨[],.asis,none,false⟩:=by unfold modes; rfl
def G3:SC:=(.seq (.reg [⟨some 1,none,.boxv 30 2 (.t 0)⟩,⟨some 2,none,.mv (.c (.bool false))⟩]) (.seq (.reg [⟨some 3,none,.load true 2 (.t 1)⟩,⟨some 4,none,.call 109 [(.t 3)]⟩,⟨some 5,none,.un .not (.t 4)⟩,⟨some 2,none,.mv (.t 5)⟩]) .ret))
theorem Ka:As Tryz.prog 127=some ⟨6,G3,[(.tmp 2)]⟩:=by kernel_rfl
theorem G4:modes 127=⟨[],.asis,none,false⟩:=by unfold modes; rfl
theorem Kb:HP Tryz.prog 127=true:=by kernel_rfl
theorem Tm.any_not (xs:List Tm):(!xs.any fun y=>!y.names)=Tm.Gb xs:=by
 rw [Tm.IK]
 induction xs with
 | nil=>rfl
 | cons x xs ih=>simp only [yE,yI,Bool.not_or,Bool.not_not,ih]
theorem Qb (x:Tm) (hn:x.nodes≤1099511627776) (ih:∀ y∈x.args,E 109 [y.sv] []=some (.bool y.names,[])):E 109 [x.sv] []=some (.bool x.names,[]):=by
 have hl:=Tm.length_le x.args
 have hx:=Tm.nodes_eq x
 have h1:∀ y∈x.args,E 127 [y.sv] []=some (.bool (!y.names),[]):=fun y hy=>by
  have h:=ih y hy
  refine Al Ka G4 (of_decide_eq_true rfl) ?_
  simp (disch:=omega) only [G3,go_sem,Ab,h,Br]
 have h2:=J6 127 (fun y=>!y.names) x.args (by omega) Kb (by rw [G4]) h1
 rw [Tm.JX,← Tm.any_not]
 cases hv:Cj x.name with
 | true =>
  have h3:=CS x.name
  rw [hv] at h3
  refine Al Ep Br (of_decide_eq_true rfl) ?_
  simp (disch:=omega) only [D3,go_sem,Ab,h3,Ae]
  rw [Ia]; cases x.args <;> simp <;> omega
 | false =>
  have h3:=CS x.name
  rw [hv] at h3
  have h4:=J3 x.name
  cases hs:Ee x.name with
  | false =>
   rw [hs] at h4
   refine Al Ep Br (of_decide_eq_true rfl) ?_
   simp (disch:=omega) only [D3,go_sem,Ab,h2,h3,h4,Ae,Bf]
  | true =>
   rw [hs] at h4
   rcases zJ 4 x.args.length with h5 | h5
   ·refine Al Ep Br (of_decide_eq_true rfl) ?_
    simp (disch:=omega) only [D3,go_sem,Ab,h2,h3,h4,Ae,Bf]
    simp; omega
   ·refine Al Ep Br (of_decide_eq_true rfl) ?_
    simp (disch:=omega) only [D3,go_sem,Ab,h2,h3,h4,Ae,Bf,Ct]
    simp [h5]
theorem H3 (x:Tm) (hn:x.nodes≤1099511627776):E 109 [x.sv] []=some (.bool x.names,[]) :=
 Qb x hn fun y hy=>H3 y (by have:=Tm.nodes_mem hy; have:=Tm.nodes_eq x; omega)
termination_by SizeOf.sizeOf x
decreasing_by exact Tm.lt_of_mem hy
def DN:SC:=(.seq (.reg [⟨some 1,none,.boxv 30 2 (.t 0)⟩,⟨some 2,none,.mv (.c (.bool false))⟩]) (.seq (.seq (.reg [⟨some 4,none,.faddr 0 (.t 1)⟩,⟨some 5,none,.load false 1 (.t 4)⟩,⟨some 6,none,.call 62 [(.t 5)]⟩]) (.cond (.t 6) (.seq (.reg [⟨some 7,none,.faddr 1 (.t 1)⟩,⟨some 8,none,.load false 1 (.t 7)⟩,⟨some 9,none,.len false (.t 8)⟩,⟨some 10,none,.bin .eql false (.t 9) (.c (.int .i64 0))⟩,⟨some 2,none,.mv (.t 10)⟩]) .ret) .skip)) (.seq (.seq (.reg [⟨some 11,none,.faddr 0 (.t 1)⟩,⟨some 12,none,.load false 1 (.t 11)⟩,⟨some 13,none,.call 95 [(.t 12)]⟩,⟨some 14,none,.un .not (.t 13)⟩,⟨some 15,none,.mv (.t 14)⟩,⟨(some 16),(some (15,false)),(.faddr 1 (.t 1))⟩,⟨(some 17),(some (15,false)),(.load false 1 (.t 16))⟩,⟨(some 18),(some (15,false)),(.len false (.t 17))⟩,⟨(some 19),(some (15,false)),(.bin .gtr false (.t 18) (.c (.int .i64 4)))⟩,⟨some 20,none,.pick (.t 15) (.c (.bool true)) (.t 19)⟩]) (.cond (.t 20) (.seq (.reg [⟨some 2,none,.mv (.c (.bool false))⟩]) .ret) .skip)) (.seq (.seq (.reg [⟨some 3,none,.mv (.c (.int .i64 0))⟩]) (.block 0 (.loop [0,1,0,1,0,0,0,0,0,0,0,0,0,0,0,0,0,0,0,0,0,0,0,0,0,0,0,0,0,0,0,0,0,0,0] (.seq (.seq (.reg [⟨some 21,none,.mv (.t 3)⟩,⟨some 22,none,.faddr 1 (.t 1)⟩,⟨some 23,none,.load false 1 (.t 22)⟩,⟨some 24,none,.len false (.t 23)⟩,⟨some 25,none,.bin .lss false (.t 21) (.t 24)⟩]) (.cond (.t 25) .skip (.exit 0))) (.seq (.block 1 (.seq (.reg [⟨some 28,none,.faddr 1 (.t 1)⟩,⟨some 29,none,.load false 1 (.t 28)⟩,⟨some 30,none,.mv (.t 3)⟩,⟨some 31,none,.iaddr 2 (.t 29) (.t 30)⟩,⟨some 32,none,.load true 2 (.t 31)⟩,⟨some 33,none,.call 142 [(.t 32)]⟩,⟨some 34,none,.un .not (.t 33)⟩]) (.cond (.t 34) (.seq (.reg [⟨some 2,none,.mv (.c (.bool false))⟩]) .ret) .skip))) (.reg [⟨some 26,none,.mv (.t 3)⟩,⟨some 27,none,.bin .add false (.t 26) (.c (.int .i64 1))⟩,⟨some 3,none,.mv (.t 27)⟩])))))) (.seq (.reg [⟨some 2,none,.mv (.c (.bool true))⟩]) .ret)))))
theorem EC:As Tryz.prog 142=some ⟨35,DN,[(.tmp 2)]⟩:=by kernel_rfl
theorem Bs:modes 142=⟨[],.asis,none,false⟩:=by unfold modes; rfl
theorem Rg (x:Tm) (hn:x.nodes≤1099511627776) (ih:∀ y∈x.args,E 142 [y.sv] []=some (.bool y.names,[])):E 142 [x.sv] []=some (.bool x.names,[]):=by
 have hl:=Tm.length_le x.args
 have hx:=Tm.nodes_eq x
 have h3:=FG x.name
 have h4:=J4 x.name
 rw [Tm.JX]
 cases hv:Cj x.name with
 | true =>
  rw [hv] at h3
  refine Al EC Bs (of_decide_eq_true rfl) ?_
  simp (disch:=omega) only [DN,go_sem,Ab,h3,An]
  rw [Ia]; cases x.args <;> simp <;> omega
 | false =>
  rw [hv] at h3
  cases hs:Ee x.name with
  | false =>
   rw [hs] at h4
   refine Al EC Bs (of_decide_eq_true rfl) ?_
   simp (disch:=omega) only [DN,go_sem,Ab,h3,h4,An,AM]
  | true =>
   rw [hs] at h4
   rcases zJ 4 x.args.length with h5 | h5
   ·refine Al EC Bs (of_decide_eq_true rfl) ?_
    simp (disch:=omega) only [DN,go_sem,Ab,h3,h4,An,AM]
    simp; omega
   ·refine Al EC Bs (of_decide_eq_true rfl) ?_
    simp (disch:=omega) only [DN,go_sem,Ab,h3,h4,An,AM]
    refine go_loop (α:=Int) (fun a=>⟨slots 35 0 [(1,.ptr 0 0),(3,.int .i64 a)],[.box 30 [.str x.name,.arr (x.args.map Tm.d)]]⟩) (fun a=>∃ k:Nat,a=k∧k≤(x.args).length∧Tm.Gb (x.args.drop k)=Tm.Gb x.args) (fun a=>(x.args).length-(a).toNat) 0 ⟨0,rfl,zX _,by rw [zV]⟩ (by simp (disch:=omega) only [go_sem,Ab]) ?_
    rintro i ⟨k,hi,hk,hR⟩
    have hni:i.toNat=k:=by omega
    have hni1:(i+1).toNat=k+1:=by omega
    rcases zJ k (x.args).length with hlt | hge
    ·have hg:=get_at Tm.d hlt
     rw [Tm.d_eq] at hg
     have hc:=ih x.args[k] (zF hlt)
     rw [zL hlt,Tm.Gb] at hR
     cases hp:x.args[k].names with
     | true =>
      rw [hp] at hc hR
      simp (disch:=omega) only [go_sem,Ab,hni,hg,hc,Bs]
      exact ⟨i+1,⟨k+1,by omega,hlt,by simpa using hR⟩,by omega,by first | trivial | rfl⟩
     | false =>
      rw [hp] at hc hR
      simp (disch:=omega) only [go_sem,Ab,hni,hg,hc,Bs]
      simp at hR ⊢; exact fun _=>hR
    ·rw [zM hge,Tm.Gb] at hR
     simp (disch:=omega) only [go_sem,Ab,hni]
     simp [h5,← hR]
theorem IM (x:Tm) (hn:x.nodes≤1099511627776):E 142 [x.sv] []=some (.bool x.names,[]) :=
 Rg x hn fun y hy=>IM y (by have:=Tm.nodes_mem hy; have:=Tm.nodes_eq x; omega)
termination_by SizeOf.sizeOf x
decreasing_by exact Tm.lt_of_mem hy
def Gd:SC:=(.seq (.reg [⟨some 1,none,.boxv 30 2 (.t 0)⟩,⟨some 2,none,.mv (.c (.bool false))⟩]) (.seq (.reg [⟨some 3,none,.load true 2 (.t 1)⟩,⟨some 4,none,.call 124 [(.t 3)]⟩,⟨some 5,none,.bin .leq false (.t 4) (.c (.int .i64 30))⟩,⟨some 6,none,.mv (.t 5)⟩,⟨(some 7),(some (6,true)),(.load true 2 (.t 1))⟩,⟨(some 8),(some (6,true)),(.call 125 [(.t 7)])⟩,⟨(some 9),(some (6,true)),(.bin .leq false (.t 8) (.c (.int .i64 8)))⟩,⟨some 10,none,.pick (.t 6) (.t 9) (.c (.bool false))⟩,⟨some 2,none,.mv (.t 10)⟩]) .ret))
theorem Im:As Tryz.prog 108=some ⟨11,Gd,[(.tmp 2)]⟩:=by kernel_rfl
theorem BU:modes 108=⟨[],.asis,none,false⟩:=by unfold modes; rfl
def GD:SC:=(.seq (.reg [⟨some 1,none,.boxv 30 2 (.t 0)⟩,⟨some 2,none,.mv (.c (.bool false))⟩]) (.seq (.reg [⟨some 3,none,.load true 2 (.t 1)⟩,⟨some 4,none,.call 151 [(.t 3),(.c (.int .i64 30))]⟩,⟨some 5,none,.bin .leq false (.t 4) (.c (.int .i64 30))⟩,⟨some 6,none,.mv (.t 5)⟩,⟨(some 7),(some (6,true)),(.load true 2 (.t 1))⟩,⟨(some 8),(some (6,true)),(.call 152 [(.t 7)])⟩,⟨(some 9),(some (6,true)),(.bin .leq false (.t 8) (.c (.int .i64 8)))⟩,⟨some 10,none,.pick (.t 6) (.t 9) (.c (.bool false))⟩,⟨some 2,none,.mv (.t 10)⟩]) .ret))
theorem Jd:As Tryz.prog 141=some ⟨11,GD,[(.tmp 2)]⟩:=by kernel_rfl
theorem Ck:modes 141=⟨[],.asis,none,false⟩:=by unfold modes; rfl
def Ex:SC:=(.seq (.reg [⟨some 1,none,.boxv 30 2 (.t 0)⟩,⟨some 2,none,.mv (.c (.bool false))⟩]) (.seq (.reg [⟨some 3,none,.load true 2 (.t 1)⟩,⟨some 4,none,.call 108 [(.t 3)]⟩,⟨some 5,none,.mv (.t 4)⟩,⟨(some 6),(some (5,true)),(.load true 2 (.t 1))⟩,⟨(some 7),(some (5,true)),(.call 109 [(.t 6)])⟩,⟨some 8,none,.pick (.t 5) (.t 7) (.c (.bool false))⟩,⟨some 2,none,.mv (.t 8)⟩]) .ret))
theorem Ge:As Tryz.prog 110=some ⟨9,Ex,[(.tmp 2)]⟩:=by kernel_rfl
theorem BI:modes 110=⟨[],.asis,none,false⟩:=by unfold modes; rfl
def GE:SC:=(.seq (.reg [⟨some 1,none,.boxv 30 2 (.t 0)⟩,⟨some 2,none,.mv (.c (.bool false))⟩]) (.seq (.reg [⟨some 3,none,.load true 2 (.t 1)⟩,⟨some 4,none,.call 141 [(.t 3)]⟩,⟨some 5,none,.mv (.t 4)⟩,⟨(some 6),(some (5,true)),(.load true 2 (.t 1))⟩,⟨(some 7),(some (5,true)),(.call 142 [(.t 6)])⟩,⟨some 8,none,.pick (.t 5) (.t 7) (.c (.bool false))⟩,⟨some 2,none,.mv (.t 8)⟩]) .ret))
theorem Je:As Tryz.prog 143=some ⟨9,GE,[(.tmp 2)]⟩:=by kernel_rfl
theorem CI:modes 143=⟨[],.asis,none,false⟩:=by unfold modes; rfl
def G5:SC:=(.seq (.reg [⟨some 1,none,.boxv 30 2 (.t 0)⟩,⟨some 2,none,.mv (.c (.bool false))⟩]) (.seq (.reg [⟨some 3,none,.faddr 0 (.t 1)⟩,⟨some 4,none,.load false 1 (.t 3)⟩,⟨(some 5),none,(.bin .eql false (.t 4) (.c (.str ⟨#[61]⟩)))⟩,⟨some 2,none,.mv (.t 5)⟩]) .ret))
theorem Kc:As Tryz.prog 88=some ⟨6,G5,[(.tmp 2)]⟩:=by kernel_rfl
theorem Bk:modes 88=⟨[],.asis,none,false⟩:=by unfold modes; rfl
def BY:SC:=(.seq (.reg [⟨some 1,none,.boxv 30 2 (.t 0)⟩,⟨some 2,none,.mv (.c (.bool false))⟩]) (.seq (.seq (.reg [⟨some 3,none,.load true 2 (.t 1)⟩,⟨some 4,none,.call 88 [(.t 3)]⟩]) (.cond (.t 4) (.seq (.reg [⟨some 5,none,.faddr 1 (.t 1)⟩,⟨some 6,none,.load false 1 (.t 5)⟩,⟨some 7,none,.len false (.t 6)⟩,⟨some 8,none,.bin .eql false (.t 7) (.c (.int .i64 2))⟩,⟨some 9,none,.mv (.t 8)⟩,⟨(some 10),(some (9,true)),(.load true 2 (.t 1))⟩,⟨(some 11),(some (9,true)),(.call 108 [(.t 10)])⟩,⟨some 12,none,.pick (.t 9) (.t 11) (.c (.bool false))⟩,⟨some 13,none,.mv (.t 12)⟩,⟨(some 14),(some (13,true)),(.faddr 1 (.t 1))⟩,⟨(some 15),(some (13,true)),(.load false 1 (.t 14))⟩,⟨(some 16),(some (13,true)),(.iaddr 2 (.t 15) (.c (.int .i64 0)))⟩,⟨(some 17),(some (13,true)),(.load true 2 (.t 16))⟩,⟨(some 18),(some (13,true)),(.call 109 [(.t 17)])⟩,⟨some 19,none,.pick (.t 13) (.t 18) (.c (.bool false))⟩,⟨some 20,none,.mv (.t 19)⟩,⟨(some 21),(some (20,true)),(.faddr 1 (.t 1))⟩,⟨(some 22),(some (20,true)),(.load false 1 (.t 21))⟩,⟨(some 23),(some (20,true)),(.iaddr 2 (.t 22) (.c (.int .i64 1)))⟩,⟨(some 24),(some (20,true)),(.load true 2 (.t 23))⟩,⟨(some 25),(some (20,true)),(.call 109 [(.t 24)])⟩,⟨some 26,none,.pick (.t 20) (.t 25) (.c (.bool false))⟩,⟨some 2,none,.mv (.t 26)⟩]) .ret) .skip)) (.seq (.reg [⟨some 27,none,.faddr 0 (.t 1)⟩,⟨some 28,none,.load false 1 (.t 27)⟩,⟨some 29,none,.call 80 [(.t 28)]⟩,⟨some 30,none,.mv (.t 29)⟩,⟨(some 31),(some (30,true)),(.load true 2 (.t 1))⟩,⟨(some 32),(some (30,true)),(.call 110 [(.t 31)])⟩,⟨some 33,none,.pick (.t 30) (.t 32) (.c (.bool false))⟩,⟨some 2,none,.mv (.t 33)⟩]) .ret)))
theorem Cw:As Tryz.prog 85=some ⟨34,BY,[(.tmp 2)]⟩:=by kernel_rfl
theorem Ad:modes 85=⟨[],.asis,none,false⟩:=by unfold modes; rfl
def CX:SC:=(.seq (.reg [⟨some 1,none,.boxv 30 2 (.t 0)⟩,⟨some 2,none,.mv (.c (.bool false))⟩]) (.seq (.seq (.reg [⟨some 3,none,.faddr 0 (.t 1)⟩,⟨some 4,none,.load false 1 (.t 3)⟩,⟨(some 5),none,(.bin .eql false (.t 4) (.c (.str ⟨#[61]⟩)))⟩]) (.cond (.t 5) (.seq (.reg [⟨some 6,none,.faddr 1 (.t 1)⟩,⟨some 7,none,.load false 1 (.t 6)⟩,⟨some 8,none,.len false (.t 7)⟩,⟨some 9,none,.bin .eql false (.t 8) (.c (.int .i64 2))⟩,⟨some 10,none,.mv (.t 9)⟩,⟨(some 11),(some (10,true)),(.load true 2 (.t 1))⟩,⟨(some 12),(some (10,true)),(.call 141 [(.t 11)])⟩,⟨some 13,none,.pick (.t 10) (.t 12) (.c (.bool false))⟩,⟨some 14,none,.mv (.t 13)⟩,⟨(some 15),(some (14,true)),(.faddr 1 (.t 1))⟩,⟨(some 16),(some (14,true)),(.load false 1 (.t 15))⟩,⟨(some 17),(some (14,true)),(.iaddr 2 (.t 16) (.c (.int .i64 0)))⟩,⟨(some 18),(some (14,true)),(.load true 2 (.t 17))⟩,⟨(some 19),(some (14,true)),(.call 142 [(.t 18)])⟩,⟨some 20,none,.pick (.t 14) (.t 19) (.c (.bool false))⟩,⟨some 21,none,.mv (.t 20)⟩,⟨(some 22),(some (21,true)),(.faddr 1 (.t 1))⟩,⟨(some 23),(some (21,true)),(.load false 1 (.t 22))⟩,⟨(some 24),(some (21,true)),(.iaddr 2 (.t 23) (.c (.int .i64 1)))⟩,⟨(some 25),(some (21,true)),(.load true 2 (.t 24))⟩,⟨(some 26),(some (21,true)),(.call 142 [(.t 25)])⟩,⟨some 27,none,.pick (.t 21) (.t 26) (.c (.bool false))⟩,⟨some 2,none,.mv (.t 27)⟩]) .ret) .skip)) (.seq (.reg [⟨some 28,none,.faddr 0 (.t 1)⟩,⟨some 29,none,.load false 1 (.t 28)⟩,⟨some 30,none,.call 95 [(.t 29)]⟩,⟨some 31,none,.mv (.t 30)⟩,⟨(some 32),(some (31,true)),(.load true 2 (.t 1))⟩,⟨(some 33),(some (31,true)),(.call 143 [(.t 32)])⟩,⟨some 34,none,.pick (.t 31) (.t 33) (.c (.bool false))⟩,⟨some 2,none,.mv (.t 34)⟩]) .ret)))
theorem D8:As Tryz.prog 118=some ⟨35,CX,[(.tmp 2)]⟩:=by kernel_rfl
theorem Ao:modes 118=⟨[],.asis,none,false⟩:=by unfold modes; rfl
theorem Oj (x:Tm) (hn:x.nodes≤1099511627776):E 108 [x.sv] []=some (.bool x.small,[]):=by
 have h1:=U6 x hn
 have h2:=Sh x hn
 have h3:=Tm.cap_spec x
 have h4:=Tm.many_spec x 30
 unfold Tm.small
 rcases zJ 30 x.nodes with h5 | h5
 ·rw [decide_eq_false (by omega),zP]
  refine Al Im BU (of_decide_eq_true rfl) ?_
  simp (disch:=omega) only [Gd,go_sem,Ab,h1,h2,Fu,FH]
 ·rw [decide_eq_true h5,zW]
  refine Al Im BU (of_decide_eq_true rfl) ?_
  simp (disch:=omega) only [Gd,go_sem,Ab,h1,h2,Fu,FH]
  rcases zJ 8 x.deep with h6 | h6
  ·rw [decide_eq_false (by omega),Aj (by omega)]
  ·rw [decide_eq_true h6,A1 (by omega)]
theorem Qc (x:Tm) (hn:x.nodes≤1099511627776):E 141 [x.sv] []=some (.bool x.small,[]):=by
 have h1:=U7 x 30 (by omega) (by omega) hn
 have h2:=Oi x hn
 have h3:=Tm.cap_spec x
 have h4:=Tm.many_spec x 30
 unfold Tm.small
 rcases zJ 30 x.nodes with h5 | h5
 ·rw [decide_eq_false (by omega),zP]
  refine Al Jd Ck (of_decide_eq_true rfl) ?_
  simp (disch:=omega) only [GD,go_sem,Ab,h1,h2,Ej,EB]
 ·rw [decide_eq_true h5,zW]
  refine Al Jd Ck (of_decide_eq_true rfl) ?_
  simp (disch:=omega) only [GD,go_sem,Ab,h1,h2,Ej,EB]
  rcases zJ 8 x.deep with h6 | h6
  ·rw [decide_eq_false (by omega),Aj (by omega)]
  ·rw [decide_eq_true h6,A1 (by omega)]
theorem Nv (x:Tm) (hn:x.nodes≤1099511627776):E 110 [x.sv] []=some (.bool x.valid,[]):=by
 have h1:=Oj x hn
 have h2:=H3 x hn
 unfold Tm.valid
 cases h3:x.small <;> rw [h3] at h1
 ·refine Al Ge BI (of_decide_eq_true rfl) ?_
  simp (disch:=omega) only [Ex,go_sem,Ab,h1,h2,BU,Br]
 ·refine Al Ge BI (of_decide_eq_true rfl) ?_
  simp (disch:=omega) only [Ex,go_sem,Ab,h1,h2,BU,Br]
theorem U9 (x:Tm) (hn:x.nodes≤1099511627776):E 143 [x.sv] []=some (.bool x.valid,[]):=by
 have h1:=Qc x hn
 have h2:=IM x hn
 unfold Tm.valid
 cases h3:x.small <;> rw [h3] at h1
 ·refine Al Je CI (of_decide_eq_true rfl) ?_
  simp (disch:=omega) only [GE,go_sem,Ab,h1,h2,Ck,Bs]
 ·refine Al Je CI (of_decide_eq_true rfl) ?_
  simp (disch:=omega) only [GE,go_sem,Ab,h1,h2,Ck,Bs]
theorem H4 (x:Tm):E 88 [x.sv] []=some (.bool x.eqn,[]):=by
 unfold Tm.eqn
 refine Al Kc Bk (of_decide_eq_true rfl) ?_
 simp (disch:=omega) only [G5,go_sem,Ab]
theorem Nw (x:Tm) (hn:x.nodes≤1099511627776):E 85 [x.sv] []=some (.bool x.atom,[]):=by
 have hl:=Tm.length_le x.args
 have hx:=Tm.nodes_eq x
 have h0:=H4 x
 have h1:=Oj x hn
 have h2:=J3 x.name
 have h3:=Nv x hn
 have hE:dec (x.name=⟨#[61]⟩)=x.eqn:=rfl
 unfold Tm.atom
 cases he:x.eqn <;> rw [he] at h0 hE
 ·rw [if_neg (by simp)]
  cases hs:Ee x.name <;> rw [hs] at h2
  ·refine Al Cw Ad (of_decide_eq_true rfl) ?_
   simp (disch:=omega) only [BY,go_sem,Ab,h0,h1,h2,h3,hE,BU,Br,Bf,BI,Bk]
  ·refine Al Cw Ad (of_decide_eq_true rfl) ?_
   simp (disch:=omega) only [BY,go_sem,Ab,h0,h1,h2,h3,hE,BU,Br,Bf,BI,Bk]
 ·rw [if_pos rfl]
  by_cases hc:x.args.length=2
  ·have hlt0:0<x.args.length:=by omega
   have hlt1:1<x.args.length:=by omega
   have hg0:=get_at Tm.d hlt0
   have hg1:=get_at Tm.d hlt1
   rw [Tm.d_eq] at hg0 hg1
   have hb0:=Tm.nodes_le x.args 0 hlt0
   have hb1:=Tm.nodes_le x.args 1 hlt1
   have hn0:=H3 x.args[0] (by omega)
   have hn1:=H3 x.args[1] (by omega)
   rw [Og hc,show (x.args.length == 2)=true by simpa using hc]
   cases hs:x.small <;> rw [hs] at h1
   ·refine Al Cw Ad (of_decide_eq_true rfl) ?_
    simp (disch:=omega) only [BY,go_sem,Ab,h0,h1,h2,h3,hE,hg0,hg1,hn0,hn1,hc,BU,Br,Bf,BI,Bk]
    try simp
   ·cases hq:(x.args[0]'hlt0).names <;> rw [hq] at hn0
    ·refine Al Cw Ad (of_decide_eq_true rfl) ?_
     simp (disch:=omega) only [BY,go_sem,Ab,h0,h1,h2,h3,hE,hg0,hg1,hn0,hn1,hc,BU,Br,Bf,BI,Bk]
     try simp
    ·refine Al Cw Ad (of_decide_eq_true rfl) ?_
     simp (disch:=omega) only [BY,go_sem,Ab,h0,h1,h2,h3,hE,hg0,hg1,hn0,hn1,hc,BU,Br,Bf,BI,Bk]
     try simp
  ·refine Al Cw Ad (of_decide_eq_true rfl) ?_
   simp (disch:=omega) only [BY,go_sem,Ab,h0,h1,h2,h3,hE,BU,Br,Bf,BI,Bk]
   rw [show (x.args.length == 2)=false by simpa using hc]
   try simp
theorem UA (x:Tm) (hn:x.nodes≤1099511627776):E 118 [x.sv] []=some (.bool x.atom,[]):=by
 have hl:=Tm.length_le x.args
 have hx:=Tm.nodes_eq x
 have h0:=H4 x
 have h1:=Qc x hn
 have h2:=J4 x.name
 have h3:=U9 x hn
 have hE:dec (x.name=⟨#[61]⟩)=x.eqn:=rfl
 unfold Tm.atom
 cases he:x.eqn <;> rw [he] at h0 hE
 ·rw [if_neg (by simp)]
  cases hs:Ee x.name <;> rw [hs] at h2
  ·refine Al D8 Ao (of_decide_eq_true rfl) ?_
   simp (disch:=omega) only [CX,go_sem,Ab,h0,h1,h2,h3,hE,Ck,Bs,AM,CI]
  ·refine Al D8 Ao (of_decide_eq_true rfl) ?_
   simp (disch:=omega) only [CX,go_sem,Ab,h0,h1,h2,h3,hE,Ck,Bs,AM,CI]
 ·rw [if_pos rfl]
  by_cases hc:x.args.length=2
  ·have hlt0:0<x.args.length:=by omega
   have hlt1:1<x.args.length:=by omega
   have hg0:=get_at Tm.d hlt0
   have hg1:=get_at Tm.d hlt1
   rw [Tm.d_eq] at hg0 hg1
   have hb0:=Tm.nodes_le x.args 0 hlt0
   have hb1:=Tm.nodes_le x.args 1 hlt1
   have hn0:=IM x.args[0] (by omega)
   have hn1:=IM x.args[1] (by omega)
   rw [Og hc,show (x.args.length == 2)=true by simpa using hc]
   cases hs:x.small <;> rw [hs] at h1
   ·refine Al D8 Ao (of_decide_eq_true rfl) ?_
    simp (disch:=omega) only [CX,go_sem,Ab,h0,h1,h2,h3,hE,hg0,hg1,hn0,hn1,hc,Ck,Bs,AM,CI]
    try simp
   ·cases hq:(x.args[0]'hlt0).names <;> rw [hq] at hn0
    ·refine Al D8 Ao (of_decide_eq_true rfl) ?_
     simp (disch:=omega) only [CX,go_sem,Ab,h0,h1,h2,h3,hE,hg0,hg1,hn0,hn1,hc,Ck,Bs,AM,CI]
     try simp
    ·refine Al D8 Ao (of_decide_eq_true rfl) ?_
     simp (disch:=omega) only [CX,go_sem,Ab,h0,h1,h2,h3,hE,hg0,hg1,hn0,hn1,hc,Ck,Bs,AM,CI]
     try simp
  ·refine Al D8 Ao (of_decide_eq_true rfl) ?_
   simp (disch:=omega) only [CX,go_sem,Ab,h0,h1,h2,h3,hE,Ck,Bs,AM,CI]
   rw [show (x.args.length == 2)=false by simpa using hc]
   try simp
theorem Tm.Rh {x:Tm} (h:x.expr=true):x.small=true:=by
 unfold Tm.expr Tm.atom Tm.valid at h
 cases hs:x.small with
 | true=>rfl
 | false =>
  rw [hs] at h
  split at h <;> simp at h
theorem Tm.Ri {x:Tm} (h:x.expr=true):x.nodes≤30:=by
 have:=Tm.Rh h
 unfold Tm.small at this
 rw [zB,decide_eq_true_eq] at this
 exact this.1
theorem Tm.Si {x:Tm} (h:x.eqn=true):Cj x.name=false:=by
 unfold Tm.eqn at h
 rw [Av.1 h]
 kernel_rfl
noncomputable def Rj (a b:ByteArray):Int:=bif strLt a b then -1 else bif dec (a=b) then 0 else 1
noncomputable def Rk (a b:Int):Int:=bif dec (a<b) then -1 else bif dec (b<a) then 1 else 0
def orZ (x y:Int):Int:=if x=0 then y else x
def Jf (s:ByteArray):Bool:=decide (0<s.size)&&(M4 (He s 0) == Cj s)
mutual
def Tm.cok:Tm→Bool
 | .mk n xs=>Jf n&&Tm.Rl xs
def Tm.Rl:List Tm→Bool
 | []=>true
 | x :: xs=>Tm.cok x&&Tm.Rl xs
end
theorem Tm.Rm (x:Tm):x.cok=(Jf x.name&&Tm.Rl x.args):=by
 obtain ⟨n,xs⟩:=x
 rw [Tm.cok]; rfl
theorem Tm.UC {xs:List Tm} (h:Tm.Rl xs=true) {y:Tm} (hy:y∈xs):y.cok=true:=by
 induction xs with
 | nil=>cases hy
 | cons x xs ih =>
  rw [Tm.Rl,zB] at h
  rcases zS.1 hy with rfl | hy
  ·exact h.1
  ·exact ih h.2 hy
structure Ord3 {α:Type} (c:α→α→Int) (a b d:α):Prop where
 anti:c b a=- c a b
 zero:c a b=0 ↔ a=b
 trans:c a b<0→c b d<0→c a d<0
def Gf:SC:=(.seq (.reg [⟨some 2,none,.mv (.c (.bool false))⟩]) (.seq (.reg [⟨some 3,none,.mv (.t 0)⟩,⟨some 4,none,.bin .geq false (.t 3) (.c (.int .u8 65))⟩,⟨some 5,none,.mv (.t 4)⟩,⟨(some 6),(some (5,true)),(.mv (.t 0))⟩,⟨(some 7),(some (5,true)),(.bin .leq false (.t 6) (.c (.int .u8 90)))⟩,⟨some 8,none,.pick (.t 5) (.t 7) (.c (.bool false))⟩,⟨some 2,none,.mv (.t 8)⟩]) .ret))
theorem Io:As Tryz.prog 77=some ⟨9,Gf,[(.tmp 2)]⟩:=by kernel_rfl
theorem Gg:modes 77=⟨[],.asis,none,false⟩:=by unfold modes; rfl
theorem H5 {p:Nat→Int→Bool} {s:ByteArray} (h:E7 p s s.size=true) (hs:0<s.size):p 0 (He s 0)=true:=by
 unfold E7 at h
 rw [zT] at h
 exact h 0 (List.mem_range.2 hs)
theorem Tg {s:ByteArray} (h:Cj s=true):Jf s=true:=by
 have h0:=h
 unfold Cj inB at h
 rw [zB,zB,decide_eq_true_eq,decide_eq_true_eq] at h
 have hs:0<s.size:=by omega
 have h1:=H5 h.1 hs
 unfold HI at h1
 unfold Jf
 rw [h0]
 simp at h1
 simp [hs,h1]
theorem Ok {s:ByteArray} (hs:0<s.size) (h:M4 (He s 0)=false):Jf s=true:=by
 have hv:Cj s=false:=by
  rw [Bool.eq_false_iff]
  intro hv
  unfold Cj at hv
  rw [zB] at hv
  have h1:=H5 hv.1 hs
  unfold HI at h1
  rw [h] at h1
  simp at h1
 unfold Jf
 rw [hv,h]
 simp [hs]
theorem Th {s:ByteArray} (h:Ee s=true):Jf s=true:=by
 unfold Ee inB at h
 rw [zB,zB,zB,decide_eq_true_eq,decide_eq_true_eq] at h
 have hs:0<s.size:=by omega
 refine Ok hs ?_
 have h1:=H5 h.1.1 hs
 unfold HH at h1
 simp at h1
 have h2:=h1.1
 unfold Nr at h2
 unfold M4
 simp at h2 ⊢
 omega
theorem Ti {s:ByteArray} (h:s.toList=[61]):Jf s=true:=by
 have hs:s.size=1:=by
  have:=congrArg List.length h
  rw [ByteArray.toList_eq] at this
  simpa using this
 refine Ok (by omega) ?_
 unfold He
 rw [h]
 rfl
mutual
theorem Tm.IN:∀ x:Tm,x.names=true→x.cok=true
 | .mk n xs,h=>by
  rw [Tm.names] at h
  rw [Tm.cok,zB]
  split at h
  ·rename_i hv
   have:xs=[]:=by
    rw [beq_iff_eq] at h
    exact zE h
   subst this
   exact ⟨Tg hv,rfl⟩
  ·rw [zB,zB] at h
   exact ⟨Th h.1.1,Tm.J7 xs h.2⟩
theorem Tm.J7:∀ xs:List Tm,Tm.Gb xs=true→Tm.Rl xs=true
 | [],_=>rfl
 | x :: xs,h=>by
  rw [Tm.Gb,zB] at h
  rw [Tm.Rl,zB]
  exact ⟨Tm.IN x h.1,Tm.J7 xs h.2⟩
end
theorem Tm.UD {x:Tm} (h:x.atom=true):x.cok=true:=by
 unfold Tm.atom at h
 rcases he:x.eqn with _ | _
 ·rw [he,if_neg (by simp),zB] at h
  unfold Tm.valid at h
  rw [zB] at h
  exact Tm.IN x h.2.2
 ·rw [he,if_pos rfl,zB,zB] at h
  unfold Tm.eqn at he
  rw [Av] at he
  rw [Tm.Rm,zB]
  exact ⟨Ti (by rw [he,ByteArray.toList_eq]),Tm.J7 _ h.2⟩
theorem Tj {s:ByteArray} {k:Nat} (h:k<s.size):HV s k=He s k:=by
 rw [←Fa h]
 unfold HV
 rw [show s[k]?=some s[k] from getElem?_pos s k h]; rfl
theorem Tk {s:ByteArray} (h:Jf s=true):0<s.size∧(dec (65≤HV s 0)&&dec (HV s 0≤90))=Cj s:=by
 unfold Jf at h
 rw [zB,decide_eq_true_eq,beq_iff_eq] at h
 refine ⟨h.1,?_⟩
 rw [←h.2,Tj h.1,Ia,Ia]
 unfold M4
 rfl
theorem MC (a:ByteArray):strLt a a=false:=by
 unfold strLt
 have key:∀ l:List UInt8,Op.bytesLess l l=false:=by
  intro l
  induction l with
  | nil=>rfl
  | cons x l ih=>simp [Op.bytesLess,ih]
 exact key _
def Gh:SC:=(.seq (.reg [⟨some 2,none,.mv (.c (.bool false))⟩]) (.seq (.reg [⟨some 3,none,.mv (.t 0)⟩,⟨some 4,none,.mv (.t 0)⟩,⟨some 5,none,.bin .neq false (.t 3) (.t 4)⟩,⟨some 2,none,.mv (.t 5)⟩]) .ret))
theorem J8:As Tryz.prog 122=some ⟨6,Gh,[(.tmp 2)]⟩:=by kernel_rfl
theorem Dx:modes 122=⟨[],.asis,none,false⟩:=by unfold modes; rfl
def HK:SC:=(.seq (.reg [⟨some 2,none,.mv (.c (.bool false))⟩]) (.seq (.reg [⟨some 3,none,.mv (.t 0)⟩,⟨some 4,none,.mv (.t 0)⟩,⟨some 5,none,.bin .neq false (.t 3) (.t 4)⟩,⟨some 2,none,.mv (.t 5)⟩]) .ret))
theorem L1:As Tryz.prog 123=some ⟨6,HK,[(.tmp 2)]⟩:=by kernel_rfl
theorem Er:modes 123=⟨[],.asis,none,false⟩:=by unfold modes; rfl
def CT:SC:=(.seq (.reg [⟨some 4,none,.mv (.c (.int .i64 0))⟩]) (.seq (.reg [⟨some 7,none,.mv (.t 0)⟩,⟨some 8,none,.call 122 [(.t 7)]⟩,⟨some 5,none,.mv (.t 8)⟩]) (.seq (.reg [⟨some 9,none,.mv (.t 1)⟩,⟨some 10,none,.call 122 [(.t 9)]⟩,⟨some 6,none,.mv (.t 10)⟩]) (.seq (.seq (.reg [⟨some 11,none,.mv (.t 5)⟩]) (.cond (.t 11) (.seq (.seq (.reg [⟨some 12,none,.mv (.t 6)⟩]) (.cond (.t 12) (.seq (.reg [⟨some 4,none,.mv (.c (.int .i64 0))⟩]) .ret) .skip)) (.seq (.reg [⟨some 4,none,.mv (.c (.int .i64 (-(0+1))))⟩]) .ret)) .skip)) (.seq (.seq (.reg [⟨some 13,none,.mv (.t 6)⟩]) (.cond (.t 13) (.seq (.reg [⟨some 4,none,.mv (.c (.int .i64 1))⟩]) .ret) .skip)) (.seq (.seq (.reg [⟨some 14,none,.mv (.t 0)⟩,⟨some 15,none,.mv (.t 1)⟩,⟨some 16,none,.bin .lss false (.t 14) (.t 15)⟩]) (.cond (.t 16) (.seq (.reg [⟨some 4,none,.mv (.c (.int .i64 (-(0+1))))⟩]) .ret) .skip)) (.seq (.seq (.reg [⟨some 17,none,.mv (.t 0)⟩,⟨some 18,none,.mv (.t 1)⟩,⟨some 19,none,.bin .gtr false (.t 17) (.t 18)⟩]) (.cond (.t 19) (.seq (.reg [⟨some 4,none,.mv (.c (.int .i64 1))⟩]) .ret) .skip)) (.seq (.reg [⟨some 4,none,.mv (.c (.int .i64 0))⟩]) .ret))))))))
theorem DO:As Tryz.prog 106=some ⟨20,CT,[(.tmp 4)]⟩:=by kernel_rfl
theorem CU:modes 106=⟨[],.asis,none,false⟩:=by unfold modes; rfl
def DF:SC:=(.seq (.reg [⟨some 4,none,.mv (.c (.int .i64 0))⟩]) (.seq (.reg [⟨some 7,none,.mv (.t 0)⟩,⟨some 8,none,.call 123 [(.t 7)]⟩,⟨some 5,none,.mv (.t 8)⟩]) (.seq (.reg [⟨some 9,none,.mv (.t 1)⟩,⟨some 10,none,.call 123 [(.t 9)]⟩,⟨some 6,none,.mv (.t 10)⟩]) (.seq (.seq (.reg [⟨some 11,none,.mv (.t 5)⟩]) (.cond (.t 11) (.seq (.seq (.reg [⟨some 12,none,.mv (.t 6)⟩]) (.cond (.t 12) (.seq (.reg [⟨some 4,none,.mv (.c (.int .i64 0))⟩]) .ret) .skip)) (.seq (.reg [⟨some 4,none,.mv (.c (.int .i64 (-(0+1))))⟩]) .ret)) .skip)) (.seq (.seq (.reg [⟨some 13,none,.mv (.t 6)⟩]) (.cond (.t 13) (.seq (.reg [⟨some 4,none,.mv (.c (.int .i64 1))⟩]) .ret) .skip)) (.seq (.seq (.reg [⟨some 14,none,.mv (.t 0)⟩,⟨some 15,none,.mv (.t 1)⟩,⟨some 16,none,.bin .lss false (.t 14) (.t 15)⟩]) (.cond (.t 16) (.seq (.reg [⟨some 4,none,.mv (.c (.int .i64 (-(0+1))))⟩]) .ret) .skip)) (.seq (.seq (.reg [⟨some 17,none,.mv (.t 0)⟩,⟨some 18,none,.mv (.t 1)⟩,⟨some 19,none,.bin .gtr false (.t 17) (.t 18)⟩]) (.cond (.t 19) (.seq (.reg [⟨some 4,none,.mv (.c (.int .i64 1))⟩]) .ret) .skip)) (.seq (.reg [⟨some 4,none,.mv (.c (.int .i64 0))⟩]) .ret))))))))
theorem ED:As Tryz.prog 107=some ⟨20,DF,[(.tmp 4)]⟩:=by kernel_rfl
theorem DG:modes 107=⟨[],.asis,none,false⟩:=by unfold modes; rfl
def Kd:SC:=(.seq (.reg [⟨some 2,none,.mv (.c (.int .i64 0))⟩]) (.seq (.reg [⟨some 3,none,.mv (.c (.int .i64 0))⟩]) (.seq (.seq (.reg [⟨some 6,none,.mv (.t 0)⟩,⟨some 7,none,.len false (.t 6)⟩,⟨some 8,none,.mv (.c (.int .i64 0))⟩]) (.block 0 (.loop [0,0,0,1,0,0,1,1,1,0,0,0,0,0,0,0,0,0] (.seq (.reg [⟨some 9,none,.bin .lss false (.t 8) (.t 7)⟩]) (.seq (.cond (.t 9) .skip (.exit 0)) (.seq (.block 1 (.seq (.reg [⟨some 10,none,.iaddr 1 (.t 6) (.t 8)⟩,⟨some 11,none,.load false 1 (.t 10)⟩,⟨some 5,none,.mv (.t 11)⟩]) (.seq (.reg [⟨some 12,none,.mv (.t 5)⟩,⟨some 13,none,.mv (.t 3)⟩,⟨some 14,none,.bin .neq false (.t 12) (.t 13)⟩]) (.cond (.t 14) (.seq (.reg [⟨some 15,none,.mv (.t 5)⟩,⟨some 2,none,.mv (.t 15)⟩]) .ret) .skip)))) (.reg [⟨some 16,none,.bin .add false (.t 8) (.c (.int .i64 1))⟩,⟨some 8,none,.mv (.t 16)⟩]))))))) (.seq (.reg [⟨some 17,none,.mv (.t 3)⟩,⟨some 2,none,.mv (.t 17)⟩]) .ret))))
theorem OV:As Tryz.prog 105=some ⟨18,Kd,[(.tmp 2)]⟩:=by kernel_rfl
theorem Ke:modes 105=⟨[],.asis,none,false⟩:=by unfold modes; rfl
theorem Qd (a:ByteArray):E 122 [.str a] []=some (.bool false,[]):=by
 refine Al J8 Dx (of_decide_eq_true rfl) ?_
 simp (disch:=omega) only [Gh,go_sem,Ab]
theorem Qe (a:Int):E 123 [.int .i64 a] []=some (.bool false,[]):=by
 refine Al L1 Er (of_decide_eq_true rfl) ?_
 simp (disch:=omega) only [HK,go_sem,Ab]
theorem Rn (a b:ByteArray):E 106 [.str a,.str b] []=some (.int .i64 (Rj a b),[]):=by
 have h1:=Qd a
 have h2:=Qd b
 unfold Rj
 cases h3:strLt a b
 ·cases h4:dec (a=b)
  ·refine Al DO CU (of_decide_eq_true rfl) ?_
   simp (disch:=omega) only [CT,go_sem,Ab,h1,h2,h3,h4,Dx]
  ·refine Al DO CU (of_decide_eq_true rfl) ?_
   simp (disch:=omega) only [CT,go_sem,Ab,h1,h2,h3,h4,Dx]
 ·refine Al DO CU (of_decide_eq_true rfl) ?_
  simp (disch:=omega) only [CT,go_sem,Ab,h1,h2,h3,Dx]
theorem Ro (a b:Int):E 107 [.int .i64 a,.int .i64 b] []=some (.int .i64 (Rk a b),[]):=by
 have h1:=Qe a
 have h2:=Qe b
 unfold Rk
 cases h3:dec (a<b)
 ·cases h4:dec (b<a)
  ·refine Al ED DG (of_decide_eq_true rfl) ?_
   simp (disch:=omega) only [DF,go_sem,Ab,h1,h2,h3,h4,Er]
  ·refine Al ED DG (of_decide_eq_true rfl) ?_
   simp (disch:=omega) only [DF,go_sem,Ab,h1,h2,h3,h4,Er]
 ·refine Al ED DG (of_decide_eq_true rfl) ?_
  simp (disch:=omega) only [DF,go_sem,Ab,h1,h2,h3,Er]
def orL:List Int→Int
 | []=>0
 | x :: xs=>if x=0 then orL xs else x
theorem Yj (xs:List Int) (hl:xs.length≤1099511627776):E 105 [.arr (xs.map fun n=>[D.int n])] []=some (.int .i64 (orL xs),[]):=by
 refine Al OV Ke (of_decide_eq_true rfl) ?_
 simp (disch:=omega) only [Kd,go_sem,Ab]
 refine go_loop (α:=Int) (fun a=>⟨slots 18 0 [(3,.int .i64 0),(6,.arr (xs.map fun n=>[D.int n])),(7,.int .i64 xs.length),(8,.int .i64 a)],[]⟩) (fun a=>∃ k:Nat,a=k∧k≤(xs).length∧orL (xs.drop k)=orL xs) (fun a=>(xs).length-(a).toNat) 0 ⟨0,rfl,zX _,by rw [zV]⟩ (by simp (disch:=omega) only [go_sem,Ab]) ?_
 rintro i ⟨k,hi,hk,hR⟩
 have hni:i.toNat=k:=by omega
 have hni1:(i+1).toNat=k+1:=by omega
 rcases zJ k (xs).length with hlt | hge
 ·have hg:=get_at (fun n=>[D.int n]) hlt
  rw [zL hlt,orL] at hR
  by_cases h0:xs[k]=0
  ·rw [if_pos h0] at hR
   simp (disch:=omega) only [go_sem,Ab,hni,hg,h0]
   exact ⟨i+1,⟨k+1,by omega,hlt,hR⟩,by omega,by first | trivial | rfl⟩
  ·rw [if_neg h0] at hR
   simp (disch:=omega) only [go_sem,Ab,hni,hg,h0]
   exact hR
 ·rw [zM hge,orL] at hR
  simp (disch:=omega) only [go_sem,Ab,hni]
  exact hR
theorem Ya (a b:Int):E 105 [.arr [[.int a],[.int b]]] []=some (.int .i64 (orZ a b),[]):=by
 have h:=Yj [a,b] (by simp)
 have e:orL [a,b]=orZ a b:=by
  simp only [orL,orZ]
  split
  ·split <;> omega
  ·rfl
 rw [e] at h
 exact h
def Kf:SC:=(.seq (.reg [⟨some 1,none,.boxv 30 2 (.t 0)⟩,⟨some 2,none,.mv (.c (.bool false))⟩]) (.seq (.reg [⟨some 3,none,.faddr 0 (.t 1)⟩,⟨some 4,none,.load false 1 (.t 3)⟩,⟨some 5,none,.idx (.t 4) (.c (.int .i64 0))⟩,⟨some 6,none,.call 77 [(.t 5)]⟩,⟨some 2,none,.mv (.t 6)⟩]) .ret))
theorem OW:As Tryz.prog 111=some ⟨7,Kf,[(.tmp 2)]⟩:=by kernel_rfl
theorem Dy:modes 111=⟨[],.asis,none,false⟩:=by unfold modes; rfl
theorem Tn (n:Int):E 77 [.int .u8 n] []=some (.bool (dec (65≤n)&&dec (n≤90)),[]):=by
 cases h1:dec (65≤n)
 ·refine Al Io Gg (of_decide_eq_true rfl) ?_
  simp (disch:=omega) only [Gf,go_sem,Ab,h1]
 ·refine Al Io Gg (of_decide_eq_true rfl) ?_
  simp (disch:=omega) only [Gf,go_sem,Ab,h1]
theorem Sj (x:Tm) (h:x.cok=true):E 111 [x.sv] []=some (.bool (Cj x.name),[]):=by
 rw [Tm.Rm,zB] at h
 obtain ⟨h1,h2⟩:=Tk h.1
 have h3:=Tn (HV x.name 0)
 rw [h2] at h3
 refine Al OW Dy (of_decide_eq_true rfl) ?_
 simp (disch:=omega) only [Kf,go_sem,Ab,h3,Gg]
def Di (p:Nat→Bool):Nat→Bool
 | 0=>true
 | k+1=>Di p k&&p k
theorem Rp {p:Nat→Bool} {k n:Nat} (h:Di p k=false) (hn:k≤n):Di p n=false:=by
 induction n with
 | zero =>
      obtain rfl:k=0:=by omega
      exact h
 | succ n ih =>
  rcases zJ n k with h1 | h1
  ·obtain rfl:k=n+1:=by omega
   exact h
  ·rw [Di,ih h1]; rfl
theorem MD {p:Nat→Bool} {k j:Nat} (h:Di p k=true) (hj:j<k):p j=true:=by
 induction k with
 | zero=>omega
 | succ k ih =>
  rw [Di,zB] at h
  rcases zJ j k with h1 | h1
  ·exact ih h.1 h1
  ·obtain rfl:j=k:=by omega
   exact h.2
theorem Kg {p:Nat→Bool} {k n:Nat} (h:p k=false) (hk:k<n):Di p n=false:=Rp (k:=k+1) (by rw [Di,h,yX]) (by omega)
noncomputable def inI (x lo hi:Int):Bool:=dec (lo≤x)&&dec (x≤hi)
theorem H6 {x lo hi:Int}:inI x lo hi=true ↔ lo≤x∧x≤hi:=by unfold inI; rw [zB,Av,Av]
def pw (b:Int):Nat→Int
 | 0=>1
 | k+1=>pw b k*b
theorem Kh {b:Int} (h1:1≤b) (h3:b≤3):∀ k:Nat,1≤pw b k∧pw b k≤(3:Int) ^ k
 | 0=>by simp [pw]
 | k+1=>by
  obtain ⟨i1,i2⟩:=Kh h1 h3 k
  rw [pw,Int.pow_succ]
  constructor
  ·have:=Int.mul_le_mul i1 h1 (by omega) (by omega)
   simpa using this
  ·exact Int.mul_le_mul i2 h3 (by omega) (by omega)
theorem KE {k n:Nat} (h:k≤n):(3:Int) ^ k≤3 ^ n:=by
 have:=yS (n:=3) (by omega) h
 exact_mod_cast this
theorem Iq {b:Int} (h1:1≤b) (h3:b≤3) {k:Nat} (hk:k≤12):1≤pw b k∧pw b k≤531441:=by
 obtain ⟨i1,i2⟩:=Kh h1 h3 k
 have:=KE hk
 have e:(3:Int) ^ 12=531441:=by decide
 omega
theorem Rq {b:Int} (h1:1≤b) (h3:b≤3) {k:Nat} (hk:k≤30):1≤pw b k∧pw b k≤205891132094649:=by
 obtain ⟨i1,i2⟩:=Kh h1 h3 k
 have:=KE hk
 have e:(3:Int) ^ 30=205891132094649:=by decide
 omega
noncomputable def DH (a b:Tl):Bool:=strLt a.name b.name || (dec (a.name=b.name)&&dec (a.arity<b.arity))
noncomputable def ME (ts:List Tl) (k:Nat):Bool:=match ts[k]? with
 | none=>true
 | some t=>Ee t.name&&(inI t.arity 0 3&&(match k with
  | 0=>true
  | j+1=>match ts[j]? with
   | none=>true
   | some u=>DH u t))
theorem Fb {ts:List Tl} (h:0<ts.length):ME ts 0=(Ee ts[0].name&&inI ts[0].arity 0 3):=by
 unfold ME
 rw [zG h]
 simp
theorem D9 {ts:List Tl} {j:Nat} (h:j+1<ts.length):ME ts (j+1)=(Ee ts[j+1].name&&(inI ts[j+1].arity 0 3&&DH ts[j] ts[j+1])):=by
 unfold ME
 rw [zG h]
 simp only [zG (show j<ts.length by omega)]
theorem Rr {ts:List Tl} {k:Nat} (h:k<ts.length) (ht:ME ts k=true):Ee ts[k].name=true∧inI ts[k].arity 0 3=true:=by
 cases k with
 | zero=>rw [Fb h,zB] at ht; exact ht
 | succ j=>rw [D9 h,zB,zB] at ht; exact ⟨ht.1,ht.2.1⟩
noncomputable def EE (ts:List Tl):Bool:=Di (ME ts) ts.length&&decide (ts.length≤12)
def kinds (sz:Int) (t:Tl):Int:=if t.pred then 2 else sz
noncomputable def tlB (sz:Int) (t:Tl):Bool:=dec ((t.vals.length:Int)=pw sz t.arity.toNat)&&t.vals.all fun v=>inI v 0 (kinds sz t-1)
noncomputable def Ip.ok (m:Ip):Bool:=inI m.size 1 3&&(EE m.tables&&m.tables.all (tlB m.size))
theorem Ip.D4 {m:Ip} (h:m.ok=true):(1≤m.size∧m.size≤3)∧EE m.tables=true∧m.tables.all (tlB m.size)=true:=by
 unfold Ip.ok at h
 rw [zB,zB,H6] at h
 exact h
theorem Ir {ts:List Tl} (h:EE ts=true) {t:Tl} (ht:t∈ts):0≤t.arity∧t.arity≤3:=by
 unfold EE at h
 rw [zB] at h
 obtain ⟨k,hk,rfl⟩:=yB ht
 exact H6.1 (Rr hk (MD h.1 hk)).2
def Ip.tame (m:Ip):Prop:=m.tables.length≤1099511627776∧∀ t∈m.tables,t.vals.length≤1099511627776
theorem MG:∀ x y:List UInt8,Op.bytesLess x y=true→Op.bytesLess y x=false
 | [],[],h=>by simp [Op.bytesLess] at h
 | [],_ :: _,_=>rfl
 | _ :: _,[],h=>by simp [Op.bytesLess] at h
 | a :: x,b :: y,h=>by
  simp only [Op.bytesLess,y4,decide_eq_true_eq,zB,beq_iff_eq] at h
  simp only [Op.bytesLess,yR,decide_eq_false_iff_not]
  rcases h with h | ⟨rfl,h⟩
  ·have h2:¬ b<a:=by intro h3; exact absurd (UInt8.lt_trans h h3) (UInt8.lt_irrefl _)
   have h3:(b == a)=false:=by
    rw [beq_eq_false_iff_ne]; rintro rfl; exact UInt8.lt_irrefl _ h
   exact ⟨h2,by rw [h3]; rfl⟩
  ·exact ⟨UInt8.lt_irrefl _,by rw [MG x y h]; simp⟩
theorem MH:∀ x y:List UInt8,Op.bytesLess x y=false→Op.bytesLess y x=false→x=y
 | [],[],_,_=>rfl
 | [],_ :: _,h,_=>by simp [Op.bytesLess] at h
 | _ :: _,[],_,h=>by simp [Op.bytesLess] at h
 | a :: x,b :: y,h,k=>by
  simp only [Op.bytesLess,yR,decide_eq_false_iff_not] at h k
  have hab:a=b:=by
   have h1:=h.1; have h2:=k.1
   rw [UInt8.lt_iff_toNat_lt] at h1 h2
   exact UInt8.toNat_inj.1 (by omega)
  subst hab
  have h1:Op.bytesLess x y=false:=by simpa using h.2
  have h2:Op.bytesLess y x=false:=by simpa using k.2
  rw [MH x y h1 h2]
theorem Lp {a b:ByteArray} (h:strLt a b=true):strLt b a=false:=MG _ _ h
theorem Is {a b:ByteArray} (h:strLt a b=false) (h':strLt b a=false):a=b:=K3 (MH _ _ h h')
theorem MJ:∀ x y z:List UInt8,Op.bytesLess x y=true→Op.bytesLess y z=true→Op.bytesLess x z=true
 | _,_,[],_,h=>by simp [Op.bytesLess] at h
 | [],[],_ :: _,h,_=>by simp [Op.bytesLess] at h
 | [],_ :: _,_ :: _,_,_=>rfl
 | _ :: _,[],_ :: _,h,_=>by simp [Op.bytesLess] at h
 | a :: x,b :: y,c :: z,h,k=>by
  simp only [Op.bytesLess,y4,decide_eq_true_eq,zB,beq_iff_eq] at h k ⊢
  rcases h with h | ⟨rfl,h⟩
  ·rcases k with k | ⟨rfl,k⟩
   ·exact .inl (UInt8.lt_trans h k)
   ·exact .inl h
  ·rcases k with k | ⟨rfl,k⟩
   ·exact .inl k
   ·exact .inr ⟨rfl,MJ x y z h k⟩
theorem It {a b c:ByteArray} (h:strLt a b=true) (k:strLt b c=true):strLt a c=true:=MJ _ _ _ h k
theorem Iu {a b:ByteArray} (h:strLt a b=true):¬ a=b:=by rintro rfl; rw [MC] at h; cases h
abbrev Env:=ByteArray→Option Int
def Dj (e:Env):MF
 | .str s=>match e s with
  | some n=>some (false,[.int n])
  | none=>none
 | .int _=>none
theorem Hh (e:Env) (s:ByteArray):Dj e (.str s)=match e s with | some n=>some (false,[.int n]) | none=>none:=rfl
noncomputable def Cx (e:Env) (s:ByteArray) (n:Int):Env:=fun q=>bif dec (q=s) then some n else e q
theorem Ki (e:Env) (s:ByteArray) (n:Int):JJ (Dj e) (.str s) (false,[.int n])=Dj (Cx e s n):=by
 funext k
 cases k with
 | int i=>rw [Gu (fun h=>by cases h)]; rfl
 | str q =>
  rw [PA,Hh,Hh]
  unfold Cx
  cases dec (q=s) <;> rfl
theorem To:Dj (fun _=>none)=nomap:=by
 funext k
 cases k <;> rfl
def InE (sz:Int) (e:Env):Prop:=∀ s n,e s=some n→0≤n∧n<sz
theorem Kj {sz:Int} {e:Env} (h:InE sz e) {n:Int} (h0:0≤n) (h1:n<sz) (s:ByteArray):InE sz (Cx e s n):=by
 intro q m hq
 unfold Cx at hq
 cases hd:dec (q=s) with
 | true=>rw [hd] at hq; obtain rfl:=zI hq; exact ⟨h0,h1⟩
 | false=>rw [hd] at hq; exact h q m hq
noncomputable def asg:List Ag→Env
 | [],_=>none
 | x :: r,s=>bif dec (x.var=s) then some x.elem else asg r s
noncomputable def OX (sz:Int) (xs:List Ag) (k:Nat):Bool:=match xs[k]? with
 | none=>true
 | some x=>Cj x.var&&(inI x.elem 0 (sz-1)&&(match k with
  | 0=>true
  | j+1=>match xs[j]? with
   | none=>true
   | some y=>strLt y.var x.var))
theorem Fc {sz:Int} {xs:List Ag} (h:0<xs.length):OX sz xs 0=(Cj xs[0].var&&inI xs[0].elem 0 (sz-1)):=by
 unfold OX
 rw [zG h]
 simp
theorem DA {sz:Int} {xs:List Ag} {j:Nat} (h:j+1<xs.length):OX sz xs (j+1)=(Cj xs[j+1].var&&(inI xs[j+1].elem 0 (sz-1)&&strLt xs[j].var xs[j+1].var)):=by
 unfold OX
 rw [zG h]
 simp only [zG (show j<xs.length by omega)]
noncomputable def Kk (sz:Int) (xs:List Ag):Bool:=Di (OX sz xs) xs.length
noncomputable def HL (xs:List Ag):Env:=xs.foldl (fun e x=>Cx e x.var x.elem) fun _=>none
theorem Rs {xs:List Ag} {k:Nat} (h:k<xs.length):HL (xs.take (k+1))=Cx (HL (xs.take k)) xs[k].var xs[k].elem:=by
 rw [List.take_succ_eq_append_getElem h,HL,List.foldl_append]; rfl
def Qf (xs:List Ag):Prop:=xs.Pairwise fun x y=>strLt x.var y.var=true
theorem UE {xs:List Ag} (h:Qf xs):HL xs=asg xs:=by
 have key:∀ (xs:List Ag),Qf xs→∀ (e:Env) (s:ByteArray),xs.foldl (fun e x=>Cx e x.var x.elem) e s=match asg xs s with | some n=>some n | none=>e s:=by
  intro xs
  induction xs with
  | nil=>intro _ e s; rw [asg]; rfl
  | cons x r ih =>
   intro hp e s
   obtain ⟨h1,h2⟩:=List.pairwise_cons.1 hp
   rw [List.foldl_cons,ih h2]
   rw [asg]
   by_cases hs:x.var=s
   ·rw [A1 hs,cond_true]
    have:asg r s=none:=by
     have hn:∀ y∈r,y.var≠s:=fun y hy e'=>Iu (h1 y hy) (hs.trans e'.symm)
     clear ih h1 h2 hp
     induction r with
     | nil=>rw [asg]
     | cons y r ih=>rw [asg,Aj (hn y (by simp)),cond_false,ih fun z hz=>hn z (by simp [hz])]
    rw [this]
    simp only [Cx,A1 hs.symm,cond_true]
   ·rw [Aj hs,cond_false]
    cases asg r s with
    | some n=>rfl
    | none=>simp only [Cx,Aj (p:=s=x.var) (fun e'=>hs (Eq.symm e')),cond_false]
 funext s
 rw [HL,key xs h]
 cases asg xs s <;> rfl
theorem Rt {sz:Int}:∀ {xs:List Ag},(∀ x∈xs,0≤x.elem∧x.elem<sz)→InE sz (asg xs)
 | [],_=>fun s n h=>by rw [asg] at h; cases h
 | x :: r,h=>fun s n hs=>by
  rw [asg] at hs
  by_cases he:x.var=s
  ·rw [A1 he,cond_true] at hs
   obtain rfl:=zI hs
   exact h x (by simp)
  ·rw [Aj he,cond_false] at hs
   exact Rt (fun y hy=>h y (by simp [hy])) s n hs
theorem Qg {xs:List Ag} (h:∀ j (hj:j+1<xs.length),strLt xs[j].var xs[j+1].var=true):Qf xs:=by
 have key:∀ i d (hi:i+d+1<xs.length),strLt (xs[i]'(by omega)).var xs[i+d+1].var=true:=by
  intro i d
  induction d with
  | zero=>intro hi; exact h i hi
  | succ d ih=>intro hi; exact It (ih (by omega)) (h (i+d+1) hi)
 unfold Qf
 rw [List.pairwise_iff_getElem]
 intro i j hi hj hij
 obtain ⟨d,rfl⟩:∃ d,j=i+d+1:=⟨j-i-1,by omega⟩
 exact key i d hj
theorem OY {sz:Int} {xs:List Ag} (h:Kk sz xs=true):Qf xs∧∀ x∈xs,0≤x.elem∧x.elem<sz:=by
 have hat:=fun j (hj:j<xs.length)=>MD h hj
 refine ⟨Qg fun j hj=>?_,fun x hx=>?_⟩
 ·have:=hat (j+1) hj
  rw [DA hj,zB,zB] at this
  exact this.2.2
 ·obtain ⟨k,hk,rfl⟩:=yB hx
  have:=hat k hk
  cases k with
  | zero =>
   rw [Fc hk,zB,H6] at this
   omega
  | succ j =>
   rw [DA hk,zB,zB,H6] at this
   omega
noncomputable def Kl (ts:List Tl) (n:ByteArray) (k:Int) (p:Bool):Option Tl:=ts.find? fun t=>dec (t.name=n)&&(dec (t.arity=k)&&(t.pred == p))
noncomputable def Dk (ts:List Tl) (n:ByteArray) (k:Int) (p:Bool) (at_:Option Int):Option Int :=
 match Kl ts n k p,at_ with
 | some t,some i=>some (t.vals.getD i.toNat 0)
 | _,_=>none
mutual
noncomputable def Tm.val (m:Ip) (e:Env):Tm→Option Int
 | .mk n args=>bif Cj n then e n else Dk m.tables n args.length false (Tm.De m e args 0)
noncomputable def Tm.De (m:Ip) (e:Env):List Tm→Int→Option Int
 | [],i=>some i
 | x :: xs,i=>match Tm.val m e x with
  | some v=>Tm.De m e xs (i*m.size+v)
  | none=>none
end
theorem Tm.J9 (m:Ip) (e:Env) (x:Tm):x.val m e=bif Cj x.name then e x.name else Dk m.tables x.name x.args.length false (Tm.De m e x.args 0):=by
 obtain ⟨n,a⟩:=x
 rw [Tm.val]; rfl
theorem ML {m:Ip} {e:Env} (h1:1≤m.size):∀ {xs:List Tm} {i r:Int},(∀ x∈xs,∀ v,x.val m e=some v→0≤v∧v<m.size)→0≤i→Tm.De m e xs i=some r→i*pw m.size xs.length≤r∧r<(i+1)*pw m.size xs.length
 | [],i,r,_,h0,h=>by
  rw [Tm.De] at h
  obtain rfl:=zI h
  simp [pw]
  omega
 | x :: xs,i,r,hx,h0,h=>by
  rw [Tm.De] at h
  cases hv:x.val m e with
  | none=>rw [hv] at h; cases h
  | some v =>
   rw [hv] at h
   obtain ⟨v0,v1⟩:=hx x (by simp) v hv
   have hn:0≤i*m.size+v:=by
    have:=Int.mul_nonneg h0 (show 0≤m.size by omega)
    omega
   obtain ⟨g1,g2⟩:=ML h1 (fun y hy=>hx y (by simp [hy])) hn h
   have hp:0≤pw m.size xs.length:=by
    clear g1 g2 h hx
    induction xs with
    | nil=>simp [pw]
    | cons y ys ih=>rw [zR,pw]; exact Int.mul_nonneg ih (by omega)
   rw [zR,pw]
   have e1:i*(pw m.size xs.length*m.size)=(i*m.size)*pw m.size xs.length:=by rw [Int.mul_assoc,Int.mul_comm m.size]
   have e2:(i+1)*(pw m.size xs.length*m.size)=(i*m.size+m.size)*pw m.size xs.length:=by
    rw [Int.mul_comm (pw m.size xs.length),← Int.mul_assoc,Int.add_mul i 1 m.size,Int.one_mul]
   rw [e1,e2]
   have k1:(i*m.size)*pw m.size xs.length≤(i*m.size+v)*pw m.size xs.length:=yP (by omega) hp
   have k2:(i*m.size+v+1)*pw m.size xs.length≤(i*m.size+m.size)*pw m.size xs.length:=yP (by omega) hp
   omega
theorem Hi {ts:List Tl} {n:ByteArray} {k:Int} {p:Bool} {t:Tl} (h:Kl ts n k p=some t):t∈ts∧t.name=n∧t.arity=k∧t.pred=p:=by
 unfold Kl at h
 have h1:=List.mem_of_find?_eq_some h
 have h2:=List.find?_some h
 rw [zB,zB,Av,Av] at h2
 exact ⟨h1,h2.1,h2.2.1,by simpa using h2.2.2⟩
theorem LI {m:Ip} (hm:m.ok=true) {n:ByteArray} {l:Nat} {p:Bool} {t:Tl} (ht:Kl m.tables n l p=some t) {i:Int} (h0:0≤i) (h1:i<pw m.size l):∃ h:i.toNat<t.vals.length,t.vals.getD i.toNat 0=t.vals[i.toNat]∧0≤t.vals[i.toNat]∧t.vals[i.toNat]<kinds m.size t:=by
 obtain ⟨_,_,h3⟩:=Ip.D4 hm
 obtain ⟨t1,t2,t3,t4⟩:=Hi ht
 have:=(zT.1 h3) t t1
 unfold tlB at this
 rw [zB,Av,zT,t3] at this
 have e:(l:Int).toNat=l:=by omega
 rw [e] at this
 have hl:i.toNat<t.vals.length:=by omega
 refine ⟨hl,by rw [z7,zG hl]; rfl,?_⟩
 have h5:=H6.1 (this.2 _ (zF hl))
 omega
theorem Tm.KF {m:Ip} (hm:m.ok=true) {e:Env} (he:InE m.size e) (x:Tm):∀ v,x.val m e=some v→0≤v∧v<m.size:=by
 intro v hv
 have ih:∀ y∈x.args,∀ v,y.val m e=some v→0≤v∧v<m.size:=fun y hy=>Tm.KF hm he y
 obtain ⟨⟨h1,_⟩,_⟩:=Ip.D4 hm
 rw [Tm.J9] at hv
 cases hb:Cj x.name with
 | true=>rw [hb] at hv; exact he _ _ hv
 | false =>
  rw [hb,cond_false] at hv
  unfold Dk at hv
  split at hv
  ·rename_i t i ht hi
   obtain rfl:=zI hv
   obtain ⟨g1,g2⟩:=ML h1 ih (Int.le_refl 0) hi
   rw [Int.zero_mul] at g1
   rw [Int.zero_add,Int.one_mul] at g2
   obtain ⟨h2,h3,h4,h5⟩:=LI hm ht g1 g2
   rw [h3]
   obtain ⟨_,_,_,t4⟩:=Hi ht
   unfold kinds at h5
   rw [t4] at h5
   simp at h5
   exact ⟨h4,h5⟩
  ·cases hv
termination_by SizeOf.sizeOf x
decreasing_by exact Tm.lt_of_mem hy
noncomputable def Tm.tru (m:Ip) (e:Env) (x:Tm):Option Int :=
 if x.eqn then match Tm.De m e x.args 0 with
  | some i=>some (bif dec (i.tmod m.size=i.tdiv m.size) then 1 else 0)
  | none=>none
 else Dk m.tables x.name x.args.length true (Tm.De m e x.args 0)
def GF:SC:=(.seq (.reg [⟨some 6,none,.mv (.c (.bool false))⟩]) (.seq (.reg [⟨some 7,none,.mv (.t 0)⟩,⟨some 8,none,.mv (.t 1)⟩,⟨some 9,none,.bin .geq false (.t 7) (.t 8)⟩,⟨some 10,none,.mv (.t 9)⟩,⟨(some 11),(some (10,true)),(.mv (.t 0))⟩,⟨(some 12),(some (10,true)),(.mv (.t 2))⟩,⟨(some 13),(some (10,true)),(.bin .leq false (.t 11) (.t 12))⟩,⟨some 14,none,.pick (.t 10) (.t 13) (.c (.bool false))⟩,⟨some 6,none,.mv (.t 14)⟩]) .ret))
theorem Jg:As Tryz.prog 43=some ⟨15,GF,[(.tmp 6)]⟩:=by kernel_rfl
theorem Bh:modes 43=⟨[],.asis,none,false⟩:=by unfold modes; rfl
def Iv:SC:=(.seq (.reg [⟨some 6,none,.mv (.c (.bool false))⟩]) (.seq (.reg [⟨some 7,none,.mv (.t 0)⟩,⟨some 8,none,.mv (.t 1)⟩,⟨some 9,none,.bin .geq false (.t 7) (.t 8)⟩,⟨some 10,none,.mv (.t 9)⟩,⟨(some 11),(some (10,true)),(.mv (.t 0))⟩,⟨(some 12),(some (10,true)),(.mv (.t 2))⟩,⟨(some 13),(some (10,true)),(.bin .leq false (.t 11) (.t 12))⟩,⟨some 14,none,.pick (.t 10) (.t 13) (.c (.bool false))⟩,⟨some 6,none,.mv (.t 14)⟩]) .ret))
theorem Lq:As Tryz.prog 32=some ⟨15,Iv,[(.tmp 6)]⟩:=by kernel_rfl
theorem Bt:modes 32=⟨[],.asis,none,false⟩:=by unfold modes; rfl
def Km:SC:=(.seq (.reg [⟨some 4,none,.mv (.c (.int .i64 0))⟩]) (.seq (.reg [⟨some 5,none,.mv (.c (.int .i64 1))⟩]) (.seq (.seq (.reg [⟨some 6,none,.mv (.t 1)⟩,⟨some 7,none,.mv (.c (.int .i64 0))⟩]) (.block 0 (.loop [1,0,0,0,0,1,1,1,0,0,0,0,0,0] (.seq (.reg [⟨some 8,none,.bin .lss false (.t 7) (.t 6)⟩]) (.seq (.cond (.t 8) .skip (.exit 0)) (.seq (.block 1 (.reg [⟨some 9,none,.mv (.t 5)⟩,⟨some 10,none,.mv (.t 0)⟩,⟨some 11,none,.bin .mul false (.t 9) (.t 10)⟩,⟨some 5,none,.mv (.t 11)⟩])) (.reg [⟨some 12,none,.bin .add false (.t 7) (.c (.int .i64 1))⟩,⟨some 7,none,.mv (.t 12)⟩]))))))) (.seq (.reg [⟨some 13,none,.mv (.t 5)⟩,⟨some 4,none,.mv (.t 13)⟩]) .ret))))
theorem OZ:As Tryz.prog 47=some ⟨14,Km,[(.tmp 4)]⟩:=by kernel_rfl
theorem H7:modes 47=⟨[],.asis,none,false⟩:=by unfold modes; rfl
def HM:SC:=(.seq (.reg [⟨some 4,none,.mv (.c (.int .i64 0))⟩]) (.seq (.reg [⟨some 5,none,.mv (.c (.int .i64 1))⟩]) (.seq (.seq (.reg [⟨some 6,none,.mv (.c (.int .i64 0))⟩]) (.block 0 (.loop [1,1,0,0,0,1,1,0,0,0,0,0,0,0,0,0] (.seq (.seq (.reg [⟨some 7,none,.mv (.t 6)⟩,⟨some 8,none,.mv (.t 1)⟩,⟨some 9,none,.bin .lss false (.t 7) (.t 8)⟩]) (.cond (.t 9) .skip (.exit 0))) (.seq (.block 1 (.reg [⟨some 12,none,.mv (.t 5)⟩,⟨some 13,none,.mv (.t 0)⟩,⟨some 14,none,.bin .mul false (.t 12) (.t 13)⟩,⟨some 5,none,.mv (.t 14)⟩])) (.reg [⟨some 10,none,.mv (.t 6)⟩,⟨some 11,none,.bin .add false (.t 10) (.c (.int .i64 1))⟩,⟨some 6,none,.mv (.t 11)⟩])))))) (.seq (.reg [⟨some 15,none,.mv (.t 5)⟩,⟨some 4,none,.mv (.t 15)⟩]) .ret))))
theorem L2:As Tryz.prog 61=some ⟨16,HM,[(.tmp 4)]⟩:=by kernel_rfl
theorem Bl:modes 61=⟨[],.asis,none,false⟩:=by unfold modes; rfl
def Fv:SC:=(.seq (.reg [⟨some 2,none,.boxv 44 4 (.t 0)⟩,⟨some 3,none,.boxv 44 4 (.t 1)⟩,⟨some 4,none,.mv (.c (.int .i64 0))⟩]) (.seq (.dreg [[],[0],[],[2],[1,0,3,2],[],[5],[],[7],[6,5,8,7,4,1,0,3,2],[4,1,0,3,2,9,6,5,8,7],[10,4,1,0,3,2,9,6,5,8,7],[11,10,4,1,0,3,2,9,6,5,8,7]] [⟨some 5,none,.faddr 0 (.t 2)⟩,⟨some 6,none,.load false 1 (.t 5)⟩,⟨some 7,none,.faddr 0 (.t 3)⟩,⟨some 8,none,.load false 1 (.t 7)⟩,⟨some 9,none,.call 106 [(.t 6),(.t 8)]⟩,⟨some 10,none,.faddr 1 (.t 2)⟩,⟨some 11,none,.load false 1 (.t 10)⟩,⟨some 12,none,.faddr 1 (.t 3)⟩,⟨some 13,none,.load false 1 (.t 12)⟩,⟨some 14,none,.call 107 [(.t 11),(.t 13)]⟩,⟨some 15,none,.mkrow 3 1 [(.int .i64 0)] 2 [(0,(.t 9)),(1,(.t 14))]⟩,⟨some 16,none,.call 105 [(.t 15)]⟩,⟨some 4,none,.mv (.t 16)⟩]) .ret))
theorem Iw:As Tryz.prog 81=some ⟨17,Fv,[(.tmp 4)]⟩:=by kernel_rfl
theorem BZ:modes 81=⟨[],.asis,none,false⟩:=by unfold modes; rfl
def Hj:SC:=(.seq (.reg [⟨some 2,none,.mv (.c (.bool false))⟩]) (.seq (.seq (.reg [⟨some 5,none,.mv (.t 0)⟩,⟨some 6,none,.len false (.t 5)⟩,⟨some 7,none,.mv (.c (.int .i64 0))⟩]) (.block 0 (.loop [1,0,0,0,0,1,1,1,0,0,0,0,0,0,0,0,0,0,0,0,0,0,0,0,0,0,0,0,0,0,0,0,0,0,0,0,0,0,0,0] (.seq (.reg [⟨some 8,none,.bin .lss false (.t 7) (.t 6)⟩]) (.seq (.cond (.t 8) .skip (.exit 0)) (.seq (.block 1 (.seq (.reg [⟨some 9,none,.mv (.t 7)⟩,⟨some 10,none,.iaddr 4 (.t 5) (.t 7)⟩,⟨some 11,none,.load true 4 (.t 10)⟩,⟨(some 4),none,(.alloc 44 [(.str ⟨#[]⟩),(.int .i64 0),(.bool false),.nil])⟩,⟨some 3,none,.mv (.t 9)⟩,⟨none,none,(.store 4 (.t 4) (.t 11))⟩]) (.seq (.dreg [[],[0],[1,0],[2,1,0],[3,2,1,0],[4,3,2,1,0],[5,4,3,2,1,0],[6,5,4,3,2,1,0],[7,6,5,4,3,2,1,0],[4,3,2,1,0,8,7,6,5],[9,4,3,2,1,0,8,7,6,5],[10,9,4,3,2,1,0,8,7,6,5],[11,10,9,4,3,2,1,0,8,7,6,5],[12,11,10,9,4,3,2,1,0,8,7,6,5],[13,12,11,10,9,4,3,2,1,0,8,7,6,5],[13,12,11,10,9,4,3,2,1,0,8,7,6,5],[15,13,12,11,10,9,4,3,2,1,0,8,7,6,5],[14,13,12,11,10,9,4,3,2,1,0,8,7,6,5,16,15],[17,14,13,12,11,10,9,4,3,2,1,0,8,7,6,5,16,15],[13,12,11,10,9,4,3,2,1,0,8,7,6,5],[18,17,14,13,12,11,10,9,4,3,2,1,0,8,7,6,5,16,15,19],[20,18,17,14,13,12,11,10,9,4,3,2,1,0,8,7,6,5,16,15,19],[13,12,11,10,9,4,3,2,1,0,8,7,6,5,21,20,18,17,14,16,15,19],[10,9,4,3,2,1,0,8,7,6,5,22,13,12,11,21,20,18,17,14,16,15,19]] [⟨some 12,none,.faddr 0 (.t 4)⟩,⟨some 13,none,.load false 1 (.t 12)⟩,⟨some 14,none,.call 80 [(.t 13)]⟩,⟨some 15,none,.un .not (.t 14)⟩,⟨some 16,none,.mv (.t 15)⟩,⟨(some 17),(some (16,false)),(.faddr 1 (.t 4))⟩,⟨(some 18),(some (16,false)),(.load false 1 (.t 17))⟩,⟨(some 19),(some (16,false)),(.call 43 [(.t 18),(.c (.int .i64 0)),(.c (.int .i64 3))])⟩,⟨(some 20),(some (16,false)),(.un .not (.t 19))⟩,⟨some 21,none,.pick (.t 16) (.c (.bool true)) (.t 20)⟩,⟨some 22,none,.mv (.t 21)⟩,⟨(some 23),(some (22,false)),(.mv (.t 3))⟩,⟨(some 24),(some (22,false)),(.bin .gtr false (.t 23) (.c (.int .i64 0)))⟩,⟨(some 25),(some (22,false)),(.mv (.t 24))⟩,⟨(some 26),(some (25,true)),(.mv (.t 0))⟩,⟨(some 27),(some (25,true)),(.mv (.t 3))⟩,⟨(some 28),(some (25,true)),(.bin .sub false (.t 27) (.c (.int .i64 1)))⟩,⟨(some 29),(some (25,true)),(.iaddr 4 (.t 26) (.t 28))⟩,⟨(some 30),(some (25,true)),(.load true 4 (.t 29))⟩,⟨(some 31),(some (25,true)),(.load true 4 (.t 4))⟩,⟨(some 32),(some (25,true)),(.call 81 [(.t 30),(.t 31)])⟩,⟨(some 33),(some (25,true)),(.bin .geq false (.t 32) (.c (.int .i64 0)))⟩,⟨(some 34),(some (22,false)),(.pick (.t 25) (.t 33) (.c (.bool false)))⟩,⟨some 35,none,.pick (.t 22) (.c (.bool true)) (.t 34)⟩]) (.cond (.t 35) (.seq (.reg [⟨some 2,none,.mv (.c (.bool false))⟩]) .ret) .skip)))) (.reg [⟨some 36,none,.bin .add false (.t 7) (.c (.int .i64 1))⟩,⟨some 7,none,.mv (.t 36)⟩]))))))) (.seq (.reg [⟨some 37,none,.mv (.t 0)⟩,⟨some 38,none,.len false (.t 37)⟩,⟨some 39,none,.bin .leq false (.t 38) (.c (.int .i64 12))⟩,⟨some 2,none,.mv (.t 39)⟩]) .ret)))
theorem KG:As Tryz.prog 44=some ⟨40,Hj,[(.tmp 2)]⟩:=by kernel_rfl
theorem Eb:modes 44=⟨[],.asis,none,false⟩:=by unfold modes; rfl
def DP:SC:=(.seq (.reg [⟨some 2,none,.boxv 44 4 (.t 0)⟩,⟨some 4,none,.mv (.c (.int .i64 0))⟩]) (.seq (.seq (.reg [⟨some 5,none,.faddr 2 (.t 2)⟩,⟨some 6,none,.load false 1 (.t 5)⟩]) (.cond (.t 6) (.seq (.reg [⟨some 4,none,.mv (.c (.int .i64 2))⟩]) .ret) .skip)) (.seq (.reg [⟨some 7,none,.mv (.t 1)⟩,⟨some 4,none,.mv (.t 7)⟩]) .ret)))
theorem Fw:As Tryz.prog 50=some ⟨8,DP,[(.tmp 4)]⟩:=by kernel_rfl
theorem DQ:modes 50=⟨[],.asis,none,false⟩:=by unfold modes; rfl
def BW:SC:=(.seq (.reg [⟨some 1,none,.boxv 26 2 (.t 0)⟩,⟨some 2,none,.mv (.c (.bool false))⟩]) (.seq (.seq (.reg [⟨some 3,none,.faddr 0 (.t 1)⟩,⟨some 4,none,.load false 1 (.t 3)⟩,⟨some 5,none,.call 43 [(.t 4),(.c (.int .i64 1)),(.c (.int .i64 3))]⟩,⟨some 6,none,.un .not (.t 5)⟩,⟨some 7,none,.mv (.t 6)⟩,⟨(some 8),(some (7,false)),(.faddr 1 (.t 1))⟩,⟨(some 9),(some (7,false)),(.load false 1 (.t 8))⟩,⟨(some 10),(some (7,false)),(.call 44 [(.t 9)])⟩,⟨(some 11),(some (7,false)),(.un .not (.t 10))⟩,⟨some 12,none,.pick (.t 7) (.c (.bool true)) (.t 11)⟩]) (.cond (.t 12) (.seq (.reg [⟨some 2,none,.mv (.c (.bool false))⟩]) .ret) .skip)) (.seq (.reg [⟨some 13,none,.faddr 1 (.t 1)⟩,⟨some 14,none,.load false 1 (.t 13)⟩,⟨some 15,none,.mkfn 46 [(.t 1)]⟩,⟨some 16,none,.call 45 [(.t 14),(.t 15)]⟩,⟨some 17,none,.un .not (.t 16)⟩,⟨some 2,none,.mv (.t 17)⟩]) .ret)))
theorem CB:As Tryz.prog 20=some ⟨18,BW,[(.tmp 2)]⟩:=by kernel_rfl
theorem AN:modes 20=⟨[],.asis,none,false⟩:=by unfold modes; rfl
def Cy:SC:=(.seq (.reg [⟨some 2,none,.boxv 44 4 (.t 0)⟩,⟨some 3,none,.mv (.c (.bool false))⟩]) (.seq (.dreg [[],[0],[1,0],[],[3],[],[5],[4,3,6,5],[2,1,0,7,4,3,6,5],[8,2,1,0,7,4,3,6,5],[9,8,2,1,0,7,4,3,6,5],[10,9,8,2,1,0,7,4,3,6,5],[9,8,2,1,0,7,4,3,6,5],[11,10,9,8,2,1,0,7,4,3,6,5,12],[9,8,2,1,0,7,4,3,6,5,13,11,10,12],[14,9,8,2,1,0,7,4,3,6,5,13,11,10,12]] [⟨some 4,none,.faddr 3 (.t 2)⟩,⟨some 5,none,.load false 1 (.t 4)⟩,⟨some 6,none,.len false (.t 5)⟩,⟨some 7,none,.faddr 0 (.t 1)⟩,⟨some 8,none,.load false 1 (.t 7)⟩,⟨some 9,none,.faddr 1 (.t 2)⟩,⟨some 10,none,.load false 1 (.t 9)⟩,⟨some 11,none,.call 47 [(.t 8),(.t 10)]⟩,⟨some 12,none,.bin .neq false (.t 6) (.t 11)⟩,⟨some 13,none,.mv (.t 12)⟩,⟨(some 14),(some (13,false)),(.faddr 3 (.t 2))⟩,⟨(some 15),(some (13,false)),(.load false 1 (.t 14))⟩,⟨(some 16),(some (13,false)),(.mkfn 49 [(.t 2),(.t 1)])⟩,⟨(some 17),(some (13,false)),(.call 48 [(.t 15),(.t 16)])⟩,⟨some 18,none,.pick (.t 13) (.c (.bool true)) (.t 17)⟩,⟨some 3,none,.mv (.t 18)⟩]) .ret))
theorem Dl:As Tryz.prog 46=some ⟨19,Cy,[(.tmp 3)]⟩:=by kernel_rfl
theorem BM:modes 46=⟨[],.asis,none,false⟩:=by unfold modes; rfl
def CV:SC:=(.seq (.reg [⟨some 4,none,.mv (.c (.bool false))⟩]) (.seq (.reg [⟨some 5,none,.mv (.t 0)⟩,⟨some 6,none,.load true 4 (.t 1)⟩,⟨some 7,none,.faddr 0 (.t 2)⟩,⟨some 8,none,.load false 1 (.t 7)⟩,⟨some 9,none,.call 50 [(.t 6),(.t 8)]⟩,⟨some 10,none,.bin .sub false (.t 9) (.c (.int .i64 1))⟩,⟨some 11,none,.call 43 [(.t 5),(.c (.int .i64 0)),(.t 10)]⟩,⟨some 12,none,.un .not (.t 11)⟩,⟨some 4,none,.mv (.t 12)⟩]) .ret))
theorem EF:As Tryz.prog 49=some ⟨13,CV,[(.tmp 4)]⟩:=by kernel_rfl
theorem Cm:modes 49=⟨[],.asis,none,false⟩:=by unfold modes; rfl
theorem Dm:HP Tryz.prog 46=true:=by kernel_rfl
theorem BD:HP Tryz.prog 49=true:=by kernel_rfl
def DR:SC:=(.seq (.reg [⟨some 4,none,.mv (.c (.int .i64 0))⟩]) (.seq (.seq (.reg [⟨some 6,none,.mv (.t 0)⟩,⟨some 7,none,.len false (.t 6)⟩,⟨some 8,none,.mv (.c (.int .i64 0))⟩]) (.block 0 (.loop [1,1,0,0,0,0,0,1,1,0,0,0,0,0,0,0,0,0,0] (.seq (.reg [⟨some 9,none,.bin .lss false (.t 8) (.t 7)⟩]) (.seq (.cond (.t 9) .skip (.exit 0)) (.seq (.block 1 (.seq (.reg [⟨some 10,none,.mv (.t 8)⟩,⟨some 5,none,.mv (.t 10)⟩]) (.seq (.reg [⟨some 11,none,.mv (.t 1)⟩,⟨some 12,none,.mv (.t 0)⟩,⟨some 13,none,.mv (.t 5)⟩,⟨some 14,none,.iaddr 1 (.t 12) (.t 13)⟩,⟨some 15,none,.load false 1 (.t 14)⟩,⟨some 16,none,.callv (.t 11) [(.t 15)]⟩]) (.cond (.t 16) (.seq (.reg [⟨some 17,none,.mv (.t 5)⟩,⟨some 4,none,.mv (.t 17)⟩]) .ret) .skip)))) (.reg [⟨some 18,none,.bin .add false (.t 8) (.c (.int .i64 1))⟩,⟨some 8,none,.mv (.t 18)⟩]))))))) (.seq (.reg [⟨some 4,none,.mv (.c (.int .i64 (-(0+1))))⟩]) .ret)))
theorem Gi:As Tryz.prog 83=some ⟨19,DR,[(.tmp 4)]⟩:=by kernel_rfl
theorem DS:modes 83=⟨[],.asis,none,false⟩:=by unfold modes; rfl
def Dt:SC:=(.seq (.reg [⟨some 4,none,.mv (.c (.bool false))⟩]) (.seq (.reg [⟨some 5,none,.mv (.t 0)⟩,⟨some 6,none,.mv (.t 1)⟩,⟨some 7,none,.call 83 [(.t 5),(.t 6)]⟩,⟨some 8,none,.bin .geq false (.t 7) (.c (.int .i64 0))⟩,⟨some 4,none,.mv (.t 8)⟩]) .ret))
theorem Fx:As Tryz.prog 48=some ⟨9,Dt,[(.tmp 4)]⟩:=by kernel_rfl
theorem C4:modes 48=⟨[],.asis,none,false⟩:=by unfold modes; rfl
def BB:SC:=(.seq (.reg [⟨some 4,none,.mv (.c (.int .i64 0))⟩]) (.seq (.seq (.reg [⟨some 6,none,.mv (.t 0)⟩,⟨some 7,none,.len false (.t 6)⟩,⟨some 8,none,.mv (.c (.int .i64 0))⟩]) (.block 0 (.loop [1,1,0,0,0,0,0,1,1,0,0,0,0,0,0,0,0,0,0] (.seq (.reg [⟨some 9,none,.bin .lss false (.t 8) (.t 7)⟩]) (.seq (.cond (.t 9) .skip (.exit 0)) (.seq (.block 1 (.seq (.reg [⟨some 10,none,.mv (.t 8)⟩,⟨some 5,none,.mv (.t 10)⟩]) (.seq (.reg [⟨some 11,none,.mv (.t 1)⟩,⟨some 12,none,.mv (.t 0)⟩,⟨some 13,none,.mv (.t 5)⟩,⟨some 14,none,.iaddr 4 (.t 12) (.t 13)⟩,⟨some 15,none,.load true 4 (.t 14)⟩,⟨some 16,none,.callv (.t 11) [(.t 15)]⟩]) (.cond (.t 16) (.seq (.reg [⟨some 17,none,.mv (.t 5)⟩,⟨some 4,none,.mv (.t 17)⟩]) .ret) .skip)))) (.reg [⟨some 18,none,.bin .add false (.t 8) (.c (.int .i64 1))⟩,⟨some 8,none,.mv (.t 18)⟩]))))))) (.seq (.reg [⟨some 4,none,.mv (.c (.int .i64 (-(0+1))))⟩]) .ret)))
theorem Cu:As Tryz.prog 82=some ⟨19,BB,[(.tmp 4)]⟩:=by kernel_rfl
theorem AO:modes 82=⟨[],.asis,none,false⟩:=by unfold modes; rfl
def Ch:SC:=(.seq (.reg [⟨some 4,none,.mv (.c (.bool false))⟩]) (.seq (.reg [⟨some 5,none,.mv (.t 0)⟩,⟨some 6,none,.mv (.t 1)⟩,⟨some 7,none,.call 82 [(.t 5),(.t 6)]⟩,⟨some 8,none,.bin .geq false (.t 7) (.c (.int .i64 0))⟩,⟨some 4,none,.mv (.t 8)⟩]) .ret))
theorem Dp:As Tryz.prog 45=some ⟨9,Ch,[(.tmp 4)]⟩:=by kernel_rfl
theorem Ci:modes 45=⟨[],.asis,none,false⟩:=by unfold modes; rfl
def Fd:SC:=(.seq (.reg [⟨some 2,none,.mv (.c (.bool false))⟩]) (.seq (.seq (.reg [⟨some 5,none,.mv (.t 0)⟩,⟨some 6,none,.len false (.t 5)⟩,⟨some 7,none,.bin .gtr false (.t 6) (.c (.int .i64 12))⟩]) (.cond (.t 7) (.seq (.reg [⟨some 2,none,.mv (.c (.bool false))⟩]) .ret) .skip)) (.seq (.seq (.reg [⟨some 3,none,.mv (.c (.int .i64 0))⟩]) (.block 0 (.loop [1,0,0,1,0,0,0,0,0,0,0,0,0,0,0,0,0,0,0,0,0,0,0,0,0,0,0,0,0,0,0,0,0,0,0,0,0,0,0,0,0,0,0,0,0,0,0,0,0,0,0,0,0,0,0,0,0,0,0,0,0,0,0] (.seq (.seq (.reg [⟨some 8,none,.mv (.t 3)⟩,⟨some 9,none,.mv (.t 0)⟩,⟨some 10,none,.len false (.t 9)⟩,⟨some 11,none,.bin .lss false (.t 8) (.t 10)⟩]) (.cond (.t 11) .skip (.exit 0))) (.seq (.block 1 (.seq (.reg [⟨some 14,none,.mv (.t 0)⟩,⟨some 15,none,.mv (.t 3)⟩,⟨some 16,none,.iaddr 4 (.t 14) (.t 15)⟩,⟨some 17,none,.load true 4 (.t 16)⟩,⟨(some 4),none,(.alloc 44 [(.str ⟨#[]⟩),(.int .i64 0),(.bool false),.nil])⟩,⟨none,none,(.store 4 (.t 4) (.t 17))⟩]) (.seq (.seq (.reg [⟨some 18,none,.faddr 0 (.t 4)⟩,⟨some 19,none,.load false 1 (.t 18)⟩,⟨some 20,none,.call 95 [(.t 19)]⟩,⟨some 21,none,.un .not (.t 20)⟩,⟨some 22,none,.mv (.t 21)⟩,⟨(some 23),(some (22,false)),(.faddr 1 (.t 4))⟩,⟨(some 24),(some (22,false)),(.load false 1 (.t 23))⟩,⟨(some 25),(some (22,false)),(.call 32 [(.t 24),(.c (.int .i64 0)),(.c (.int .i64 3))])⟩,⟨(some 26),(some (22,false)),(.un .not (.t 25))⟩,⟨some 27,none,.pick (.t 22) (.c (.bool true)) (.t 26)⟩]) (.cond (.t 27) (.seq (.reg [⟨some 2,none,.mv (.c (.bool false))⟩]) .ret) .skip)) (.seq (.dreg [[],[0],[1,0],[2,1,0],[2,1,0],[4,2,1,0],[3,2,1,0,5,4],[6,3,2,1,0,5,4],[7,6,3,2,1,0,5,4],[2,1,0],[9,2,1,0],[8,7,6,3,2,1,0,5,4,10,9],[11,8,7,6,3,2,1,0,5,4,10,9],[12,11,8,7,6,3,2,1,0,5,4,10,9],[12,11,8,7,6,3,2,1,0,5,4,10,9],[14,12,11,8,7,6,3,2,1,0,5,4,10,9],[13,12,11,8,7,6,3,2,1,0,5,4,10,9,15,14],[16,13,12,11,8,7,6,3,2,1,0,5,4,10,9,15,14],[17,16,13,12,11,8,7,6,3,2,1,0,5,4,10,9,15,14],[12,11,8,7,6,3,2,1,0,5,4,10,9],[19,12,11,8,7,6,3,2,1,0,5,4,10,9],[18,17,16,13,12,11,8,7,6,3,2,1,0,5,4,10,9,15,14,20,19],[21,18,17,16,13,12,11,8,7,6,3,2,1,0,5,4,10,9,15,14,20,19],[22,21,18,17,16,13,12,11,8,7,6,3,2,1,0,5,4,10,9,15,14,20,19],[22,21,18,17,16,13,12,11,8,7,6,3,2,1,0,5,4,10,9,15,14,20,19],[24,22,21,18,17,16,13,12,11,8,7,6,3,2,1,0,5,4,10,9,15,14,20,19],[23,22,21,18,17,16,13,12,11,8,7,6,3,2,1,0,5,4,10,9,15,14,20,19,25,24],[26,23,22,21,18,17,16,13,12,11,8,7,6,3,2,1,0,5,4,10,9,15,14,20,19,25,24],[27,26,23,22,21,18,17,16,13,12,11,8,7,6,3,2,1,0,5,4,10,9,15,14,20,19,25,24],[22,21,18,17,16,13,12,11,8,7,6,3,2,1,0,5,4,10,9,15,14,20,19],[29,22,21,18,17,16,13,12,11,8,7,6,3,2,1,0,5,4,10,9,15,14,20,19],[28,27,26,23,22,21,18,17,16,13,12,11,8,7,6,3,2,1,0,5,4,10,9,15,14,20,19,25,24,30,29],[22,21,18,17,16,13,12,11,8,7,6,3,2,1,0,5,4,10,9,15,14,20,19,31,28,27,26,23,25,24,30,29],[12,11,8,7,6,3,2,1,0,5,4,10,9,32,22,21,18,17,16,13,15,14,20,19,31,28,27,26,23,25,24,30,29],[2,1,0,33,12,11,8,7,6,3,5,4,10,9,32,22,21,18,17,16,13,15,14,20,19,31,28,27,26,23,25,24,30,29]] [⟨some 28,none,.mv (.t 3)⟩,⟨some 29,none,.bin .gtr false (.t 28) (.c (.int .i64 0))⟩,⟨some 30,none,.mv (.t 29)⟩,⟨(some 31),(some (30,true)),(.mv (.t 0))⟩,⟨(some 32),(some (30,true)),(.mv (.t 3))⟩,⟨(some 33),(some (30,true)),(.bin .sub false (.t 32) (.c (.int .i64 1)))⟩,⟨(some 34),(some (30,true)),(.iaddr 4 (.t 31) (.t 33))⟩,⟨(some 35),(some (30,true)),(.faddr 0 (.t 34))⟩,⟨(some 36),(some (30,true)),(.load false 1 (.t 35))⟩,⟨(some 37),(some (30,true)),(.faddr 0 (.t 4))⟩,⟨(some 38),(some (30,true)),(.load false 1 (.t 37))⟩,⟨(some 39),(some (30,true)),(.bin .gtr false (.t 36) (.t 38))⟩,⟨(some 40),(some (30,true)),(.mv (.t 39))⟩,⟨(some 41),(some (40,false)),(.mv (.t 0))⟩,⟨(some 42),(some (40,false)),(.mv (.t 3))⟩,⟨(some 43),(some (40,false)),(.bin .sub false (.t 42) (.c (.int .i64 1)))⟩,⟨(some 44),(some (40,false)),(.iaddr 4 (.t 41) (.t 43))⟩,⟨(some 45),(some (40,false)),(.faddr 0 (.t 44))⟩,⟨(some 46),(some (40,false)),(.load false 1 (.t 45))⟩,⟨(some 47),(some (40,false)),(.faddr 0 (.t 4))⟩,⟨(some 48),(some (40,false)),(.load false 1 (.t 47))⟩,⟨(some 49),(some (40,false)),(.bin .eql false (.t 46) (.t 48))⟩,⟨(some 50),(some (40,false)),(.mv (.t 49))⟩,⟨(some 51),(some (50,true)),(.mv (.t 0))⟩,⟨(some 52),(some (50,true)),(.mv (.t 3))⟩,⟨(some 53),(some (50,true)),(.bin .sub false (.t 52) (.c (.int .i64 1)))⟩,⟨(some 54),(some (50,true)),(.iaddr 4 (.t 51) (.t 53))⟩,⟨(some 55),(some (50,true)),(.faddr 1 (.t 54))⟩,⟨(some 56),(some (50,true)),(.load false 1 (.t 55))⟩,⟨(some 57),(some (50,true)),(.faddr 1 (.t 4))⟩,⟨(some 58),(some (50,true)),(.load false 1 (.t 57))⟩,⟨(some 59),(some (50,true)),(.bin .geq false (.t 56) (.t 58))⟩,⟨(some 60),(some (40,false)),(.pick (.t 50) (.t 59) (.c (.bool false)))⟩,⟨(some 61),(some (30,true)),(.pick (.t 40) (.c (.bool true)) (.t 60))⟩,⟨some 62,none,.pick (.t 30) (.t 61) (.c (.bool false))⟩]) (.cond (.t 62) (.seq (.reg [⟨some 2,none,.mv (.c (.bool false))⟩]) .ret) .skip))))) (.reg [⟨some 12,none,.mv (.t 3)⟩,⟨some 13,none,.bin .add false (.t 12) (.c (.int .i64 1))⟩,⟨some 3,none,.mv (.t 13)⟩])))))) (.seq (.reg [⟨some 2,none,.mv (.c (.bool true))⟩]) .ret))))
theorem Hk:As Tryz.prog 60=some ⟨63,Fd,[(.tmp 2)]⟩:=by kernel_rfl
theorem Dn:modes 60=⟨[],.asis,none,false⟩:=by unfold modes; rfl
def EG:SC:=(.seq (.reg [⟨some 1,none,.boxv 26 2 (.t 0)⟩,⟨some 2,none,.mv (.c (.bool false))⟩]) (.seq (.seq (.reg [⟨some 7,none,.faddr 0 (.t 1)⟩,⟨some 8,none,.load false 1 (.t 7)⟩,⟨some 9,none,.call 32 [(.t 8),(.c (.int .i64 1)),(.c (.int .i64 3))]⟩,⟨some 10,none,.un .not (.t 9)⟩,⟨some 11,none,.mv (.t 10)⟩,⟨(some 12),(some (11,false)),(.faddr 1 (.t 1))⟩,⟨(some 13),(some (11,false)),(.load false 1 (.t 12))⟩,⟨(some 14),(some (11,false)),(.call 60 [(.t 13)])⟩,⟨(some 15),(some (11,false)),(.un .not (.t 14))⟩,⟨some 16,none,.pick (.t 11) (.c (.bool true)) (.t 15)⟩]) (.cond (.t 16) (.seq (.reg [⟨some 2,none,.mv (.c (.bool false))⟩]) .ret) .skip)) (.seq (.seq (.reg [⟨some 3,none,.mv (.c (.int .i64 0))⟩]) (.block 0 (.loop [0,1,0,1,0,0,0,0,0,0,0,0,0,0,0,0,0,0,0,0,0,0,0,0,0,0,0,0,0,0,0,0,0,0,0,0,0,0,0,0,0,0,0,0,0,0,0,0,0,0,0,0,0,0,0,0,0,0] (.seq (.seq (.reg [⟨some 17,none,.mv (.t 3)⟩,⟨some 18,none,.faddr 1 (.t 1)⟩,⟨some 19,none,.load false 1 (.t 18)⟩,⟨some 20,none,.len false (.t 19)⟩,⟨some 21,none,.bin .lss false (.t 17) (.t 20)⟩]) (.cond (.t 21) .skip (.exit 0))) (.seq (.block 1 (.seq (.reg [⟨some 24,none,.faddr 1 (.t 1)⟩,⟨some 25,none,.load false 1 (.t 24)⟩,⟨some 26,none,.mv (.t 3)⟩,⟨some 27,none,.iaddr 4 (.t 25) (.t 26)⟩,⟨some 28,none,.load true 4 (.t 27)⟩,⟨(some 4),none,(.alloc 44 [(.str ⟨#[]⟩),(.int .i64 0),(.bool false),.nil])⟩,⟨none,none,(.store 4 (.t 4) (.t 28))⟩]) (.seq (.reg [⟨some 29,none,.faddr 0 (.t 1)⟩,⟨some 30,none,.load false 1 (.t 29)⟩,⟨some 31,none,.bin .sub false (.t 30) (.c (.int .i64 1))⟩,⟨some 5,none,.mv (.t 31)⟩]) (.seq (.seq (.reg [⟨some 32,none,.faddr 2 (.t 4)⟩,⟨some 33,none,.load false 1 (.t 32)⟩]) (.cond (.t 33) (.reg [⟨some 5,none,.mv (.c (.int .i64 1))⟩]) .skip)) (.seq (.seq (.dreg [[],[0],[1,0],[],[3],[],[5],[4,3,6,5],[2,1,0,7,4,3,6,5]] [⟨some 34,none,.faddr 3 (.t 4)⟩,⟨some 35,none,.load false 1 (.t 34)⟩,⟨some 36,none,.len false (.t 35)⟩,⟨some 37,none,.faddr 0 (.t 1)⟩,⟨some 38,none,.load false 1 (.t 37)⟩,⟨some 39,none,.faddr 1 (.t 4)⟩,⟨some 40,none,.load false 1 (.t 39)⟩,⟨some 41,none,.call 61 [(.t 38),(.t 40)]⟩,⟨some 42,none,.bin .neq false (.t 36) (.t 41)⟩]) (.cond (.t 42) (.seq (.reg [⟨some 2,none,.mv (.c (.bool false))⟩]) .ret) .skip)) (.seq (.reg [⟨some 6,none,.mv (.c (.int .i64 0))⟩]) (.block 2 (.loop [0,1,0,1,1,1,1,0,0,0,0,0,0,0,0,0,0,0,0,0,0,0,0,0,0,0,0,0,0,0,0,0,0,0,0,0,0,0,0,0,0,0,0,0,0,0,0,0,0,0,0,0,0,0,0,0,0,0] (.seq (.seq (.reg [⟨some 43,none,.mv (.t 6)⟩,⟨some 44,none,.faddr 3 (.t 4)⟩,⟨some 45,none,.load false 1 (.t 44)⟩,⟨some 46,none,.len false (.t 45)⟩,⟨some 47,none,.bin .lss false (.t 43) (.t 46)⟩]) (.cond (.t 47) .skip (.exit 2))) (.seq (.block 3 (.seq (.reg [⟨some 50,none,.faddr 3 (.t 4)⟩,⟨some 51,none,.load false 1 (.t 50)⟩,⟨some 52,none,.mv (.t 6)⟩,⟨some 53,none,.iaddr 1 (.t 51) (.t 52)⟩,⟨some 54,none,.load false 1 (.t 53)⟩,⟨some 55,none,.mv (.t 5)⟩,⟨some 56,none,.call 32 [(.t 54),(.c (.int .i64 0)),(.t 55)]⟩,⟨some 57,none,.un .not (.t 56)⟩]) (.cond (.t 57) (.seq (.reg [⟨some 2,none,.mv (.c (.bool false))⟩]) .ret) .skip))) (.reg [⟨some 48,none,.mv (.t 6)⟩,⟨some 49,none,.bin .add false (.t 48) (.c (.int .i64 1))⟩,⟨some 6,none,.mv (.t 49)⟩]))))))))))) (.reg [⟨some 22,none,.mv (.t 3)⟩,⟨some 23,none,.bin .add false (.t 22) (.c (.int .i64 1))⟩,⟨some 3,none,.mv (.t 23)⟩])))))) (.seq (.reg [⟨some 2,none,.mv (.c (.bool true))⟩]) .ret))))
theorem Gj:As Tryz.prog 24=some ⟨58,EG,[(.tmp 2)]⟩:=by kernel_rfl
theorem CL:modes 24=⟨[],.asis,none,false⟩:=by unfold modes; rfl
theorem Kn (x lo hi:Int):E 43 [.int .i64 x,.int .i64 lo,.int .i64 hi] []=some (.bool (inI x lo hi),[]):=by
 unfold inI
 cases h:dec (lo≤x) with
 | false =>
  rw [zP]
  refine Al Jg Bh (of_decide_eq_true rfl) ?_
  simp (disch:=omega) only [GF,go_sem,Ab,h]
 | true =>
  rw [zW]
  refine Al Jg Bh (of_decide_eq_true rfl) ?_
  simp (disch:=omega) only [GF,go_sem,Ab,h]
theorem Pa (x lo hi:Int):E 32 [.int .i64 x,.int .i64 lo,.int .i64 hi] []=some (.bool (inI x lo hi),[]):=by
 unfold inI
 cases h:dec (lo≤x) with
 | false =>
  rw [zP]
  refine Al Lq Bt (of_decide_eq_true rfl) ?_
  simp (disch:=omega) only [Iv,go_sem,Ab,h]
 | true =>
  rw [zW]
  refine Al Lq Bt (of_decide_eq_true rfl) ?_
  simp (disch:=omega) only [Iv,go_sem,Ab,h]
theorem Wy (b k:Int) (h1:1≤b) (h3:b≤3) (h0:0≤k) (hk:k≤12):E 47 [.int .i64 b,.int .i64 k] []=some (.int .i64 (pw b k.toNat),[]):=by
 refine Al OZ H7 (of_decide_eq_true rfl) ?_
 simp (disch:=omega) only [Km,go_sem,Ab]
 refine go_loop (α:=Int) (fun i=>⟨slots 14 0 [(0,.int .i64 b),(5,.int .i64 (pw b i.toNat)),(6,.int .i64 k),(7,.int .i64 i)],[]⟩) (fun i=>0≤i∧i≤k) (fun i=>(k-i).toNat) 0 ⟨Int.le_refl 0,h0⟩ (by simp (disch:=omega) only [go_sem,Ab,y7,pw]) ?_
 rintro i ⟨hi0,hi1⟩
 rcases yH i k with hlt | hge
 ·have hn:(i+1).toNat=i.toNat+1:=by omega
  have hp:=Iq h1 h3 (k:=i.toNat+1) (by omega)
  rw [pw] at hp
  simp (disch:=omega) only [go_sem,Ab]
  refine ⟨i+1,⟨by omega,by omega⟩,by omega,?_⟩
  simp only [hn,pw,and_self]
 ·obtain rfl:i=k:=by omega
  simp (disch:=omega) only [go_sem,Ab]
theorem MM (b k:Int) (h1:1≤b) (h3:b≤3) (h0:0≤k) (hk:k≤12):E 61 [.int .i64 b,.int .i64 k] []=some (.int .i64 (pw b k.toNat),[]):=by
 refine Al L2 Bl (of_decide_eq_true rfl) ?_
 simp (disch:=omega) only [HM,go_sem,Ab]
 refine go_loop (α:=Int) (fun i=>⟨slots 16 0 [(0,.int .i64 b),(1,.int .i64 k),(5,.int .i64 (pw b i.toNat)),(6,.int .i64 i)],[]⟩) (fun i=>0≤i∧i≤k) (fun i=>(k-i).toNat) 0 ⟨Int.le_refl 0,h0⟩ (by simp (disch:=omega) only [go_sem,Ab,y7,pw]) ?_
 rintro i ⟨hi0,hi1⟩
 rcases yH i k with hlt | hge
 ·have hn:(i+1).toNat=i.toNat+1:=by omega
  have hp:=Iq h1 h3 (k:=i.toNat+1) (by omega)
  rw [pw] at hp
  simp (disch:=omega) only [go_sem,Ab]
  refine ⟨i+1,⟨by omega,by omega⟩,by omega,?_⟩
  simp only [hn,pw,and_self]
 ·obtain rfl:i=k:=by omega
  simp (disch:=omega) only [go_sem,Ab]
theorem L3 (x y:Tl):E 81 [x.sv,y.sv] []=some (.int .i64 (orZ (Rj x.name y.name) (Rk x.arity y.arity)),[]):=by
 have h1:=Rn x.name y.name
 have h2:=Ro x.arity y.arity
 have h3:=Ya (Rj x.name y.name) (Rk x.arity y.arity)
 refine Al Iw BZ (of_decide_eq_true rfl) ?_
 simp (disch:=omega) only [Fv,go_sem,Ab,h1,h2,h3,CU,DG,Ke]
theorem Tp (x y:Tl):DH x y=dec (orZ (Rj x.name y.name) (Rk x.arity y.arity)<0):=by
 unfold DH Rj
 cases h1:strLt x.name y.name with
 | true =>
  rw [Bool.true_or,cond_true,orZ,if_neg (by omega)]
  exact (A1 (by omega)).symm
 | false =>
  rw [Bool.false_or,cond_false]
  cases h2:dec (x.name=y.name) with
  | false =>
   rw [zP,cond_false,orZ,if_neg (by omega)]
   exact (Aj (by omega)).symm
  | true =>
   rw [zW,cond_true,orZ,if_pos rfl,Rk]
   cases h3:dec (x.arity<y.arity) with
   | true=>rw [cond_true]; exact (A1 (by omega)).symm
   | false =>
    rw [cond_false]
    cases dec (y.arity<x.arity) with
    | true=>rw [cond_true]; exact (Aj (by omega)).symm
    | false=>rw [cond_false]; exact (Aj (by omega)).symm
theorem Qh (xs:List Tl) (hl:xs.length≤1099511627776):E 44 [.arr (xs.map Tl.d)] []=some (.bool (EE xs),[]):=by
 refine Al KG Eb (of_decide_eq_true rfl) ?_
 simp (disch:=omega) only [Hj,go_sem,Ab]
 refine go_loop (α:=Int) (fun a=>⟨slots 40 0 [(0,.arr (xs.map Tl.d)),(5,.arr (xs.map Tl.d)),(6,.int .i64 xs.length),(7,.int .i64 a)],[]⟩) (fun a=>∃ k:Nat,a=k∧k≤(xs).length∧Di (ME xs) k=true) (fun a=>(xs).length-(a).toNat) 0 ⟨0,rfl,zX _,by rw [Di]⟩ (by simp (disch:=omega) only [go_sem,Ab]) ?_
 rintro i ⟨k,hi,hk,hR⟩
 have hni:i.toNat=k:=by omega
 have hni1:(i+1).toNat=k+1:=by omega
 rcases zJ k (xs).length with hlt | hge
 ·have hg:=get_at Tl.d hlt
  rw [Tl.d_eq] at hg
  have hs:=J3 xs[k].name
  have hw:=Kn xs[k].arity 0 3
  have no:ME xs k=false→EE xs=false:=fun h=>by unfold EE; rw [Kg h hlt,zP]
  cases ha:Ee xs[k].name with
  | false =>
   rw [ha] at hs
   rw [no (by cases k with | zero=>rw [Fb hlt,ha,zP] | succ j=>rw [D9 hlt,ha,zP])]
   simp (disch:=omega) only [go_sem,Ab,hni,hg,hs,hw,Bf,Bh,BZ]
  | true =>
   rw [ha] at hs
   cases hb:inI xs[k].arity 0 3 with
   | false =>
    rw [hb] at hw
    rw [no (by cases k with | zero=>rw [Fb hlt,hb,yX] | succ j=>rw [D9 hlt,hb,zP,yX])]
    simp (disch:=omega) only [go_sem,Ab,hni,hg,hs,hw,Bf,Bh,BZ]
   | true =>
    rw [hb] at hw
    cases k with
    | zero =>
     obtain rfl:i=0:=hi
     simp (disch:=omega) only [go_sem,Ab,hni,hg,hs,hw,Bf,Bh,BZ]
     exact ⟨1,⟨1,rfl,hlt,by rw [Di,hR,Fb hlt,ha,hb]; rfl⟩,by omega,by first | trivial | rfl⟩
    | succ j =>
     have hj:j<xs.length:=by omega
     have hg2:=get_at Tl.d hj
     rw [Tl.d_eq] at hg2
     have hni2:(i-1).toNat=j:=by omega
     have hc:=L3 xs[j] xs[j+1]
     have hk2:=Tp xs[j] xs[j+1]
     generalize orZ (Rj xs[j].name xs[j+1].name) (Rk xs[j].arity xs[j+1].arity)=cz at *
     rcases yH cz 0 with hq | hq
     ·simp (disch:=omega) only [go_sem,Ab,hni,hg,hs,hw,Bf,Bh,BZ,hni2,hg2,hc]
      exact ⟨i+1,⟨j+1+1,by omega,hlt,by rw [Di,hR,D9 hlt,ha,hb,hk2,A1 hq]; rfl⟩,by omega,by first | trivial | rfl⟩
     ·rw [no (by rw [D9 hlt,ha,hb,hk2,Aj (by omega)]; rfl)]
      simp (disch:=omega) only [go_sem,Ab,hni,hg,hs,hw,Bf,Bh,BZ,hni2,hg2,hc]
 ·obtain rfl:k=xs.length:=by omega
  simp (disch:=omega) only [go_sem,Ab,hni]
  unfold EE
  rw [hR,zW,Ia]
  exact decide_eq_decide.2 (by omega)
theorem Tq (t:Tl) (sz:Int):E 50 [t.sv,.int .i64 sz] []=some (.int .i64 (kinds sz t),[]):=by
 unfold kinds
 cases h:t.pred with
 | false =>
  refine Al Fw DQ (of_decide_eq_true rfl) ?_
  simp (disch:=omega) only [DP,go_sem,Ab,h]
  try rfl
 | true =>
  refine Al Fw DQ (of_decide_eq_true rfl) ?_
  simp (disch:=omega) only [DP,go_sem,Ab,h]
  try rfl
theorem UF (m:Ip) (t:Tl) (hs:1≤m.size∧m.size≤3) (v:Int):E 49 [.int .i64 v,.ptr 0 0,.ptr 1 0] [.box 44 [.str t.name,.int .i64 t.arity,.bool t.pred,.arr (t.vals.map fun n=>[D.int n])],.box 26 [.int .i64 m.size,.arr (m.tables.map Tl.d)]]=some (.bool (!inI v 0 (kinds m.size t-1)),[.box 44 [.str t.name,.int .i64 t.arity,.bool t.pred,.arr (t.vals.map fun n=>[D.int n])],.box 26 [.int .i64 m.size,.arr (m.tables.map Tl.d)]]):=by
 have h1:=Tq t m.size
 have h2:=Kn v 0 (kinds m.size t-1)
 have h3:1≤kinds m.size t∧kinds m.size t≤3:=by unfold kinds; split <;> omega
 refine Al EF Cm (of_decide_eq_true rfl) ?_
 simp (disch:=omega) only [CV,go_sem,Ab,h1,h2,Bh,DQ]
theorem Ru (m:Ip) (t:Tl) (hs:1≤m.size∧m.size≤3) (xs:List Int) (hl:xs.length≤1099511627776):E 83 [.arr (xs.map (fun n=>[D.int n])),.fn 49 [.ptr 0 0,.ptr 1 0]] [.box 44 [.str t.name,.int .i64 t.arity,.bool t.pred,.arr (t.vals.map fun n=>[D.int n])],.box 26 [.int .i64 m.size,.arr (m.tables.map Tl.d)]]=some (.int .i64 (CE (fun v=>!inI v 0 (kinds m.size t-1)) xs 0),[.box 44 [.str t.name,.int .i64 t.arity,.bool t.pred,.arr (t.vals.map fun n=>[D.int n])],.box 26 [.int .i64 m.size,.arr (m.tables.map Tl.d)]]):=by
 have hE:=UF m t hs
 generalize hpp:(fun v:Int=>!inI v 0 (kinds m.size t-1))=p at *
 have hpe:∀ v:Int,(!inI v 0 (kinds m.size t-1))=p v:=fun v=>by rw [←hpp]
 refine Al Gi DS (of_decide_eq_true rfl) ?_
 simp (disch:=omega) only [DR,go_sem,Ab]
 refine go_loop (α:=Int) (fun a=>⟨slots 19 0 [(0,.arr (xs.map (fun n=>[D.int n]))),(1,.fn 49 [.ptr 0 0,.ptr 1 0]),(7,.int .i64 xs.length),(8,.int .i64 a)],[.box 44 [.str t.name,.int .i64 t.arity,.bool t.pred,.arr (t.vals.map fun n=>[D.int n])],.box 26 [.int .i64 m.size,.arr (m.tables.map Tl.d)]]⟩) (fun a=>∃ k:Nat,a=k∧k≤(xs).length∧CE p (xs.drop k) a=CE p xs 0) (fun a=>(xs).length-(a).toNat) 0 ⟨0,rfl,zX _,by rw [zV]⟩ (by simp (disch:=omega) only [go_sem,Ab]) ?_
 rintro i ⟨k,hi,hk,hR⟩
 have hni:i.toNat=k:=by omega
 have hni1:(i+1).toNat=k+1:=by omega
 rcases zJ k (xs).length with hlt | hge
 ·have hg':=get_at (fun n=>[D.int n]) hlt
  have hc:=hE xs[k]
  rw [hpe] at hc
  rw [zL hlt,CE] at hR
  cases hp:p xs[k] with
  | true =>
   rw [hp] at hc hR
   simp (disch:=omega) only [go_sem,Ab,hni,hg',hc,BD,Cm]
   simpa using hR
  | false =>
   rw [hp] at hc hR
   simp (disch:=omega) only [go_sem,Ab,hni,hg',hc,BD,Cm]
   exact ⟨i+1,⟨k+1,by omega,hlt,by simpa using hR⟩,by omega,by first | trivial | rfl⟩
 ·rw [zM hge,CE] at hR
  simp (disch:=omega) only [go_sem,Ab,hni]
  exact hR
theorem Nx (m:Ip) (t:Tl) (hs:1≤m.size∧m.size≤3) (xs:List Int) (hl:xs.length≤1099511627776):E 48 [.arr (xs.map (fun n=>[D.int n])),.fn 49 [.ptr 0 0,.ptr 1 0]] [.box 44 [.str t.name,.int .i64 t.arity,.bool t.pred,.arr (t.vals.map fun n=>[D.int n])],.box 26 [.int .i64 m.size,.arr (m.tables.map Tl.d)]]=some (.bool (xs.any fun v=>!inI v 0 (kinds m.size t-1)),[.box 44 [.str t.name,.int .i64 t.arity,.bool t.pred,.arr (t.vals.map fun n=>[D.int n])],.box 26 [.int .i64 m.size,.arr (m.tables.map Tl.d)]]):=by
 have h:=Ru m t hs xs hl
 refine Al Fx C4 (of_decide_eq_true rfl) ?_
 simp (disch:=omega) only [Dt,go_sem,Ab,h,DS]
 rw [Hf]
theorem Rv (m:Ip) (t:Tl) (hs:1≤m.size∧m.size≤3) (ha:0≤t.arity∧t.arity≤3) (hl:t.vals.length≤1099511627776):E 46 [t.sv,.ptr 0 0] [.box 26 [.int .i64 m.size,.arr (m.tables.map Tl.d)]]=some (.bool (!tlB m.size t),[.box 26 [.int .i64 m.size,.arr (m.tables.map Tl.d)]]):=by
 have h1:=Wy m.size t.arity hs.1 hs.2 ha.1 (by omega)
 have h2:=Nx m t hs t.vals hl
 have hall:(t.vals.any fun v=>!inI v 0 (kinds m.size t-1))=!(t.vals.all fun v=>inI v 0 (kinds m.size t-1)):=by
  induction t.vals with
  | nil=>rfl
  | cons a l ih=>rw [yE,yI,ih,Bool.not_and]
 rw [hall] at h2
 have hp:=Iq hs.1 hs.2 (k:=t.arity.toNat) (by omega)
 unfold tlB
 cases hd:dec ((t.vals.length:Int)=pw m.size t.arity.toNat) with
 | false =>
  rw [zP]
  refine Al Dl BM (of_decide_eq_true rfl) ?_
  simp (disch:=omega) only [Cy,go_sem,Ab,h1,h2,hd,H7,C4,BD]
 | true =>
  rw [zW]
  refine Al Dl BM (of_decide_eq_true rfl) ?_
  simp (disch:=omega) only [Cy,go_sem,Ab,h1,h2,hd,H7,C4,BD]
theorem Rw (m:Ip) (hs:1≤m.size∧m.size≤3) (xs:List Tl) (hx:∀ t∈xs,(0≤t.arity∧t.arity≤3)∧t.vals.length≤1099511627776) (hl:xs.length≤1099511627776):E 82 [.arr (xs.map Tl.d),.fn 46 [.ptr 0 0]] [.box 26 [.int .i64 m.size,.arr (m.tables.map Tl.d)]]=some (.int .i64 (CE (fun t=>!tlB m.size t) xs 0),[.box 26 [.int .i64 m.size,.arr (m.tables.map Tl.d)]]):=by
 have hE:=fun t (ht:t∈xs)=>Rv m t hs (hx t ht).1 (hx t ht).2
 generalize hpp:(fun t:Tl=>!tlB m.size t)=p at *
 have hpe:∀ t,(!tlB m.size t)=p t:=fun t=>by rw [←hpp]
 refine Al Cu AO (of_decide_eq_true rfl) ?_
 simp (disch:=omega) only [BB,go_sem,Ab]
 refine go_loop (α:=Int) (fun a=>⟨slots 19 0 [(0,.arr (xs.map Tl.d)),(1,.fn 46 [.ptr 0 0]),(7,.int .i64 xs.length),(8,.int .i64 a)],[.box 26 [.int .i64 m.size,.arr (m.tables.map Tl.d)]]⟩) (fun a=>∃ k:Nat,a=k∧k≤(xs).length∧CE p (xs.drop k) a=CE p xs 0) (fun a=>(xs).length-(a).toNat) 0 ⟨0,rfl,zX _,by rw [zV]⟩ (by simp (disch:=omega) only [go_sem,Ab]) ?_
 rintro i ⟨k,hi,hk,hR⟩
 have hni:i.toNat=k:=by omega
 have hni1:(i+1).toNat=k+1:=by omega
 rcases zJ k (xs).length with hlt | hge
 ·have hg':=get_at Tl.d hlt
  rw [Tl.d_eq] at hg'
  have hc:=hE xs[k] (zF hlt)
  rw [hpe] at hc
  rw [zL hlt,CE] at hR
  cases hp:p xs[k] with
  | true =>
   rw [hp] at hc hR
   simp (disch:=omega) only [go_sem,Ab,hni,hg',hc,Dm,BM]
   simpa using hR
  | false =>
   rw [hp] at hc hR
   simp (disch:=omega) only [go_sem,Ab,hni,hg',hc,Dm,BM]
   exact ⟨i+1,⟨k+1,by omega,hlt,by simpa using hR⟩,by omega,by first | trivial | rfl⟩
 ·rw [zM hge,CE] at hR
  simp (disch:=omega) only [go_sem,Ab,hni]
  exact hR
theorem Ny (m:Ip) (hs:1≤m.size∧m.size≤3) (xs:List Tl) (hx:∀ t∈xs,(0≤t.arity∧t.arity≤3)∧t.vals.length≤1099511627776) (hl:xs.length≤1099511627776):E 45 [.arr (xs.map Tl.d),.fn 46 [.ptr 0 0]] [.box 26 [.int .i64 m.size,.arr (m.tables.map Tl.d)]]=some (.bool (!xs.all (tlB m.size)),[.box 26 [.int .i64 m.size,.arr (m.tables.map Tl.d)]]):=by
 have h:=Rw m hs xs hx hl
 have hall:(xs.any fun t=>!tlB m.size t)=!xs.all (tlB m.size):=by
  induction xs with
  | nil=>rfl
  | cons a l ih=>rw [yE,yI,Bool.not_and]; congr 1; clear h hx hl ih; induction l with
   | nil=>rfl
   | cons a l ih=>rw [yE,yI,ih,Bool.not_and]
 rw [←hall]
 refine Al Dp Ci (of_decide_eq_true rfl) ?_
 simp (disch:=omega) only [Ch,go_sem,Ab,h,AO]
 rw [Hf]
theorem Hm (m:Ip) (hm:m.tame):E 20 [m.sv] []=some (.bool m.ok,[]):=by
 have h1:=Kn m.size 1 3
 have h2:=Qh m.tables hm.1
 unfold Ip.ok
 cases hs:inI m.size 1 3 with
 | false =>
  rw [hs] at h1
  rw [zP]
  refine Al CB AN (of_decide_eq_true rfl) ?_
  simp (disch:=omega) only [BW,go_sem,Ab,h1,h2,Bh,Eb]
 | true =>
  rw [hs] at h1
  rw [zW]
  cases ht:EE m.tables with
  | false =>
   rw [ht] at h2
   rw [zP]
   refine Al CB AN (of_decide_eq_true rfl) ?_
   simp (disch:=omega) only [BW,go_sem,Ab,h1,h2,Bh,Eb]
  | true =>
   rw [ht] at h2
   rw [zW]
   have h3:=Ny m (H6.1 hs) m.tables (fun t hx=>⟨Ir ht hx,hm.2 t hx⟩) hm.1
   refine Al CB AN (of_decide_eq_true rfl) ?_
   simp (disch:=omega) only [BW,go_sem,Ab,h1,h2,h3,Bh,Eb,Ci]
   rw [Bool.not_not]
theorem HN:modes 72=⟨[],.asis,some (JW M6),false⟩:=by unfold modes; rfl
def DI:SC:=(.seq (.reg [⟨some 2,none,.alloc 26 [(.int .i64 0),.nil]⟩]) (.seq (.reg [⟨some 8,none,.mv (.t 0)⟩,⟨some 9,none,.mkrow 3 1 [(.int .i64 0)] 4 [(0,(.c (.int .i64 1))),(1,(.c (.int .i64 2))),(2,(.c (.int .i64 2))),(3,(.c (.int .i64 3)))]⟩,⟨some 10,none,.call 36 [(.t 8),(.t 9)]⟩,⟨some 11,none,.build [(.int .i64 0),.nil] [(0,(1,(.t 10)))]⟩,⟨some 3,none,.alloc 26 [(.int .i64 0),.nil]⟩,⟨none,none,(.store 2 (.t 3) (.t 11))⟩]) (.seq (.reg [⟨some 12,none,.call 72 []⟩,⟨some 4,none,.mv (.t 12)⟩]) (.seq (.seq (.reg [⟨some 5,none,.mv (.c (.int .i64 0))⟩]) (.block 0 (.loop [1,0,1,1,1,1,0,0,0,0,0,0,0,0,0,0,0,0,0,0,0,0,0,0,0,0,0,0,0,0,0,0,0,0,0,0,0,0,0,0,0,0,0,0,0,0,0,0,0,0,0,0,0,0,0,0,0] (.seq (.seq (.reg [⟨some 13,none,.mv (.t 5)⟩,⟨some 14,none,.mv (.t 4)⟩,⟨some 15,none,.len false (.t 14)⟩,⟨some 16,none,.bin .lss false (.t 13) (.t 15)⟩]) (.cond (.t 16) .skip (.exit 0))) (.seq (.block 1 (.seq (.reg [⟨some 19,none,.mv (.t 4)⟩,⟨some 20,none,.mv (.t 5)⟩,⟨some 21,none,.iaddr 4 (.t 19) (.t 20)⟩,⟨some 22,none,.load true 4 (.t 21)⟩,⟨(some 6),none,(.alloc 44 [(.str ⟨#[]⟩),(.int .i64 0),(.bool false),.nil])⟩,⟨none,none,(.store 4 (.t 6) (.t 22))⟩]) (.seq (.seq (.reg [⟨some 7,none,.mv (.c (.int .i64 0))⟩]) (.block 2 (.loop [1,0,1,1,1,1,1,1,0,0,0,0,0,0,0,0,0,0,0,0,0,0,0,0,0,0,0,0,0,0,0,0,0,0,0,0,0,0,0,0,0,0,0,0,0,0,0,0,0,0,0,0,0,0,0,0,0] (.seq (.seq (.reg [⟨some 23,none,.mv (.t 7)⟩,⟨some 24,none,.faddr 0 (.t 3)⟩,⟨some 25,none,.load false 1 (.t 24)⟩,⟨some 26,none,.faddr 1 (.t 6)⟩,⟨some 27,none,.load false 1 (.t 26)⟩,⟨some 28,none,.call 61 [(.t 25),(.t 27)]⟩,⟨some 29,none,.bin .lss false (.t 23) (.t 28)⟩]) (.cond (.t 29) .skip (.exit 2))) (.seq (.block 3 (.seq (.reg [⟨some 32,none,.faddr 2 (.t 6)⟩,⟨some 33,none,.load false 1 (.t 32)⟩]) (.cond (.t 33) (.dreg [[],[0],[],[2],[3,2],[1,0,4,3,2],[0,1,2,3,4,5],[6,0,1,2,3,4,5]] [⟨some 34,none,.faddr 3 (.t 6)⟩,⟨some 35,none,.load false 1 (.t 34)⟩,⟨some 36,none,.mv (.t 0)⟩,⟨some 37,none,.call 28 [(.t 36),(.c (.int .i64 2))]⟩,⟨some 38,none,.mkrow 3 1 [(.int .i64 0)] 1 [(0,(.t 37))]⟩,⟨some 39,none,.append 3 1 8 [(.int .i64 0)] (.t 35) (.t 38)⟩,⟨some 40,none,.faddr 3 (.t 6)⟩,⟨none,none,(.store 1 (.t 40) (.t 39))⟩]) (.dreg [[],[0],[],[],[3],[2,4,3],[5,2,4,3],[1,0,6,5,2,4,3],[0,1,2,3,4,5,6,7],[8,0,1,2,3,4,5,6,7]] [⟨some 41,none,.faddr 3 (.t 6)⟩,⟨some 42,none,.load false 1 (.t 41)⟩,⟨some 43,none,.mv (.t 0)⟩,⟨some 44,none,.faddr 0 (.t 3)⟩,⟨some 45,none,.load false 1 (.t 44)⟩,⟨some 46,none,.call 28 [(.t 43),(.t 45)]⟩,⟨some 47,none,.mkrow 3 1 [(.int .i64 0)] 1 [(0,(.t 46))]⟩,⟨some 48,none,.append 3 1 8 [(.int .i64 0)] (.t 42) (.t 47)⟩,⟨some 49,none,.faddr 3 (.t 6)⟩,⟨none,none,(.store 1 (.t 49) (.t 48))⟩])))) (.reg [⟨some 30,none,.mv (.t 7)⟩,⟨some 31,none,.bin .add false (.t 30) (.c (.int .i64 1))⟩,⟨some 7,none,.mv (.t 31)⟩])))))) (.reg [⟨some 50,none,.faddr 1 (.t 3)⟩,⟨some 51,none,.load false 1 (.t 50)⟩,⟨some 52,none,.load true 4 (.t 6)⟩,⟨(some 53),none,(.mkrow 44 4 [(.str ⟨#[]⟩),(.int .i64 0),(.bool false),.nil] 1 [(0,(.t 52))])⟩,⟨(some 54),none,(.append 44 4 56 [(.str ⟨#[]⟩),(.int .i64 0),(.bool false),.nil] (.t 51) (.t 53))⟩,⟨some 55,none,.faddr 1 (.t 3)⟩,⟨none,none,(.store 1 (.t 55) (.t 54))⟩])))) (.reg [⟨some 17,none,.mv (.t 5)⟩,⟨some 18,none,.bin .add false (.t 17) (.c (.int .i64 1))⟩,⟨some 5,none,.mv (.t 18)⟩])))))) (.seq (.reg [⟨some 56,none,.load true 2 (.t 3)⟩,⟨none,none,(.store 2 (.t 2) (.t 56))⟩]) .ret)))))
theorem FI:As Tryz.prog 35=some ⟨57,DI,[(.cell 2 true 2)]⟩:=by kernel_rfl
theorem AP:modes 35=⟨[],.half [none,some (44,4)],none,false⟩:=by unfold modes; rfl
theorem Wz:E 72 [] []=some (.arr (Ft.map Tl.nd),[]):=PY (g:=M6) (congrArg FM.ext HN) rfl
theorem Tr:Ft.length=7:=rfl
theorem UG:∀ t∈Ft,0≤t.arity∧t.arity≤2∧t.vals=[]:=by
 intro t ht
 simp only [Ft,zS,y0,or_false] at ht
 rcases ht with rfl | rfl | rfl | rfl | rfl | rfl | rfl <;> exact ⟨by decide,by decide,rfl⟩
theorem pw2 {b k:Int} (h1:1≤b) (h3:b≤3) (k0:0≤k) (k2:k≤2):1≤pw b k.toNat∧pw b k.toNat≤9:=by
 have h:=Kh h1 h3 k.toNat
 have h2:=KE (show k.toNat≤2 by omega)
 have e:(3:Int) ^ 2=9:=by decide
 omega
def Tl.hs (x:Tl):List OT:=[.str x.name,.int x.arity,.bool x.pred,.sh (x.vals.map fun n=>[D.int n])]
theorem Tl.UH (x:Tl):x.hs=[.str x.name,.int x.arity,.bool x.pred,.sh (x.vals.map fun n=>[D.int n])]:=rfl
theorem Tl.hs_full:∀ xs:List Tl,OT.AI (xs.map Tl.hs)=true
 | []=>rfl
 | x :: xs=>by simp only [zA,OT.AI,Tl.hs,OT.Da,OT.full,Tl.hs_full xs,zD]
theorem Tl.hs_er:∀ xs:List Tl,OT.erss (xs.map Tl.hs)=xs.map Tl.d
 | []=>rfl
 | x :: xs=>by simp only [zA,OT.erss,Tl.hs,OT.ers,OT.er,Tl.hs_er xs,Tl.d_eq]
theorem Tl.hs_half:∀ xs:List Tl,OT.Cf (xs.map Tl.hs)=xs.map Tl.hs
 | []=>rfl
 | x :: xs=>by simp only [zA,OT.Cf,Tl.hs,OT.Gy,OT.half,Tl.hs_half xs]
theorem Tl.o_half:∀ xs:List Tl,OT.Cf (xs.map Tl.o)=xs.map Tl.hs
 | []=>rfl
 | x :: xs=>by rw [zA,zA,Tl.o_eq,Tl.UH]; simp only [OT.Cf,OT.Gy,OT.half,LF,Tl.o_half xs]
attribute [go_sem] Tl.hs_full Tl.hs_er Tl.hs_half Tl.o_half
abbrev ipH (m:Ip) (g:Nat):SV:=.agg [.int .i64 m.size,.ref g]
abbrev UI (m:Ip):Ob:=.row 44 4 (m.tables.map Tl.hs)
theorem IO (l:List Int) (v:Int):(l.map fun n=>[OT.int n])++[[OT.int v]]=(l++[v]).map fun n=>[OT.int n]:=by rw [zZ]; rfl
theorem W0 (acc:List Tl) (nm:ByteArray) (ar:Int) (pr:Bool) (vs:List Int):acc.map Tl.o++[[OT.str nm,OT.int ar,OT.bool pr,OT.ow (vs.map fun n=>[OT.int n])]]=(acc++[(⟨nm,ar,pr,vs⟩:Tl)]).map Tl.o:=by rw [zZ,zA,zH,Tl.o_eq]
theorem XA (nm:ByteArray) (ar:Int) (pr:Bool) (vs:List Int):[[OT.str nm,OT.int ar,OT.bool pr,OT.ow (vs.map fun n=>[OT.int n])]]=([(⟨nm,ar,pr,vs⟩:Tl)]).map Tl.o:=by rw [zA,zH,Tl.o_eq]
theorem KH (l:List Int) (hl:Bytes l) (hn:l.length≤1099511627776) (p s:Int) (h0:0≤p) (h1:p≤1099000000000):∃ m p' s',E 35 [.ptr 0 0] [cur l p s]=some (ipH m 1,[cur l p' s',UI m])∧(p≤p'∧p'≤p+100)∧(1≤m.size∧m.size≤3)∧m.tables.length=7∧∀ t∈m.tables,1≤t.vals.length∧t.vals.length≤9:=by
 obtain ⟨Q,hQ⟩:∃ Q:SV × List Ob→Prop,Q=fun out=>∃ m p' s',out=(ipH m 1,[cur l p' s',UI m])∧(p≤p'∧p'≤p+100)∧(1≤m.size∧m.size≤3)∧m.tables.length=7∧∀ t∈m.tables,1≤t.vals.length∧t.vals.length≤9:=⟨_,rfl⟩
 suffices hq0:∃ out,E 35 [.ptr 0 0] [cur l p s]=some out∧Q out by
  obtain ⟨out,hq1,hq2⟩:=hq0
  rw [hQ] at hq2
  obtain ⟨m,p',s',rfl,hq3⟩:=hq2
  exact ⟨m,p',s',hq1,hq3⟩
 obtain ⟨sz,p1,s1,hsz,hmem,g1,g2⟩:=IL l hl hn [1,2,2,3] (by decide) (by decide) p s h0 (by omega)
 simp only [zA,zH] at hsz
 have hsz3:1≤sz∧sz≤3:=by simp only [zS,y0,or_false] at hmem; omega
 have hus:=Wz
 have hul:=Tr
 have hj10:((0:Int)+1=0)=False:=by simp
 have h10:((1:Int)=0)=False:=by simp
 refine AL FI AP (of_decide_eq_true rfl) ?_
 simp (disch:=omega) only [DI,go_sem,Ab,hsz,hus,HN,Ax]
 refine go_loop (α:=Int × Int × Int × List Tl) (fun a=>⟨slots 57 0 [(0,.ptr 0 0),(2,.ptr 1 0),(3,.ptr 2 0),(4,.arr (Ft.map Tl.nd)),(5,.int .i64 a.1)],(if a.1=0 then [cur l a.2.1 a.2.2.1,.box 26 [.int .i64 0,.nil],.box 26 [.int .i64 sz,.nil]] else [cur l a.2.1 a.2.2.1,.box 26 [.int .i64 0,.nil],.box 26 [.int .i64 sz,.ref 3],.row 44 4 (a.2.2.2.map Tl.o)])⟩) (fun a=>∃ k:Nat,a.1=k∧k≤7∧a.2.2.2.length=k∧(∀ t∈a.2.2.2,1≤t.vals.length∧t.vals.length≤9)∧p1≤a.2.1∧a.2.1≤p1+9*k) (fun a=>(7-a.1).toNat) (0,p1,s1,[]) ⟨0,rfl,by omega,rfl,(fun _ h=>by cases h),by dsimp only; omega,by dsimp only; omega⟩ (by simp (disch:=omega) only [go_sem,Ab,eq_self,if_true]) ?_
 rintro ⟨i,p2,s2,acc⟩ ⟨k,hi,hk,hal,hac,hp2,hp3⟩
 dsimp only at hi hal hac hp2 hp3
 have hni:i.toNat=k:=by omega
 rcases zJ k 7 with hlt | hge
 ·have hltu:k<Ft.length:=hlt
  have q1:(i<(Ft.length:Int))=True:=eq_true (by omega)
  have hi1:(i+1=0)=False:=by simp; omega
  have hg:=get_at Tl.nd hltu
  obtain ⟨a0,a2,av⟩:=UG Ft[k] (zF hltu)
  rw [Tl.XS] at hg
  obtain ⟨nm,hnm⟩:∃ nm,nm=(Ft[k]).name:=⟨_,rfl⟩
  obtain ⟨ar,har⟩:∃ ar,ar=(Ft[k]).arity:=⟨_,rfl⟩
  obtain ⟨pr,hpr⟩:∃ pr,pr=(Ft[k]).pred:=⟨_,rfl⟩
  rw [←hnm,← har,← hpr] at hg
  rw [←har] at a0 a2
  have hpw:=MM sz ar hsz3.1 hsz3.2 a0 (by omega)
  have hpb:=pw2 hsz3.1 hsz3.2 a0 a2
  rcases zO k with hk0 | hk0
  ·subst hk0
   obtain rfl:i=0:=hi
   have ha0:acc=[]:=zE hal
   subst ha0
   simp (disch:=omega) only [go_sem,Ab,q1,hg,eq_self,if_true,y7]
   refine go_loop (α:=Int × Int × Int × List Int) (fun b=>⟨slots 57 0 [(0,.ptr 0 0),(2,.ptr 1 0),(3,.ptr 2 0),(4,.arr (Ft.map Tl.nd)),(5,.int .i64 0),(6,.ptr 3 0),(7,.int .i64 b.1)],(if b.1=0 then [cur l b.2.1 b.2.2.1,.box 26 [.int .i64 0,.nil],.box 26 [.int .i64 sz,.nil],.box 44 [.str nm,.int .i64 ar,.bool pr,.nil]] else [cur l b.2.1 b.2.2.1,.box 26 [.int .i64 0,.nil],.box 26 [.int .i64 sz,.nil],.box 44 [.str nm,.int .i64 ar,.bool pr,.ref 4],.row 3 1 (b.2.2.2.map fun n=>[OT.int n])])⟩) (fun b=>∃ n:Nat,b.1=n∧(n:Int)≤pw sz ar.toNat∧b.2.2.2.length=n∧p2≤b.2.1∧b.2.1≤p2+n) (fun b=>(pw sz ar.toNat-b.1).toNat) (0,p2,s2,[]) ⟨0,rfl,by omega,rfl,by dsimp only; omega,by dsimp only; omega⟩ (by simp (disch:=omega) only [go_sem,Ab,eq_self,if_true]) ?_
   rintro ⟨j,p3,s3,vs⟩ ⟨n,hj,hn1,hvl,hp3,hp4⟩
   dsimp only at hj hn1 hvl hp3 hp4
   rcases yH (n:Int) (pw sz ar.toNat) with hlt2 | hge2
   ·have q2:(j<pw sz ar.toNat)=True:=eq_true (by omega)
    have hj1:(j+1=0)=False:=by simp; omega
    have hvl9:vs.length≤9:=by omega
    obtain ⟨v,p5,s5,hv,_,g5,g6⟩:=Dh l hl hn 2 (by omega) (by omega) p3 s3 (by omega) (by omega)
    obtain ⟨w,p6,s6,hw,_,g7,g8⟩:=Dh l hl hn sz (by omega) (by omega) p3 s3 (by omega) (by omega)
    have hsv:=IO vs v
    have hsw:=IO vs w
    rcases zO n with hn0 | hn0
    ·subst hn0
     obtain rfl:j=0:=hj
     have hv0:vs=[]:=zE hvl
     subst hv0
     cases pr
     ·simp (disch:=omega) only [go_sem,Ab,q2,eq_self,if_true,hv,hw,hpw,Bl,Am]
      refine ⟨(0+1,p6,s6,[]++[w]),⟨1,rfl,by omega,rfl,by dsimp only; omega,by dsimp only; omega⟩,by dsimp only; omega,?_⟩
      simp (disch:=omega) only [go_sem,Ab,eq_self,h10,hj10,if_false,yA,zA,zH]
     ·simp (disch:=omega) only [go_sem,Ab,q2,eq_self,if_true,hv,hw,hpw,Bl,Am]
      refine ⟨(0+1,p5,s5,[]++[v]),⟨1,rfl,by omega,rfl,by dsimp only; omega,by dsimp only; omega⟩,by dsimp only; omega,?_⟩
      simp (disch:=omega) only [go_sem,Ab,eq_self,h10,hj10,if_false,yA,zA,zH]
    ·have hj0:(j=0)=False:=by simp; omega
     cases pr
     ·simp (disch:=omega) only [go_sem,Ab,q2,hj0,if_false,hv,hw,hpw,Bl,Am]
      refine ⟨(j+1,p6,s6,vs++[w]),⟨n+1,by dsimp only; omega,by omega,by simp [hvl],by dsimp only; omega,by dsimp only; omega⟩,by dsimp only; omega,?_⟩
      simp (disch:=omega) only [go_sem,Ab,hj1,if_false,hsv,hsw]
     ·simp (disch:=omega) only [go_sem,Ab,q2,hj0,if_false,hv,hw,hpw,Bl,Am]
      refine ⟨(j+1,p5,s5,vs++[v]),⟨n+1,by dsimp only; omega,by omega,by simp [hvl],by dsimp only; omega,by dsimp only; omega⟩,by dsimp only; omega,?_⟩
      simp (disch:=omega) only [go_sem,Ab,hj1,if_false,hsv,hsw]
   ·have q2:(j<pw sz ar.toNat)=False:=eq_false (by omega)
    have hj0:(j=0)=False:=by simp; omega
    have hs1:=XA nm ar pr vs
    simp (disch:=omega) only [go_sem,Ab,q2,hj0,if_false,hpw,Bl,Am]
    refine ⟨(0+1,p3,s3,([]:List Tl)++[(⟨nm,ar,pr,vs⟩:Tl)]),⟨1,by dsimp only; omega,by omega,by simp,fun t ht=>?_,by dsimp only; omega,by dsimp only; omega⟩,by dsimp only; omega,?_⟩
    ·rcases y5.1 ht with ht | ht
     ·exact hac t ht
     ·simp only [List.mem_singleton] at ht
      subst ht
      exact ⟨by dsimp only; omega,by dsimp only; omega⟩
    ·simp (disch:=omega) only [go_sem,Ab,h10,hj10,if_false,hs1,yA]
  ·have hi0:(i=0)=False:=by simp; omega
   simp (disch:=omega) only [go_sem,Ab,q1,hg,hni,hi0,if_false]
   refine go_loop (α:=Int × Int × Int × List Int) (fun b=>⟨slots 57 0 [(0,.ptr 0 0),(2,.ptr 1 0),(3,.ptr 2 0),(4,.arr (Ft.map Tl.nd)),(5,.int .i64 i),(6,.ptr 3 0),(7,.int .i64 b.1)],(if b.1=0 then [cur l b.2.1 b.2.2.1,.box 26 [.int .i64 0,.nil],.box 26 [.int .i64 sz,.ref 4],.box 44 [.str nm,.int .i64 ar,.bool pr,.nil],.row 44 4 (acc.map Tl.o)] else [cur l b.2.1 b.2.2.1,.box 26 [.int .i64 0,.nil],.box 26 [.int .i64 sz,.ref 4],.box 44 [.str nm,.int .i64 ar,.bool pr,.ref 5],.row 44 4 (acc.map Tl.o),.row 3 1 (b.2.2.2.map fun n=>[OT.int n])])⟩) (fun b=>∃ n:Nat,b.1=n∧(n:Int)≤pw sz ar.toNat∧b.2.2.2.length=n∧p2≤b.2.1∧b.2.1≤p2+n) (fun b=>(pw sz ar.toNat-b.1).toNat) (0,p2,s2,[]) ⟨0,rfl,by omega,rfl,by dsimp only; omega,by dsimp only; omega⟩ (by simp (disch:=omega) only [go_sem,Ab,eq_self,if_true]) ?_
   rintro ⟨j,p3,s3,vs⟩ ⟨n,hj,hn1,hvl,hp3,hp4⟩
   dsimp only at hj hn1 hvl hp3 hp4
   rcases yH (n:Int) (pw sz ar.toNat) with hlt2 | hge2
   ·have q2:(j<pw sz ar.toNat)=True:=eq_true (by omega)
    have hj1:(j+1=0)=False:=by simp; omega
    have hvl9:vs.length≤9:=by omega
    obtain ⟨v,p5,s5,hv,_,g5,g6⟩:=Dh l hl hn 2 (by omega) (by omega) p3 s3 (by omega) (by omega)
    obtain ⟨w,p6,s6,hw,_,g7,g8⟩:=Dh l hl hn sz (by omega) (by omega) p3 s3 (by omega) (by omega)
    have hsv:=IO vs v
    have hsw:=IO vs w
    rcases zO n with hn0 | hn0
    ·subst hn0
     obtain rfl:j=0:=hj
     have hv0:vs=[]:=zE hvl
     subst hv0
     cases pr
     ·simp (disch:=omega) only [go_sem,Ab,q2,eq_self,if_true,hv,hw,hi0,if_false,hpw,Bl,Am]
      refine ⟨(0+1,p6,s6,[]++[w]),⟨1,rfl,by omega,rfl,by dsimp only; omega,by dsimp only; omega⟩,by dsimp only; omega,?_⟩
      simp (disch:=omega) only [go_sem,Ab,eq_self,h10,hj10,if_false,yA,zA,zH,hi0,if_false]
     ·simp (disch:=omega) only [go_sem,Ab,q2,eq_self,if_true,hv,hw,hi0,if_false,hpw,Bl,Am]
      refine ⟨(0+1,p5,s5,[]++[v]),⟨1,rfl,by omega,rfl,by dsimp only; omega,by dsimp only; omega⟩,by dsimp only; omega,?_⟩
      simp (disch:=omega) only [go_sem,Ab,eq_self,h10,hj10,if_false,yA,zA,zH,hi0,if_false]
    ·have hj0:(j=0)=False:=by simp; omega
     cases pr
     ·simp (disch:=omega) only [go_sem,Ab,q2,hj0,if_false,hv,hw,hi0,if_false,hpw,Bl,Am]
      refine ⟨(j+1,p6,s6,vs++[w]),⟨n+1,by dsimp only; omega,by omega,by simp [hvl],by dsimp only; omega,by dsimp only; omega⟩,by dsimp only; omega,?_⟩
      simp (disch:=omega) only [go_sem,Ab,hj1,if_false,hsv,hsw,hi0,if_false]
     ·simp (disch:=omega) only [go_sem,Ab,q2,hj0,if_false,hv,hw,hi0,if_false,hpw,Bl,Am]
      refine ⟨(j+1,p5,s5,vs++[v]),⟨n+1,by dsimp only; omega,by omega,by simp [hvl],by dsimp only; omega,by dsimp only; omega⟩,by dsimp only; omega,?_⟩
      simp (disch:=omega) only [go_sem,Ab,hj1,if_false,hsv,hsw,hi0,if_false]
   ·have q2:(j<pw sz ar.toNat)=False:=eq_false (by omega)
    have hj0:(j=0)=False:=by simp; omega
    have hs1:=W0 acc nm ar pr vs
    simp (disch:=omega) only [go_sem,Ab,q2,hj0,if_false,hi0,if_false,hpw,Bl,Am]
    refine ⟨(i+1,p3,s3,acc++[(⟨nm,ar,pr,vs⟩:Tl)]),⟨k+1,by dsimp only; omega,by omega,by simp [hal],fun t ht=>?_,by dsimp only; omega,by dsimp only; omega⟩,by dsimp only; omega,?_⟩
    ·rcases y5.1 ht with ht | ht
     ·exact hac t ht
     ·simp only [List.mem_singleton] at ht
      subst ht
      exact ⟨by dsimp only; omega,by dsimp only; omega⟩
    ·simp (disch:=omega) only [go_sem,Ab,h10,hj10,hi1,if_false,hs1,yA,hi0,if_false]
 ·have q1:(i<(Ft.length:Int))=False:=eq_false (by omega)
  have hi0:(i=0)=False:=by simp; omega
  simp (disch:=omega) only [go_sem,Ab,q1,hi0,if_false]
  rw [hQ]
  exact ⟨⟨sz,acc⟩,p2,s2,rfl,by omega,hsz3,by show acc.length=7; omega,hac⟩
theorem Yb {ts:List Tl} {j:Nat} (h:j<ts.length):(ts.map Tl.hs)[j]?=some [.str ts[j].name,.int ts[j].arity,.bool ts[j].pred,.sh (ts[j].vals.map fun n=>[D.int n])]:=by
 rw [yY,zG h]; rfl
theorem Rx (ts:List Tl) (j:Nat) (nm:ByteArray) (ar:Int) (pr:Bool) (vs:List Int):(ts.map Tl.hs).set j [.str nm,.int ar,.bool pr,.sh (vs.map fun n=>[D.int n])]=(ts.set j ⟨nm,ar,pr,vs⟩).map Tl.hs:=by
 rw [List.map_set]; rfl
def tlO (ts:List Tl) (j:Nat) (nm:ByteArray) (ar:Int) (pr:Bool) (X:List (List OT)):List (List OT):=(ts.map Tl.hs).set j [.str nm,.int ar,.bool pr,.ow X]
theorem XB (ts:List Tl) (j:Nat) (nm:ByteArray) (ar:Int) (pr:Bool) (X:List (List OT)):(ts.map Tl.hs).set j [.str nm,.int ar,.bool pr,.ow X]=tlO ts j nm ar pr X:=rfl
theorem Qi {nm:ByteArray} {ar:Int} {pr:Bool} {X:List (List OT)} (hX:OT.AI X=true):∀ (ts:List Tl) (j:Nat),OT.AI (tlO ts j nm ar pr X)=true
 | [],j=>rfl
 | t :: ts,0=>by
  unfold tlO
  rw [zA,yK]
  simp only [OT.AI,OT.Da,OT.full,hX,Tl.hs_full ts,zD]
 | t :: ts,j+1=>by
  have ih:=Qi (nm:=nm) (ar:=ar) (pr:=pr) hX ts j
  unfold tlO at ih ⊢
  rw [zA,yL]
  simp only [OT.AI,Tl.hs,OT.Da,OT.full,ih,zD]
theorem Qj {nm:ByteArray} {ar:Int} {pr:Bool} {X:List (List OT)} {vs:List Int} (hX:OT.erss X=vs.map fun n=>[D.int n]):∀ (ts:List Tl) (j:Nat),OT.Cf (tlO ts j nm ar pr X)=(ts.set j ⟨nm,ar,pr,vs⟩).map Tl.hs
 | [],j=>rfl
 | t :: ts,0=>by
  unfold tlO
  rw [zA,yK,yK,zA]
  simp only [OT.Cf,OT.Gy,OT.half,hX,Tl.hs_half ts,Tl.UH]
 | t :: ts,j+1=>by
  have ih:=Qj (nm:=nm) (ar:=ar) (pr:=pr) hX ts j
  unfold tlO at ih ⊢
  rw [zA,yL,yL,zA]
  rw [OT.Cf,ih]
  simp only [Tl.UH,OT.Gy,OT.half]
theorem Yc (ts:List Tl):(ts.map Tl.d).map (fun x=>x.map D.ot)=ts.map Tl.hs:=by rw [List.map_map]; rfl
theorem Yd (xs:List Int) (n:Nat):((xs.map fun n=>[D.int n]).drop n).map (fun x=>x.map D.ot)=(xs.drop n).map fun n=>[OT.int n]:=by rw [←List.map_drop,List.map_map]; rfl
theorem W1 (xs:List Int):((xs.map fun n=>[OT.int n]).all fun l=>l.length == 1)=true:=zT.2 fun e he=>by
 obtain ⟨x,_,rfl⟩:=yU.1 he
 rfl
theorem W2 (ts:List Tl):((ts.map Tl.hs).all fun l=>l.length == 4)=true:=zT.2 fun e he=>by
 obtain ⟨x,_,rfl⟩:=yU.1 he
 rfl
theorem UJ (ts:List Tl):((ts.map Tl.d).all fun l=>l.length == 4)=true:=zT.2 fun e he=>by
 obtain ⟨x,_,rfl⟩:=yU.1 he
 rfl
theorem LJ (acc:List Ag) (s:ByteArray) (v:Int):acc.map Ag.o++[[OT.str s,OT.int v]]=(acc++[(⟨s,v⟩:Ag)]).map Ag.o:=by rw [zZ]; rfl
structure Drawn (m:Ip):Prop where
 s0:0≤m.size
 s4:m.size≤4
 len:m.tables.length≤7
 vals:∀ t∈m.tables,t.vals.length≤10
theorem Drawn.tame {m:Ip} (h:Drawn m):m.tame:=⟨by have:=h.len; omega,fun t ht=>by have:=h.vals t ht; omega⟩
def AF:SC:=(.seq (.reg [⟨some 2,none,.alloc 26 [(.int .i64 0),.nil]⟩]) (.seq (.reg [⟨some 5,none,.mv (.t 0)⟩,⟨some 6,none,.call 35 [(.t 5)]⟩,⟨some 3,none,.alloc 26 [(.int .i64 0),.nil]⟩,⟨none,none,(.store 2 (.t 3) (.t 6))⟩]) (.seq (.reg [⟨some 7,none,.mv (.t 0)⟩,⟨some 8,none,.faddr 1 (.t 3)⟩,⟨some 9,none,.load false 1 (.t 8)⟩,⟨some 10,none,.len false (.t 9)⟩,⟨some 11,none,.call 28 [(.t 7),(.t 10)]⟩,⟨some 4,none,.mv (.t 11)⟩]) (.seq (.seq (.reg [⟨some 12,none,.mv (.t 0)⟩,⟨some 13,none,.call 28 [(.t 12),(.c (.int .i64 30))]⟩]) (.block 0 (.seq (.reg [⟨some 15,none,.bin .eql false (.t 13) (.c (.int .i64 0))⟩,⟨some 14,none,.mv (.t 15)⟩]) (.cond (.t 14) (.reg [⟨some 16,none,.mv (.t 0)⟩,⟨some 17,none,.mkrow 3 1 [(.int .i64 0)] 3 [(0,(.c (.int .i64 0))),(1,(.c (.int .i64 4))),(2,(.c (.int .i64 2)))]⟩,⟨some 18,none,.call 36 [(.t 16),(.t 17)]⟩,⟨some 19,none,.faddr 0 (.t 3)⟩,⟨none,none,(.store 1 (.t 19) (.t 18))⟩]) (.seq (.reg [⟨some 21,none,.bin .eql false (.t 13) (.c (.int .i64 1))⟩,⟨some 20,none,.mv (.t 21)⟩]) (.cond (.t 20) (.dreg [[],[0],[],[],[],[3,4],[1,0,2,3,4,5],[6,1,0,2,3,4,5],[7,6,1,0,2,3,4,5]] [⟨some 22,none,.faddr 1 (.t 3)⟩,⟨some 23,none,.load false 1 (.t 22)⟩,⟨some 24,none,.mv (.t 4)⟩,⟨some 25,none,.mv (.t 0)⟩,⟨(some 26),none,(.mkrow 9 1 [(.str ⟨#[]⟩)] 5 [(0,(.c (.str ⟨#[88]⟩))),(1,(.c (.str ⟨#[]⟩))),(2,(.c (.str ⟨#[97]⟩))),(3,(.c (.str ⟨#[61]⟩))),(4,(.c (.str ⟨#[122]⟩)))])⟩,⟨some 27,none,.call 37 [(.t 25),(.t 26)]⟩,⟨some 28,none,.iaddr 4 (.t 23) (.t 24)⟩,⟨some 29,none,.faddr 0 (.t 28)⟩,⟨none,none,(.store 1 (.t 29) (.t 27))⟩]) (.seq (.reg [⟨some 31,none,.bin .eql false (.t 13) (.c (.int .i64 2))⟩,⟨some 30,none,.mv (.t 31)⟩]) (.cond (.t 30) (.dreg [[],[0],[],[],[],[3,4],[1,0,2,3,4,5],[6,1,0,2,3,4,5],[7,6,1,0,2,3,4,5]] [⟨some 32,none,.faddr 1 (.t 3)⟩,⟨some 33,none,.load false 1 (.t 32)⟩,⟨some 34,none,.mv (.t 4)⟩,⟨some 35,none,.mv (.t 0)⟩,⟨some 36,none,.mkrow 3 1 [(.int .i64 0)] 4 [(0,(.c (.int .i64 (-(0+1))))),(1,(.c (.int .i64 0))),(2,(.c (.int .i64 1))),(3,(.c (.int .i64 4)))]⟩,⟨some 37,none,.call 36 [(.t 35),(.t 36)]⟩,⟨some 38,none,.iaddr 4 (.t 33) (.t 34)⟩,⟨some 39,none,.faddr 1 (.t 38)⟩,⟨none,none,(.store 1 (.t 39) (.t 37))⟩]) (.seq (.reg [⟨some 41,none,.bin .eql false (.t 13) (.c (.int .i64 3))⟩,⟨some 40,none,.mv (.t 41)⟩]) (.cond (.t 40) (.dreg [[],[0],[],[],[],[3,4],[5,3,4],[],[7],[],[8,7,9],[10,8,7,9],[11,10,8,7,9],[12,11,10,8,7,9],[6,5,3,4,13,12,11,10,8,7,9],[1,0,2,3,4,5,6,7,8,9,10,11,12,13,14],[15,1,0,2,3,4,5,6,7,8,9,10,11,12,13,14],[16,15,1,0,2,3,4,5,6,7,8,9,10,11,12,13,14]] [⟨some 42,none,.faddr 1 (.t 3)⟩,⟨some 43,none,.load false 1 (.t 42)⟩,⟨some 44,none,.mv (.t 4)⟩,⟨some 45,none,.mv (.t 0)⟩,⟨some 46,none,.mkrow 3 1 [(.int .i64 0)] 3 [(0,(.c (.int .i64 3))),(1,(.c (.int .i64 (-(0+1))))),(2,(.c (.int .i64 0)))]⟩,⟨some 47,none,.call 36 [(.t 45),(.t 46)]⟩,⟨some 48,none,.mkrow 3 1 [(.int .i64 0)] 1 [(0,(.t 47))]⟩,⟨some 49,none,.faddr 1 (.t 3)⟩,⟨some 50,none,.load false 1 (.t 49)⟩,⟨some 51,none,.mv (.t 4)⟩,⟨some 52,none,.iaddr 4 (.t 50) (.t 51)⟩,⟨some 53,none,.faddr 3 (.t 52)⟩,⟨some 54,none,.load false 1 (.t 53)⟩,⟨some 55,none,.slice false 1 (.t 54) (some (.c (.int .i64 1))) none⟩,⟨some 56,none,.append 3 1 8 [(.int .i64 0)] (.t 48) (.t 55)⟩,⟨some 57,none,.iaddr 4 (.t 43) (.t 44)⟩,⟨some 58,none,.faddr 3 (.t 57)⟩,⟨none,none,(.store 1 (.t 58) (.t 56))⟩]) (.seq (.reg [⟨some 60,none,.bin .eql false (.t 13) (.c (.int .i64 4))⟩,⟨some 59,none,.mv (.t 60)⟩]) (.cond (.t 59) (.dreg [[],[0],[],[],[3],[],[4,3,5],[6,4,3,5],[7,6,4,3,5],[8,7,6,4,3,5],[1,0,2,3,4,5,6,7,8,9],[10,1,0,2,3,4,5,6,7,8,9],[11,10,1,0,2,3,4,5,6,7,8,9]] [⟨some 61,none,.faddr 1 (.t 3)⟩,⟨some 62,none,.load false 1 (.t 61)⟩,⟨some 63,none,.mv (.t 4)⟩,⟨some 64,none,.faddr 1 (.t 3)⟩,⟨some 65,none,.load false 1 (.t 64)⟩,⟨some 66,none,.mv (.t 4)⟩,⟨some 67,none,.iaddr 4 (.t 65) (.t 66)⟩,⟨some 68,none,.faddr 2 (.t 67)⟩,⟨some 69,none,.load false 1 (.t 68)⟩,⟨some 70,none,.un .not (.t 69)⟩,⟨some 71,none,.iaddr 4 (.t 62) (.t 63)⟩,⟨some 72,none,.faddr 2 (.t 71)⟩,⟨none,none,(.store 1 (.t 72) (.t 70))⟩]) (.seq (.reg [⟨some 74,none,.bin .eql false (.t 13) (.c (.int .i64 5))⟩,⟨some 73,none,.mv (.t 74)⟩]) (.cond (.t 73) (.dreg [[],[],[1],[],[2,1,3],[0,4,2,1,3],[],[6],[],[8],[7,6,9,8],[5,0,4,2,1,3,10,7,6,9,8],[0,1,2,3,4,5,6,7,8,9,10,11],[12,0,1,2,3,4,5,6,7,8,9,10,11]] [⟨(some 75),none,(.mkrow 44 4 [(.str ⟨#[]⟩),(.int .i64 0),(.bool false),.nil] 0 [])⟩,⟨some 76,none,.faddr 1 (.t 3)⟩,⟨some 77,none,.load false 1 (.t 76)⟩,⟨some 78,none,.mv (.t 4)⟩,⟨some 79,none,.slice false 4 (.t 77) none (some (.t 78))⟩,⟨(some 80),none,(.append 44 4 56 [(.str ⟨#[]⟩),(.int .i64 0),(.bool false),.nil] (.t 75) (.t 79))⟩,⟨some 81,none,.faddr 1 (.t 3)⟩,⟨some 82,none,.load false 1 (.t 81)⟩,⟨some 83,none,.mv (.t 4)⟩,⟨some 84,none,.bin .add false (.t 83) (.c (.int .i64 1))⟩,⟨some 85,none,.slice false 4 (.t 82) (some (.t 84)) none⟩,⟨(some 86),none,(.append 44 4 56 [(.str ⟨#[]⟩),(.int .i64 0),(.bool false),.nil] (.t 80) (.t 85))⟩,⟨some 87,none,.faddr 1 (.t 3)⟩,⟨none,none,(.store 1 (.t 87) (.t 86))⟩]) .skip)))))))))))))) (.seq (.reg [⟨some 88,none,.load true 2 (.t 3)⟩,⟨none,none,(.store 2 (.t 2) (.t 88))⟩]) .ret)))))
theorem AR:As Tryz.prog 16=some ⟨89,AF,[(.cell 2 true 2)]⟩:=by kernel_rfl
theorem AG:modes 16=⟨[],.halfg 75 9 [none,some (44,4)],none,false⟩:=by unfold modes; rfl
theorem IS (l:List Int) (hl:Bytes l) (hn:l.length≤1099511627776) (p s:Int) (h0:0≤p) (h1:p≤1098000000000):∃ m p' s',E 16 [.ptr 0 0] [cur l p s]=some (ipH m 1,[cur l p' s',UI m])∧(p≤p'∧p'≤p+200)∧Drawn m:=by
 obtain ⟨Q,hQ⟩:∃ Q:SV × List Ob→Prop,Q=fun out=>∃ m p' s',out=(ipH m 1,[cur l p' s',UI m])∧(p≤p'∧p'≤p+200)∧Drawn m:=⟨_,rfl⟩
 suffices hq0:∃ out,E 16 [.ptr 0 0] [cur l p s]=some out∧Q out by
  obtain ⟨out,hq1,hq2⟩:=hq0
  rw [hQ] at hq2
  obtain ⟨m,p',s',rfl,hq3⟩:=hq2
  exact ⟨m,p',s',hq1,hq3⟩
 obtain ⟨m,p1,s1,hi,⟨g1,g2⟩,⟨z1,z3⟩,htl,hvl⟩:=KH l hl hn p s h0 (by omega)
 obtain ⟨i,p2,s2,hp,⟨i0,i7⟩,g3,g4⟩:=Dh l hl hn 7 (by omega) (by omega) p1 s1 (by omega) (by omega)
 obtain ⟨v,p3,s3,hv,⟨v0,v1⟩,g5,g6⟩:=Dh l hl hn 30 (by omega) (by omega) p2 s2 (by omega) (by omega)
 have e7:(7:Int)=(m.tables.length:Int):=by omega
 rw [e7] at hp
 dsimp only [ipH,UI] at hi
 obtain ⟨j,hj⟩:∃ j:Nat,i=j:=⟨i.toNat,by omega⟩
 have hni:i.toNat=j:=by omega
 have hjl:j<m.tables.length:=by omega
 have hga:=Yb hjl
 have hvj:=hvl _ (zF hjl)
 have hvs:∀ t∈m.tables,t.vals.length≤10:=fun t ht=>by have:=hvl t ht; omega
 have hset:∀ (x:Tl),x.vals.length≤10→∀ t∈m.tables.set j x,t.vals.length≤10:=fun x hx t ht=>by
  rcases List.mem_or_eq_of_mem_set ht with h | rfl
  ·exact hvs t h
  ·exact hx
 have hsl:∀ x,(m.tables.set j x).length=7:=fun x=>by rw [List.length_set,htl]
 generalize ht:m.tables[j]=t at *
 rcases (show v=0∨v=1∨v=2∨v=3∨v=4∨v=5∨(¬ v=0∧¬ v=1∧¬ v=2∧¬ v=3∧¬ v=4∧¬ v=5) by omega) with rfl | rfl | rfl | rfl | rfl | rfl | ⟨k0,k1,k2,k3,k4,k5⟩
 ·obtain ⟨u,p4,s4,hu,hum,g7,g8⟩:=IL l hl hn [0,4,2] (by decide) (by decide) p3 s3 (by omega) (by omega)
  simp only [zA,zH] at hu
  have hub:0≤u∧u≤4:=by simp only [zS,y0,or_false] at hum; omega
  refine AL AR AG (of_decide_eq_true rfl) ?_
  simp (disch:=omega) only [AF,go_sem,Ab,hi,hp,hv,hni,hu,AP,Am,Ax,Aq]
  rw [hQ]
  exact ⟨⟨u,m.tables⟩,p4,s4,rfl,by omega,⟨hub.1,hub.2,by show m.tables.length≤7; omega,hvs⟩⟩
 ·obtain ⟨u,p4,s4,hu,_,g7,g8⟩:=OS l hl hn [⟨#[88]⟩,⟨#[]⟩,⟨#[97]⟩,⟨#[61]⟩,⟨#[122]⟩] (by decide) (by decide) p3 s3 (by omega) (by omega)
  simp only [zA,zH] at hu
  have hs:=Rx m.tables j u t.arity t.pred t.vals
  refine AL AR AG (of_decide_eq_true rfl) ?_
  simp (disch:=omega) only [AF,go_sem,Ab,hi,hp,hv,hni,hu,hga,hs,AP,Am,Ax,Aq]
  rw [hQ]
  exact ⟨⟨m.size,m.tables.set j ⟨u,t.arity,t.pred,t.vals⟩⟩,p4,s4,rfl,by omega,⟨by show 0≤m.size; omega,by show m.size≤4; omega,by rw [hsl]; omega,hset _ (by show t.vals.length≤10; omega)⟩⟩
 ·obtain ⟨u,p4,s4,hu,_,g7,g8⟩:=IL l hl hn [-1,0,1,4] (by decide) (by decide) p3 s3 (by omega) (by omega)
  simp only [zA,zH] at hu
  have hs:=Rx m.tables j t.name u t.pred t.vals
  refine AL AR AG (of_decide_eq_true rfl) ?_
  simp (disch:=omega) only [AF,go_sem,Ab,hi,hp,hv,hni,hu,hga,hs,AP,Am,Ax,Aq]
  rw [hQ]
  exact ⟨⟨m.size,m.tables.set j ⟨t.name,u,t.pred,t.vals⟩⟩,p4,s4,rfl,by omega,⟨by show 0≤m.size; omega,by show m.size≤4; omega,by rw [hsl]; omega,hset _ (by show t.vals.length≤10; omega)⟩⟩
 ·obtain ⟨u,p4,s4,hu,_,g7,g8⟩:=IL l hl hn [3,-1,0] (by decide) (by decide) p3 s3 (by omega) (by omega)
  simp only [zA,zH] at hu
  have hX1:OT.AI ([OT.int u] :: (t.vals.drop 1).map (fun n=>[OT.int n]))=true:=LH (u :: t.vals.drop 1)
  have hX2:OT.erss ([OT.int u] :: (t.vals.drop 1).map (fun n=>[OT.int n]))=(u :: t.vals.drop 1).map (fun n=>[D.int n]):=LF (u :: t.vals.drop 1)
  have hs:=XB m.tables j t.name t.arity t.pred ([OT.int u] :: (t.vals.drop 1).map (fun n=>[OT.int n]))
  have hs2:=Qi (nm:=t.name) (ar:=t.arity) (pr:=t.pred) hX1 m.tables j
  have hs3:=Qj (nm:=t.name) (ar:=t.arity) (pr:=t.pred) hX2 m.tables j
  have hiv:=Yd t.vals 1
  have hvl1:(1:Int)≤(t.vals.length:Int):=by omega
  have hal1:((t.vals.map fun n=>[D.int n]).all fun e=>e.length == 1)=true:=zT.2 fun e he=>by
   obtain ⟨x,_,rfl⟩:=yU.1 he
   rfl
  have htk:(t.vals.map fun n=>[D.int n]).take t.vals.length=t.vals.map fun n=>[D.int n]:=yN (by rw [zY]; exact yF _)
  refine AL AR AG (of_decide_eq_true rfl) ?_
  simp (disch:=omega) only [AF,go_sem,Ab,hi,hp,hv,hni,hu,hga,hiv,hs,hs2,hs3,hal1,htk,W1,yQ,AP,Am,Ax,Aq]
  rw [hQ]
  exact ⟨⟨m.size,m.tables.set j ⟨t.name,t.arity,t.pred,u :: t.vals.drop 1⟩⟩,p4,s4,rfl,by omega,⟨by show 0≤m.size; omega,by show m.size≤4; omega,by rw [hsl]; omega,hset _ (by show (u :: t.vals.drop 1).length≤10; rw [zR,yQ]; omega)⟩⟩
 ·have hs:=Rx m.tables j t.name t.arity (!t.pred) t.vals
  refine AL AR AG (of_decide_eq_true rfl) ?_
  simp (disch:=omega) only [AF,go_sem,Ab,hi,hp,hv,hni,hga,hs,AP,Am,Ax,Aq]
  rw [hQ]
  exact ⟨⟨m.size,m.tables.set j ⟨t.name,t.arity,!t.pred,t.vals⟩⟩,p3,s3,rfl,by omega,⟨by show 0≤m.size; omega,by show m.size≤4; omega,by rw [hsl]; omega,hset _ (by show t.vals.length≤10; omega)⟩⟩
 ·have hni1:(i+1).toNat=j+1:=by omega
  have hsp:(m.tables.take j).map Tl.hs++(m.tables.drop (j+1)).map Tl.hs=(m.tables.take j++m.tables.drop (j+1)).map Tl.hs:=zZ.symm
  have htk:(m.tables.map Tl.d).take j=(m.tables.take j).map Tl.d:=List.map_take.symm
  have htl7:(m.tables.map Tl.d).take m.tables.length=m.tables.map Tl.d:=yN (by rw [zY]; exact yF _)
  have hdr:(m.tables.map Tl.d).drop (j+1)=(m.tables.drop (j+1)).map Tl.d:=List.map_drop.symm
  have hl1:(m.tables.take j).length=j:=by rw [List.length_take]; omega
  have hl2:(m.tables.drop (j+1)).length=7-(j+1):=by rw [yQ]; omega
  have hl2b:7-(j+1)≤7:=by omega
  refine AL AR AG (of_decide_eq_true rfl) ?_
  simp (disch:=omega) only [AF,go_sem,Ab,hi,hp,hv,hni,hni1,hsp,htk,htl7,hdr,hl1,hl2,Yc,W2,UJ,AP,Am,Ax,Aq]
  rw [hQ]
  exact ⟨⟨m.size,m.tables.take j++m.tables.drop (j+1)⟩,p3,s3,rfl,by omega,⟨by show 0≤m.size; omega,by show m.size≤4; omega,by show (m.tables.take j++m.tables.drop (j+1)).length≤7; rw [yD,List.length_take,yQ]; omega,fun t ht=>by
   rcases y5.1 ht with h | h
   ·exact hvs t (List.mem_of_mem_take h)
   ·exact hvs t (List.mem_of_mem_drop h)⟩⟩
 ·have k0:=eq_false k0
  have k1:=eq_false k1
  have k2:=eq_false k2
  have k3:=eq_false k3
  have k4:=eq_false k4
  have k5:=eq_false k5
  refine AL AR AG (of_decide_eq_true rfl) ?_
  simp (disch:=omega) only [AF,go_sem,Ab,hi,hp,hv,hni,k0,k1,k2,k3,k4,k5,AP,Am,Ax,Aq]
  rw [hQ]
  exact ⟨m,p3,s3,rfl,by omega,⟨by omega,by omega,by omega,hvs⟩⟩
def E1:SC:=(.seq (.reg [⟨some 4,none,.mv (.c .nil)⟩]) (.seq (.reg [⟨(some 8),none,(.mkrow 76 2 [(.str ⟨#[]⟩),(.int .i64 0)] 0 [])⟩,⟨some 5,none,.mv (.t 8)⟩]) (.seq (.reg [⟨(some 9),none,(.mkrow 9 1 [(.str ⟨#[]⟩)] 3 [(0,(.c (.str ⟨#[88]⟩))),(1,(.c (.str ⟨#[89]⟩))),(2,(.c (.str ⟨#[90]⟩)))])⟩,⟨some 6,none,.mv (.t 9)⟩]) (.seq (.seq (.reg [⟨some 7,none,.mv (.c (.int .i64 0))⟩]) (.block 0 (.loop [1,1,0,0,0,1,1,1,0,0,0,0,0,0,0,0,0,0,0,0,0,0,0,0,0,0,0,0,0,0,0,0,0,0,0,0,0,0,0,0,0,0] (.seq (.seq (.reg [⟨some 10,none,.mv (.t 7)⟩,⟨some 11,none,.bin .lss false (.t 10) (.c (.int .i64 3))⟩]) (.cond (.t 11) .skip (.exit 0))) (.seq (.block 1 (.seq (.reg [⟨some 14,none,.mv (.t 0)⟩,⟨some 15,none,.call 29 [(.t 14),(.c (.int .i64 16))]⟩,⟨some 16,none,.un .not (.t 15)⟩]) (.cond (.t 16) (.dreg [[],[],[],[1,2],[3,1,2],[],[],[6],[5,7,6],[4,3,1,2,8,5,7,6],[9,4,3,1,2,8,5,7,6],[0,10,9,4,3,1,2,8,5,7,6],[11,0,10,9,4,3,1,2,8,5,7,6]] [⟨some 17,none,.mv (.t 5)⟩,⟨some 18,none,.mv (.t 6)⟩,⟨some 19,none,.mv (.t 7)⟩,⟨some 20,none,.iaddr 1 (.t 18) (.t 19)⟩,⟨some 21,none,.load false 1 (.t 20)⟩,⟨some 22,none,.mv (.t 0)⟩,⟨some 23,none,.mv (.t 1)⟩,⟨some 24,none,.call 38 [(.t 23),(.c (.int .i64 1))]⟩,⟨some 25,none,.call 28 [(.t 22),(.t 24)]⟩,⟨(some 26),none,(.build [(.str ⟨#[]⟩),(.int .i64 0)] [(0,(1,(.t 21))),(1,(1,(.t 25)))])⟩,⟨(some 27),none,(.mkrow 76 2 [(.str ⟨#[]⟩),(.int .i64 0)] 1 [(0,(.t 26))])⟩,⟨(some 28),none,(.append 76 2 24 [(.str ⟨#[]⟩),(.int .i64 0)] (.t 17) (.t 27))⟩,⟨some 5,none,.mv (.t 28)⟩]) .skip))) (.reg [⟨some 12,none,.mv (.t 7)⟩,⟨some 13,none,.bin .add false (.t 12) (.c (.int .i64 1))⟩,⟨some 7,none,.mv (.t 13)⟩])))))) (.seq (.seq (.reg [⟨some 29,none,.mv (.t 0)⟩,⟨some 30,none,.call 29 [(.t 29),(.c (.int .i64 30))]⟩]) (.cond (.t 30) (.reg [⟨some 31,none,.mv (.t 5)⟩,⟨some 32,none,.mv (.t 0)⟩,⟨(some 33),none,(.mkrow 9 1 [(.str ⟨#[]⟩)] 3 [(0,(.c (.str ⟨#[65]⟩))),(1,(.c (.str ⟨#[97]⟩))),(2,(.c (.str ⟨#[90,49]⟩)))])⟩,⟨some 34,none,.call 37 [(.t 32),(.t 33)]⟩,⟨some 35,none,.mv (.t 0)⟩,⟨some 36,none,.mkrow 3 1 [(.int .i64 0)] 3 [(0,(.c (.int .i64 0))),(1,(.c (.int .i64 3))),(2,(.c (.int .i64 (-(0+1)))))]⟩,⟨some 37,none,.call 36 [(.t 35),(.t 36)]⟩,⟨(some 38),none,(.build [(.str ⟨#[]⟩),(.int .i64 0)] [(0,(1,(.t 34))),(1,(1,(.t 37)))])⟩,⟨(some 39),none,(.mkrow 76 2 [(.str ⟨#[]⟩),(.int .i64 0)] 1 [(0,(.t 38))])⟩,⟨(some 40),none,(.append 76 2 24 [(.str ⟨#[]⟩),(.int .i64 0)] (.t 31) (.t 39))⟩,⟨some 5,none,.mv (.t 40)⟩]) .skip)) (.seq (.reg [⟨some 41,none,.mv (.t 5)⟩,⟨some 4,none,.mv (.t 41)⟩]) .ret))))))
theorem Hn:As Tryz.prog 17=some ⟨42,E1,[(.tmp 4)]⟩:=by kernel_rfl
theorem E2:modes 17=⟨[],.frz,none,false⟩:=by unfold modes; rfl
theorem Pb (l:List Int) (hl:Bytes l) (hn:l.length≤1099511627776) (z:Int) (z4:z≤4) (p s:Int) (h0:0≤p) (h1:p≤1098000000000):∃ (xs:List Ag) (p' s':Int),E 17 [.ptr 0 0,.int .i64 z] [cur l p s]=some (.arr (xs.map Ag.d),[cur l p' s'])∧(p≤p'∧p'≤p+200)∧xs.length≤4:=by
 obtain ⟨Q,hQ⟩:∃ Q:SV × List Ob→Prop,Q=fun out=>∃ xs p' s',out=(.arr (List.map Ag.d xs),[cur l p' s'])∧(p≤p'∧p'≤p+200)∧xs.length≤4:=⟨_,rfl⟩
 suffices hq0:∃ out,E 17 [.ptr 0 0,.int .i64 z] [cur l p s]=some out∧Q out by
  obtain ⟨out,hq1,hq2⟩:=hq0
  rw [hQ] at hq2
  obtain ⟨xs,p',s',rfl,hq3⟩:=hq2
  exact ⟨xs,p',s',hq1,hq3⟩
 have hmo:=Qa z 1
 obtain ⟨mo,hmo0⟩:∃ mo:Int,mo=max z 1:=⟨_,rfl⟩
 have hmb:1≤mo∧mo≤4:=by rw [hmo0]; omega
 rw [←hmo0] at hmo
 refine AL Hn E2 (of_decide_eq_true rfl) ?_
 simp (disch:=omega) only [E1,go_sem,Ab,Ay,Am,Ax,Aq,BT]
 refine go_loop (α:=Int × Int × Int × List Ag) (fun a=>⟨slots 42 0 [(0,.ptr 0 0),(1,.int .i64 z),(5,.ref 1),(6,.ref 2),(7,.int .i64 a.1)],[cur l a.2.1 a.2.2.1,.row 76 2 (a.2.2.2.map Ag.o),.row 9 1 [[.str ⟨#[88]⟩],[.str ⟨#[89]⟩],[.str ⟨#[90]⟩]]]⟩) (fun a=>∃ k:Nat,a.1=k∧k≤3∧a.2.2.2.length≤k∧p≤a.2.1∧a.2.1≤p+2*k) (fun a=>(3-a.1).toNat) (0,p,s,[]) ⟨0,rfl,by omega,by simp,by dsimp only; omega,by dsimp only; omega⟩ (by simp (disch:=omega) only [go_sem,Ab,zH]) ?_
 rintro ⟨i,p1,s1,acc⟩ ⟨k,hi,hk,hal,hp1,hp2⟩
 dsimp only at hi hal hp1 hp2
 rcases zJ k 3 with hlt | hge
 ·obtain ⟨b,p2,s2,hb,g1,g2⟩:=Ln l hl hn 16 (by omega) (by omega) p1 s1 (by omega) (by omega)
  cases b with
  | true =>
   rcases (show k=0∨k=1∨k=2 by omega) with rfl | rfl | rfl
   ·obtain rfl:i=0:=hi
    simp (disch:=omega) only [go_sem,Ab,hb,Ay,Am,Ax,Aq,BT]
    exact ⟨(0+1,p2,s2,acc),⟨1,by dsimp only; omega,by omega,by dsimp only; omega,by dsimp only; omega,by dsimp only; omega⟩,by dsimp only; omega,by first | trivial | rfl | exact ⟨rfl,rfl⟩⟩
   ·obtain rfl:i=1:=hi
    simp (disch:=omega) only [go_sem,Ab,hb,Ay,Am,Ax,Aq,BT]
    exact ⟨(1+1,p2,s2,acc),⟨2,by dsimp only; omega,by omega,by dsimp only; omega,by dsimp only; omega,by dsimp only; omega⟩,by dsimp only; omega,by first | trivial | rfl | exact ⟨rfl,rfl⟩⟩
   ·obtain rfl:i=2:=hi
    simp (disch:=omega) only [go_sem,Ab,hb,Ay,Am,Ax,Aq,BT]
    exact ⟨(2+1,p2,s2,acc),⟨3,by dsimp only; omega,by omega,by dsimp only; omega,by dsimp only; omega,by dsimp only; omega⟩,by dsimp only; omega,by first | trivial | rfl | exact ⟨rfl,rfl⟩⟩
  | false =>
   obtain ⟨v,p3,s3,hv,_,g3,g4⟩:=Dh l hl hn mo hmb.1 (by omega) p2 s2 (by omega) (by omega)
   rcases (show k=0∨k=1∨k=2 by omega) with rfl | rfl | rfl
   ·obtain rfl:i=0:=hi
    have hsn:=LJ acc ⟨#[88]⟩ v
    simp (disch:=omega) only [go_sem,Ab,hb,hmo,hv,hsn,Ay,Am,Ax,Aq,BT]
    exact ⟨(0+1,p3,s3,acc++[⟨⟨#[88]⟩,v⟩]),⟨1,by dsimp only; omega,by omega,by simp only [yD,zR,yJ]; omega,by dsimp only; omega,by dsimp only; omega⟩,by dsimp only; omega,by first | trivial | rfl | exact ⟨rfl,rfl⟩⟩
   ·obtain rfl:i=1:=hi
    have hsn:=LJ acc ⟨#[89]⟩ v
    simp (disch:=omega) only [go_sem,Ab,hb,hmo,hv,hsn,Ay,Am,Ax,Aq,BT]
    exact ⟨(1+1,p3,s3,acc++[⟨⟨#[89]⟩,v⟩]),⟨2,by dsimp only; omega,by omega,by simp only [yD,zR,yJ]; omega,by dsimp only; omega,by dsimp only; omega⟩,by dsimp only; omega,by first | trivial | rfl | exact ⟨rfl,rfl⟩⟩
   ·obtain rfl:i=2:=hi
    have hsn:=LJ acc ⟨#[90]⟩ v
    simp (disch:=omega) only [go_sem,Ab,hb,hmo,hv,hsn,Ay,Am,Ax,Aq,BT]
    exact ⟨(2+1,p3,s3,acc++[⟨⟨#[90]⟩,v⟩]),⟨3,by dsimp only; omega,by omega,by simp only [yD,zR,yJ]; omega,by dsimp only; omega,by dsimp only; omega⟩,by dsimp only; omega,by first | trivial | rfl | exact ⟨rfl,rfl⟩⟩
 ·obtain rfl:k=3:=by omega
  obtain rfl:i=3:=hi
  obtain ⟨b,p2,s2,hb,g1,g2⟩:=Ln l hl hn 30 (by omega) (by omega) p1 s1 (by omega) (by omega)
  cases b with
  | false =>
   simp (disch:=omega) only [go_sem,Ab,hb,Ag.erss,Ag.noss,Ay,Am,Ax,Aq,BT]
   rw [hQ]
   exact ⟨acc,p2,s2,rfl,by omega,by omega⟩
  | true =>
   obtain ⟨u,p3,s3,hu,_,g3,g4⟩:=OS l hl hn [⟨#[65]⟩,⟨#[97]⟩,⟨#[90,49]⟩] (by decide) (by decide) p2 s2 (by omega) (by omega)
   obtain ⟨v,p4,s4,hv,_,g5,g6⟩:=IL l hl hn [0,3,-1] (by decide) (by decide) p3 s3 (by omega) (by omega)
   simp only [zA,zH] at hu hv
   have hsn:=LJ acc u v
   simp (disch:=omega) only [go_sem,Ab,hb,hu,hv,hsn,Ag.erss,Ag.noss,Ay,Am,Ax,Aq,BT]
   rw [hQ]
   exact ⟨acc++[⟨u,v⟩],p4,s4,rfl,by omega,by simp only [yD,zR,yJ]; omega⟩
def CM:SC:=(.seq (.reg [⟨(some 4),none,(.alloc 30 [(.str ⟨#[]⟩),.nil])⟩]) (.seq (.seq (.reg [⟨some 5,none,.mv (.t 1)⟩,⟨some 6,none,.bin .leq false (.t 5) (.c (.int .i64 1))⟩,⟨some 7,none,.mv (.t 6)⟩,⟨(some 8),(some (7,false)),(.mv (.t 0))⟩,⟨(some 9),(some (7,false)),(.call 29 [(.t 8),(.c (.int .i64 3))])⟩,⟨some 10,none,.pick (.t 7) (.c (.bool true)) (.t 9)⟩]) (.cond (.t 10) (.seq (.reg [⟨some 11,none,.mv (.t 0)⟩,⟨(some 12),none,(.mkrow 9 1 [(.str ⟨#[]⟩)] 7 [(0,(.c (.str ⟨#[88]⟩))),(1,(.c (.str ⟨#[89]⟩))),(2,(.c (.str ⟨#[90]⟩))),(3,(.c (.str ⟨#[97]⟩))),(4,(.c (.str ⟨#[98]⟩))),(5,(.c (.str ⟨#[88]⟩))),(6,(.c (.str ⟨#[97]⟩)))])⟩,⟨some 13,none,.call 37 [(.t 11),(.t 12)]⟩,⟨(some 14),none,(.build [(.str ⟨#[]⟩),.nil] [(0,(1,(.t 13)))])⟩,⟨none,none,(.store 2 (.t 4) (.t 14))⟩]) .ret) .skip)) (.seq (.seq (.reg [⟨some 15,none,.mv (.t 0)⟩,⟨some 16,none,.call 29 [(.t 15),(.c (.int .i64 2))]⟩]) (.cond (.t 16) (.seq (.reg [⟨some 17,none,.mv (.t 0)⟩,⟨some 18,none,.mv (.t 1)⟩,⟨some 19,none,.bin .sub false (.t 18) (.c (.int .i64 1))⟩,⟨some 20,none,.call 103 [(.t 17),(.t 19)]⟩,⟨(some 21),none,(.mkrow 30 2 [(.str ⟨#[]⟩),.nil] 1 [(0,(.t 20))])⟩,⟨(some 22),none,(.build [(.str ⟨#[]⟩),.nil] [(0,(1,(.c (.str ⟨#[102]⟩)))),(1,(1,(.t 21)))])⟩,⟨none,none,(.store 2 (.t 4) (.t 22))⟩]) .ret) .skip)) (.seq (.reg [⟨some 23,none,.mv (.t 0)⟩,⟨some 24,none,.mv (.t 1)⟩,⟨some 25,none,.bin .sub false (.t 24) (.c (.int .i64 1))⟩,⟨some 26,none,.call 103 [(.t 23),(.t 25)]⟩,⟨some 27,none,.mv (.t 0)⟩,⟨some 28,none,.mv (.t 1)⟩,⟨some 29,none,.bin .sub false (.t 28) (.c (.int .i64 1))⟩,⟨some 30,none,.call 103 [(.t 27),(.t 29)]⟩,⟨(some 31),none,(.mkrow 30 2 [(.str ⟨#[]⟩),.nil] 2 [(0,(.t 26)),(1,(.t 30))])⟩,⟨(some 32),none,(.build [(.str ⟨#[]⟩),.nil] [(0,(1,(.c (.str ⟨#[103]⟩)))),(1,(1,(.t 31)))])⟩,⟨none,none,(.store 2 (.t 4) (.t 32))⟩]) .ret))))
theorem Dz:As Tryz.prog 103=some ⟨33,CM,[(.cell 4 true 2)]⟩:=by kernel_rfl
theorem AS:modes 103=⟨[],.half [none,some (30,2)],none,false⟩:=by unfold modes; rfl
def G6:SC:=(.seq (.reg [⟨(some 2),none,(.alloc 30 [(.str ⟨#[]⟩),.nil])⟩]) (.seq (.reg [⟨some 3,none,.mv (.t 0)⟩,⟨some 4,none,.mv (.t 0)⟩,⟨some 5,none,.call 28 [(.t 4),(.c (.int .i64 3))]⟩,⟨some 6,none,.bin .add false (.c (.int .i64 1)) (.t 5)⟩,⟨some 7,none,.call 103 [(.t 3),(.t 6)]⟩,⟨none,none,(.store 2 (.t 2) (.t 7))⟩]) .ret))
theorem Ko:As Tryz.prog 74=some ⟨8,G6,[(.cell 2 true 2)]⟩:=by kernel_rfl
theorem AQ:modes 74=⟨[],.half [none,some (30,2)],none,false⟩:=by unfold modes; rfl
def Cn:SC:=(.seq (.reg [⟨(some 2),none,(.alloc 30 [(.str ⟨#[]⟩),.nil])⟩]) (.seq (.seq (.reg [⟨some 3,none,.mv (.t 0)⟩,⟨some 4,none,.call 28 [(.t 3),(.c (.int .i64 8))]⟩]) (.block 0 (.seq (.seq (.reg [⟨some 6,none,.bin .eql false (.t 4) (.c (.int .i64 0))⟩,⟨some 5,none,.mv (.t 6)⟩]) (.cond (.t 5) .skip (.reg [⟨some 7,none,.bin .eql false (.t 4) (.c (.int .i64 1))⟩,⟨some 5,none,.mv (.t 7)⟩]))) (.cond (.t 5) (.seq (.reg [⟨some 8,none,.mv (.t 0)⟩,⟨some 9,none,.call 74 [(.t 8)]⟩,⟨some 10,none,.mv (.t 0)⟩,⟨some 11,none,.call 74 [(.t 10)]⟩,⟨(some 12),none,(.mkrow 30 2 [(.str ⟨#[]⟩),.nil] 2 [(0,(.t 9)),(1,(.t 11))])⟩,⟨(some 13),none,(.build [(.str ⟨#[]⟩),.nil] [(0,(1,(.c (.str ⟨#[61]⟩)))),(1,(1,(.t 12)))])⟩,⟨none,none,(.store 2 (.t 2) (.t 13))⟩]) .ret) (.seq (.reg [⟨some 15,none,.bin .eql false (.t 4) (.c (.int .i64 2))⟩,⟨some 14,none,.mv (.t 15)⟩]) (.cond (.t 14) (.seq (.reg [⟨(some 16),none,(.build [(.str ⟨#[]⟩),.nil] [(0,(1,(.c (.str ⟨#[114]⟩))))])⟩,⟨none,none,(.store 2 (.t 2) (.t 16))⟩]) .ret) (.seq (.seq (.reg [⟨some 18,none,.bin .eql false (.t 4) (.c (.int .i64 3))⟩,⟨some 17,none,.mv (.t 18)⟩]) (.cond (.t 17) .skip (.reg [⟨some 19,none,.bin .eql false (.t 4) (.c (.int .i64 4))⟩,⟨some 17,none,.mv (.t 19)⟩]))) (.cond (.t 17) (.seq (.reg [⟨some 20,none,.mv (.t 0)⟩,⟨some 21,none,.call 103 [(.t 20),(.c (.int .i64 2))]⟩,⟨some 22,none,.mv (.t 0)⟩,⟨some 23,none,.call 103 [(.t 22),(.c (.int .i64 2))]⟩,⟨(some 24),none,(.mkrow 30 2 [(.str ⟨#[]⟩),.nil] 2 [(0,(.t 21)),(1,(.t 23))])⟩,⟨(some 25),none,(.build [(.str ⟨#[]⟩),.nil] [(0,(1,(.c (.str ⟨#[113]⟩)))),(1,(1,(.t 24)))])⟩,⟨none,none,(.store 2 (.t 2) (.t 25))⟩]) .ret) .skip)))))))) (.seq (.reg [⟨some 26,none,.mv (.t 0)⟩,⟨some 27,none,.call 103 [(.t 26),(.c (.int .i64 2))]⟩,⟨(some 28),none,(.mkrow 30 2 [(.str ⟨#[]⟩),.nil] 1 [(0,(.t 27))])⟩,⟨(some 29),none,(.build [(.str ⟨#[]⟩),.nil] [(0,(1,(.c (.str ⟨#[112]⟩)))),(1,(1,(.t 28)))])⟩,⟨none,none,(.store 2 (.t 2) (.t 29))⟩]) .ret)))
theorem C9:As Tryz.prog 102=some ⟨30,Cn,[(.cell 2 true 2)]⟩:=by kernel_rfl
theorem B5:modes 102=⟨[],.half [none,some (30,2)],none,false⟩:=by unfold modes; rfl
def Tm.oh (x:Tm):List OT:=[.str x.name,.ow (x.args.map Tm.osh)]
theorem Tm.UK (x:Tm):x.oh=[.str x.name,.ow (x.args.map Tm.osh)]:=rfl
theorem Tm.Qk:∀ xs:List Tm,OT.Cf (xs.map Tm.osh)=xs.map Tm.osh
 | []=>rfl
 | x :: xs=>by rw [zA,Tm.M9]; simp only [OT.Cf,OT.Gy,OT.half,Tm.Qk xs]
theorem Tm.Sk:∀ xs:List Tm,OT.AI (xs.map Tm.oh)=true
 | []=>rfl
 | x :: xs=>by rw [zA,Tm.UK]; simp only [OT.AI,OT.Da,OT.full,Tm.JY,Tm.Sk xs,zD]
theorem Tm.Sl:∀ xs:List Tm,OT.Cf (xs.map Tm.oh)=xs.map Tm.osh
 | []=>rfl
 | x :: xs=>by rw [zA,zA,Tm.UK,Tm.M9]; simp only [OT.Cf,OT.Gy,OT.half,Tm.MA,Tm.Sl xs]
theorem Tm.WI:∀ xs:List Tm,OT.erss (xs.map Tm.oh)=xs.map Tm.d
 | []=>rfl
 | x :: xs=>by rw [zA,zA,Tm.UK,Tm.d_eq]; simp only [OT.erss,OT.ers,OT.er,Tm.MA,Tm.WI xs]
theorem Tm.o_half:∀ xs:List Tm,OT.Cf (xs.map Tm.o)=xs.map Tm.osh
 | []=>rfl
 | x :: xs=>by rw [zA,zA,Tm.o_eq,Tm.M9]; simp only [OT.Cf,OT.Gy,OT.half,Tm.erss,Tm.o_half xs]
theorem OT.MN:∀ a b:List (List OT),OT.AI (a++b)=(OT.AI a&&OT.AI b)
 | [],b=>by simp [OT.AI]
 | x :: a,b=>by simp only [yG,OT.AI,OT.MN a b,Bool.and_assoc]
theorem OT.MO:∀ a b:List (List OT),OT.Cf (a++b)=OT.Cf a++OT.Cf b
 | [],b=>by simp [OT.Cf]
 | x :: a,b=>by simp only [yG,OT.Cf,OT.MO a b]
theorem OT.Ql:∀ a b:List (List OT),OT.erss (a++b)=OT.erss a++OT.erss b
 | [],b=>by simp [OT.erss]
 | x :: a,b=>by simp only [yG,OT.erss,OT.Ql a b]
attribute [go_sem] OT.MN OT.MO OT.Ql Tm.JY Tm.MA Tm.Qk Tm.Sk Tm.WI Tm.Sl Tm.o_half
abbrev tmH (t:Tm) (g:Nat):SV:=.agg [.str t.name,.ref g]
abbrev L4 (t:Tm):Ob:=.row 30 2 (t.args.map Tm.osh)
theorem Pc (l:List Int) (hl:Bytes l) (hn:l.length≤1099511627776):∀ (d:Nat) (m:Int),m=d→1≤d→d≤20→∀ p s:Int,0≤p→p+(4*2 ^ d:Nat)≤1099000000000→∃ t p' s',E 103 [.ptr 0 0,.int .i64 m] [cur l p s]=some (tmH t 1,[cur l p' s',L4 t])∧(p≤p'∧p'+2≤p+(4*2 ^ d:Nat))∧t.nodes+1≤2 ^ d:=by
 intro d
 have leaf:∀ (p1 s1:Int),0≤p1→p1≤1099500000000→∃ x p2 s2,E 37 [.ptr 0 0,.arr [[D.str ⟨#[88]⟩],[D.str ⟨#[89]⟩],[D.str ⟨#[90]⟩],[D.str ⟨#[97]⟩],[D.str ⟨#[98]⟩],[D.str ⟨#[88]⟩],[D.str ⟨#[97]⟩]]] [cur l p1 s1]=some (.str x,[cur l p2 s2])∧p1≤p2∧p2≤p1+1:=fun p1 s1 a b=>by
  obtain ⟨x,p2,s2,ho,_,h2,h3⟩:=OS l hl hn [⟨#[88]⟩,⟨#[89]⟩,⟨#[90]⟩,⟨#[97]⟩,⟨#[98]⟩,⟨#[88]⟩,⟨#[97]⟩] (by decide) (by decide) p1 s1 a (by omega)
  simp only [zA,zH] at ho
  exact ⟨x,p2,s2,ho,h2,h3⟩
 have n1:∀ x,(Tm.mk x []).nodes=1:=fun x=>by rw [Tm.nodes_eq]; rfl
 induction d with
 | zero=>exact fun _ _ h=>absurd h (by omega)
 | succ e ih =>
  intro m hm _ hd p s h0 h1
  have hpe:2 ^ (e+1)=2*2 ^ e:=by rw [Nat.pow_succ,Nat.mul_comm]
  have hp1:1≤2 ^ e:=Nat.one_le_two_pow
  have hp2:2 ^ e≤2 ^ 20:=yS (by omega) (by omega)
  have hp3:(2:Nat) ^ 20=1048576:=by decide
  have ih:=fun h1e=>ih (m-1) (by omega) h1e (by omega)
  rw [hpe] at h1 ⊢
  generalize 2 ^ e=q at *
  generalize hq2:2*q=q2 at *
  obtain ⟨Q,hQ⟩:∃ Q:SV × List Ob→Prop,Q=fun out=>∃ t p' s',out=(tmH t 1,[cur l p' s',L4 t])∧(p≤p'∧p'+2≤p+(4*q2:Nat))∧t.nodes+1≤q2:=⟨_,rfl⟩
  suffices hq0:∃ out,E 103 [.ptr 0 0,.int .i64 m] [cur l p s]=some out∧Q out by
   obtain ⟨out,hq1,hq2⟩:=hq0
   rw [hQ] at hq2
   obtain ⟨t,p',s',rfl,hq3⟩:=hq2
   exact ⟨t,p',s',hq1,hq3⟩
  by_cases hm1:m≤1
  ·have q1:(m≤1)=True:=eq_true hm1
   obtain ⟨x,p1,s1,ho,h2,h3⟩:=leaf p s h0 (by omega)
   refine AL Dz AS (of_decide_eq_true rfl) ?_
   simp (disch:=omega) only [CM,go_sem,Ab,ho,q1,Aq]
   rw [hQ]
   exact ⟨.mk x [],p1,s1,rfl,by omega,by rw [n1]; omega⟩
  ·have q1:(m≤1)=False:=eq_false hm1
   have ih:=ih (by omega)
   obtain ⟨b1,p1,s1,hb1,g1,g2⟩:=Ln l hl hn 3 (by omega) (by omega) p s h0 (by omega)
   cases b1 with
   | true =>
    obtain ⟨x,p2,s2,ho,h2,h3⟩:=leaf p1 s1 (by omega) (by omega)
    refine AL Dz AS (of_decide_eq_true rfl) ?_
    simp (disch:=omega) only [CM,go_sem,Ab,q1,hb1,ho,Aq,Ay]
    rw [hQ]
    exact ⟨.mk x [],p2,s2,rfl,by omega,by rw [n1]; omega⟩
   | false =>
    obtain ⟨b2,p2,s2,hb2,g3,g4⟩:=Ln l hl hn 2 (by omega) (by omega) p1 s1 (by omega) (by omega)
    obtain ⟨t3,p3,s3,h3,⟨g5,g6⟩,g7⟩:=ih p2 s2 (by omega) (by omega)
    cases b2 with
    | true =>
     have e1:(Tm.mk ⟨#[102]⟩ [t3]).nodes=1+(t3.nodes+0):=by rw [Tm.nodes_eq]; rfl
     refine AL Dz AS (of_decide_eq_true rfl) ?_
     simp (disch:=omega) only [CM,go_sem,Ab,q1,hb1,hb2,h3,Aq,Ay,AS]
     rw [hQ]
     exact ⟨.mk ⟨#[102]⟩ [t3],p3,s3,rfl,by omega,by rw [e1]; omega⟩
    | false =>
     obtain ⟨t4,p4,s4,h4,⟨g8,g9⟩,g10⟩:=ih p3 s3 (by omega) (by omega)
     have e1:(Tm.mk ⟨#[103]⟩ [t3,t4]).nodes=1+(t3.nodes+(t4.nodes+0)):=by rw [Tm.nodes_eq]; rfl
     refine AL Dz AS (of_decide_eq_true rfl) ?_
     simp (disch:=omega) only [CM,go_sem,Ab,q1,hb1,hb2,h3,h4,Aq,Ay,AS]
     rw [hQ]
     exact ⟨.mk ⟨#[103]⟩ [t3,t4],p4,s4,rfl,by omega,by rw [e1]; omega⟩
theorem KI (l:List Int) (hl:Bytes l) (hn:l.length≤1099511627776) (p s:Int) (h0:0≤p) (h1:p≤1098000000000):∃ t p' s',E 74 [.ptr 0 0] [cur l p s]=some (tmH t 1,[cur l p' s',L4 t])∧(p≤p'∧p'≤p+40)∧t.nodes≤7:=by
 obtain ⟨v,p1,s1,hv,⟨v0,v1⟩,g1,g2⟩:=Dh l hl hn 3 (by omega) (by omega) p s h0 (by omega)
 have hp3:(2:Nat) ^ (1+v).toNat≤2 ^ 3:=yS (by omega) (by omega)
 obtain ⟨t,p2,s2,ht,⟨g3,g4⟩,g5⟩:=Pc l hl hn (1+v).toNat (1+v) (by omega) (by omega) (by omega) p1 s1 (by omega) (by omega)
 have hp4:(2:Nat) ^ 3=8:=by decide
 refine ⟨t,p2,s2,?_,by omega,by omega⟩
 have hi:dec (inK .i64 (1+v))=true:=Ea (by omega) (by omega)
 refine Al Ko AQ (of_decide_eq_true rfl) ?_
 simp (disch:=omega) only [G6,go_sem,Ab,hv,ht,hi,Am,AS]
theorem XC (l:List Int) (hl:Bytes l) (hn:l.length≤1099511627776) (p s:Int) (h0:0≤p) (h1:p≤1097000000000):∃ t p' s',E 102 [.ptr 0 0] [cur l p s]=some (tmH t 1,[cur l p' s',L4 t])∧(p≤p'∧p'≤p+100)∧t.nodes≤15:=by
 obtain ⟨Q,hQ⟩:∃ Q:SV × List Ob→Prop,Q=fun out=>∃ t p' s',out=(tmH t 1,[cur l p' s',L4 t])∧(p≤p'∧p'≤p+100)∧t.nodes≤15:=⟨_,rfl⟩
 suffices hq0:∃ out,E 102 [.ptr 0 0] [cur l p s]=some out∧Q out by
  obtain ⟨out,hq1,hq2⟩:=hq0
  rw [hQ] at hq2
  obtain ⟨t,p',s',rfl,hq3⟩:=hq2
  exact ⟨t,p',s',hq1,hq3⟩
 have hp4:(2:Nat) ^ 2=4:=by decide
 have e1:∀ x a,(Tm.mk x [a]).nodes=1+(a.nodes+0):=fun x a=>by rw [Tm.nodes_eq]; rfl
 have e2:∀ x a b,(Tm.mk x [a,b]).nodes=1+(a.nodes+(b.nodes+0)):=fun x a b=>by rw [Tm.nodes_eq]; rfl
 obtain ⟨v,p1,s1,hv,⟨v0,v1⟩,g1,g2⟩:=Dh l hl hn 8 (by omega) (by omega) p s h0 (by omega)
 obtain ⟨ta,p2,s2,ha,⟨a3,a4⟩,a5⟩:=KI l hl hn p1 s1 (by omega) (by omega)
 obtain ⟨tb,p3,s3,hb,⟨b3,b4⟩,b5⟩:=KI l hl hn p2 s2 (by omega) (by omega)
 obtain ⟨tc,p4,s4,hc,⟨c3,c4⟩,c5⟩:=Pc l hl hn 2 2 rfl (by omega) (by omega) p1 s1 (by omega) (by omega)
 obtain ⟨td,p5,s5,hd,⟨d3,d4⟩,d5⟩:=Pc l hl hn 2 2 rfl (by omega) (by omega) p4 s4 (by omega) (by omega)
 rw [hp4] at c4 c5 d4 d5
 rcases (show v=0∨v=1∨v=2∨v=3∨v=4∨(¬ v=0∧¬ v=1∧¬ v=2∧¬ v=3∧¬ v=4) by omega) with rfl | rfl | rfl | rfl | rfl | ⟨k0,k1,k2,k3,k4⟩
 ·refine AL C9 B5 (of_decide_eq_true rfl) ?_
  simp (disch:=omega) only [Cn,go_sem,Ab,hv,ha,hb,hc,hd,Am,AS,AQ]
  rw [hQ]
  exact ⟨.mk ⟨#[61]⟩ [ta,tb],p3,s3,rfl,by omega,by rw [e2]; omega⟩
 ·refine AL C9 B5 (of_decide_eq_true rfl) ?_
  simp (disch:=omega) only [Cn,go_sem,Ab,hv,ha,hb,hc,hd,Am,AS,AQ]
  rw [hQ]
  exact ⟨.mk ⟨#[61]⟩ [ta,tb],p3,s3,rfl,by omega,by rw [e2]; omega⟩
 ·refine AL C9 B5 (of_decide_eq_true rfl) ?_
  simp (disch:=omega) only [Cn,go_sem,Ab,hv,ha,hb,hc,hd,Am,AS,AQ]
  rw [hQ]
  exact ⟨.mk ⟨#[114]⟩ [],p1,s1,rfl,by omega,by rw [Tm.nodes_eq]; show 1+0≤_; omega⟩
 ·refine AL C9 B5 (of_decide_eq_true rfl) ?_
  simp (disch:=omega) only [Cn,go_sem,Ab,hv,ha,hb,hc,hd,Am,AS,AQ]
  rw [hQ]
  exact ⟨.mk ⟨#[113]⟩ [tc,td],p5,s5,rfl,by omega,by rw [e2]; omega⟩
 ·refine AL C9 B5 (of_decide_eq_true rfl) ?_
  simp (disch:=omega) only [Cn,go_sem,Ab,hv,ha,hb,hc,hd,Am,AS,AQ]
  rw [hQ]
  exact ⟨.mk ⟨#[113]⟩ [tc,td],p5,s5,rfl,by omega,by rw [e2]; omega⟩
 ·have k0:=eq_false k0
  have k1:=eq_false k1
  have k2:=eq_false k2
  have k3:=eq_false k3
  have k4:=eq_false k4
  refine AL C9 B5 (of_decide_eq_true rfl) ?_
  simp (disch:=omega) only [Cn,go_sem,Ab,hv,hc,k0,k1,k2,k3,k4,Am,AS,AQ]
  rw [hQ]
  exact ⟨.mk ⟨#[112]⟩ [tc],p4,s4,rfl,by omega,by rw [e1]; omega⟩
def Gk:SC:=(.seq (.reg [⟨(some 4),none,(.alloc 30 [(.str ⟨#[]⟩),.nil])⟩]) (.seq (.reg [⟨some 6,none,.mv (.t 0)⟩,⟨(some 7),none,(.mkrow 9 1 [(.str ⟨#[]⟩)] 2 [(0,(.c (.str ⟨#[88]⟩))),(1,(.c (.str ⟨#[97]⟩)))])⟩,⟨some 8,none,.call 37 [(.t 6),(.t 7)]⟩,⟨(some 9),none,(.build [(.str ⟨#[]⟩),.nil] [(0,(1,(.t 8)))])⟩,⟨(some 5),none,(.alloc 30 [(.str ⟨#[]⟩),.nil])⟩,⟨none,none,(.store 2 (.t 5) (.t 9))⟩]) (.seq (.block 0 (.loop [0,1,0,0,1,1,0,0,0,0,0,0,0,0,0,0,0,0] (.seq (.seq (.reg [⟨some 10,none,.mv (.t 1)⟩,⟨some 11,none,.bin .gtr false (.t 10) (.c (.int .i64 1))⟩]) (.cond (.t 11) .skip (.exit 0))) (.seq (.block 1 (.reg [⟨some 14,none,.load true 2 (.t 5)⟩,⟨(some 15),none,(.mkrow 30 2 [(.str ⟨#[]⟩),.nil] 1 [(0,(.t 14))])⟩,⟨(some 16),none,(.build [(.str ⟨#[]⟩),.nil] [(0,(1,(.c (.str ⟨#[102]⟩)))),(1,(1,(.t 15)))])⟩,⟨none,none,(.store 2 (.t 5) (.t 16))⟩])) (.reg [⟨some 12,none,.mv (.t 1)⟩,⟨some 13,none,.bin .sub false (.t 12) (.c (.int .i64 1))⟩,⟨some 1,none,.mv (.t 13)⟩]))))) (.seq (.reg [⟨some 17,none,.load true 2 (.t 5)⟩,⟨none,none,(.store 2 (.t 4) (.t 17))⟩]) .ret))))
theorem JA:As Tryz.prog 75=some ⟨18,Gk,[(.cell 4 true 2)]⟩:=by kernel_rfl
theorem BJ:modes 75=⟨[],.half [none,some (30,2)],none,false⟩:=by unfold modes; rfl
def G7:SC:=(.seq (.reg [⟨(some 2),none,(.alloc 30 [(.str ⟨#[]⟩),.nil])⟩]) (.seq (.reg [⟨(some 7),none,(.build [(.str ⟨#[]⟩),.nil] [(0,(1,(.c (.str ⟨#[103]⟩))))])⟩,⟨(some 3),none,(.alloc 30 [(.str ⟨#[]⟩),.nil])⟩,⟨none,none,(.store 2 (.t 3) (.t 7))⟩]) (.seq (.seq (.reg [⟨some 4,none,.mv (.c (.int .i64 0))⟩]) (.block 0 (.loop [1,0,1,1,1,0,0,0,0,0,0,0,0,0,0,0,0,0,0,0,0,0,0,0,0,0,0,0,0,0,0,0,0,0,0,0,0,0,0,0,0,0,0,0,0,0,0,0,0,0,0,0,0,0] (.seq (.seq (.reg [⟨some 8,none,.mv (.t 4)⟩,⟨some 9,none,.bin .lss false (.t 8) (.c (.int .i64 4))⟩]) (.cond (.t 9) .skip (.exit 0))) (.seq (.block 1 (.seq (.reg [⟨(some 12),none,(.build [(.str ⟨#[]⟩),.nil] [(0,(1,(.c (.str ⟨#[104]⟩))))])⟩,⟨(some 5),none,(.alloc 30 [(.str ⟨#[]⟩),.nil])⟩,⟨none,none,(.store 2 (.t 5) (.t 12))⟩]) (.seq (.seq (.reg [⟨some 6,none,.mv (.c (.int .i64 0))⟩]) (.block 2 (.loop [1,0,1,1,1,1,1,0,0,0,0,0,0,0,0,0,0,0,0,0,0,0,0,0,0,0,0,0,0,0,0,0,0,0,0,0,0,0,0,0,0,0,0,0,0,0,0,0,0,0,0,0,0,0] (.seq (.seq (.reg [⟨some 13,none,.mv (.t 6)⟩,⟨some 14,none,.bin .lss false (.t 13) (.c (.int .i64 4))⟩]) (.cond (.t 14) .skip (.exit 2))) (.seq (.block 3 (.reg [⟨some 17,none,.faddr 1 (.t 5)⟩,⟨some 18,none,.load false 1 (.t 17)⟩,⟨(some 19),none,(.build [(.str ⟨#[]⟩),.nil] [(0,(1,(.c (.str ⟨#[97]⟩))))])⟩,⟨(some 20),none,(.mkrow 30 2 [(.str ⟨#[]⟩),.nil] 1 [(0,(.t 19))])⟩,⟨(some 21),none,(.build [(.str ⟨#[]⟩),.nil] [(0,(1,(.c (.str ⟨#[102]⟩)))),(1,(1,(.t 20)))])⟩,⟨(some 22),none,(.mkrow 30 2 [(.str ⟨#[]⟩),.nil] 1 [(0,(.t 21))])⟩,⟨(some 23),none,(.append 30 2 40 [(.str ⟨#[]⟩),.nil] (.t 18) (.t 22))⟩,⟨some 24,none,.faddr 1 (.t 5)⟩,⟨none,none,(.store 1 (.t 24) (.t 23))⟩])) (.reg [⟨some 15,none,.mv (.t 6)⟩,⟨some 16,none,.bin .add false (.t 15) (.c (.int .i64 1))⟩,⟨some 6,none,.mv (.t 16)⟩])))))) (.reg [⟨some 25,none,.faddr 1 (.t 3)⟩,⟨some 26,none,.load false 1 (.t 25)⟩,⟨some 27,none,.load true 2 (.t 5)⟩,⟨(some 28),none,(.mkrow 30 2 [(.str ⟨#[]⟩),.nil] 1 [(0,(.t 27))])⟩,⟨(some 29),none,(.append 30 2 40 [(.str ⟨#[]⟩),.nil] (.t 26) (.t 28))⟩,⟨some 30,none,.faddr 1 (.t 3)⟩,⟨none,none,(.store 1 (.t 30) (.t 29))⟩])))) (.reg [⟨some 10,none,.mv (.t 4)⟩,⟨some 11,none,.bin .add false (.t 10) (.c (.int .i64 1))⟩,⟨some 4,none,.mv (.t 11)⟩])))))) (.seq (.seq (.reg [⟨some 31,none,.mv (.t 0)⟩,⟨some 32,none,.call 29 [(.t 31),(.c (.int .i64 2))]⟩]) (.cond (.t 32) (.reg [⟨some 33,none,.faddr 1 (.t 3)⟩,⟨some 34,none,.load false 1 (.t 33)⟩,⟨some 35,none,.slice false 2 (.t 34) none (some (.c (.int .i64 3)))⟩,⟨some 36,none,.faddr 1 (.t 3)⟩,⟨none,none,(.store 1 (.t 36) (.t 35))⟩]) .skip)) (.seq (.seq (.reg [⟨some 37,none,.mv (.t 0)⟩,⟨some 38,none,.call 29 [(.t 37),(.c (.int .i64 2))]⟩,⟨some 39,none,.mv (.t 38)⟩,⟨(some 40),(some (39,true)),(.faddr 1 (.t 3))⟩,⟨(some 41),(some (39,true)),(.load false 1 (.t 40))⟩,⟨(some 42),(some (39,true)),(.len false (.t 41))⟩,⟨(some 43),(some (39,true)),(.bin .eql false (.t 42) (.c (.int .i64 3)))⟩,⟨some 44,none,.pick (.t 39) (.t 43) (.c (.bool false))⟩]) (.cond (.t 44) (.reg [⟨some 45,none,.faddr 1 (.t 3)⟩,⟨some 46,none,.load false 1 (.t 45)⟩,⟨(some 47),none,(.build [(.str ⟨#[]⟩),.nil] [(0,(1,(.c (.str ⟨#[98]⟩))))])⟩,⟨(some 48),none,(.mkrow 30 2 [(.str ⟨#[]⟩),.nil] 1 [(0,(.t 47))])⟩,⟨(some 49),none,(.build [(.str ⟨#[]⟩),.nil] [(0,(1,(.c (.str ⟨#[102]⟩)))),(1,(1,(.t 48)))])⟩,⟨(some 50),none,(.mkrow 30 2 [(.str ⟨#[]⟩),.nil] 1 [(0,(.t 49))])⟩,⟨(some 51),none,(.append 30 2 40 [(.str ⟨#[]⟩),.nil] (.t 46) (.t 50))⟩,⟨some 52,none,.faddr 1 (.t 3)⟩,⟨none,none,(.store 1 (.t 52) (.t 51))⟩]) .skip)) (.seq (.reg [⟨some 53,none,.load true 2 (.t 3)⟩,⟨none,none,(.store 2 (.t 2) (.t 53))⟩]) .ret))))))
theorem Kp:As Tryz.prog 76=some ⟨54,G7,[(.cell 2 true 2)]⟩:=by kernel_rfl
theorem BP:modes 76=⟨[],.half [none,some (30,2)],none,false⟩:=by unfold modes; rfl
def B6:SC:=(.seq (.reg [⟨(some 2),none,(.alloc 30 [(.str ⟨#[]⟩),.nil])⟩]) (.seq (.reg [⟨some 4,none,.mv (.t 0)⟩,⟨some 5,none,.call 74 [(.t 4)]⟩,⟨(some 3),none,(.alloc 30 [(.str ⟨#[]⟩),.nil])⟩,⟨none,none,(.store 2 (.t 3) (.t 5))⟩]) (.seq (.seq (.reg [⟨some 6,none,.mv (.t 0)⟩,⟨some 7,none,.call 28 [(.t 6),(.c (.int .i64 24))]⟩]) (.block 0 (.seq (.reg [⟨some 9,none,.bin .eql false (.t 7) (.c (.int .i64 0))⟩,⟨some 8,none,.mv (.t 9)⟩]) (.cond (.t 8) (.reg [⟨some 10,none,.mv (.t 0)⟩,⟨(some 11),none,(.mkrow 9 1 [(.str ⟨#[]⟩)] 14 [(0,(.c (.str ⟨#[]⟩))),(1,(.c (.str ⟨#[116,114,117,101]⟩))),(2,(.c (.str ⟨#[116,114,117,116,104]⟩))),(3,(.c (.str ⟨#[105,102]⟩))),(4,(.c (.str ⟨#[88,121,122,57]⟩))),(5,(.c (.str ⟨#[88,121,122,57,57]⟩))),(6,(.c (.str ⟨#[120,65]⟩))),(7,(.c (.str ⟨#[97,95,98]⟩))),(8,(.c (.str ⟨#[97,98,99,100,101,102]⟩))),(9,(.c (.str ⟨#[97,98,99,100,101,102,103]⟩))),(10,(.c (.str ⟨#[95,97]⟩))),(11,(.c (.str ⟨#[57]⟩))),(12,(.c (.str ⟨#[88,95]⟩))),(13,(.c (.str ⟨#[61]⟩)))])⟩,⟨some 12,none,.call 37 [(.t 10),(.t 11)]⟩,⟨some 13,none,.faddr 0 (.t 3)⟩,⟨none,none,(.store 1 (.t 13) (.t 12))⟩]) (.seq (.reg [⟨some 15,none,.bin .eql false (.t 7) (.c (.int .i64 1))⟩,⟨some 14,none,.mv (.t 15)⟩]) (.cond (.t 14) (.seq (.reg [⟨some 16,none,.mv (.t 0)⟩,⟨some 17,none,.mv (.t 0)⟩,⟨some 18,none,.call 28 [(.t 17),(.c (.int .i64 3))]⟩,⟨some 19,none,.bin .add false (.c (.int .i64 7)) (.t 18)⟩,⟨some 20,none,.call 75 [(.t 16),(.t 19)]⟩,⟨none,none,(.store 2 (.t 2) (.t 20))⟩]) .ret) (.seq (.reg [⟨some 22,none,.bin .eql false (.t 7) (.c (.int .i64 2))⟩,⟨some 21,none,.mv (.t 22)⟩]) (.cond (.t 21) (.seq (.reg [⟨some 23,none,.mv (.t 0)⟩,⟨some 24,none,.call 76 [(.t 23)]⟩,⟨none,none,(.store 2 (.t 2) (.t 24))⟩]) .ret) (.seq (.reg [⟨some 26,none,.bin .eql false (.t 7) (.c (.int .i64 3))⟩,⟨some 25,none,.mv (.t 26)⟩]) (.cond (.t 25) (.dreg [[],[0],[],[2],[],[4,3,2],[],[6,5,4,3,2],[3,2,5,4,7,6],[1,0,8,3,2,5,4,7,6],[0,1,2,3,4,5,6,7,8,9],[10,0,1,2,3,4,5,6,7,8,9]] [⟨some 27,none,.faddr 1 (.t 3)⟩,⟨some 28,none,.load false 1 (.t 27)⟩,⟨some 29,none,.mv (.t 0)⟩,⟨some 30,none,.call 74 [(.t 29)]⟩,⟨some 31,none,.mv (.t 0)⟩,⟨some 32,none,.call 74 [(.t 31)]⟩,⟨some 33,none,.mv (.t 0)⟩,⟨some 34,none,.call 74 [(.t 33)]⟩,⟨(some 35),none,(.mkrow 30 2 [(.str ⟨#[]⟩),.nil] 3 [(0,(.t 30)),(1,(.t 32)),(2,(.t 34))])⟩,⟨(some 36),none,(.append 30 2 40 [(.str ⟨#[]⟩),.nil] (.t 28) (.t 35))⟩,⟨some 37,none,.faddr 1 (.t 3)⟩,⟨none,none,(.store 1 (.t 37) (.t 36))⟩]) (.seq (.reg [⟨some 39,none,.bin .eql false (.t 7) (.c (.int .i64 4))⟩,⟨some 38,none,.mv (.t 39)⟩]) (.cond (.t 38) (.seq (.reg [⟨some 40,none,.faddr 1 (.t 3)⟩,⟨some 41,none,.load false 1 (.t 40)⟩,⟨some 42,none,.len false (.t 41)⟩,⟨some 43,none,.bin .gtr false (.t 42) (.c (.int .i64 0))⟩]) (.cond (.t 43) (.dreg [[],[0],[],[],[2,3],[],[5],[6,5],[7,6,5],[8,7,6,5],[4,2,3,9,8,7,6,5],[1,0,2,3,4,5,6,7,8,9,10],[11,1,0,2,3,4,5,6,7,8,9,10]] [⟨some 44,none,.faddr 1 (.t 3)⟩,⟨some 45,none,.load false 1 (.t 44)⟩,⟨some 46,none,.mv (.t 0)⟩,⟨(some 47),none,(.mkrow 9 1 [(.str ⟨#[]⟩)] 4 [(0,(.c (.str ⟨#[61]⟩))),(1,(.c (.str ⟨#[]⟩))),(2,(.c (.str ⟨#[81,49]⟩))),(3,(.c (.str ⟨#[98,50]⟩)))])⟩,⟨some 48,none,.call 37 [(.t 46),(.t 47)]⟩,⟨some 49,none,.faddr 1 (.t 3)⟩,⟨some 50,none,.load false 1 (.t 49)⟩,⟨some 51,none,.iaddr 2 (.t 50) (.c (.int .i64 0))⟩,⟨some 52,none,.faddr 1 (.t 51)⟩,⟨some 53,none,.load false 1 (.t 52)⟩,⟨(some 54),none,(.build [(.str ⟨#[]⟩),.nil] [(0,(1,(.t 48))),(1,(1,(.t 53)))])⟩,⟨some 55,none,.iaddr 2 (.t 45) (.c (.int .i64 0))⟩,⟨none,none,(.store 2 (.t 55) (.t 54))⟩]) .skip)) .skip)))))))))))) (.seq (.reg [⟨some 56,none,.load true 2 (.t 3)⟩,⟨none,none,(.store 2 (.t 2) (.t 56))⟩]) .ret))))
theorem BK:As Tryz.prog 40=some ⟨57,B6,[(.cell 2 true 2)]⟩:=by kernel_rfl
theorem A9:modes 40=⟨[],.half [none,some (30,2)],none,false⟩:=by unfold modes; rfl
def twr (x:ByteArray):Nat→Tm
 | 0=>.mk x []
 | k+1=>.mk ⟨#[102]⟩ [twr x k]
theorem Ol (x:ByteArray):∀ k,(twr x k).nodes=k+1
 | 0=>by rw [twr,Tm.nodes_eq]; rfl
 | k+1=>by
  have:(twr x (k+1)).nodes=1+((twr x k).nodes+0):=by rw [twr,Tm.nodes_eq]; rfl
  rw [this,Ol x k]; omega
theorem WJ (x:ByteArray):[[OT.str x,OT.ow []]]=[Tm.mk x []].map Tm.o:=by rw [zA,zH,Tm.o_eq]; rfl
theorem Ye (x:ByteArray) (l:List Tm):[[OT.str x,OT.ow (l.map Tm.o)]]=[Tm.mk x l].map Tm.o:=by rw [zA,zH,Tm.o_eq]; rfl
theorem Tm.W3 (x:Tm):OT.Gy x.o=x.osh:=by
 have:=Tm.o_half [x]
 simp only [zA,zH,OT.Cf,List.cons.injEq,and_true] at this
 exact this
theorem Tm.W4 (x:Tm):OT.Da x.o=true:=by
 have:=Tm.fus [x]
 simp only [zA,zH,OT.AI,zQ] at this
 exact this
theorem Tm.FA (x:Tm):x.o.length=2:=by rw [Tm.o_eq]; rfl
abbrev tZ:Ob:=.box 30 [.str ⟨#[]⟩,.nil]
theorem W5 (l:List Int) (hl:Bytes l) (hn:l.length≤1099511627776) (m:Int) (hm:1≤m) (hm2:m≤100) (p s:Int) (h0:0≤p) (h1:p≤1099000000000):∃ t p' s',E 75 [.ptr 0 0,.int .i64 m] [cur l p s]=some (tmH t 1,[cur l p' s',L4 t])∧(p≤p'∧p'≤p+1)∧t.nodes≤150:=by
 obtain ⟨Q,hQ⟩:∃ Q:SV × List Ob→Prop,Q=fun out=>∃ t p' s',out=(tmH t 1,[cur l p' s',L4 t])∧(p≤p'∧p'≤p+1)∧t.nodes≤150:=⟨_,rfl⟩
 suffices hq0:∃ out,E 75 [.ptr 0 0,.int .i64 m] [cur l p s]=some out∧Q out by
  obtain ⟨out,hq1,hq2⟩:=hq0
  rw [hQ] at hq2
  obtain ⟨t,p',s',rfl,hq3⟩:=hq2
  exact ⟨t,p',s',hq1,hq3⟩
 obtain ⟨x,p1,s1,ho,_,g1,g2⟩:=OS l hl hn [⟨#[88]⟩,⟨#[97]⟩] (by decide) (by decide) p s h0 (by omega)
 simp only [zA,zH] at ho
 refine AL JA BJ (of_decide_eq_true rfl) ?_
 simp (disch:=omega) only [Gk,go_sem,Ab,ho,Aq]
 refine go_loop (α:=Nat) (fun k=>⟨slots 18 0 [(1,.int .i64 (m-(k:Nat))),(4,.ptr 1 0),(5,.ptr 2 0)],(if k=0 then [cur l p1 s1,tZ,.box 30 [.str x,.nil]] else [cur l p1 s1,tZ,.box 30 [.str ⟨#[102]⟩,.ref 3],.row 30 2 ([twr x (k-1)].map Tm.o)])⟩) (fun k=>(k:Int)≤m-1) (fun k=>(m-k).toNat) 0 (by omega) (by simp (disch:=omega) only [go_sem,Ab,eq_self,if_true,Int.natCast_zero,Int.sub_zero]) ?_
 intro k hk
 by_cases hlt:1<m-(k:Int)
 ·have q1:(1<m-(k:Int))=True:=eq_true hlt
  have hi:dec (inK .i64 (m-(k:Int)-1))=true:=Ea (by omega) (by omega)
  have q4:m-(k:Int)-1=m-((k+1:Nat):Int):=by omega
  have q5:(k+1=0)=False:=by simp
  have q6:k+1-1=k:=by omega
  rcases zO k with hk0 | hk0
  ·subst hk0
   have hs:=WJ x
   have q7:m-((0:Nat):Int)-1=m-((0+1:Nat):Int):=by omega
   simp (disch:=omega) only [go_sem,Ab,q1,hi,eq_self,if_true]
   refine ⟨0+1,by omega,by omega,?_⟩
   simp (disch:=omega) only [go_sem,Ab,q5,if_false,q7]
   first | rfl | (rw [hs]; rfl)
  ·obtain ⟨j,rfl⟩:∃ j,k=j+1:=⟨k-1,by omega⟩
   have hs:=Ye ⟨#[102]⟩ [twr x j]
   have q8:(j+1=0)=False:=by simp
   have q9:j+1-1=j:=by omega
   simp (disch:=omega) only [go_sem,Ab,q1,hi,q8,q9,if_false]
   refine ⟨j+1+1,by omega,by omega,?_⟩
   simp (disch:=omega) only [go_sem,Ab,q5,q6,if_false,q4]
   first | rfl | (rw [hs]; rfl)
 ·have q1:(1<m-(k:Int))=False:=eq_false hlt
  have hnd:=Ol x k
  rcases zO k with hk0 | hk0
  ·subst hk0
   simp (disch:=omega) only [go_sem,Ab,q1,eq_self,if_true]
   rw [hQ]
   exact ⟨twr x 0,p1,s1,rfl,by omega,by omega⟩
  ·obtain ⟨j,rfl⟩:∃ j,k=j+1:=⟨k-1,by omega⟩
   have q8:(j+1=0)=False:=by simp
   have q9:j+1-1=j:=by omega
   have hh:=Tm.W3 (twr x j)
   have hf:=Tm.W4 (twr x j)
   simp (disch:=omega) only [go_sem,Ab,q1,q8,q9,if_false,hh,hf]
   rw [hQ]
   exact ⟨twr x (j+1),p1,s1,rfl,by omega,by omega⟩
def wdF:Tm:=.mk ⟨#[102]⟩ [.mk ⟨#[97]⟩ []]
def wdP:Tm:=.mk ⟨#[104]⟩ (zK 4 wdF)
theorem FB:[OT.str ⟨#[102]⟩,OT.ow [[OT.str ⟨#[97]⟩,OT.ow []]]]=wdF.o:=by
 rw [wdF,Tm.o_eq]
 show _=[OT.str ⟨#[102]⟩,OT.ow ([Tm.mk ⟨#[97]⟩ []].map Tm.o)]
 rw [←WJ]
theorem FD:[OT.str ⟨#[104]⟩,OT.ow [wdF.o,wdF.o,wdF.o,wdF.o]]=wdP.o:=by rw [wdP,Tm.o_eq]; rfl
theorem MP {α β:Type} (f:α→β) (x:α) (n:Nat):(zK n x).map f++[f x]=(zK (n+1) x).map f:=by
 rw [List.replicate_succ',zZ]; rfl
theorem Ts:wdF.nodes=2:=by rw [wdF,Tm.nodes_eq]; show 1+((Tm.mk _ []).nodes+0)=2; rw [Tm.nodes_eq]; rfl
theorem KJ:wdP.nodes=9:=by
 rw [wdP,Tm.nodes_eq]
 show 1+(wdF.nodes+(wdF.nodes+(wdF.nodes+(wdF.nodes+0))))=9
 rw [Ts]
theorem XD (l:List Int) (hl:Bytes l) (hn:l.length≤1099511627776) (p s:Int) (h0:0≤p) (h1:p≤1099000000000):∃ t p' s',E 76 [.ptr 0 0] [cur l p s]=some (tmH t 1,[cur l p' s',L4 t])∧(p≤p'∧p'≤p+2)∧t.nodes≤150:=by
 obtain ⟨Q,hQ⟩:∃ Q:SV × List Ob→Prop,Q=fun out=>∃ t p' s',out=(tmH t 1,[cur l p' s',L4 t])∧(p≤p'∧p'≤p+2)∧t.nodes≤150:=⟨_,rfl⟩
 suffices hq0:∃ out,E 76 [.ptr 0 0] [cur l p s]=some out∧Q out by
  obtain ⟨out,hq1,hq2⟩:=hq0
  rw [hQ] at hq2
  obtain ⟨t,p',s',rfl,hq3⟩:=hq2
  exact ⟨t,p',s',hq1,hq3⟩
 have h10:((1:Int)=0)=False:=by simp
 refine AL Kp BP (of_decide_eq_true rfl) ?_
 simp (disch:=omega) only [G7,go_sem,Ab]
 refine go_loop (α:=Int) (fun i=>⟨slots 54 0 [(0,.ptr 0 0),(2,.ptr 1 0),(3,.ptr 2 0),(4,.int .i64 i)],(if i=0 then [cur l p s,tZ,.box 30 [.str ⟨#[103]⟩,.nil]] else [cur l p s,tZ,.box 30 [.str ⟨#[103]⟩,.ref 3],.row 30 2 ((zK i.toNat wdP).map Tm.o)])⟩) (fun i=>∃ k:Nat,i=k∧k≤4) (fun i=>(4-i).toNat) 0 ⟨0,rfl,by omega⟩ (by simp (disch:=omega) only [go_sem,Ab,eq_self,if_true]) ?_
 rintro i ⟨k,hi,hk⟩
 have hni:i.toNat=k:=by omega
 have hni1:(i+1).toNat=k+1:=by omega
 rcases zJ k 4 with hlt | hge
 ·have q1:(i<4)=True:=eq_true (by omega)
  have hi1:(i+1=0)=False:=by simp; omega
  have hsP:=MP Tm.o wdP k
  rcases zO k with hk0 | hk0
  ·subst hk0
   obtain rfl:i=0:=hi
   simp (disch:=omega) only [go_sem,Ab,q1,eq_self,if_true,FB,FD,zC,Tm.FA]
   refine go_loop (α:=Int) (fun j=>⟨slots 54 0 [(0,.ptr 0 0),(2,.ptr 1 0),(3,.ptr 2 0),(4,.int .i64 0),(5,.ptr 3 0),(6,.int .i64 j)],(if (0:Int)=0 then (if j=0 then [cur l p s,tZ,.box 30 [.str ⟨#[103]⟩,.nil],.box 30 [.str ⟨#[104]⟩,.nil]] else [cur l p s,tZ,.box 30 [.str ⟨#[103]⟩,.nil],.box 30 [.str ⟨#[104]⟩,.ref 4],.row 30 2 ((zK j.toNat wdF).map Tm.o)]) else (if j=0 then [cur l p s,tZ,.box 30 [.str ⟨#[103]⟩,.ref 4],.box 30 [.str ⟨#[104]⟩,.nil],.row 30 2 ((zK (0:Int).toNat wdP).map Tm.o)] else [cur l p s,tZ,.box 30 [.str ⟨#[103]⟩,.ref 4],.box 30 [.str ⟨#[104]⟩,.ref 5],.row 30 2 ((zK (0:Int).toNat wdP).map Tm.o),.row 30 2 ((zK j.toNat wdF).map Tm.o)]))⟩) (fun j=>∃ k:Nat,j=k∧k≤4) (fun j=>(4-j).toNat) 0 ⟨0,rfl,by omega⟩ (by simp (disch:=omega) only [go_sem,Ab,eq_self,if_true,FB,FD,zC,Tm.FA]) ?_
   rintro j ⟨n,hj,hn4⟩
   have hnj:j.toNat=n:=by omega
   have hnj1:(j+1).toNat=n+1:=by omega
   have hj1:(j+1=0)=False:=by simp; omega
   rcases zJ n 4 with hlt2 | hge2
   ·have q2:(j<4)=True:=eq_true (by omega)
    have hsF:=MP Tm.o wdF n
    rcases zO n with hn0 | hn0
    ·subst hn0
     obtain rfl:j=0:=hj
     simp (disch:=omega) only [go_sem,Ab,q2,eq_self,if_true,FB,FD,zC,Tm.FA]
     refine ⟨1,⟨1,rfl,by omega⟩,by omega,?_⟩
     simp (disch:=omega) only [go_sem,Ab,eq_self,if_true,h10,if_false,FB,FD,zC,Tm.FA]
    ·have hj0:(j=0)=False:=by simp; omega
     simp (disch:=omega) only [go_sem,Ab,q2,eq_self,if_true,hj0,if_false,hnj,FB,FD,zC,Tm.FA]
     refine ⟨j+1,⟨n+1,by omega,by omega⟩,by omega,?_⟩
     simp (disch:=omega) only [go_sem,Ab,eq_self,if_true,hj1,if_false,hnj,hnj1,hsF,FB,FD,zC,Tm.FA]
   ·obtain rfl:n=4:=by omega
    have hj4:j=4:=hj
    subst hj4
    have q2:((4:Int)=0)=False:=by simp
    simp (disch:=omega) only [go_sem,Ab,q2,eq_self,if_true,if_false,FB,FD,zC,Tm.FA]
    refine ⟨1,⟨1,rfl,by omega⟩,by omega,?_⟩
    simp (disch:=omega) only [go_sem,Ab,h10,if_false,FB,FD,zC,Tm.FA]
  ·have hi0:(i=0)=False:=by simp; omega
   simp (disch:=omega) only [go_sem,Ab,q1,hi0,if_false,FB,FD,zC,Tm.FA]
   refine go_loop (α:=Int) (fun j=>⟨slots 54 0 [(0,.ptr 0 0),(2,.ptr 1 0),(3,.ptr 2 0),(4,.int .i64 i),(5,.ptr 3 0),(6,.int .i64 j)],(if i=0 then (if j=0 then [cur l p s,tZ,.box 30 [.str ⟨#[103]⟩,.nil],.box 30 [.str ⟨#[104]⟩,.nil]] else [cur l p s,tZ,.box 30 [.str ⟨#[103]⟩,.nil],.box 30 [.str ⟨#[104]⟩,.ref 4],.row 30 2 ((zK j.toNat wdF).map Tm.o)]) else (if j=0 then [cur l p s,tZ,.box 30 [.str ⟨#[103]⟩,.ref 4],.box 30 [.str ⟨#[104]⟩,.nil],.row 30 2 ((zK i.toNat wdP).map Tm.o)] else [cur l p s,tZ,.box 30 [.str ⟨#[103]⟩,.ref 4],.box 30 [.str ⟨#[104]⟩,.ref 5],.row 30 2 ((zK i.toNat wdP).map Tm.o),.row 30 2 ((zK j.toNat wdF).map Tm.o)]))⟩) (fun j=>∃ k:Nat,j=k∧k≤4) (fun j=>(4-j).toNat) 0 ⟨0,rfl,by omega⟩ (by simp (disch:=omega) only [go_sem,Ab,hi0,if_false,eq_self,if_true,FB,FD,zC,Tm.FA]) ?_
   rintro j ⟨n,hj,hn4⟩
   have hnj:j.toNat=n:=by omega
   have hnj1:(j+1).toNat=n+1:=by omega
   have hj1:(j+1=0)=False:=by simp; omega
   rcases zJ n 4 with hlt2 | hge2
   ·have q2:(j<4)=True:=eq_true (by omega)
    have hsF:=MP Tm.o wdF n
    rcases zO n with hn0 | hn0
    ·subst hn0
     obtain rfl:j=0:=hj
     simp (disch:=omega) only [go_sem,Ab,q2,hi0,if_false,eq_self,if_true,FB,FD,zC,Tm.FA]
     refine ⟨1,⟨1,rfl,by omega⟩,by omega,?_⟩
     simp (disch:=omega) only [go_sem,Ab,hi0,h10,if_false,FB,FD,zC,Tm.FA]
    ·have hj0:(j=0)=False:=by simp; omega
     simp (disch:=omega) only [go_sem,Ab,q2,hi0,hj0,if_false,hnj,FB,FD,zC,Tm.FA]
     refine ⟨j+1,⟨n+1,by omega,by omega⟩,by omega,?_⟩
     simp (disch:=omega) only [go_sem,Ab,hi0,hj1,if_false,hnj,hnj1,hsF,FB,FD,zC,Tm.FA]
   ·obtain rfl:n=4:=by omega
    have hj4:j=4:=hj
    subst hj4
    have q2:((4:Int)=0)=False:=by simp
    simp (disch:=omega) only [go_sem,Ab,q2,hi0,if_false,hni,FB,FD,zC,Tm.FA]
    refine ⟨i+1,⟨k+1,by omega,by omega⟩,by omega,?_⟩
    simp (disch:=omega) only [go_sem,Ab,hi1,if_false,hni1,hsP,FB,FD,zC,Tm.FA]
 ·obtain rfl:k=4:=by omega
  have hi4:i=4:=hi
  subst hi4
  have q2:((4:Int)=0)=False:=by simp
  obtain ⟨b1,p1,s1,hb1,g1,g2⟩:=Ln l hl hn 2 (by omega) (by omega) p s h0 (by omega)
  obtain ⟨b2,p2,s2,hb2,g3,g4⟩:=Ln l hl hn 2 (by omega) (by omega) p1 s1 (by omega) (by omega)
  have n4:(Tm.mk ⟨#[103]⟩ (zK 4 wdP)).nodes=37:=by
   rw [Tm.nodes_eq]
   show 1+(wdP.nodes+(wdP.nodes+(wdP.nodes+(wdP.nodes+0))))=37
   rw [KJ]
  have n3:(Tm.mk ⟨#[103]⟩ (zK 3 wdP)).nodes=28:=by
   rw [Tm.nodes_eq]
   show 1+(wdP.nodes+(wdP.nodes+(wdP.nodes+0)))=28
   rw [KJ]
  have n5:(Tm.mk ⟨#[103]⟩ (zK 3 wdP++[.mk ⟨#[102]⟩ [.mk ⟨#[98]⟩ []]])).nodes=30:=by
   rw [Tm.nodes_eq]
   show 1+(wdP.nodes+(wdP.nodes+(wdP.nodes+((Tm.mk _ [.mk _ []]).nodes+0))))=30
   rw [KJ,Tm.nodes_eq]
   show 1+(9+(9+(9+(1+((Tm.mk _ []).nodes+0)+0))))=30
   rw [Tm.nodes_eq]; rfl
  cases b1 <;> cases b2
  ·simp (disch:=omega) only [go_sem,Ab,q2,if_false,hb1,hb2,Ay]
   rw [hQ]
   exact ⟨.mk ⟨#[103]⟩ (zK 4 wdP),p2,s2,rfl,by omega,by omega⟩
  ·simp (disch:=omega) only [go_sem,Ab,q2,if_false,hb1,hb2,Ay]
   rw [hQ]
   exact ⟨.mk ⟨#[103]⟩ (zK 4 wdP),p2,s2,rfl,by omega,by omega⟩
  ·simp (disch:=omega) only [go_sem,Ab,q2,if_false,hb1,hb2,Ay]
   rw [hQ]
   exact ⟨.mk ⟨#[103]⟩ (zK 3 wdP),p2,s2,rfl,by omega,by omega⟩
  ·simp (disch:=omega) only [go_sem,Ab,q2,if_false,hb1,hb2,Ay]
   rw [hQ]
   exact ⟨.mk ⟨#[103]⟩ (zK 3 wdP++[.mk ⟨#[102]⟩ [.mk ⟨#[98]⟩ []]]),p2,s2,rfl,by omega,by omega⟩
theorem Tm.Kq (x:ByteArray) (l:List Tm):(Tm.mk x l).nodes=1+Tm.nodeS l:=Tm.nodes_eq _
theorem Tm.nodeS_app:∀ (a b:List Tm),Tm.nodeS (a++b)=Tm.nodeS a+Tm.nodeS b
 | [],b=>by simp [Tm.nodeS]
 | x :: a,b=>by simp only [yG,Tm.nodeS,Tm.nodeS_app a b]; omega
theorem Tm.XE (a b c:Tm):Tm.nodeS [a,b,c]=a.nodes+(b.nodes+(c.nodes+0)):=rfl
theorem Tm.UL (t:Tm):t.args.length+1≤t.nodes:=by
 rw [Tm.nodes_eq]
 have:=Tm.length_le t.args
 omega
theorem Tt (l:List Int) (hl:Bytes l) (hn:l.length≤1099511627776) (p s:Int) (h0:0≤p) (h1:p≤1096000000000):∃ t p' s',E 40 [.ptr 0 0] [cur l p s]=some (tmH t 1,[cur l p' s',L4 t])∧(p≤p'∧p'≤p+400)∧t.nodes≤150:=by
 obtain ⟨Q,hQ⟩:∃ Q:SV × List Ob→Prop,Q=fun out=>∃ t p' s',out=(tmH t 1,[cur l p' s',L4 t])∧(p≤p'∧p'≤p+400)∧t.nodes≤150:=⟨_,rfl⟩
 suffices hq0:∃ out,E 40 [.ptr 0 0] [cur l p s]=some out∧Q out by
  obtain ⟨out,hq1,hq2⟩:=hq0
  rw [hQ] at hq2
  obtain ⟨t,p',s',rfl,hq3⟩:=hq2
  exact ⟨t,p',s',hq1,hq3⟩
 obtain ⟨t,p1,s1,ht,⟨g1,g2⟩,g3⟩:=KI l hl hn p s h0 (by omega)
 obtain ⟨v,p2,s2,hv,⟨v0,v1⟩,g4,g5⟩:=Dh l hl hn 24 (by omega) (by omega) p1 s1 (by omega) (by omega)
 have hal:=Tm.UL t
 rcases (show v=0∨v=1∨v=2∨v=3∨v=4∨(¬ v=0∧¬ v=1∧¬ v=2∧¬ v=3∧¬ v=4) by omega) with rfl | rfl | rfl | rfl | rfl | ⟨k0,k1,k2,k3,k4⟩
 ·obtain ⟨x,p3,s3,ho,_,g6,g7⟩:=OS l hl hn [⟨#[]⟩,⟨#[116,114,117,101]⟩,⟨#[116,114,117,116,104]⟩,⟨#[105,102]⟩,⟨#[88,121,122,57]⟩,⟨#[88,121,122,57,57]⟩,⟨#[120,65]⟩,⟨#[97,95,98]⟩,⟨#[97,98,99,100,101,102]⟩,⟨#[97,98,99,100,101,102,103]⟩,⟨#[95,97]⟩,⟨#[57]⟩,⟨#[88,95]⟩,⟨#[61]⟩] (by decide) (by decide) p2 s2 (by omega) (by omega)
  simp only [zA,zH] at ho
  refine AL BK A9 (of_decide_eq_true rfl) ?_
  simp (disch:=omega) only [B6,go_sem,Ab,ht,hv,ho,Am,AQ,Aq,BJ,BP]
  rw [hQ]
  exact ⟨.mk x t.args,p3,s3,rfl,by omega,by rw [Tm.Kq]; have:=Tm.nodes_eq t; omega⟩
 ·obtain ⟨u,p3,s3,hu,⟨u0,u1⟩,g6,g7⟩:=Dh l hl hn 3 (by omega) (by omega) p2 s2 (by omega) (by omega)
  have hi:dec (inK .i64 (7+u))=true:=Ea (by omega) (by omega)
  obtain ⟨t2,p4,s4,ho,⟨g8,g9⟩,g10⟩:=W5 l hl hn (7+u) (by omega) (by omega) p3 s3 (by omega) (by omega)
  refine AL BK A9 (of_decide_eq_true rfl) ?_
  simp (disch:=omega) only [B6,go_sem,Ab,ht,hv,hu,hi,ho,Am,AQ,Aq,BJ,BP]
  rw [hQ]
  exact ⟨t2,p4,s4,rfl,by omega,g10⟩
 ·obtain ⟨t2,p3,s3,ho,⟨g8,g9⟩,g10⟩:=XD l hl hn p2 s2 (by omega) (by omega)
  refine AL BK A9 (of_decide_eq_true rfl) ?_
  simp (disch:=omega) only [B6,go_sem,Ab,ht,hv,ho,Am,AQ,Aq,BJ,BP]
  rw [hQ]
  exact ⟨t2,p3,s3,rfl,by omega,g10⟩
 ·obtain ⟨t2,p3,s3,hu,⟨a1,a2⟩,a3⟩:=KI l hl hn p2 s2 (by omega) (by omega)
  obtain ⟨t3,p4,s4,hw,⟨b1,b2⟩,b3⟩:=KI l hl hn p3 s3 (by omega) (by omega)
  obtain ⟨t4,p5,s5,hx,⟨c1,c2⟩,c3⟩:=KI l hl hn p4 s4 (by omega) (by omega)
  refine AL BK A9 (of_decide_eq_true rfl) ?_
  simp (disch:=omega) only [B6,go_sem,Ab,ht,hv,hu,hw,hx,Am,AQ,Aq,BJ,BP]
  rw [hQ]
  refine ⟨.mk t.name (t.args++[t2,t3,t4]),p5,s5,?_,by omega,by rw [Tm.Kq,Tm.nodeS_app,Tm.XE]; have:=Tm.nodes_eq t; omega⟩
  show _=(tmH (.mk t.name (t.args++[t2,t3,t4])) 1,[cur l p5 s5,.row 30 2 ((t.args++[t2,t3,t4]).map Tm.osh)])
  rw [zZ]
  rfl
 ·rcases hc:t.args with _ | ⟨a0,ar⟩
  ·have q0:((0:Int)<(t.args.length:Int))=False:=eq_false (by rw [hc]; simp)
   rw [←hc] at *
   refine AL BK A9 (of_decide_eq_true rfl) ?_
   simp (disch:=omega) only [B6,go_sem,Ab,ht,hv,q0,Am,AQ,Aq,BJ,BP]
   rw [hQ]
   exact ⟨t,p2,s2,rfl,by omega,by omega⟩
  ·have q0:((0:Int)<(t.args.length:Int))=True:=eq_true (by rw [hc]; simp)
   obtain ⟨x,p3,s3,ho,_,g6,g7⟩:=OS l hl hn [⟨#[61]⟩,⟨#[]⟩,⟨#[81,49]⟩,⟨#[98,50]⟩] (by decide) (by decide) p2 s2 (by omega) (by omega)
   simp only [zA,zH] at ho
   have hm:t.args.map Tm.osh=[.str a0.name,.sh (a0.args.map Tm.d)] :: ar.map Tm.osh:=by rw [hc]; rfl
   have hgl:(t.args.map Tm.osh)[0]?=some [.str a0.name,.sh (a0.args.map Tm.d)]:=by rw [hm]; rfl
   have hst:∀ y,(t.args.map Tm.osh).set 0 y=y :: ar.map Tm.osh:=fun y=>by rw [hm]; rfl
   have q1:0<t.args.length:=by rw [hc]; simp
   have hnn:t.nodes=1+(a0.nodes+Tm.nodeS ar):=by rw [Tm.nodes_eq,hc]; rfl
   refine AL BK A9 (of_decide_eq_true rfl) ?_
   simp (disch:=omega) only [B6,go_sem,Ab,ht,hv,q0,ho,hgl,hst,q1,Am,AQ,Aq,BJ,BP]
   rw [hQ]
   refine ⟨.mk t.name (.mk x a0.args :: ar),p3,s3,?_,by omega,?_⟩
   ·rfl
   ·rw [Tm.Kq]
    show 1+((Tm.mk x a0.args).nodes+Tm.nodeS ar)≤_
    rw [Tm.Kq]
    have:=Tm.nodes_eq a0
    omega
 ·have k0:=eq_false k0
  have k1:=eq_false k1
  have k2:=eq_false k2
  have k3:=eq_false k3
  have k4:=eq_false k4
  refine AL BK A9 (of_decide_eq_true rfl) ?_
  simp (disch:=omega) only [B6,go_sem,Ab,ht,hv,k0,k1,k2,k3,k4,Am,AQ,Aq,BJ,BP]
  rw [hQ]
  exact ⟨t,p2,s2,rfl,by omega,by omega⟩
theorem Fm.nodes_eq (x:Fm):x.nodes=1+Fm.nodeS x.parts:=by
 obtain ⟨op,atom,var,parts⟩:=x
 rw [Fm.nodes]; rfl
theorem Fm.nodes_pos (x:Fm):1≤x.nodes:=by rw [Fm.nodes_eq]; omega
theorem Fm.nodes_le:∀ (xs:List Fm) (k:Nat) (h:k<xs.length),xs[k].nodes≤Fm.nodeS xs
 | [],k,h=>absurd h (by simp)
 | x :: xs,0,_=>by rw [Fm.nodeS]; simp
 | x :: xs,k+1,h=>by
  have:=Fm.nodes_le xs k (by simpa using h)
  rw [Fm.nodeS]; simp only [yO]; omega
theorem Fm.MQ:∀ (xs:List Fm) (k:Nat) (h:k<xs.length),Fm.nodeS (xs.take (k+1))=Fm.nodeS (xs.take k)+xs[k].nodes
 | [],k,h=>absurd h (by simp)
 | x :: xs,0,_=>by simp [Fm.nodeS]
 | x :: xs,k+1,h=>by
  have:=Fm.MQ xs k (by simpa using h)
  simp only [yT,Fm.nodeS,yO,this]; omega
theorem Fm.Nz (xs:List Fm) (k:Nat):Fm.nodeS (xs.take k)≤Fm.nodeS xs:=by
 induction xs generalizing k with
 | nil=>simp [Fm.nodeS]
 | cons x xs ih =>
  cases k with
  | zero=>simp [Fm.nodeS]
  | succ k=>simp only [yT,Fm.nodeS]; have:=ih k; omega
theorem Fm.nodes_mem {xs:List Fm} {y:Fm} (h:y∈xs):y.nodes≤Fm.nodeS xs:=by
 obtain ⟨k,hk,rfl⟩:=yB h
 exact Fm.nodes_le xs k hk
mutual
def Fm.cap:Fm→Int
 | .mk _ _ _ xs=>Fm.capL xs 1
def Fm.capL:List Fm→Int→Int
 | [],n=>n
 | x :: xs,n=>if 40 < n then n else Fm.capL xs (n+Fm.cap x)
end
theorem Fm.cap_eq (x:Fm):x.cap=Fm.capL x.parts 1:=by
 obtain ⟨op,atom,var,xs⟩:=x
 rw [Fm.cap]; rfl
theorem Fm.capL_spec:∀ (xs:List Fm) (n:Int),(∀ x∈xs,1≤x.cap∧x.cap≤x.nodes∧(x.cap≤40→x.cap=x.nodes))→1≤n→n≤Fm.capL xs n∧Fm.capL xs n≤n+Fm.nodeS xs∧(Fm.capL xs n≤40→Fm.capL xs n=n+Fm.nodeS xs)
 | [],n,_,h=>by simp [Fm.capL,Fm.nodeS]
 | x :: xs,n,hx,h=>by
  rw [Fm.capL,Fm.nodeS]
  have h1:=hx x (by simp)
  split
  ·omega
  ·have:=Fm.capL_spec xs (n+x.cap) (fun y hy=>hx y (by simp [hy])) (by omega)
   omega
theorem Fm.cap_spec (x:Fm):1≤x.cap∧x.cap≤x.nodes∧(x.cap≤40→x.cap=x.nodes):=by
 rw [Fm.cap_eq,Fm.nodes_eq]
 have:=Fm.capL_spec x.parts 1 (fun y hy=>Fm.cap_spec y) (by omega)
 omega
termination_by SizeOf.sizeOf x
decreasing_by exact Fm.lt_of_mem hy
mutual
def Fm.many:Fm→Int→Int
 | .mk _ _ _ xs,m=>Fm.manyL xs m 1
def Fm.manyL:List Fm→Int→Int→Int
 | [],_,n=>n
 | x :: xs,m,n=>if n≤m then Fm.manyL xs m (n+Fm.many x (m-n)) else n
end
theorem Fm.many_eq (x:Fm) (m:Int):x.many m=Fm.manyL x.parts m 1:=by
 obtain ⟨op,atom,var,xs⟩:=x
 rw [Fm.many]; rfl
theorem Fm.manyL_spec (m:Int):∀ (xs:List Fm) (n:Int),(∀ x∈xs,∀ m,0≤m→1≤x.many m∧x.many m≤x.nodes∧(x.many m≤m→x.many m=x.nodes))→1≤n→n≤Fm.manyL xs m n∧Fm.manyL xs m n≤n+Fm.nodeS xs∧(Fm.manyL xs m n≤m→Fm.manyL xs m n=n+Fm.nodeS xs)
 | [],n,_,h=>by simp [Fm.manyL,Fm.nodeS]
 | x :: xs,n,hx,h=>by
  rw [Fm.manyL,Fm.nodeS]
  split
  ·have h1:=hx x (by simp) (m-n) (by omega)
   have:=Fm.manyL_spec m xs (n+x.many (m-n)) (fun y hy=>hx y (by simp [hy])) (by omega)
   omega
  ·omega
theorem Fm.many_spec (x:Fm) (m:Int):1≤x.many m∧x.many m≤x.nodes∧(x.many m≤m→x.many m=x.nodes):=by
 rw [Fm.many_eq,Fm.nodes_eq]
 have:=Fm.manyL_spec m x.parts 1 (fun y hy m _=>Fm.many_spec y m) (by omega)
 omega
termination_by SizeOf.sizeOf x
decreasing_by exact Fm.lt_of_mem hy
theorem MR (n:Int):n=1∨n=2∨n=3∨n=4∨n=5∨n=6∨n=7∨n=8∨n=9∨(n≠1∧n≠2∧n≠3∧n≠4∧n≠5∧n≠6∧n≠7∧n≠8∧n≠9):=by omega
theorem Fm.EH (x:Fm):x.forms=(x.form&&Fm.Ja x.parts):=by
 obtain ⟨op,atom,var,parts⟩:=x
 rw [Fm.forms]; rfl
theorem Fm.KK:∀ xs:List Fm,Fm.Ja xs=xs.all Fm.forms
 | []=>rfl
 | x :: xs=>by rw [Fm.Ja,Fm.KK xs]; rfl
theorem Fm.any_not (xs:List Fm):(!xs.any fun y=>!y.forms)=Fm.Ja xs:=by
 rw [Fm.KK]
 induction xs with
 | nil=>rfl
 | cons x xs ih=>simp only [yE,yI,Bool.not_or,Bool.not_not,ih]
theorem Fm.length_le:∀ xs:List Fm,xs.length≤Fm.nodeS xs
 | []=>by simp
 | x :: xs=>by
  have h:=Fm.length_le xs
  have h1:=Fm.nodes_pos x
  rw [Fm.nodeS,zR]; omega
mutual
def Fm.tame:Fm→Prop
 | .mk _ atom _ parts=>atom.nodes≤1099511627776∧Fm.EP parts
def Fm.EP:List Fm→Prop
 | []=>True
 | x :: xs=>Fm.tame x∧Fm.EP xs
end
theorem Fm.LK (x:Fm):x.tame=(x.atom.nodes≤1099511627776∧Fm.EP x.parts):=by
 obtain ⟨op,atom,var,parts⟩:=x
 rw [Fm.tame]; rfl
theorem Fm.Om:∀ {xs:List Fm},Fm.EP xs→∀ y∈xs,y.tame
 | [],_,y,hy=>by cases hy
 | x :: xs,h,y,hy=>by
  rw [Fm.EP] at h
  rcases zS.1 hy with rfl | hy
  ·exact h.1
  ·exact Fm.Om h.2 y hy
theorem Fm.LL {x:Fm} (h:x.tame):x.atom.nodes≤1099511627776:=by rw [Fm.LK] at h; exact h.1
theorem Fm.On {x y:Fm} (h:x.tame) (hy:y∈x.parts):y.tame:=by rw [Fm.LK] at h; exact Fm.Om h.2 y hy
mutual
def Fm.vn:Fm→Nat
 | .mk _ atom _ parts=>atom.nodes+Fm.vnS parts
def Fm.vnS:List Fm→Nat
 | []=>0
 | x :: xs=>Fm.vn x+Fm.vnS xs
end
theorem Fm.MS (x:Fm):x.vn=x.atom.nodes+Fm.vnS x.parts:=by
 obtain ⟨op,atom,var,parts⟩:=x
 rw [Fm.vn]; rfl
end Go.Proofs.YtoglfpfdhojaaaaGreat
