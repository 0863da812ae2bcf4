/-
  Texts of this claim, one behind the other, each built on those ahead of it. No condition.
-/
import Derived.Test.YtoglfpfdhojaaaaGreatK41b
import Derived.Shelf.Lays2
import Derived.Test.YtoglfpfdhojaaaaGreatChecked
import Derived.Shelf.Slices.Clone
import Derived.Shelf.Sort.Plain
import Derived.Sort.EncStr
import Derived.Shelf.Lays
import Derived.Shelf.Slices.In.SortNone
set_option maxHeartbeats 16000000
open Bool renaming and_eq_true → zA, and_self → zG, false_and → zR, and_true → zW, true_and → zY, or_eq_false_iff → yW, or_eq_true → yX, and_false → y5
open List renaming map_cons → zB, eq_nil_of_length_eq_zero → zC, getElem?_eq_getElem → zD, getElem_mem → zE, drop_eq_getElem_cons → zF, length_cons → zI, drop_eq_nil_of_le → zK, all_eq_true → zL, getD_eq_getElem?_getD → zM, map_nil → zN, length_nil → zP, drop_zero → zQ, mem_cons → zS, length_map → zT, map_append → zX, getElem_of_mem → zZ, take_of_length_le → z7, getElem_map → z8, nil_append → yC, length_drop → yE, map_map → yF, length_append → yH, foldl_cons → yI, any_cons → yJ, getElem?_map → yK, mem_map → yO, length_take → yP, all_cons → yQ, set_cons_zero → yR, set_cons_succ → yS, getElem_cons_succ → yT, take_succ_eq_append_getElem → yU, mem_append → yY, take_succ_cons → yZ, pairwise_iff_getElem → y8, not_mem_nil → xA, mem_range → xD, range → xF
open Nat renaming lt_or_ge → zH, zero_le → zU, eq_zero_or_pos → yA, le_refl → yD, zero_add → y2, lt_of_lt_of_le → y4, add_zero → xB, mul_one → xC
open Option.some renaming inj → zJ, injEq → zO
open Prod.mk renaming injEq → zV, inj → yM
open Array renaming getD_eq_getD_getElem? → z6, getElem?_eq_getElem → yB, getElem?_eq_some_iff → y3
open Int renaming lt_or_le → yG, toNat_natCast → yL, tmod_eq_emod_of_nonneg → yN, mul_le_mul_of_nonneg_right → yV, mul_nonneg → y6, tdiv_eq_ediv_of_nonneg → y7, toNat_zero → xE
open Option renaming getD_some → y9
set_option maxRecDepth 100000
set_option linter.unusedSimpArgs false
set_option linter.unusedVariables false
set_option linter.unusedSectionVars false
namespace Go.Proofs.YtoglfpfdhojaaaaGreat
open Go.RowKit
theorem UP (s:ByteArray) (w:World) (hs:s.size≤9223372036854775807):Calls Tryz.prog 62 #[.string s] w (Same w (.bool (Cc s))):=by
  cases hin:inB s.size 1 4
  · go_enter Tryz.func62,Tryz.ntmps62
    go_wp2_with (first
      | (go_at_call 32; refine (IZ _ _ _ _).mono ?_; rintro e w' ⟨rfl,rfl⟩))
    go_ret
    exact Same.mk' _ (by unfold Cc; rw [hin]; simp)
  · have hpos:0<s.size:=by simp [inB] at hin; omega
    have Hb:=Lib.hid (F4 hpos)
    go_enter Tryz.func62,Tryz.ntmps62
    go_wp2_with (first
      | (go_at_call 32; refine (IZ _ _ _ _).mono ?_; rintro e w' ⟨rfl,rfl⟩))
    all_goals first
      | (go_ret
         refine Same.mk' _ ?_
         unfold Cc
         rw [EK hpos (by rw [←Hb.out]; simp [I9,NO]; omega)]
         rfl)
      | skip
    · go_loopw [3] (fun i wr=>Cnt w s.size (fun k=>1≤k∧EX I9 s k=true) i wr) (fun i _=>s.size-(intOf i).toNat)
      case atStart=>exact ⟨1,hpos,rfl,⟨yD _,by rw [GC,← Hb.out]; simp [EX,I9,NO]; omega⟩,rfl⟩
      case round =>
        obtain ⟨k,hk,rfl,⟨hk1,hok⟩,rfl⟩:=hrel
        have Hok:=Lib.hid hok
        clear hok
        by_cases hlt:k<s.size
        · have Hbk:=Lib.hid (F4 hlt)
          have hk0:k≠0:=by omega
          go_wp2_with (first
            | (go_at_call 96; refine (M5 _ _).mono ?_; rintro e w' ⟨rfl,rfl⟩))
          all_goals first
            | (go_ret
               refine Same.mk' _ ?_
               unfold Cc
               rw [EK hlt (by rw [←Hbk.out]; simp_all [I9] <;> omega)]
               rfl)
            | (go_roundw
               case rel=>exact ⟨_,hlt,by go_num,⟨by omega,Il Hok.out (by rw [←Hbk.out]; simp_all [I9] <;> omega)⟩,rfl⟩
               case measure=>first | exact IJ hlt | (simp [intOf]; omega))
        · obtain rfl:k=s.size:=by omega
          go_wp2_with fail
          go_ret
          exact Same.mk' _ (by unfold Cc; rw [Hok.out,hin]; rfl)
theorem TW (s:ByteArray):W0 s=(s.toList == [116,114,117,101] || s.toList == [102,97,108,115,101] || s.toList == [116,114,117,116,104] || s.toList == [98,111,116,104] || s.toList == [101,105,116,104,101,114] || s.toList == [105,102] || s.toList == [97,108,108] || s.toList == [115,111,109,101]):=by
 unfold W0 VM words
 simp [xF,List.range.loop,Bool.or_assoc]
theorem Qp (s:ByteArray) (w:World) (hs:s.size≤9223372036854775807):Calls Tryz.prog 95 #[.string s] w (Same w (.bool (Ez s))):=by
  cases hin:inB s.size 1 6
  · go_enter Tryz.func95,Tryz.ntmps95
    go_wp2_with (first
      | (go_at_call 32; refine (IZ _ _ _ _).mono ?_; rintro e w' ⟨rfl,rfl⟩))
    go_ret
    exact Same.mk' _ (by unfold Ez; rw [hin]; simp)
  · have hpos:0<s.size:=by simp [inB] at hin; omega
    have Hb:=Lib.hid (F4 hpos)
    cases hres:W0 s
    case true =>
      have Hres:=Lib.hid hres
      rw [TW] at hres
      go_enter Tryz.func95,Tryz.ntmps95
      go_wp2_with (first
        | (go_at_call 32; refine (IZ _ _ _ _).mono ?_; rintro e w' ⟨rfl,rfl⟩))
      all_goals first
        | (go_ret
           refine Same.mk' _ ?_
           unfold Ez
           rw [Hres.out]; simp)
        | (exfalso; simp_all; done)
    have Hres:=Lib.hid hres
    rw [TW] at hres
    simp only [yW] at hres
    obtain ⟨⟨⟨⟨⟨⟨⟨e1,e2⟩,e3⟩,e4⟩,e5⟩,e6⟩,e7⟩,e8⟩:=hres
    go_enter Tryz.func95,Tryz.ntmps95
    go_wp2_with (first
      | (go_at_call 32; refine (IZ _ _ _ _).mono ?_; rintro e w' ⟨rfl,rfl⟩))
    all_goals first
      | (go_ret
         refine Same.mk' _ ?_
         unfold Ez
         rw [EK hpos (by rw [←Hb.out]; simp [I8,OF]; omega)]; rfl)
      | skip
    go_loopw [3] (fun i wr=>Cnt w s.size (fun k=>1≤k∧EX I8 s k=true) i wr) (fun i _=>s.size-(intOf i).toNat)
    case atStart=>exact ⟨1,hpos,rfl,⟨yD _,by rw [GC,← Hb.out]; simp [EX,I8,Ik,OF]; omega⟩,rfl⟩
    case round =>
      obtain ⟨k,hk,rfl,⟨hk1,hok⟩,rfl⟩:=hrel
      have Hok:=Lib.hid hok
      clear hok
      by_cases hlt:k<s.size
      · have Hbk:=Lib.hid (F4 hlt)
        have hk0:k≠0:=by omega
        go_wp2_with (first
          | (go_at_call 96; refine (M5 _ _).mono ?_; rintro e w' ⟨rfl,rfl⟩))
        all_goals first
          | (go_ret
             refine Same.mk' _ ?_
             unfold Ez
             rw [EK hlt (by rw [←Hbk.out]; simp_all [I8] <;> omega)]
             rfl)
          | (go_roundw
             case rel=>exact ⟨_,hlt,by go_num,⟨by omega,Il Hok.out (by rw [←Hbk.out]; simp_all [I8] <;> omega)⟩,rfl⟩
             case measure=>first | exact IJ hlt | (simp [intOf]; omega))
      · obtain rfl:k=s.size:=by omega
        go_wp2_with fail
        go_ret
        exact Same.mk' _ (by unfold Ez; rw [Hok.out,hin,Hres.out]; rfl)
end Go.Proofs.YtoglfpfdhojaaaaGreat
set_option maxRecDepth 100000
namespace Go.Proofs.YtoglfpfdhojaaaaGreat
open Go.Shelf
def so_CloneS_ren:Go.Shelf.Ren:=⟨fun | 16=>114 | n=>n,fun | 24=>73 | 9=>9 | 4=>4 | n=>n,fun | n=>n⟩
theorem LO:Go.Proofs.Lays2.n16 Tryz.prog so_CloneS_ren:={
 mixed:=by kernel_rfl,
 f16:=Tryz.func114.trans (congrArg some (by kernel_rfl)),
 t4:=Tryz.underlying4,
 a4:=Tryz.isAgg4,
 z4:=Tryz.sizeOf4,
 v4:=Tryz.zeroValue4,
 t9:=Tryz.underlying9,
 a9:=Tryz.isAgg9,
 z9:=Tryz.sizeOf9,
 v9:=Tryz.zeroValue9,
 t24:=Tryz.underlying73,
 a24:=Tryz.isAgg73,
 z24:=Tryz.sizeOf73,
 v24:=Tryz.zeroValue73,
 i9:=by kernel_rfl }
end Go.Proofs.YtoglfpfdhojaaaaGreat
set_option maxRecDepth 100000
namespace Go.Proofs.YtoglfpfdhojaaaaGreat
open Go.Shelf
def so_CloneI_ren:Go.Shelf.Ren:=⟨fun | 15=>69 | n=>n,fun | 22=>38 | 3=>3 | 4=>4 | n=>n,fun | n=>n⟩
theorem LP:Go.Proofs.Lays2.n15 Tryz.prog so_CloneI_ren:={
 mixed:=by kernel_rfl,
 f15:=Tryz.func69.trans (congrArg some (by kernel_rfl)),
 t3:=Tryz.underlying3,
 a3:=Tryz.isAgg3,
 z3:=Tryz.sizeOf3,
 v3:=Tryz.zeroValue3,
 t4:=Tryz.underlying4,
 a4:=Tryz.isAgg4,
 z4:=Tryz.sizeOf4,
 v4:=Tryz.zeroValue4,
 t22:=Tryz.underlying38,
 a22:=Tryz.isAgg38,
 z22:=Tryz.sizeOf38,
 v22:=Tryz.zeroValue38,
 i3:=by kernel_rfl }
end Go.Proofs.YtoglfpfdhojaaaaGreat
set_option maxRecDepth 100000
set_option linter.unusedSimpArgs false
set_option linter.unusedVariables false
set_option linter.unusedSectionVars false
namespace Go.Proofs.YtoglfpfdhojaaaaGreat
open Go.RowKit
theorem ER {w w':World} {I:Nat→Prop} {V:Nat→Option Value} {B:Nat→Nat→Prop} (hwf:Wf w I V B (As [])) (hbel:Below w.heap.size w w') {v:Value} {t:TypeId} {os:List OT} {vals:List Value} (hl:vals.length=os.length)
  (hown:w'.ownsRow w.heap.size t 1 v os.length vals) (hv:∀ i (h:i<os.length),ORep w' I (fun _=>False) os[i] (vals.getD i undef)) :
  ∃ V' B',RepV w' I V' (.ref 0) v∧FunPost w I V B [] [.row t 1 (os.map fun o=>[o])] w' I V' B':=by
 have hV0:V 0=none:=hwf.fr 0 rfl
 have hn:=hbel.size
 have gS:∀ (e:List (List OT)) (g:Nat),As [Ob.row t 1 e] (g+1)=.free:=fun _ _=>rfl
 obtain ⟨hx,hform⟩:=hown
 let B':Nat→Nat→Prop:=fun g b=>g=0∧w.heap.size≤b∧b<w'.heap.size∧∃ o n c,v=.slice (some ⟨b,o,none⟩) n c
 have hform2:∃ a n c,v=.slice a n c:=by
  rcases hform with ⟨rfl,_⟩ | ⟨g,cap,cur,rfl,_⟩
  ·exact ⟨_,_,_,rfl⟩
  ·exact ⟨_,_,_,rfl⟩
 have hrow:RowR w' I (B' 0) t 1 (os.map fun o=>[o]) v:=by
  rcases hform with ⟨rfl,h0⟩ | ⟨g,cap,cur,rfl,hg,hb,h1,h2,h3,h4⟩
  ·left
   have:os=[]:=zC h0
   subst this
   exact ⟨rfl,rfl⟩
  ·right
   have hlt:=(y3.1 hb).1
   refine ⟨g,cap,cur,fun _ _ _=>False,by rw [zT],⟨rfl,hg,hlt,_,_,_,rfl⟩,hb,by rw [zT]; exact h1,by unfold maxLen at h2; omega,h3,fun i hi=>by simp,fun _ _ _ h=>h.elim,fun _ _ _ _ _ h=>h.elim,fun i j hi hj=>?_⟩
   have hi':i<os.length:=by simpa using hi
   have hj0:j=0:=by simpa using hj
   subst hj0
   have e:cur.getD (i*1+0) undef=vals.getD i undef:=by
    have hc:i<cur.size:=by omega
    rw [←h4,xC,xB,z6,zM,List.getElem?_take]
    simp only [xC,hi',if_true,Array.getElem?_toList]
   rw [e]
   have:=hv i hi'
   simpa using this
 refine ⟨fun g=>if g=0 then some v else V g,B',?_,?_⟩
 ·simp only [RepV]
  exact ⟨by simp,by obtain ⟨a,n,c,e⟩:=hform2; rw [e]; rfl⟩
 ·refine ⟨⟨hbel.os,⟨hbel.tape,fun h=>False.elim h⟩,hbel.output,hn,fun x hx _=>hbel.block x hx⟩,fun x hx=>hx,fun x hx=>.inl hx,fun g u hu=>?_,⟨fun x hx=>y4 (hwf.ilt x hx) hn,fun g hl=>?_,fun g b hl hb=>hb.2.2.1,fun g b hl hb hI=>?_,fun g g' b hl hl' hb hb'=>?_,fun g hg=>?_,hwf.gl.keep ⟨hn,fun x _ hlt=>hbel.block x hlt⟩ fun _ h=>h⟩,fun g b hl hb=>.inr hb.2.1⟩
  ·by_cases h0:g=0
   ·subst h0; rw [hV0] at hu; cases hu
   ·simp only [if_neg h0]; exact hu
  ·cases g with
   | zero=>exact ⟨v,by simp,hrow⟩
   | succ g=>rw [gS] at hl; exact hl.elim
  ·have:=hwf.ilt b hI
   have:=hb.2.1
   omega
  ·rw [hb.1,hb'.1]
  ·cases g with
   | zero=>cases hg
   | succ g=>simp only [Nat.add_eq_zero_iff,Nat.succ_ne_self,and_false,if_false]; exact hwf.fr (g+1) rfl
theorem NQ {w:World} {I:Nat→Prop} {es:List (List D)} {v:Value} (h:DRep false w I (.arr es) v) (hsz:∀ e∈es,e.length=1) :
  (es=[]∧∃ a c,v=.slice a 0 c)∨∃ b off cap,v=.slice (some ⟨b,off,none⟩) es.length cap∧∀ i (hi:i<es.length),∃ u,w.cell? ⟨b,off+i,none⟩=some u∧∃ S,DRep false w S (es[i].headD (.int 0)) u:=by
 cases h with
 | arr S sz es a cap f Sub h1 h2 h3 h4 h5 h6 h7 =>
  rcases h3 with h3 | ⟨b,off,rfl,hS,hb,hc,_⟩
  ·left
   have he:es=[]:=zC h3
   subst he
   exact ⟨rfl,_,_,rfl⟩
  ·rcases yA es.length with h0 | h0
   ·left
    have he:es=[]:=zC h0
    subst he
    exact ⟨rfl,_,_,rfl⟩
   ·right
    have hs1:sz=1:=by rw [←h4 0 h0]; exact hsz _ (zE h0)
    subst hs1
    refine ⟨b,off,cap,rfl,fun i hi=>⟨f i 0,by have:=hc i 0 hi (by omega); simpa using this,Sub i 0,?_⟩⟩
    have hl:=hsz _ (zE hi)
    have:=h7 i 0 hi (by omega)
    have key:∀ (l:List D) (h:0<l.length),l.headD (.int 0)=l[0]:=fun l h=>by
     cases l with
     | nil=>cases h
     | cons d r=>rfl
    have e:=key es[i] (by omega)
    rw [e]
    exact this
def unS:List D→ByteArray
 | D.str s :: _=>s
 | _=>⟨#[]⟩
noncomputable def LQ (xs:List SV) (ob:List Ob):Option (SV × List Ob) :=
 match xs,ob with
 | [.arr es],[]=>bif dec ((∀ e∈es,∃ s,e=[D.str s])∧es.length≤1048576) then some (.ref 0,[.row 9 1 (es.map fun e=>[OT.str (unS e)])]) else none
 | _,_=>none
theorem Rz {xs:List SV} {ob:List Ob} {r:SV} {ob':List Ob} (h:LQ xs ob=some (r,ob')):Fun Tryz.prog 114 xs ob r ob':=by
 unfold LQ at h
 split at h
 ·rename_i es
  obtain ⟨h1,h2⟩:=Az h
  obtain ⟨k1,k2⟩:=Ar.1 h1
  simp only [zO,zV] at h2
  obtain ⟨rfl,rfl⟩:=h2
  intro w I V B vs hwf hvs
  obtain ⟨v,q,rfl,hv,hvs⟩:=F3 hvs
  obtain rfl:=M2 hvs
  simp only [RepV] at hv
  have hsz:∀ e∈es,e.length=1:=fun e he=>by obtain ⟨s,rfl⟩:=k1 e he; rfl
  have hmap:(es.map fun e=>[OT.str (unS e)])=((es.map fun e=>OT.str (unS e)).map fun o=>[o]):=by rw [yF]; rfl
  rcases NQ hv hsz with ⟨rfl,a,c,rfl⟩ | ⟨b,off,cap,rfl,hcell⟩
  ·cases a with
   | none =>
    have hcon:=Any.slices_Clone_string_nil LO 0 c w
    change Calls Tryz.prog 114 _ _ _ at hcon
    refine hcon.mono ?_
    rintro e w' ⟨rfl,rfl⟩
    obtain ⟨V',B',h3,h4⟩:=ER (t:=9) (os:=[]) (vals:=[]) hwf (Below.refl _ _) rfl ⟨rfl,.inl ⟨rfl,rfl⟩⟩ (fun i h=>absurd h (by simp))
    exact ⟨_,I,V',B',rfl,h3,h4⟩
   | some a =>
    have hcon:=Any.slices_Clone_string_zero LO a c w
    change Calls Tryz.prog 114 _ _ _ at hcon
    refine hcon.mono ?_
    rintro e w' ⟨v',rfl,hown,_,hbel⟩
    obtain ⟨V',B',h3,h4⟩:=ER (t:=9) (os:=[]) (vals:=[]) hwf hbel rfl hown (fun i h=>absurd h (by simp))
    exact ⟨_,I,V',B',rfl,h3,h4⟩
  ·obtain ⟨zs,hzs⟩:∃ zs,zs=es.map unS:=⟨_,rfl⟩
   have hzl:zs.length=es.length:=by rw [hzs,zT]
   have hcz:∀ j (hj:j<es.length),w.cell? ⟨b,off+j,none⟩=some (Value.string (unS es[j]))∧(unS es[j]).size≤9223372036854775807:=fun j hj=>by
    obtain ⟨u,hu,S,hd⟩:=hcell j hj
    obtain ⟨s,he⟩:=k1 es[j] (zE hj)
    rw [he] at hd ⊢
    simp only [List.headD_cons] at hd
    cases hd
    exact ⟨hu,by assumption⟩
   have hcon:=Any.slices_Clone_string LO b off es.length cap zs w (by omega) (by omega) (fun j hj=>by
    have hj':j<es.length:=by omega
    rw [(hcz j hj').1]
    rw [zM,zD hj]
    simp [hzs])
   change Calls Tryz.prog 114 _ _ _ at hcon
   refine hcon.mono ?_
   rintro e w' ⟨v',rfl,hown,_,hbel⟩
   have ht:zs.take es.length=zs:=z7 (by omega)
   rw [ht] at hown
   have hown2:w'.ownsRow w.heap.size 9 1 v' (es.map fun e=>OT.str (unS e)).length (zs.map Value.string):=by rw [zT]; exact hown
   obtain ⟨V',B',h3,h4⟩:=ER (t:=9) (os:=es.map fun e=>OT.str (unS e)) (vals:=zs.map Value.string) hwf hbel (by simp [hzl]) hown2 (fun i hi=>by
    have hi':i<es.length:=by simpa using hi
    have e:(zs.map Value.string).getD i undef=Value.string (unS es[i]):=by
     rw [zM,yK,zD (by omega)]
     simp [hzs]
    rw [e,z8]
    exact .str _ _ (hcz i hi').2)
   rw [hmap]
   exact ⟨_,I,V',B',rfl,h3,h4⟩
 ·cases h
def unI:List D→Int
 | D.int s :: _=>s
 | _=>0
noncomputable def LR (xs:List SV) (ob:List Ob):Option (SV × List Ob) :=
 match xs,ob with
 | [.arr es],[]=>bif dec ((∀ e∈es,∃ s,e=[D.int s])∧es.length≤1048576) then some (.ref 0,[.row 3 1 (es.map fun e=>[OT.int (unI e)])]) else none
 | _,_=>none
theorem R0 {xs:List SV} {ob:List Ob} {r:SV} {ob':List Ob} (h:LR xs ob=some (r,ob')):Fun Tryz.prog 69 xs ob r ob':=by
 unfold LR at h
 split at h
 ·rename_i es
  obtain ⟨h1,h2⟩:=Az h
  obtain ⟨k1,k2⟩:=Ar.1 h1
  simp only [zO,zV] at h2
  obtain ⟨rfl,rfl⟩:=h2
  intro w I V B vs hwf hvs
  obtain ⟨v,q,rfl,hv,hvs⟩:=F3 hvs
  obtain rfl:=M2 hvs
  simp only [RepV] at hv
  have hsz:∀ e∈es,e.length=1:=fun e he=>by obtain ⟨s,rfl⟩:=k1 e he; rfl
  have hmap:(es.map fun e=>[OT.int (unI e)])=((es.map fun e=>OT.int (unI e)).map fun o=>[o]):=by rw [yF]; rfl
  rcases NQ hv hsz with ⟨rfl,a,c,rfl⟩ | ⟨b,off,cap,rfl,hcell⟩
  ·cases a with
   | none =>
    have hcon:=Any.slices_Clone_int_nil LP 0 c w
    change Calls Tryz.prog 69 _ _ _ at hcon
    refine hcon.mono ?_
    rintro e w' ⟨rfl,rfl⟩
    obtain ⟨V',B',h3,h4⟩:=ER (t:=3) (os:=[]) (vals:=[]) hwf (Below.refl _ _) rfl ⟨rfl,.inl ⟨rfl,rfl⟩⟩ (fun i h=>absurd h (by simp))
    exact ⟨_,I,V',B',rfl,h3,h4⟩
   | some a =>
    have hcon:=Any.slices_Clone_int_zero LP a c w
    change Calls Tryz.prog 69 _ _ _ at hcon
    refine hcon.mono ?_
    rintro e w' ⟨v',rfl,hown,_,hbel⟩
    obtain ⟨V',B',h3,h4⟩:=ER (t:=3) (os:=[]) (vals:=[]) hwf hbel rfl hown (fun i h=>absurd h (by simp))
    exact ⟨_,I,V',B',rfl,h3,h4⟩
  ·obtain ⟨zs,hzs⟩:∃ zs,zs=es.map unI:=⟨_,rfl⟩
   have hzl:zs.length=es.length:=by rw [hzs,zT]
   have hcz:∀ j (hj:j<es.length),w.cell? ⟨b,off+j,none⟩=some ((Value.int .i64) (unI es[j])):=fun j hj=>by
    obtain ⟨u,hu,S,hd⟩:=hcell j hj
    obtain ⟨s,he⟩:=k1 es[j] (zE hj)
    rw [he] at hd ⊢
    simp only [List.headD_cons] at hd
    cases hd
    exact hu
   have hcon:=Any.slices_Clone_int LP b off es.length cap zs w (by omega) (by omega) (fun j hj=>by
    have hj':j<es.length:=by omega
    rw [hcz j hj']
    rw [zM,zD hj]
    simp [hzs])
   change Calls Tryz.prog 69 _ _ _ at hcon
   refine hcon.mono ?_
   rintro e w' ⟨v',rfl,hown,_,hbel⟩
   have ht:zs.take es.length=zs:=z7 (by omega)
   rw [ht] at hown
   have hown2:w'.ownsRow w.heap.size 3 1 v' (es.map fun e=>OT.int (unI e)).length (zs.map (Value.int .i64)):=by rw [zT]; exact hown
   obtain ⟨V',B',h3,h4⟩:=ER (t:=3) (os:=es.map fun e=>OT.int (unI e)) (vals:=zs.map (Value.int .i64)) hwf hbel (by simp [hzl]) hown2 (fun i hi=>by
    have hi':i<es.length:=by simpa using hi
    have e:(zs.map (Value.int .i64)).getD i undef=(Value.int .i64) (unI es[i]):=by
     rw [zM,yK,zD (by omega)]
     simp [hzs]
    rw [e,z8]
    exact .int _ _)
   rw [hmap]
   exact ⟨_,I,V',B',rfl,h3,h4⟩
 ·cases h
end Go.Proofs.YtoglfpfdhojaaaaGreat
set_option maxRecDepth 100000
set_option linter.unusedSimpArgs false
set_option linter.unusedVariables false
set_option linter.unusedSectionVars false
namespace Go.Proofs.YtoglfpfdhojaaaaGreat
open Go.RowKit Go.Shelf Go.Lib Go.Sort
theorem Y8 {w w':World} {I:Nat→Prop} {V:Nat→Option Value} {B:Nat→Nat→Prop} {t:TypeId} {sz:Nat} {es es':List (List OT)} {b cap:Nat} {cur cur':Array Value} (Sub:Nat→Nat→Nat→Prop)
  (hwf:Wf w I V B (As [.row t sz es])) (hv:V 0=some (.slice (some ⟨b,0,none⟩) es.length cap)) (hn:es'.length=es.length) (hs:B 0 b) (hb:w.heap[b]?=some (.cells cur t (0,0)))
  (h1:es.length≤cap) (h2:cap≤9223372036854775807) (h3:cur.size=cap*sz) (h4:∀ i (h:i<es'.length),es'[i].length=sz) (h5:∀ i j x,Sub i j x→B 0 x∧x≠b)
  (h6:∀ i j i' j' x,Sub i j x→Sub i' j' x→i=i'∧j=j')
  (hos:w'.os=w.os) (htape:TapeOk w w') (hout:w'.output=w.output) (hsz:w.heap.size≤w'.heap.size) (hblk:∀ x,x<w.heap.size→x≠b→w'.heap[x]?=w.heap[x]?)
  (hb':w'.heap[b]?=some (.cells cur' t (0,0))) (hcs:cur'.size=cur.size)
  (h7:∀ i j (h:i<es'.length) (h':j<es'[i].length),ORep w' I (Sub i j) (es'[i][j]) (cur'.getD (i*sz+j) undef)) :
  FunPost w I V B [.row t sz es] [.row t sz es'] w' I V B:=by
 have g0:∀ (e:List (List OT)),As [Ob.row t sz e] 0=.row t sz e:=fun _=>rfl
 have gS:∀ (e:List (List OT)) (g:Nat),As [Ob.row t sz e] (g+1)=.free:=fun _ _=>rfl
 have lv:∀ (e e':List (List OT)) (g:Nat),(As [Ob.row t sz e] g).live→(As [Ob.row t sz e'] g).live:=fun e e' g h=>by
  cases g with
  | zero=>trivial
  | succ g=>rw [gS] at h; exact h.elim
 have hbS:∀ x,B 0 x→HB B [Ob.row t sz es] x:=fun x hx=>⟨0,trivial,hx⟩
 refine ⟨⟨hos,htape,hout,hsz,fun x hx hn=>hblk x hx fun e=>hn (hbS x (e▸hs))⟩,fun _ h=>h,fun _ h=>.inl h,VLe.refl _,?_,fun g x hl hx=>.inl ⟨g,lv _ _ g hl,hx⟩⟩
 refine ⟨fun x hx=>y4 (hwf.ilt x hx) hsz,fun g hl=>?_,fun g x hl hx=>y4 (hwf.lt g x (lv _ _ g hl) hx) hsz,fun g x hl hx=>hwf.dI g x (lv _ _ g hl) hx,fun g g' x hl hl' hx hx'=>hwf.dO g g' x (lv _ _ g hl) (lv _ _ g' hl') hx hx',fun g hf=>?_,hwf.gl.keep ⟨hsz,fun x hx hlt=>hblk x hlt fun e=>hwf.dI 0 x trivial (e▸hs) hx⟩ fun _ h=>h⟩
 ·cases g with
  | zero =>
   refine ⟨_,hv,.inr ⟨b,cap,cur',Sub,by rw [hn],hs,hb',by rw [hn]; exact h1,h2,by rw [hcs]; exact h3,h4,h5,h6,h7⟩⟩
  | succ g=>rw [gS] at hl; exact hl.elim
 ·cases g with
  | zero=>cases hf
  | succ g=>exact hwf.fr (g+1) rfl
theorem W1 {w:World} {I:Nat→Prop} {V:Nat→Option Value} {B:Nat→Nat→Prop} {ob:List Ob} (hwf:Wf w I V B (As ob)):FunPost w I V B ob ob w I V B :=
 ⟨⟨rfl,TapeOk.mk' rfl rfl,rfl,yD _,fun _ _ _=>rfl⟩,fun _ h=>h,fun _ h=>.inl h,VLe.refl _,hwf,fun g b hl hb=>.inl ⟨g,hl,hb⟩⟩
def SN:List OT→ByteArray
 | .str s :: _=>s
 | _=>⟨#[]⟩
end Go.Proofs.YtoglfpfdhojaaaaGreat
set_option maxRecDepth 100000
namespace Go.Proofs.YtoglfpfdhojaaaaGreat
open Go.Shelf
def so_SortS_ren:Go.Shelf.Ren:=⟨fun | 190=>94 | 125=>116 | 258=>115 | 128=>139 | 129=>140 | 302=>130 | 303=>131 | 304=>132 | 305=>133 | 306=>134 | 307=>135 | 308=>136 | 309=>137 | 310=>138 | 333=>146 | 329=>147 | 330=>148 | 334=>149 | 335=>150 | 336=>122 | 344=>153 | n=>n,fun | 31=>73 | 9=>9 | 3=>3 | 46=>111 | 0=>0 | 51=>135 | 53=>51 | 4=>4 | 183=>128 | 182=>127 | 131=>90 | 5=>5 | 218=>138 | 222=>142 | 228=>145 | 229=>146 | n=>n,fun | n=>n⟩
theorem R1:Go.Proofs.Lays.n190 Tryz.prog so_SortS_ren:={
 mixed:=by kernel_rfl,
 f125:=Tryz.func116.trans (congrArg some (by kernel_rfl)),
 f128:=Tryz.func139.trans (congrArg some (by kernel_rfl)),
 f129:=Tryz.func140.trans (congrArg some (by kernel_rfl)),
 f190:=Tryz.func94.trans (congrArg some (by kernel_rfl)),
 f258:=Tryz.func115.trans (congrArg some (by kernel_rfl)),
 f302:=Tryz.func130.trans (congrArg some (by kernel_rfl)),
 f303:=Tryz.func131.trans (congrArg some (by kernel_rfl)),
 f304:=Tryz.func132.trans (congrArg some (by kernel_rfl)),
 f305:=Tryz.func133.trans (congrArg some (by kernel_rfl)),
 f306:=Tryz.func134.trans (congrArg some (by kernel_rfl)),
 f307:=Tryz.func135.trans (congrArg some (by kernel_rfl)),
 f308:=Tryz.func136.trans (congrArg some (by kernel_rfl)),
 f309:=Tryz.func137.trans (congrArg some (by kernel_rfl)),
 f310:=Tryz.func138.trans (congrArg some (by kernel_rfl)),
 f329:=Tryz.func147.trans (congrArg some (by kernel_rfl)),
 f330:=Tryz.func148.trans (congrArg some (by kernel_rfl)),
 f333:=Tryz.func146.trans (congrArg some (by kernel_rfl)),
 f334:=Tryz.func149.trans (congrArg some (by kernel_rfl)),
 f335:=Tryz.func150.trans (congrArg some (by kernel_rfl)),
 f336:=Tryz.func122.trans (congrArg some (by kernel_rfl)),
 f344:=Tryz.func153.trans (congrArg some (by kernel_rfl)),
 t0:=Tryz.underlying0,
 a0:=Tryz.isAgg0,
 z0:=Tryz.sizeOf0,
 v0:=Tryz.zeroValue0,
 t3:=Tryz.underlying3,
 a3:=Tryz.isAgg3,
 z3:=Tryz.sizeOf3,
 v3:=Tryz.zeroValue3,
 t4:=Tryz.underlying4,
 a4:=Tryz.isAgg4,
 z4:=Tryz.sizeOf4,
 v4:=Tryz.zeroValue4,
 t5:=Tryz.underlying5,
 a5:=Tryz.isAgg5,
 z5:=Tryz.sizeOf5,
 v5:=Tryz.zeroValue5,
 t9:=Tryz.underlying9,
 a9:=Tryz.isAgg9,
 z9:=Tryz.sizeOf9,
 v9:=Tryz.zeroValue9,
 t31:=Tryz.underlying73,
 a31:=Tryz.isAgg73,
 z31:=Tryz.sizeOf73,
 v31:=Tryz.zeroValue73,
 t46:=Tryz.underlying111,
 a46:=Tryz.isAgg111,
 z46:=Tryz.sizeOf111,
 v46:=Tryz.zeroValue111,
 t51:=Tryz.underlying135,
 a51:=Tryz.isAgg135,
 z51:=Tryz.sizeOf135,
 v51:=Tryz.zeroValue135,
 t53:=Tryz.underlying51,
 a53:=Tryz.isAgg51,
 z53:=Tryz.sizeOf51,
 v53:=Tryz.zeroValue51,
 t131:=Tryz.underlying90,
 a131:=Tryz.isAgg90,
 z131:=Tryz.sizeOf90,
 v131:=Tryz.zeroValue90,
 t182:=Tryz.underlying127,
 a182:=Tryz.isAgg127,
 z182:=Tryz.sizeOf127,
 v182:=Tryz.zeroValue127,
 t183:=Tryz.underlying128,
 a183:=Tryz.isAgg128,
 z183:=Tryz.sizeOf128,
 v183:=Tryz.zeroValue128,
 t218:=Tryz.underlying138,
 a218:=Tryz.isAgg138,
 z218:=Tryz.sizeOf138,
 v218:=Tryz.zeroValue138,
 t222:=Tryz.underlying142,
 a222:=Tryz.isAgg142,
 z222:=Tryz.sizeOf142,
 v222:=Tryz.zeroValue142,
 t228:=Tryz.underlying145,
 a228:=Tryz.isAgg145,
 z228:=Tryz.sizeOf145,
 v228:=Tryz.zeroValue145,
 t229:=Tryz.underlying146,
 a229:=Tryz.isAgg146,
 z229:=Tryz.sizeOf146,
 v229:=Tryz.zeroValue146 }
end Go.Proofs.YtoglfpfdhojaaaaGreat
set_option maxRecDepth 100000
set_option linter.unusedSimpArgs false
set_option linter.unusedVariables false
set_option linter.unusedSectionVars false
namespace Go.Proofs.YtoglfpfdhojaaaaGreat
open Go.RowKit Go.Shelf Go.Lib Go.Sort
theorem P3 (w:World) (b m:Nat) (ss:List (List UInt8)) (os:Array Obj) (x:Nat) (hx:x<w.heap.size) :
  (Sort.grow (putRow encStr (Sort.ahead w m) b 0 ss.toArray) os).heap[x]?=if b=x then (w.heap[x]?).map (onCells (putCells encStr 0 ss.toArray)) else w.heap[x]?:=by
 unfold Sort.grow putRow mapBlock Sort.ahead
 have hx':x<(w.heap.modify b (onCells (putCells encStr 0 ss.toArray))).size:=by simpa using hx
 simp only [Array.getElem?_append,Array.size_modify,hx,if_true,Array.getElem?_modify]
def srt (ss:List (List UInt8)):List (List UInt8):=ss.mergeSort fun x y=>decide (x≤y)
def TX (l:List UInt8):List OT:=[.str ⟨l.toArray⟩]
noncomputable def sortStr (xs:List SV) (ob:List Ob):Option (SV × List Ob) :=
 match xs,ob with
 | [.ref 0],[.row t sz es]=>bif dec (sz=1∧(∀ e∈es,∃ s,e=[.str s])∧es.length≤1099511627776) then some (.tup [],[.row t sz ((srt (es.map fun e=>(SN e).toList)).map TX)]) else none
 | _,_=>none
theorem ORep.QaV {w:World} {I S:Nat→Prop} {s:ByteArray} {v:Value} (h:ORep w I S (.str s) v):v=.string s∧s.size≤9223372036854775807:=by
 cases h with
 | str _ _ hz=>exact ⟨rfl,hz⟩
theorem K0 (s:ByteArray):(⟨s.toList.toArray⟩:ByteArray)=s:=LH (by rw [ByteArray.toList_eq])
theorem Qq {xs:List SV} {ob:List Ob} {r:SV} {ob':List Ob} (h:sortStr xs ob=some (r,ob')):Fun Tryz.prog 94 xs ob r ob':=by
 unfold sortStr at h
 split at h
 ·rename_i t sz es
  obtain ⟨h1,h2⟩:=Az h
  obtain ⟨rfl,hk1,hk3⟩:=Ar.1 h1
  simp only [zO,zV] at h2
  obtain ⟨rfl,rfl⟩:=h2
  intro w I V B vs hwf hvs
  obtain ⟨v,q,rfl,hv,hvs⟩:=F3 hvs
  obtain rfl:=M2 hvs
  simp only [RepV] at hv
  obtain ⟨val,hval,hrow⟩:=hwf.obj 0 trivial
  rw [hv.1] at hval
  obtain rfl:=zJ hval
  have hv0:=hv.1
  have hrow:RowR w I (B 0) t 1 es v:=hrow
  rcases yA es.length with h0 | h0
  ·have he:es=[]:=zC h0
   subst he
   obtain ⟨a,c,rfl,_⟩:=hrow.form
   have hcon:=Any.slices_Sort_string_none R1 a c w
   change Calls Tryz.prog 94 _ _ _ at hcon
   refine hcon.mono ?_
   rintro e w' ⟨rfl,rfl⟩
   have e0:(srt ([].map fun e:List OT=>(SN e).toList)).map TX=[]:=by simp [srt]
   rw [e0]
   exact ⟨_,I,V,B,rfl,by simp only [RepV,RepVs]; exact ⟨[],rfl,rfl⟩,W1 hwf⟩
  ·rcases hrow with ⟨he,_⟩ | ⟨b,cap,cur,Sub,rfl,hs,hb,g1,g2,g3,g4,g5,g6,g7⟩
   ·subst he; simp at h0
   have hblt:=(y3.1 hb).1
   obtain ⟨ss,hss⟩:∃ ss,ss=es.map fun e=>(SN e).toList:=⟨_,rfl⟩
   have hsl:ss.length=es.length:=by rw [hss]; simp
   rw [←hss]
   have cellv:∀ i (hi:i<es.length),cur[i]?=some (.string (SN es[i]))∧(SN es[i]).size≤9223372036854775807:=fun i hi=>by
    obtain ⟨s,he⟩:=hk1 es[i] (zE hi)
    have hlt:i<cur.size:=by rw [g3]; omega
    have l0:=g7 i 0 hi (by rw [g4 i hi]; omega)
    simp only [he,List.getElem_cons_zero,xC,xB,z6,yB hlt,y9] at l0
    rw [yB hlt,he]
    obtain ⟨z1,z2⟩:=ORep.QaV l0
    exact ⟨by rw [z1]; rfl,z2⟩
   have hH:Holds encStr w b 0 ss.toArray:=by
    intro j hj
    have hj1:j<ss.length:=by simpa using hj
    have hj':j<es.length:=by rw [←hsl]; exact hj1
    refine ⟨?_,?_⟩
    ·rw [y2,cell_of_row w b _ _ _ _ hb,(cellv j hj').1,getElem!_pos ss.toArray j hj]
     simp only [List.getElem_toArray,hss,z8,encStr,K0]
    ·unfold World.frozen?
     rw [hb]
     simp
   have hcon:=Any.slices_Sort_string R1 b 0 cap ss w hH hblt (by rw [hsl]; omega)
   change Calls Tryz.prog 94 _ _ _ at hcon
   rw [hsl] at hcon
   refine hcon.mono ?_
   rintro e w' ⟨rfl,m,os,rfl⟩
   refine ⟨_,I,V,B,rfl,by simp only [RepV,RepVs]; exact ⟨[],rfl,rfl⟩,?_⟩
   have hper:(srt ss).Perm ss:=List.mergeSort_perm _ _
   have hsl2:(srt ss).length=es.length:=by rw [hper.length_eq,hsl]
   have hgrow:∀ x,x<w.heap.size→x≠b→(Sort.grow (putRow encStr (Sort.ahead w m) b 0 (srt ss).toArray) os).heap[x]?=w.heap[x]?:=fun x hx hne=>by
    rw [P3 w b m _ os x hx,if_neg (fun e=>hne e.symm)]
   have hbl:(Sort.grow (putRow encStr (Sort.ahead w m) b 0 (srt ss).toArray) os).heap[b]?=some (.cells (putCells encStr 0 (srt ss).toArray cur) t (0,0)):=by
    rw [P3 w b m _ os b hblt,if_pos rfl,hb]; rfl
   have hsz:w.heap.size≤(Sort.grow (putRow encStr (Sort.ahead w m) b 0 (srt ss).toArray) os).heap.size:=by
    unfold Sort.grow
    simp [putRow,mapBlock,Sort.ahead]
   have hmem:∀ l∈ss,∃ e∈es,(SN e).toList=l:=by
    rw [hss]
    intro l h
    exact yO.1 h
   have hstr:∀ i (hi:i<(srt ss).length),(⟨(srt ss)[i].toArray⟩:ByteArray).size≤9223372036854775807:=fun i hi=>by
    obtain ⟨e,he,heq⟩:=hmem _ (hper.mem_iff.1 (zE hi))
    obtain ⟨k,hk,rfl⟩:=zZ he
    have:=(cellv k hk).2
    rw [←heq,K0]
    exact this
   refine Y8 (fun _ _ _=>False) hwf hv0 (by rw [zT,hsl2]) hs hb g1 g2 g3 (fun i hi=>by rw [z8]; rfl) (fun i j x h=>h.elim) (fun i j i' j' x h h'=>h.elim) rfl ⟨rfl,fun h=>False.elim h⟩ rfl hsz hgrow hbl (by simp [putCells]) (fun i j hi hj=>?_)
   have hi':i<(srt ss).length:=by simpa using hi
   have hj':j<1:=by simpa [TX] using hj
   obtain rfl:j=0:=by omega
   have hlt:i<cur.size:=by rw [g3]; omega
   have hc:(putCells encStr 0 (srt ss).toArray cur).getD (i*1+0) undef=.string ⟨(srt ss)[i].toArray⟩:=by
    simp only [xC,xB,putCells,z6,Array.getElem?_mapIdx,yB hlt,Option.map_some,y9,zU,true_and,y2,List.size_toArray,hi',if_true,Nat.sub_zero]
    rw [getElem!_pos (srt ss).toArray i (by simpa using hi')]
    rfl
   rw [hc]
   simp only [z8,TX,List.getElem_cons_zero]
   exact .str _ _ (hstr i hi')
 ·cases h
end Go.Proofs.YtoglfpfdhojaaaaGreat
set_option maxRecDepth 100000
set_option linter.unusedSimpArgs false
set_option linter.unusedVariables false
set_option linter.unusedSectionVars false
namespace Go.Proofs.YtoglfpfdhojaaaaGreat
open Go.RowKit
def FR:List Tl:=[⟨⟨#[97]⟩,0,false,[]⟩,⟨⟨#[98]⟩,0,false,[]⟩,⟨⟨#[102]⟩,1,false,[]⟩,⟨⟨#[103]⟩,2,false,[]⟩,⟨⟨#[112]⟩,1,true,[]⟩,⟨⟨#[113]⟩,2,true,[]⟩,⟨⟨#[114]⟩,0,true,[]⟩]
def Tl.nd (x:Tl):List D:=[.str x.name,.int x.arity,.bool x.pred,.nl]
theorem Tl.QaI (x:Tl):x.nd=[.str x.name,.int x.arity,.bool x.pred,.nl]:=rfl
def NR:List SV→Option SV
 | []=>some (.arr (FR.map Tl.nd))
 | _=>none
def EM:Array Value:=#[.string ⟨#[97]⟩,.int .i64 0,.bool false,.slice none 0 0,.string ⟨#[98]⟩,.int .i64 0,.bool false,.slice none 0 0,.string ⟨#[102]⟩,.int .i64 1,.bool false,.slice none 0 0,.string ⟨#[103]⟩,.int .i64 2,.bool false,.slice none 0 0,.string ⟨#[112]⟩,.int .i64 1,.bool true,.slice none 0 0,.string ⟨#[113]⟩,.int .i64 2,.bool true,.slice none 0 0,.string ⟨#[114]⟩,.int .i64 0,.bool true,.slice none 0 0]
theorem Qr (w:World):Calls Tryz.prog 72 #[] w (fun e w'=>e=.returned (.slice (some ⟨w.heap.size,0,none⟩) 7 7)∧w'=w.alloc (.cells EM 44)):=by
 go_enter Tryz.func72,Tryz.ntmps72
 go_wp2
 go_ret
 exact ⟨rfl,rfl⟩
theorem SO {w:World} {k:Nat} (hk:k<28):(w.alloc (.cells EM 44)).cell? ⟨w.heap.size,k,none⟩=some (EM.getD k undef):=by
 unfold World.cell?
 have h:(w.alloc (.cells EM 44)).heap[w.heap.size]?=some (.cells EM 44):=heap_alloc_new w _
 have hs:EM.size=28:=rfl
 generalize w.alloc (.cells EM 44)=W at h ⊢
 simp only [h]
 have hk2:k<EM.size:=by omega
 have e:EM[k]?=some (EM.getD k undef):=by rw [z6,yB hk2]; rfl
 simpa using e
theorem UQ (w:World) (I:Nat→Prop) (hI:I w.heap.size):DRep false (w.alloc (.cells EM 44)) I (.arr (FR.map Tl.nd)) (.slice (some ⟨w.heap.size,0,none⟩) 7 7):=by
 have hlt:w.heap.size<(w.alloc (.cells EM 44)).heap.size:=by simp
 refine DRep.arr I 4 (FR.map Tl.nd) (some ⟨w.heap.size,0,none⟩) 7 (fun i j=>EM.getD (i*4+j) undef) (fun _ _ _=>False) (by decide) (by decide) (.inr ⟨w.heap.size,0,rfl,hI,hlt,fun i j hi hj=>?_,fun h=>by cases h⟩) (fun i hi=>?_) (fun _ _ _ h=>h.elim) (fun h=>by cases h) (fun i j hi hj=>?_)
 ·have hi:i<7:=hi
  rw [SO (by omega),y2]
 ·rw [z8]; rfl
 ·have hi:i<7:=hi
  have hj4:j<4:=by
   rw [z8] at hj; exact hj
  rcases (show i=0∨i=1∨i=2∨i=3∨i=4∨i=5∨i=6 by omega) with rfl | rfl | rfl | rfl | rfl | rfl | rfl
  all_goals
   rcases (show j=0∨j=1∨j=2∨j=3 by omega) with rfl | rfl | rfl | rfl
   ·exact .str _ _ (by decide)
   ·exact .int _ _
   ·exact .bool _ _
   ·exact .nl _
theorem R2 {xs:List SV} {r:SV} (h:NR xs=some r):Fun Tryz.prog 72 xs [] r []:=by
 unfold NR at h
 split at h
 ·obtain rfl:=zJ h
  intro w I V B vs hwf hvs
  obtain rfl:=M2 hvs
  refine (Qr w).mono ?_
  rintro e w' ⟨rfl,rfl⟩
  have hlt:w.heap.size<(w.alloc (.cells EM 44)).heap.size:=by simp
  have hbl:∀ x,x<w.heap.size→(w.alloc (.cells EM 44)).heap[x]?=w.heap[x]?:=fun x hx=>Below.heap_alloc _ _ _ hx
  have hno:∀ g,¬ (As ([]:List Ob) g).live:=fun g h=>by
   have e:As ([]:List Ob) g=.free:=rfl
   rw [e] at h
   exact h
  refine ⟨_,fun x=>I x∨x=w.heap.size,V,B,rfl,?_,?_⟩
  ·simp only [RepV]
   exact UQ w _ (.inr rfl)
  ·refine ⟨⟨rfl,⟨rfl,fun h=>False.elim h⟩,rfl,Nat.le_of_lt hlt,fun x hx _=>hbl x hx⟩,fun x hx=>.inl hx,fun x hx=>hx.elim .inl fun e=>.inr (.inl (by omega)),VLe.refl _,⟨fun x hx=>?_,fun g hl=>(hno g hl).elim,fun g x hl=>(hno g hl).elim,fun g x hl=>(hno g hl).elim,fun g g' x hl=>(hno g hl).elim,fun g hg=>hwf.fr g hg,hwf.gl.keep ⟨Nat.le_of_lt hlt,fun x _ hx=>hbl x hx⟩ fun _ h=>.inl h⟩,fun g x hl=>(hno g hl).elim⟩
   rcases hx with hx | rfl
   ·exact Nat.lt_trans (hwf.ilt x hx) hlt
   ·exact hlt
 ·cases h
def TY:List (Nat × FM)→Nat→FM
 | [],_=>⟨[],.asis,none,false⟩
 | (f,m) :: r,g=>bif f == g then m else TY r g
theorem UR {l:List (Nat × FM)} {f:Nat} {g:List SV→List Ob→Option (SV × List Ob)} (h:(TY l f).ext=some g):∃ m,(f,m)∈l∧m.ext=some g:=by
 induction l with
 | nil=>cases h
 | cons x r ih =>
  obtain ⟨f',m⟩:=x
  simp only [TY] at h
  cases e:f' == f with
  | true =>
   rw [e] at h
   obtain rfl:f'=f:=by simpa using e
   exact ⟨m,by simp,h⟩
  | false =>
   rw [e] at h
   obtain ⟨m',h1,h2⟩:=ih h
   exact ⟨m',by simp [h1],h2⟩
noncomputable def QaZ:List SV→Option SV
 | [.int .i64 k]=>bif dec (1≤k)&&dec (k≤1099511627776) then some (.str (QaH k)) else none
 | _=>none
def W2:List SV→Option SV
 | [.str s]=>some (.bool (Cc s))
 | _=>none
theorem US {xs:List SV} {r:SV} (h:W2 xs=some r):Fun Tryz.prog 42 xs [] r []:=by
 unfold W2 at h
 split at h
 ·rename_i s
  obtain rfl:=zJ h
  refine Fun.of_same (rv:=.bool (Cc s)) (fun w I V=>by simp only [RepV]) fun w I V vs h=>?_
  obtain ⟨v,r,rfl,h3,h⟩:=F3 h
  obtain rfl:=M2 h
  obtain ⟨rfl,h4⟩:=Nb h3
  exact NP s w h4
 ·cases h
def W3:List SV→Option SV
 | [.str s]=>some (.bool (Cc s))
 | _=>none
theorem UT {xs:List SV} {r:SV} (h:W3 xs=some r):Fun Tryz.prog 62 xs [] r []:=by
 unfold W3 at h
 split at h
 ·rename_i s
  obtain rfl:=zJ h
  refine Fun.of_same (rv:=.bool (Cc s)) (fun w I V=>by simp only [RepV]) fun w I V vs h=>?_
  obtain ⟨v,r,rfl,h3,h⟩:=F3 h
  obtain rfl:=M2 h
  obtain ⟨rfl,h4⟩:=Nb h3
  exact UP s w h4
 ·cases h
def W4:List SV→Option SV
 | [.str s]=>some (.bool (Ez s))
 | _=>none
theorem UU {xs:List SV} {r:SV} (h:W4 xs=some r):Fun Tryz.prog 80 xs [] r []:=by
 unfold W4 at h
 split at h
 ·rename_i s
  obtain rfl:=zJ h
  refine Fun.Wz (rv:=.bool (Ez s)) (fun w I V=>by simp only [RepV]) fun w I V vs h=>?_
  obtain ⟨v,r,rfl,h3,h⟩:=F3 h
  obtain rfl:=M2 h
  obtain ⟨rfl,h4⟩:=Nb h3
  exact Qo s w h4
 ·cases h
def W5:List SV→Option SV
 | [.str s]=>some (.bool (Ez s))
 | _=>none
theorem UV {xs:List SV} {r:SV} (h:W5 xs=some r):Fun Tryz.prog 95 xs [] r []:=by
 unfold W5 at h
 split at h
 ·rename_i s
  obtain rfl:=zJ h
  refine Fun.of_same (rv:=.bool (Ez s)) (fun w I V=>by simp only [RepV]) fun w I V vs h=>?_
  obtain ⟨v,r,rfl,h3,h⟩:=F3 h
  obtain rfl:=M2 h
  obtain ⟨rfl,h4⟩:=Nb h3
  exact Qp s w h4
 ·cases h
noncomputable def modes:FuncId→FM:=TY [(42,⟨[],.asis,some (Lb W2),false⟩),(62,⟨[],.asis,some (Lb W3),false⟩),(80,⟨[],.asis,some (Lb W4),false⟩),(95,⟨[],.asis,some (Lb W5),false⟩),(72,⟨[],.asis,some (Lb NR),false⟩),(94,⟨[true],.asis,some sortStr,false⟩),(114,⟨[],.asis,some LQ,false⟩),(69,⟨[],.asis,some LR,false⟩),(100,⟨[],.frz,none,false⟩),(121,⟨[],.frz,none,false⟩),(119,⟨[],.frz,none,false⟩),(129,⟨[true],.asis,none,false⟩),(70,⟨[],.frz,none,false⟩),(34,⟨[],.frz,none,false⟩),(13,⟨[],.frz,none,false⟩),(93,⟨[true],.asis,none,false⟩),(19,⟨[],.frz,none,false⟩),(55,⟨[],.frz,none,false⟩),(99,⟨[],.frz,none,false⟩),(31,⟨[],.tr [],none,false⟩),(10,⟨[],.tr [none,some (44,4),none],none,false⟩),(11,⟨[],.frz,none,false⟩),(103,⟨[],.half [none,some (30,2)],none,false⟩),(74,⟨[],.half [none,some (30,2)],none,false⟩),(102,⟨[],.half [none,some (30,2)],none,false⟩),(75,⟨[],.half [none,some (30,2)],none,false⟩),(76,⟨[],.half [none,some (30,2)],none,false⟩),(40,⟨[],.half [none,some (30,2)],none,false⟩),(73,⟨[],.half [none,none,some (30,2),none,some (33,5)],none,false⟩),(39,⟨[],.half [none,none,some (30,2),none,some (33,5)],none,false⟩),(18,⟨[],.half [none,none,some (30,2),none,some (33,5)],none,false⟩),(9,⟨[],.frzg 25 6,none,false⟩),(35,⟨[],.half [none,some (44,4)],none,false⟩),(16,⟨[],.halfg 75 9 [none,some (44,4)],none,false⟩),(14,⟨[],.frz,none,false⟩),(15,⟨[],.frz,none,false⟩)]
theorem noExt {l:List (Nat × FM)} (h:(l.all fun p=>p.2.ext.isNone)=true) {f:Nat} {m:FM} {g:List SV→List Ob→Option (SV × List Ob)} (h1:(f,m)∈l) (h2:m.ext=some g):False:=by
 have h3:=zL.1 h _ h1
 rw [h2] at h3
 cases h3
theorem SP:Na Tryz.prog modes:=by
 intro f g xs ob r ob' hg hx
 obtain ⟨m,h1,h2⟩:=UR hg
 rcases zS.1 h1 with h1 | h1
 ·obtain ⟨rfl,rfl⟩:=yM h1
  obtain rfl:=zJ h2
  exact HP US hx
 rcases zS.1 h1 with h1 | h1
 ·obtain ⟨rfl,rfl⟩:=yM h1
  obtain rfl:=zJ h2
  exact HP UT hx
 rcases zS.1 h1 with h1 | h1
 ·obtain ⟨rfl,rfl⟩:=yM h1
  obtain rfl:=zJ h2
  exact HP UU hx
 rcases zS.1 h1 with h1 | h1
 ·obtain ⟨rfl,rfl⟩:=yM h1
  obtain rfl:=zJ h2
  exact HP UV hx
 rcases zS.1 h1 with h1 | h1
 ·obtain ⟨rfl,rfl⟩:=yM h1
  obtain rfl:=zJ h2
  exact HP R2 hx
 rcases zS.1 h1 with h1 | h1
 ·obtain ⟨rfl,rfl⟩:=yM h1
  obtain rfl:=zJ h2
  exact Qq hx
 rcases zS.1 h1 with h1 | h1
 ·obtain ⟨rfl,rfl⟩:=yM h1
  obtain rfl:=zJ h2
  exact Rz hx
 rcases zS.1 h1 with h1 | h1
 ·obtain ⟨rfl,rfl⟩:=yM h1
  obtain rfl:=zJ h2
  exact R0 hx
 exact (noExt rfl h1 h2).elim
noncomputable def E:FEnv:=ev Tryz.prog modes
noncomputable def calls:CallF:=D5 modes E
theorem ZH {f:FuncId} {xs:List SV} {ob:List Ob} {r:SV} {ob':List Ob} (h:E f xs ob=some (r,ob')):Fun Tryz.prog f xs ob r ob':=Y4 ZD SP f xs ob r ob' h
noncomputable def run (n0:Nat):SC→St→Option (X × St):=fr Tryz.prog calls (Ky n0)
def go (n0:Nat) (sc:SC) (st:St) (K:X→St→Prop):Prop:=∃ x st',run n0 sc st=some (x,st')∧K x st'
def Y9 (n0:Nat) (b:SC) (K:X→St→Prop):X→St→Prop
 | .normal,st=>go n0 b st K
 | .exit i,st=>K (.exit i) st
 | .ret,st=>K .ret st
def blk (id:Nat) (K:X→St→Prop):X→St→Prop
 | .normal,st=>K .normal st
 | .exit i,st=>if i=id then K .normal st else K (.exit i) st
 | .ret,st=>K .ret st
def W6 (r:Option St) (k:X→St→Prop):Prop :=
 match r with
 | some st=>k .normal st
 | none=>False
def W7 (anc:List (List Nat)) (r:Option (List Ent × St)) (k:X→St→Prop):Prop :=
 match r with
 | some (es,st)=>obB anc [] (Ko es) 0=true∧k .normal st
 | none=>False
def NS (v:SV) (a b:Unit→Prop):Prop :=
 match v with
 | .bool true=>a ()
 | .bool false=>b ()
 | _=>False
noncomputable def SQ (ops:List SOper) (st:St):Option St:=N7 Tryz.prog calls ops st
noncomputable def SR (ops:List SOper) (acc:List Ent) (st:St):Option (List Ent × St):=HJ Tryz.prog calls ops acc st
section
variable {n0:Nat} {st:St} {K:X→St→Prop}
theorem go_skip:go n0 .skip st K=K .normal st:=by
 refine propext ⟨fun ⟨x,st',h,k⟩=>?_,fun k=>⟨_,_,rfl,k⟩⟩
 obtain ⟨rfl,rfl⟩:X.normal=x∧st=st':=by simpa [run,fr] using h
 exact k
theorem YA {i:Nat}:go n0 (.exit i) st K=K (.exit i) st:=by
 refine propext ⟨fun ⟨x,st',h,k⟩=>?_,fun k=>⟨_,_,rfl,k⟩⟩
 obtain ⟨rfl,rfl⟩:X.exit i=x∧st=st':=by simpa [run,fr] using h
 exact k
theorem go_ret:go n0 .ret st K=K .ret st:=by
 refine propext ⟨fun ⟨x,st',h,k⟩=>?_,fun k=>⟨_,_,rfl,k⟩⟩
 obtain ⟨rfl,rfl⟩:X.ret=x∧st=st':=by simpa [run,fr] using h
 exact k
theorem ZI {ops:List SOper}:go n0 (.reg ops) st K=W6 (SQ ops st) K:=by
 unfold W6 SQ
 refine propext ⟨fun ⟨x,st',h,k⟩=>?_,fun k=>?_⟩
 ·simp only [run,fr] at h
  split at h
  ·rename_i s hs
   simp only [zO,zV] at h
   obtain ⟨rfl,rfl⟩:=h
   first | exact k | (simp only [hs]; exact k)
  ·cases h
 ·split at k
  ·rename_i s hs
   exact ⟨.normal,s,by simp only [run,fr,hs],k⟩
  ·exact k.elim
theorem YB {anc:List (List Nat)} {ops:List SOper}:go n0 (.dreg anc ops) st K=W7 anc (SR ops [] st) K:=by
 unfold W7 SR
 refine propext ⟨fun ⟨x,st',h,k⟩=>?_,fun k=>?_⟩
 ·simp only [run,fr] at h
  split at h
  ·rename_i es s hs
   obtain ⟨h1,h2⟩:=Az h
   simp only [zO,zV] at h2
   obtain ⟨rfl,rfl⟩:=h2
   first | exact ⟨h1,k⟩ | (simp only [hs]; exact ⟨h1,k⟩)
  ·cases h
 ·split at k
  ·rename_i es s hs
   exact ⟨.normal,s,by simp only [run,fr,hs,k.1,cond_true],k.2⟩
  ·exact k.elim
theorem ZJ {a b:SC}:go n0 (.seq a b) st K=go n0 a st (Y9 n0 b K):=by
 refine propext ⟨fun ⟨x,st',h,k⟩=>?_,fun ⟨x,st',h,k⟩=>?_⟩
 ·simp only [run,fr,Ds] at h
  split at h
  ·rename_i s hs
   exact ⟨.normal,s,hs,x,st',h,k⟩
  ·rename_i i s hs
   simp only [zO,zV] at h
   obtain ⟨rfl,rfl⟩:=h
   exact ⟨_,_,hs,k⟩
  ·rename_i s hs
   simp only [zO,zV] at h
   obtain ⟨rfl,rfl⟩:=h
   exact ⟨_,_,hs,k⟩
  ·cases h
 ·simp only [run] at h
  cases x with
  | normal =>
   obtain ⟨x2,st2,h2,k2⟩:=k
   exact ⟨x2,st2,by simp only [run,fr,Ds,h]; exact h2,k2⟩
  | exit i=>exact ⟨_,st',by simp only [run,fr,Ds,h],k⟩
  | ret=>exact ⟨_,st',by simp only [run,fr,Ds,h],k⟩
theorem W8 {n:Nat} {b:SC}:go n0 (.ghost n b) st K=go n0 b (Rr n st) K:=by simp only [go,run,fr]
theorem W9 {id:Nat} {b:SC}:go n0 (.block id b) st K=go n0 b st (blk id K):=by
 refine propext ⟨fun ⟨x,st',h,k⟩=>?_,fun ⟨x,st',h,k⟩=>?_⟩
 ·simp only [run,fr,Ih] at h
  split at h
  ·rename_i s hs
   simp only [zO,zV] at h
   obtain ⟨rfl,rfl⟩:=h
   exact ⟨.normal,s,hs,k⟩
  ·rename_i i s hs
   refine ⟨.exit i,s,hs,?_⟩
   simp only [blk]
   by_cases hi:i=id
   ·simp only [if_pos hi,zO,zV] at h ⊢
    obtain ⟨rfl,rfl⟩:=h
    exact k
   ·simp only [if_neg hi,zO,zV] at h ⊢
    obtain ⟨rfl,rfl⟩:=h
    exact k
  ·rename_i s hs
   simp only [zO,zV] at h
   obtain ⟨rfl,rfl⟩:=h
   exact ⟨_,s,hs,k⟩
  ·cases h
 ·simp only [run] at h
  cases x with
  | normal=>exact ⟨_,st',by simp only [run,fr,Ih,h],k⟩
  | exit i =>
   simp only [blk] at k
   by_cases hi:i=id
   ·simp only [if_pos hi] at k
    exact ⟨.normal,st',by simp only [run,fr,Ih,h,if_pos hi],k⟩
   ·simp only [if_neg hi] at k
    exact ⟨.exit i,st',by simp only [run,fr,Ih,h,if_neg hi],k⟩
  | ret=>exact ⟨_,st',by simp only [run,fr,Ih,h],k⟩
theorem Ab {q:SX} {a b:SC}:go n0 (.cond q a b) st K=NS (A8 (gets st.sl) q) (fun _=>go n0 a st K) (fun _=>go n0 b st K):=by
 unfold NS
 refine propext ⟨fun ⟨x,st',h,k⟩=>?_,fun k=>?_⟩
 ·simp only [run,fr] at h
  split at h
  ·rename_i t ht
   simp only [ht]
   cases t with
   | true=>exact ⟨x,st',h,k⟩
   | false=>exact ⟨x,st',h,k⟩
  ·cases h
 ·split at k
  ·rename_i ht
   obtain ⟨x,st',h,k⟩:=k
   exact ⟨x,st',by simp only [run,fr,ht,cond_true]; exact h,k⟩
  ·rename_i ht
   obtain ⟨x,st',h,k⟩:=k
   exact ⟨x,st',by simp only [run,fr,ht,cond_false]; exact h,k⟩
  ·exact k.elim
theorem YC {a b:Unit→Prop}:NS (.bool true) a b=a ():=rfl
theorem YD {a b:Unit→Prop}:NS (.bool false) a b=b ():=rfl
theorem YE {t:Bool} {a b:Unit→Prop}:NS (.bool (!t)) a b=NS (.bool t) b a:=by cases t <;> rfl
theorem At {q:SX} {a b:SC} (h:A8 (gets st.sl) q=.bool true) (k:go n0 a st K):go n0 (.cond q a b) st K:=by rw [Ab,h]; exact k
theorem Au {q:SX} {a b:SC} (h:A8 (gets st.sl) q=.bool false) (k:go n0 b st K):go n0 (.cond q a b) st K:=by rw [Ab,h]; exact k
theorem R4 {t:Bool} {a b:Unit→Prop} (h1:t=true→a ()) (h2:t=false→b ()):NS (.bool t) a b:=by
 cases t with
 | true=>exact h1 rfl
 | false=>exact h2 rfl
theorem ZK {b:SC}:Y9 n0 b K .normal st=go n0 b st K:=rfl
theorem ZL {b:SC} {i:Nat}:Y9 n0 b K (.exit i) st=K (.exit i) st:=rfl
theorem ZM {b:SC}:Y9 n0 b K .ret st=K .ret st:=rfl
theorem QaJ {id:Nat}:blk id K .normal st=K .normal st:=rfl
theorem QaK {id i:Nat}:blk id K (.exit i) st=if i=id then K .normal st else K (.exit i) st:=rfl
theorem QaL {id:Nat}:blk id K .ret st=K .ret st:=rfl
theorem YF:W6 (some st) K=K .normal st:=rfl
def quiet:List Ent→Bool
 | []=>true
 | ⟨_,_,[],_⟩ :: r=>quiet r
 | ⟨_,_,_ :: _,_⟩ :: _=>false
theorem NT {anc:List (List Nat)} {rd:List Nat} {j:Nat}:∀ {l:List Ent} {i:Nat},quiet l=true→Su anc rd [] j (Ko l) i=true
 | [],i,_=>rfl
 | ⟨_,_,[],rdi⟩ :: r,i,h=>by
  have:=NT (anc:=anc) (rd:=rd) (j:=j) (l:=r) (i:=i+1) h
  simp only [Ko,zB,zN] at this ⊢
  simp only [Su,this,zW]
  have e1:meets [] (rd++[])=false:=rfl
  have e2:meets rdi []=false:=by cases rdi <;> simp [meets]
  rw [e1,e2]; rfl
theorem UW {l l':List Ent} (h:quiet l=true) (h':quiet l'=true):quiet (l++l')=true:=by
 induction l with
 | nil=>exact h'
 | cons x r ih =>
  obtain ⟨a,b,c,d⟩:=x
  cases c with
  | nil=>exact ih h
  | cons _ _=>cases h
theorem P4 {anc:List (List Nat)}:∀ {l pre:List Ent} {j:Nat},quiet pre=true→quiet l=true→obB anc (Ko pre) (Ko l) j=true
 | [],pre,j,_,_=>rfl
 | ⟨a,b,[],rd⟩ :: r,pre,j,hp,h=>by
  have e:=P4 (anc:=anc) (l:=r) (pre:=pre++[⟨a,b,[],rd⟩]) (j:=j+1) (UW hp rfl) h
  have e2:=NT (anc:=anc) (rd:=rd) (j:=j) (i:=0) hp
  simp only [Ko,zX,zB,zN] at e e2 ⊢
  simp only [obB,e2,e,zG]
theorem YG {anc:List (List Nat)} {es:List Ent}:W7 anc (some (es,st)) K=match quiet es with
  | true=>K .normal st
  | false=>obB anc [] (Ko es) 0=true∧K .normal st:=by
 show (obB anc [] (Ko es) 0=true∧K .normal st)=_
 cases h:quiet es with
 | true=>exact propext ⟨fun h=>h.2,fun h'=>⟨P4 (pre:=[]) rfl h,h'⟩⟩
 | false=>rfl
noncomputable def ZN (r:List SOper) (e:Option (Ent × St)):Option St :=
 match e with
 | some (_,st)=>SQ r st
 | none=>none
noncomputable def ZO (r:List SOper) (acc:List Ent) (e:Option (Ent × St)):Option (List Ent × St) :=
 match e with
 | some (x,st)=>SR r (acc++[x]) st
 | none=>none
noncomputable def opF (so:SOp) (sl:List SV) (ob:List Ob):Option R3:=fOp Tryz.prog calls so sl ob
theorem WA:SQ [] st=some st:=rfl
theorem UX {d:Option Tmp} {so:SOp} {r:List SOper} {sl:List SV} {ob:List Ob}:SQ (⟨d,none,so⟩ :: r) ⟨sl,ob⟩=ZN r (JI d ⟨sl,ob⟩ (opF so sl ob)):=rfl
noncomputable def gdF (d:Option Tmp) (so:SOp) (want:Bool) (sl:List SV) (ob:List Ob) (v:SV):Option (Ent × St) :=
 match v with
 | .bool b=>bif S7 b want then JI d ⟨sl,ob⟩ (opF so sl ob) else some (⟨false,.tup [],[],[]⟩,⟨G5 sl d (.tup []),ob⟩)
 | .tup []=>some (⟨false,.tup [],[],[]⟩,⟨G5 sl d (.tup []),ob⟩)
 | _=>none
theorem YH {d:Option Tmp} {k:Nat} {want:Bool} {so:SOp} {r:List SOper} {sl:List SV} {ob:List Ob}:SQ (⟨d,some (k,want),so⟩ :: r) ⟨sl,ob⟩=ZN r (gdF d so want sl ob (gets sl k)):=rfl
theorem WB {acc:List Ent}:SR [] acc st=some (acc,st):=rfl
theorem UY {d:Option Tmp} {so:SOp} {r:List SOper} {acc:List Ent} {sl:List SV} {ob:List Ob}:SR (⟨d,none,so⟩ :: r) acc ⟨sl,ob⟩=ZO r acc (JI d ⟨sl,ob⟩ (opF so sl ob)):=rfl
theorem YI {d:Option Tmp} {k:Nat} {want:Bool} {so:SOp} {r:List SOper} {acc:List Ent} {sl:List SV} {ob:List Ob}:SR (⟨d,some (k,want),so⟩ :: r) acc ⟨sl,ob⟩=ZO r acc (gdF d so want sl ob (gets sl k)):=rfl
theorem ZP {r:List SOper} {e:Ent}:ZN r (some (e,st))=SQ r st:=rfl
theorem ZQ {r:List SOper} {acc:List Ent} {e:Ent}:ZO r acc (some (e,st))=SR r (acc++[e]) st:=rfl
theorem QaM {d:Option Tmp} {so:SOp} {sl:List SV} {ob:List Ob}:gdF d so true sl ob (.bool true)=JI d ⟨sl,ob⟩ (opF so sl ob):=rfl
theorem ZR {d:Option Tmp} {so:SOp} {sl:List SV} {ob:List Ob}:gdF d so false sl ob (.bool false)=JI d ⟨sl,ob⟩ (opF so sl ob):=rfl
theorem ZS {d:Option Tmp} {so:SOp} {sl:List SV} {ob:List Ob}:gdF d so true sl ob (.bool false)=some (⟨false,.tup [],[],[]⟩,⟨G5 sl d (.tup []),ob⟩):=rfl
theorem ZT {d:Option Tmp} {so:SOp} {sl:List SV} {ob:List Ob}:gdF d so false sl ob (.bool true)=some (⟨false,.tup [],[],[]⟩,⟨G5 sl d (.tup []),ob⟩):=rfl
theorem QaN {d:Option Tmp} {so:SOp} {want:Bool} {sl:List SV} {ob:List Ob}:gdF d so want sl ob (.tup [])=some (⟨false,.tup [],[],[]⟩,⟨G5 sl d (.tup []),ob⟩):=rfl
theorem ZU {d:Option Tmp} {x:SV} {rd:List Nat}:JI d st (some (x,[],rd))=some (⟨true,x,[],rd⟩,⟨G5 st.sl d x,st.ob⟩):=rfl
theorem ZV {d:Option Tmp} {x:SV} {q:Nat × Ob} {u:List (Nat × Ob)} {rd:List Nat}:JI d st (some (x,q :: u,rd))=bif UF (Ed st.ob (q :: u)).length (q :: u) then some (⟨true,x,q :: u,rd⟩,⟨G5 st.sl d x,Ed st.ob (q :: u)⟩) else none:=rfl
def R5 (ob:List Ob) (xs:List SV) (sel:List Nat) (r:Option (SV × List Ob)) (n:Nat):Option R3 :=
 match r with
 | some (r,fob')=>bif decide (n≤fob'.length) then some (Hd sel (BL sel xs) ob.length r fob') else none
 | none=>none
def ZW (hd:List Bool) (f:FuncId) (xs:List SV) (ob:List Ob) (sel:List Nat) (e:List SV→List Ob→Option (SV × List Ob)) (b:Option (List Ob)):Option R3 :=
 match b with
 | some fob=>bif Hw sel&&Kv ob.length sel&&If fob.length fob then R5 ob xs sel (e (Ha hd (As ob) sel xs) fob) fob.length else none
 | none=>none
def WC (hd:List Bool) (f:FuncId) (xs:List SV) (ob:List Ob) (sel:List Nat) (e:List SV→List Ob→Option (SV × List Ob)):Option R3:=ZW hd f xs ob sel e (Gn sel ob sel)
theorem WD {f:FuncId} {xs:List SV} {ob:List Ob}:calls f xs ob=G8 (modes f).res (WC (modes f).hand f xs ob (reach ob 64 (HN (modes f).hand xs) []) (E f)):=rfl
theorem ZX {r:Option R3}:G8 .asis r=r:=rfl
theorem ZY {r:Option R3}:G8 .frz r=r:=rfl
theorem ZZ {l:List (Option (Nat × Nat))} {r:Option R3}:G8 (.own l) r=r:=rfl
theorem Qaa {l:List (Option (Nat × Nat))} {r:Option R3}:G8 (.half l) r=r:=rfl
theorem Qab {l:List (Option (Nat × Nat))} {r:Option R3}:G8 (.tr l) r=r:=rfl
theorem Qac {d n:Nat} {r:Option R3}:G8 (.frzg d n) r=r:=rfl
theorem Qad {d n:Nat} {l:List (Option (Nat × Nat))} {r:Option R3}:G8 (.halfg d n l) r=r:=rfl
theorem Qae {l:List Nat} {r:Option R3}:G8 (.frl l) r=r:=rfl
theorem Qaf {r:R3}:G8 .late (some r)=Rm r:=rfl
theorem K1:∀ u:List (Nat × Ob),Ey [] u=u
 | []=>rfl
 | (g,o) :: u=>by rw [Ey,K1 u]; rfl
theorem Qag {m:RM} {b:Bool} {u:List (Nat × Ob)} {rd:List Nat}:G8 m (some (.bool b,u,rd))=some (.bool b,u,rd):=by
 cases m <;> first | rfl | (show some (SV.bool b,Ey [] u,rd)=_; rw [K1])
theorem Qah {m:RM} {k:IntKind} {n:Int} {u:List (Nat × Ob)} {rd:List Nat}:G8 m (some (.int k n,u,rd))=some (.int k n,u,rd):=by
 cases m <;> first | rfl | (show some (SV.int k n,Ey [] u,rd)=_; rw [K1])
theorem UZ {hd:List Bool} {f:FuncId} {xs:List SV} {ob:List Ob} {e:List SV→List Ob→Option (SV × List Ob)}:WC hd f xs ob [] e=R5 ob xs [] (e (Ha hd (As ob) [] xs) []) 0:=rfl
theorem SS {hd:List Bool} {f:FuncId} {xs:List SV} {ob:List Ob} {g:Nat} {r:List Nat} {e:List SV→List Ob→Option (SV × List Ob)}:WC hd f xs ob (g :: r) e=ZW hd f xs ob (g :: r) e (Gn (g :: r) ob (g :: r)):=rfl
theorem YJ {ob:List Ob} {xs:List SV} {r:SV} {fob':List Ob}:R5 ob xs [] (some (r,fob')) 0=some (Hd [] (BL [] xs) ob.length r fob'):=rfl
theorem YK {ob:List Ob} {xs:List SV} {sel:List Nat} {r:SV} {fob':List Ob} {n:Nat}:R5 ob xs sel (some (r,fob')) n=bif decide (n≤fob'.length) then some (Hd sel (BL sel xs) ob.length r fob') else none:=rfl
theorem Qai {hd:List Bool} {f:FuncId} {xs:List SV} {ob:List Ob} {sel:List Nat} {fob:List Ob} {e:List SV→List Ob→Option (SV × List Ob)}:ZW hd f xs ob sel e (some fob)=bif Hw sel&&Kv ob.length sel&&If fob.length fob then R5 ob xs sel (e (Ha hd (As ob) sel xs) fob) fob.length else none:=rfl
theorem Va {p:Nat} {r:SV}:Hd [] [] p r []=(r.ren (sgp [] p),[],[]):=rfl
def Qs {α:Type} (n0:Nat) (keep:List Nat) (H:α→St) (R:α→Prop) (μ:α→Nat) (a:α) (K:X→St→Prop):X→St→Prop
 | .normal,st'=>∃ y,R y∧μ y < μ a∧canon n0 keep st'=H y
 | .exit i,st'=>K (.exit i) st'
 | .ret,st'=>K .ret st'
theorem WE {α:Type} {keep:List Nat} {H:α→St} {R:α→Prop} {μ:α→Nat} {a:α} {st':St}:Qs n0 keep H R μ a K .normal st'=∃ y,R y∧μ y < μ a∧canon n0 keep st'=H y:=rfl
theorem WF {α:Type} {keep:List Nat} {H:α→St} {R:α→Prop} {μ:α→Nat} {a:α} {i:Nat} {st':St}:Qs n0 keep H R μ a K (.exit i) st'=K (.exit i) st':=rfl
theorem WG {α:Type} {keep:List Nat} {H:α→St} {R:α→Prop} {μ:α→Nat} {a:α} {st':St}:Qs n0 keep H R μ a K .ret st'=K .ret st':=rfl
theorem go_loop {α:Type} {keep:List Nat} {b:SC} (H:α→St) (R:α→Prop) (μ:α→Nat) (a0:α) (hR:R a0) (h0:canon n0 keep st=H a0) (round:∀ a,R a→go n0 b (H a) (Qs n0 keep H R μ a K)):go n0 (.loop keep b) st K:=by
 have key:∀ (n:Nat) (a:α) (st:St),μ a≤n→R a→canon n0 keep st=H a→∃ x st',Pz n0 keep (run n0 b) st=some (x,st')∧K x st':=by
  intro n
  induction n with
  | zero =>
   intro a st hn hR hc
   obtain ⟨x,st',h,k⟩:=round a hR
   cases x with
   | normal =>
    obtain ⟨y,_,h2,_⟩:=k
    omega
   | exit i=>exact ⟨_,st',by rw [IY,hc,h]; rfl,k⟩
   | ret=>exact ⟨_,st',by rw [IY,hc,h]; rfl,k⟩
  | succ n ih =>
   intro a st hn hR hc
   obtain ⟨x,st',h,k⟩:=round a hR
   cases x with
   | normal =>
    obtain ⟨y,h1,h2,h3⟩:=k
    obtain ⟨x2,st2,h4,k2⟩:=ih y st' (by omega) h1 h3
    exact ⟨x2,st2,by rw [IY,hc,h]; exact h4,k2⟩
   | exit i=>exact ⟨_,st',by rw [IY,hc,h]; rfl,k⟩
   | ret=>exact ⟨_,st',by rw [IY,hc,h]; rfl,k⟩
 exact key (μ a0) a0 st (yD _) hR h0
def Nd (n0:Nat) (keep keepO:List Nat) (H:EL→St) (F:X × St) (p:EL):X→St→Prop
 | .normal,st'=>canon n0 keep st'=H p
 | .exit i,st'=>F=(.exit i,canon n0 keepO st')
 | .ret,st'=>F=(.ret,canon n0 keepO st')
def WH (n0:Nat) (keepO:List Nat) (F:X × St):X→St→Prop
 | .normal,_=>False
 | .exit i,st'=>F=(.exit i,canon n0 keepO st')
 | .ret,st'=>F=(.ret,canon n0 keepO st')
theorem Vb {keep keepO:List Nat} {H:EL→St} {F:X × St} {p:EL} {st':St}:Nd n0 keep keepO H F p .normal st'=(canon n0 keep st'=H p):=rfl
theorem Vd {keep keepO:List Nat} {H:EL→St} {F:X × St} {p:EL} {i:Nat} {st':St}:Nd n0 keep keepO H F p (.exit i) st'=(F=(.exit i,canon n0 keepO st')):=rfl
theorem Ve {keep keepO:List Nat} {H:EL→St} {F:X × St} {p:EL} {st':St}:Nd n0 keep keepO H F p .ret st'=(F=(.ret,canon n0 keepO st')):=rfl
theorem YL {keepO:List Nat} {F:X × St} {i:Nat} {st':St}:WH n0 keepO F (.exit i) st'=(F=(.exit i,canon n0 keepO st')):=rfl
theorem YM {keepO:List Nat} {F:X × St} {st':St}:WH n0 keepO F .ret st'=(F=(.ret,canon n0 keepO st')):=rfl
theorem WI {keep keepO:List Nat} {it:SX} {nx more:Nat} {b:SC} (f:MF) (hfin:∃ l,Enum f l) (F:X × St) (hF:K F.1 F.2) (H:EL→St) (g:Nat) (ks:Bool)
  (h0:canon n0 keep st=H []) (hit:∀ p:EL,Qk it (H p)=some (g,ks,f,(p.map (·.1)).reverse))
  (round:∀ (p:EL) (k:MK) (x:MV),(p.map (·.1)).Nodup→(∀ e,e∈p→f e.1=some e.2)→f k=some x→k ∉ p.map (·.1)→go n0 b (Gc nx more (H p) true [(g,.it ks f (k :: (p.map (·.1)).reverse) (some (k,x)))]) (Nd n0 keep keepO H F (p++[(k,x)])))
  (fin:∀ p:EL,Enum f p→go n0 b (Gc nx more (H p) false []) (WH n0 keepO F)):go n0 (.mloop keep keepO it nx more b) st K:=by
 have key:∀ (l p:EL) (s:St),Enum f (p++l)→canon n0 keep s=H p→NH n0 keepO (FQ n0 ⟨keepO,it,nx,more⟩ keep (run n0 b) f l (p.map (·.1)).reverse s)=some F:=by
  intro l
  induction l with
  | nil =>
   intro p s hE hs
   rw [List.append_nil] at hE
   unfold FQ
   rw [hs,hit p]
   simp only
   try rw [Aw (p:=f=f) rfl,Aw (p:=(p.map (·.1)).reverse=(p.map (·.1)).reverse) rfl]
   simp only [Aw True.intro,zG,cond_true]
   obtain ⟨x,st',h1,h2⟩:=fin p hE
   rw [h1]
   cases x with
   | normal=>exact h2.elim
   | exit i=>have h2:F=_:=h2; rw [h2]; rfl
   | ret=>have h2:F=_:=h2; rw [h2]; rfl
  | cons e l ih =>
   intro p s hE hs
   obtain ⟨k,x⟩:=e
   have hnd:=hE.nd
   rw [zX,List.nodup_append] at hnd
   have hpm:∀ e,e∈p→f e.1=some e.2:=fun e he=>(hE.mem e.1 e.2).1 (by simp [he])
   have hk:f k=some x:=(hE.mem k x).1 (by simp)
   have hn:k ∉ p.map (·.1):=fun hm=>hnd.2.2 k hm k (by simp) rfl
   obtain ⟨x1,st1,h1,h2⟩:=round p k x hnd.1 hpm hk hn
   unfold FQ
   rw [hs,hit p]
   simp only
   try rw [Aw (p:=f=f) rfl,Aw (p:=(p.map (·.1)).reverse=(p.map (·.1)).reverse) rfl]
   simp only [Aw True.intro,zG,cond_true]
   rw [h1]
   cases x1 with
   | normal =>
    have h2:canon n0 keep st1=H (p++[(k,x)]):=h2
    have:=ih (p++[(k,x)]) st1 (by rw [List.append_assoc]; exact hE) h2
    have hrev:((p++[(k,x)]).map (·.1)).reverse=k :: (p.map (·.1)).reverse:=by simp
    rw [hrev] at this
    exact this
   | exit i=>have h2:F=_:=h2; rw [h2]; rfl
   | ret=>have h2:F=_:=h2; rw [h2]; rfl
 refine ⟨F.1,F.2,?_,hF⟩
 have:HO n0 ⟨keepO,it,nx,more⟩ keep (run n0 b) st=some F:=by
  unfold HO
  rw [h0,hit []]
  exact Fy.2 ⟨hfin,fun l hl=>key l [] st (by simpa using hl) h0⟩
 exact this
end
def slots:Nat→Nat→List (Nat × SV)→List SV
 | 0,_,_=>[]
 | n+1,k,[]=>.any :: slots n (k+1) []
 | n+1,k,(j,x) :: r=>bif j == k then x :: slots n (k+1) r else .any :: slots n (k+1) ((j,x) :: r)
def YN (res:RM) (n0:Nat) (rs:List RX) (out:SV × List Ob) (x:X) (st:St):Prop:=fin res n0 rs x st=some out
def Qaj (res:RM) (n0:Nat) (r:Option (SV × List Ob)):Option (SV × List Ob) :=
 match r with
 | some (r,ob)=>order res n0 r ob
 | none=>none
def R6 (res:RM) (n0:Nat) (ob:List Ob) (r:Option SV):Option (SV × List Ob) :=
 match r with
 | some r0=>Qaj res n0 (gc n0 r0 ob)
 | none=>none
theorem Qak {res:RM} {n0:Nat} {rs:List RX} {out:SV × List Ob} {sl:List SV} {ob:List Ob}:YN res n0 rs out .ret ⟨sl,ob⟩=(R6 res n0 ob (OC ⟨sl,ob⟩ rs)=some out):=rfl
theorem Qal {res:RM} {n0:Nat} {rs:List RX} {out:SV × List Ob} {sl:List SV} {ob:List Ob}:YN res n0 rs out .normal ⟨sl,ob⟩=(R6 res n0 ob (OC ⟨sl,ob⟩ rs)=some out):=rfl
theorem YO {res:RM} {n0:Nat} {ob:List Ob} {r:SV}:R6 res n0 ob (some r)=Qaj res n0 (gc n0 r ob):=rfl
theorem Qam {n0:Nat} {r:SV} {ob:List Ob} {res:RM}:Qaj res n0 (some (r,ob))=order res n0 r ob:=rfl
theorem Al {f:FuncId} {fc:FC} {hand:List Bool} {res:RM} {tr:Bool} {xs:List SV} {ob:List Ob} {out:SV × List Ob} (hc:Aq Tryz.prog f=some fc) (hr:modes f=⟨hand,res,none,tr⟩) (hn:xs.length≤fc.nt) (h:go ob.length (Gi res fc.sc) ⟨xs++KY (fc.nt-xs.length),entry tr ob⟩ (YN res ob.length fc.rs out)):E f xs ob=some out:=by
 obtain ⟨x,st',h1,h2⟩:=h
 unfold E
 rw [Zw]
 unfold Hg
 rw [hc,hr]
 simp only
 rw [decide_eq_true hn,cond_true]
 have h1:fr Tryz.prog (D5 modes (ev Tryz.prog modes)) (Ky ob.length) (Gi res fc.sc) ⟨xs++KY (fc.nt-xs.length),entry tr ob⟩=some (x,st'):=h1
 rw [h1]
 exact h2
theorem Qt {f:FuncId} {g:List SV→List Ob→Option (SV × List Ob)} {xs:List SV} {ob:List Ob} (hg:(modes f).ext=some g):E f xs ob=g xs ob:=by
 unfold E
 rw [Zw]
 unfold Hg
 rw [hg]
theorem R7 {f:FuncId} {g:List SV→Option SV} {xs:List SV} {r:SV} (hg:(modes f).ext=some (Lb g)) (h:g xs=some r):E f xs []=some (r,[]):=by
 rw [Qt hg]
 simp only [Lb,h]
theorem Ae:modes 42=⟨[],.asis,some (Lb W2),false⟩:=by unfold modes; rfl
theorem Dg (s:ByteArray):E 42 [.str s] []=some (.bool (Cc s),[]):=R7 (g:=W2) (congrArg FM.ext Ae) rfl
theorem An:modes 62=⟨[],.asis,some (Lb W3),false⟩:=by unfold modes; rfl
theorem EY (s:ByteArray):E 62 [.str s] []=some (.bool (Cc s),[]):=R7 (g:=W3) (congrArg FM.ext An) rfl
theorem Bj:modes 80=⟨[],.asis,some (Lb W4),false⟩:=by unfold modes; rfl
theorem K2 (s:ByteArray):E 80 [.str s] []=some (.bool (Ez s),[]):=R7 (g:=W4) (congrArg FM.ext Bj) rfl
theorem AN:modes 95=⟨[],.asis,some (Lb W5),false⟩:=by unfold modes; rfl
theorem K3 (s:ByteArray):E 95 [.str s] []=some (.bool (Ez s),[]):=R7 (g:=W5) (congrArg FM.ext AN) rfl
abbrev Tm.sv (x:Tm):SV:=.agg [.str x.name,.arr (x.args.map Tm.d)]
mutual
def Tm.o:Tm→List OT
 | .mk name args=>[.str name,.ow (Tm.os args)]
def Tm.os:List Tm→List (List OT)
 | []=>[]
 | x :: xs=>Tm.o x :: Tm.os xs
end
theorem Tm.os_eq:∀ xs:List Tm,Tm.os xs=xs.map Tm.o
 | []=>rfl
 | x :: xs=>by rw [Tm.os,Tm.os_eq xs]; rfl
theorem Tm.o_eq (x:Tm):Tm.o x=[.str x.name,.ow (x.args.map Tm.o)]:=by
 obtain ⟨name,args⟩:=x
 rw [Tm.o,Tm.os_eq]; rfl
theorem Tm.ers_of:∀ xs:List Tm,(∀ x∈xs,OT.ers (Tm.o x)=Tm.d x)→OT.erss (xs.map Tm.o)=xs.map Tm.d
 | [],_=>rfl
 | x :: xs,h=>by
  simp only [zB,OT.erss]
  rw [h x (by simp),Tm.ers_of xs fun y hy=>h y (by simp [hy])]
theorem Tm.er (x:Tm):OT.ers (Tm.o x)=Tm.d x:=by
 have h:=Tm.ers_of x.args fun y hy=>Tm.er y
 rw [Tm.o_eq,Tm.d_eq]
 simp only [OT.ers,OT.er,h]
termination_by SizeOf.sizeOf x
decreasing_by exact Tm.lt_of_mem hy
theorem Tm.erss (xs:List Tm):OT.erss (xs.map Tm.o)=xs.map Tm.d:=Tm.ers_of xs fun x _=>Tm.er x
theorem Tm.nos_of:∀ xs:List Tm,(∀ x∈xs,OT.EP (Tm.o x)=true)→OT.CJ (xs.map Tm.o)=true
 | [],_=>rfl
 | x :: xs,h=>by
  simp only [zB,OT.CJ]
  rw [h x (by simp),Tm.nos_of xs fun y hy=>h y (by simp [hy])]; rfl
theorem Tm.no (x:Tm):OT.EP (Tm.o x)=true:=by
 have h:=Tm.nos_of x.args fun y hy=>Tm.no y
 rw [Tm.o_eq]
 simp only [OT.EP,OT.noSh,h,zG,zW]
termination_by SizeOf.sizeOf x
decreasing_by exact Tm.lt_of_mem hy
theorem Tm.noss (xs:List Tm):OT.CJ (xs.map Tm.o)=true:=Tm.nos_of xs fun x _=>Tm.no x
abbrev Fm.sv (x:Fm):SV:=.agg [.int .i64 x.op,.str x.atom.name,.arr (x.atom.args.map Tm.d),.str x.var,.arr (x.parts.map Fm.d)]
mutual
def Fm.o:Fm→List OT
 | .mk op atom var parts=>[.int op,.str atom.name,.ow (atom.args.map Tm.o),.str var,.ow (Fm.os parts)]
def Fm.os:List Fm→List (List OT)
 | []=>[]
 | x :: xs=>Fm.o x :: Fm.os xs
end
theorem Fm.os_eq:∀ xs:List Fm,Fm.os xs=xs.map Fm.o
 | []=>rfl
 | x :: xs=>by rw [Fm.os,Fm.os_eq xs]; rfl
theorem Fm.o_eq (x:Fm):Fm.o x=[.int x.op,.str x.atom.name,.ow (x.atom.args.map Tm.o),.str x.var,.ow (x.parts.map Fm.o)]:=by
 obtain ⟨op,atom,var,parts⟩:=x
 rw [Fm.o,Fm.os_eq]; rfl
theorem Fm.ers_of:∀ xs:List Fm,(∀ x∈xs,OT.ers (Fm.o x)=Fm.d x)→OT.erss (xs.map Fm.o)=xs.map Fm.d
 | [],_=>rfl
 | x :: xs,h=>by
  simp only [zB,OT.erss]
  rw [h x (by simp),Fm.ers_of xs fun y hy=>h y (by simp [hy])]
theorem Fm.er (x:Fm):OT.ers (Fm.o x)=Fm.d x:=by
 have h:=Fm.ers_of x.parts fun y hy=>Fm.er y
 rw [Fm.o_eq,Fm.d_eq]
 simp only [OT.ers,OT.er,h,Tm.erss]
termination_by SizeOf.sizeOf x
decreasing_by exact Fm.lt_of_mem hy
theorem Fm.erss (xs:List Fm):OT.erss (xs.map Fm.o)=xs.map Fm.d:=Fm.ers_of xs fun x _=>Fm.er x
theorem Fm.nos_of:∀ xs:List Fm,(∀ x∈xs,OT.EP (Fm.o x)=true)→OT.CJ (xs.map Fm.o)=true
 | [],_=>rfl
 | x :: xs,h=>by
  simp only [zB,OT.CJ]
  rw [h x (by simp),Fm.nos_of xs fun y hy=>h y (by simp [hy])]; rfl
theorem Fm.no (x:Fm):OT.EP (Fm.o x)=true:=by
 have h:=Fm.nos_of x.parts fun y hy=>Fm.no y
 rw [Fm.o_eq]
 simp only [OT.EP,OT.noSh,h,Tm.noss,zG,zW]
termination_by SizeOf.sizeOf x
decreasing_by exact Fm.lt_of_mem hy
theorem Fm.noss (xs:List Fm):OT.CJ (xs.map Fm.o)=true:=Fm.nos_of xs fun x _=>Fm.no x
def Ag.o (x:Ag):List OT:=[.str x.var,.int x.elem]
theorem Ag.er (x:Ag):OT.ers (Ag.o x)=Ag.d x:=by
 simp only [Ag.o,Ag.d,OT.ers,OT.er]
theorem Ag.erss:∀ xs:List Ag,OT.erss (xs.map Ag.o)=xs.map Ag.d
 | []=>rfl
 | x :: xs=>by simp only [zB,OT.erss,Ag.er,Ag.erss xs]
theorem Ag.no (x:Ag):OT.EP (Ag.o x)=true:=by
 simp only [Ag.o,OT.EP,OT.noSh,zG,zW]
theorem Ag.noss:∀ xs:List Ag,OT.CJ (xs.map Ag.o)=true
 | []=>rfl
 | x :: xs=>by simp only [zB,OT.CJ,Ag.no,Ag.noss xs,zG]
abbrev Tl.sv (x:Tl):SV:=.agg [.str x.name,.int .i64 x.arity,.bool x.pred,.arr (x.vals.map fun n=>[D.int n])]
def Tl.o (x:Tl):List OT:=[.str x.name,.int x.arity,.bool x.pred,.ow (x.vals.map fun n=>[OT.int n])]
theorem Tl.o_eq (x:Tl):Tl.o x=[.str x.name,.int x.arity,.bool x.pred,.ow (x.vals.map fun n=>[OT.int n])]:=rfl
theorem Tl.er (x:Tl):OT.ers (Tl.o x)=Tl.d x:=by
 simp only [Tl.o,Tl.d,OT.ers,OT.er,Nc]
theorem Tl.erss:∀ xs:List Tl,OT.erss (xs.map Tl.o)=xs.map Tl.d
 | []=>rfl
 | x :: xs=>by simp only [zB,OT.erss,Tl.er,Tl.erss xs]
theorem Tl.no (x:Tl):OT.EP (Tl.o x)=true:=by
 simp only [Tl.o,OT.EP,OT.noSh,TV,zG,zW]
theorem Tl.noss:∀ xs:List Tl,OT.CJ (xs.map Tl.o)=true
 | []=>rfl
 | x :: xs=>by simp only [zB,OT.CJ,Tl.no,Tl.noss xs,zG]
abbrev Ip.sv (x:Ip):SV:=.agg [.int .i64 x.size,.arr (x.tables.map Tl.d)]
def Ip.o (x:Ip):List OT:=[.int x.size,.ow (x.tables.map Tl.o)]
theorem Ip.er (x:Ip):OT.ers (Ip.o x)=Ip.d x:=by
 simp only [Ip.o,Ip.d,OT.ers,OT.er,Tl.erss]
theorem Ip.erss:∀ xs:List Ip,OT.erss (xs.map Ip.o)=xs.map Ip.d
 | []=>rfl
 | x :: xs=>by simp only [zB,OT.erss,Ip.er,Ip.erss xs]
theorem Ip.no (x:Ip):OT.EP (Ip.o x)=true:=by
 simp only [Ip.o,OT.EP,OT.noSh,Tl.noss,zG,zW]
theorem Ip.noss:∀ xs:List Ip,OT.CJ (xs.map Ip.o)=true
 | []=>rfl
 | x :: xs=>by simp only [zB,OT.CJ,Ip.no,Ip.noss xs,zG]
theorem Er {n:Int} (h1:-9223372036854775808≤n) (h2:n≤9223372036854775807):dec (inK .i64 n)=true:=Aw (Yo.2 ⟨h1,h2⟩)
theorem get_at {α β:Type} (f:α→β) {xs:List α} {k:Nat} (h:k<xs.length):(xs.map f)[k]?=some (f xs[k]):=by rw [yK,zD h]; rfl
theorem QaO:dec True=true:=Aw trivial
theorem QaP:dec False=false:=Aj fun h=>h
attribute [go_sem] Y2 Y1 Qad Qac W8 Rr SC.Eo Ww pfx Fs JR OT.Cj OT.Hf OT.half Qaa Yz Ha Rc SV.isNil Ob.idsB SV.idsB SV.Mv List.getElem?_cons_zero List.getElem?_cons_succ OT.AC OT.CN OT.full entry toTree TT Rq TS FP HM Fw Wk Pc Ws OT.erss OT.ers OT.er OT.CJ OT.EP OT.noSh quiet obB Su Ko meets IK go_skip YA go_ret ZI YB ZJ W9 YC YD YE ZK ZL ZM QaJ QaK QaL YF YG WA UX YH WB UY YI ZP ZQ QaM ZR ZS ZT QaN ZU ZV WD ZX ZY ZZ Qab Qae Qaf Qag Qah Rm Rl Ey seen UZ SS YJ YK Qai Va Hd WE WF WG Qak Qal YO Qam order opF fOp FO TO Yp TM TN Wj IS eqK A8 gets As OB G5 Ed KR Nz Bb UF SV.cellsN SV.one JN splice E4 QN JM KP En Ci C7 Cf H9 I6 Sw eOp.mkEs eOp.addS D.sv OT.sv D.ot HH Hw reach SV.refs SV.Po SV.ptrs SV.Pp Ob.refs Ob.liveB HN Gn SV.back SV.backL Ob.back HF I7 Da BL BK Kv If SV.ren SV.KV Ob.ren mkU sgp gc M0 names KZ Ys Yt Yu NE Wt Yv Yw Yx Yy Y0 Y3 SC.mark Pt G9 slots OC S5 rxV KY Rk SV.noSh SV.Ms Ob.noSh SV.own SV.Qj Gd cond_true cond_false zI zP zB zN List.drop_succ_cons zQ List.drop_nil yZ List.take_zero List.take_nil List.append_nil yC List.cons_append yQ List.all_nil List.getD_cons_zero List.getD_cons_succ yJ List.any_nil List.contains_cons List.contains_nil List.isEmpty_nil List.isEmpty_cons List.flatten_cons List.flatten_nil List.replicate_succ List.replicate_zero yR yS xB y2 yD zU zW zY zG Bool.or_false Bool.false_or Bool.true_or Bool.or_true Bool.not_true Bool.not_false zR y5 decide_true decide_false beq_self_eq_true if_true if_false Option.map_some Option.map_none zO y9 Option.getD_none yL true_and and_true and_self eq_self_iff_true zT Bool.false_eq_true Bool.true_eq_false zV SV.int.injEq SV.bool.injEq SV.str.injEq SV.agg.injEq SV.tup.injEq SV.arr.injEq List.cons.injEq St.mk.injEq Int.zero_add QaO QaP Er Aw Aj QaB svK svD VP svM MV.sv TA Wl Rh Wm Gc St.app Qk MK.sv Vb Vd Ve YL YM
attribute [go_sem_proc] Nat.reduceAdd Nat.reduceSub Nat.reduceLT Nat.reduceLeDiff Nat.reduceEqDiff Nat.reduceBEq Nat.reduceBneDiff Nat.reduceMul Int.reduceToNat Int.reduceNeg Int.reduceAdd reduceCtorEq
attribute [go_sem_proc ↓] reduceIte
theorem TZ:∀ xs:List ByteArray,OT.AC (xs.map fun s=>[OT.str s])=true
 | []=>rfl
 | x :: xs=>by simp only [zB,OT.AC,OT.CN,OT.full,TZ xs,zG]
theorem Nf:∀ xs:List Int,OT.AC (xs.map fun n=>[OT.int n])=true
 | []=>rfl
 | x :: xs=>by simp only [zB,OT.AC,OT.CN,OT.full,Nf xs,zG]
theorem Tm.fu_of:∀ xs:List Tm,(∀ x∈xs,OT.CN (Tm.o x)=true)→OT.AC (xs.map Tm.o)=true
 | [],_=>rfl
 | x :: xs,h=>by
  simp only [zB,OT.AC]
  rw [h x (by simp),Tm.fu_of xs fun y hy=>h y (by simp [hy])]; rfl
theorem Tm.fu (x:Tm):OT.CN (Tm.o x)=true:=by
 have h:=Tm.fu_of x.args fun y hy=>Tm.fu y
 rw [Tm.o_eq]
 simp only [OT.CN,OT.full,h,zG,zW]
termination_by SizeOf.sizeOf x
decreasing_by exact Tm.lt_of_mem hy
theorem Tm.fus (xs:List Tm):OT.AC (xs.map Tm.o)=true:=Tm.fu_of xs fun x _=>Tm.fu x
theorem Fm.fu_of:∀ xs:List Fm,(∀ x∈xs,OT.CN (Fm.o x)=true)→OT.AC (xs.map Fm.o)=true
 | [],_=>rfl
 | x :: xs,h=>by
  simp only [zB,OT.AC]
  rw [h x (by simp),Fm.fu_of xs fun y hy=>h y (by simp [hy])]; rfl
theorem Fm.fu (x:Fm):OT.CN (Fm.o x)=true:=by
 have h:=Fm.fu_of x.parts fun y hy=>Fm.fu y
 rw [Fm.o_eq]
 simp only [OT.CN,OT.full,h,Tm.fus,zG,zW]
termination_by SizeOf.sizeOf x
decreasing_by exact Fm.lt_of_mem hy
theorem Fm.fus (xs:List Fm):OT.AC (xs.map Fm.o)=true:=Fm.fu_of xs fun x _=>Fm.fu x
theorem Ag.fu (x:Ag):OT.CN (Ag.o x)=true:=by
 simp only [Ag.o,OT.CN,OT.full,zG,zW]
theorem Ag.fus:∀ xs:List Ag,OT.AC (xs.map Ag.o)=true
 | []=>rfl
 | x :: xs=>by simp only [zB,OT.AC,Ag.fu,Ag.fus xs,zG]
theorem Tl.fu (x:Tl):OT.CN (Tl.o x)=true:=by
 simp only [Tl.o,OT.CN,OT.full,Nf,zG,zW]
theorem Tl.fus:∀ xs:List Tl,OT.AC (xs.map Tl.o)=true
 | []=>rfl
 | x :: xs=>by simp only [zB,OT.AC,Tl.fu,Tl.fus xs,zG]
theorem Ip.fu (x:Ip):OT.CN (Ip.o x)=true:=by
 simp only [Ip.o,OT.CN,OT.full,Tl.fus,zG,zW]
theorem Ip.fus:∀ xs:List Ip,OT.AC (xs.map Ip.o)=true
 | []=>rfl
 | x :: xs=>by simp only [zB,OT.AC,Ip.fu,Ip.fus xs,zG]
attribute [go_sem] TZ Nf Y5 Nc Y6 TV Tm.fus Tm.erss Tm.noss Fm.fus Fm.erss Fm.noss Ag.fus Ag.erss Ag.noss Tl.fus Tl.erss Tl.noss Ip.fus Ip.erss Ip.noss
theorem R8 {α β:Type} (f:α→β) (dn rest:List α) (x y:α) {k:Nat} (h:dn.length=k):((dn++x :: rest).map f).set k (f y)=((dn++[y])++rest).map f:=by
 subst h
 rw [zX,List.set_append_right _ _ (by simp)]
 simp
theorem WJ {α:Type} (a:α):dec (a=a)=true:=Aw rfl
section
variable {α β:Type} (f:α→β) (z:β) {xs:List α} {k:Nat}
end
theorem YP (a b:Int):(bif dec (a<b) then b else a)=max a b:=by
 by_cases h:a<b
 ·rw [Aw h,cond_true,Int.max_eq_right (by omega)]
 ·rw [Aj h,cond_false,Int.max_eq_left (by omega)]
def Cw {α:Type} (p:α→Bool):List α→Int→Int
 | [],_=>-1
 | x :: xs,i=>if p x then i else Cw p xs (i+1)
theorem EZ {α:Type} (p:α→Bool):∀ (xs:List α),dec (0≤Cw p xs 0)=xs.any p:=by
 have key:∀ (xs:List α) (i:Int),0≤i→(0≤Cw p xs i ↔ xs.any p=true):=by
  intro xs
  induction xs with
  | nil=>intro i h; simp [Cw]
  | cons x xs ih =>
   intro i h
   simp only [Cw,yJ,yX]
   by_cases hp:p x=true
   ·simp [hp,h]
   ·rw [if_neg hp,ih (i+1) (by omega)]; simp [hp]
 intro xs
 cases h:xs.any p with
 | true=>exact Aw ((key xs 0 (by omega)).2 h)
 | false=>exact Aj fun h'=>by rw [(key xs 0 (by omega)).1 h'] at h; cases h
mutual
def Tm.nodes:Tm→Nat
 | .mk _ args=>1+Tm.nodeS args
def Tm.nodeS:List Tm→Nat
 | []=>0
 | x :: xs=>Tm.nodes x+Tm.nodeS xs
end
mutual
def Tm.deep:Tm→Nat
 | .mk _ args=>Tm.Hh args+1
def Tm.Hh:List Tm→Nat
 | []=>0
 | x :: xs=>max (Tm.deep x) (Tm.Hh xs)
end
mutual
def Tm.names:Tm→Bool
 | .mk name args=>if Cc name then args.length == 0 else Ez name&&decide (args.length≤4)&&Tm.GD args
def Tm.GD:List Tm→Bool
 | []=>true
 | x :: xs=>Tm.names x&&Tm.GD xs
end
def Tm.small (x:Tm):Bool:=decide (x.nodes≤30)&&decide (x.deep≤8)
def Tm.valid (x:Tm):Bool:=x.small&&x.names
noncomputable def Tm.eqn (x:Tm):Bool:=dec (x.name=⟨#[61]⟩)
noncomputable def Tm.atom (x:Tm):Bool:=if x.eqn then x.args.length == 2&&x.small&&Tm.GD x.args else Ez x.name&&x.valid
noncomputable def Tm.expr (x:Tm):Bool:=x.valid || x.atom
noncomputable def Tm.isZ (x:Tm):Bool:=dec (x.name=⟨#[]⟩)&&x.args.length == 0
mutual
def Fm.nodes:Fm→Nat
 | .mk _ _ _ args=>1+Fm.nodeS args
def Fm.nodeS:List Fm→Nat
 | []=>0
 | x :: xs=>Fm.nodes x+Fm.nodeS xs
end
noncomputable def Fm.form (x:Fm):Bool :=
 if x.op=1∨x.op=2 then x.parts.length == 0&&x.atom.isZ&&dec (x.var=⟨#[]⟩)
 else if x.op=3 then x.parts.length == 0&&x.atom.atom&&dec (x.var=⟨#[]⟩)
 else if x.op=4 then x.parts.length == 1&&x.atom.isZ&&dec (x.var=⟨#[]⟩)
 else if x.op=5∨x.op=6∨x.op=7 then x.parts.length == 2&&x.atom.isZ&&dec (x.var=⟨#[]⟩)
 else if x.op=8∨x.op=9 then x.parts.length == 1&&x.atom.isZ&&Cc x.var
 else false
mutual
noncomputable def Fm.forms:Fm→Bool
 | .mk op atom var parts=>Fm.form (.mk op atom var parts)&&Fm.JS parts
noncomputable def Fm.JS:List Fm→Bool
 | []=>true
 | x :: xs=>Fm.forms x&&Fm.JS xs
end
noncomputable def Fm.valid (x:Fm):Bool:=decide (x.nodes≤40)&&x.forms
theorem Qan {p q:Prop} (h:p ↔ q):dec p=dec q:=by rw [propext h]
theorem Tm.nodes_eq (x:Tm):x.nodes=1+Tm.nodeS x.args:=by
 obtain ⟨name,args⟩:=x
 rw [Tm.nodes]; rfl
theorem Tm.nodes_pos (x:Tm):1≤x.nodes:=by rw [Tm.nodes_eq]; omega
theorem Tm.nodes_le:∀ (xs:List Tm) (k:Nat) (h:k<xs.length),xs[k].nodes≤Tm.nodeS xs
 | [],k,h=>absurd h (by simp)
 | x :: xs,0,_=>by rw [Tm.nodeS]; simp
 | x :: xs,k+1,h=>by
  have:=Tm.nodes_le xs k (by simpa using h)
  rw [Tm.nodeS]; simp only [yT]; omega
theorem Tm.Qu (x:Tm):x.deep=Tm.Hh x.args+1:=by
 obtain ⟨name,args⟩:=x
 rw [Tm.deep]; rfl
theorem Tm.Ja:∀ xs:List Tm,(∀ y∈xs,y.deep≤y.nodes)→Tm.Hh xs≤Tm.nodeS xs
 | [],_=>by simp [Tm.Hh]
 | x :: xs,h=>by
  have h1:=h x (by simp)
  have h2:=Tm.Ja xs fun y hy=>h y (by simp [hy])
  rw [Tm.Hh,Tm.nodeS]; omega
theorem Tm.Hx (x:Tm):x.deep≤x.nodes:=by
 rw [Tm.Qu,Tm.nodes_eq]
 have:=Tm.Ja x.args fun y hy=>Tm.Hx y
 omega
termination_by SizeOf.sizeOf x
decreasing_by exact Tm.lt_of_mem hy
theorem Tm.Lc (x:Tm):x.names=if Cc x.name then x.args.length == 0 else Ez x.name&&decide (x.args.length≤4)&&Tm.GD x.args:=by
 obtain ⟨name,args⟩:=x
 rw [Tm.names]; rfl
theorem Tm.JB:∀ xs:List Tm,Tm.GD xs=xs.all Tm.names
 | []=>rfl
 | x :: xs=>by rw [Tm.GD,Tm.JB xs]; rfl
theorem Tm.length_le:∀ xs:List Tm,xs.length≤Tm.nodeS xs
 | []=>yD _
 | x :: xs=>by
  have:=Tm.length_le xs
  have:=Tm.nodes_pos x
  rw [Tm.nodeS]; simp only [zI]; omega
theorem Tm.nodes_mem {xs:List Tm} {y:Tm} (h:y∈xs):y.nodes≤Tm.nodeS xs:=by
 obtain ⟨k,hk,rfl⟩:=zZ h
 exact Tm.nodes_le xs k hk
theorem P5 {xs:List Tm} (h:xs.length=2):Tm.GD xs=((xs[0]'(by omega)).names&&(xs[1]'(by omega)).names):=by
 match xs,h with
 | [a,b],_=>simp [Tm.GD]
mutual
def Tm.cap:Tm→Int
 | .mk _ xs=>Tm.capL xs 1
def Tm.capL:List Tm→Int→Int
 | [],n=>n
 | x :: xs,n=>if 30 < n then n else Tm.capL xs (n+Tm.cap x)
end
theorem Tm.cap_eq (x:Tm):x.cap=Tm.capL x.args 1:=by
 obtain ⟨n,xs⟩:=x
 rw [Tm.cap]; rfl
theorem Tm.capL_spec:∀ (xs:List Tm) (n:Int),(∀ x∈xs,1≤x.cap∧x.cap≤x.nodes∧(x.cap≤30→x.cap=x.nodes))→1≤n→n≤Tm.capL xs n∧Tm.capL xs n≤n+Tm.nodeS xs∧(Tm.capL xs n≤30→Tm.capL xs n=n+Tm.nodeS xs)
 | [],n,_,h=>by simp [Tm.capL,Tm.nodeS]
 | x :: xs,n,hx,h=>by
  rw [Tm.capL,Tm.nodeS]
  have h1:=hx x (by simp)
  split
  ·omega
  ·have:=Tm.capL_spec xs (n+x.cap) (fun y hy=>hx y (by simp [hy])) (by omega)
   omega
theorem Tm.cap_spec (x:Tm):1≤x.cap∧x.cap≤x.nodes∧(x.cap≤30→x.cap=x.nodes):=by
 rw [Tm.cap_eq,Tm.nodes_eq]
 have:=Tm.capL_spec x.args 1 (fun y hy=>Tm.cap_spec y) (by omega)
 omega
termination_by SizeOf.sizeOf x
decreasing_by exact Tm.lt_of_mem hy
mutual
def Tm.many:Tm→Int→Int
 | .mk _ xs,m=>Tm.manyL xs m 1
def Tm.manyL:List Tm→Int→Int→Int
 | [],_,n=>n
 | x :: xs,m,n=>if n≤m then Tm.manyL xs m (n+Tm.many x (m-n)) else n
end
theorem Tm.many_eq (x:Tm) (m:Int):x.many m=Tm.manyL x.args m 1:=by
 obtain ⟨n,xs⟩:=x
 rw [Tm.many]; rfl
theorem Tm.manyL_spec (m:Int):∀ (xs:List Tm) (n:Int),(∀ x∈xs,∀ m,0≤m→1≤x.many m∧x.many m≤x.nodes∧(x.many m≤m→x.many m=x.nodes))→1≤n→n≤Tm.manyL xs m n∧Tm.manyL xs m n≤n+Tm.nodeS xs∧(Tm.manyL xs m n≤m→Tm.manyL xs m n=n+Tm.nodeS xs)
 | [],n,_,h=>by simp [Tm.manyL,Tm.nodeS]
 | x :: xs,n,hx,h=>by
  rw [Tm.manyL,Tm.nodeS]
  split
  ·have h1:=hx x (by simp) (m-n) (by omega)
   have:=Tm.manyL_spec m xs (n+x.many (m-n)) (fun y hy=>hx y (by simp [hy])) (by omega)
   omega
  ·omega
theorem Tm.many_spec (x:Tm) (m:Int):1≤x.many m∧x.many m≤x.nodes∧(x.many m≤m→x.many m=x.nodes):=by
 rw [Tm.many_eq,Tm.nodes_eq]
 have:=Tm.manyL_spec m x.args 1 (fun y hy m _=>Tm.many_spec y m) (by omega)
 omega
termination_by SizeOf.sizeOf x
decreasing_by exact Tm.lt_of_mem hy
def Ld:SC:=(.seq (.reg [⟨some 1,none,.boxv 30 2 (.t 0)⟩,⟨(some 2),none,(.alloc 30 [(.str ⟨#[]⟩),.nil])⟩]) (.seq (.reg [⟨some 5,none,.faddr 0 (.t 1)⟩,⟨some 6,none,.load false 1 (.t 5)⟩,⟨(some 7),none,(.build [(.str ⟨#[]⟩),.nil] [(0,(1,(.t 6)))])⟩,⟨(some 3),none,(.alloc 30 [(.str ⟨#[]⟩),.nil])⟩,⟨none,none,(.store 2 (.t 3) (.t 7))⟩]) (.seq (.seq (.reg [⟨some 4,none,.mv (.c (.int .i64 0))⟩]) (.block 0 (.loop [0,1,1,1,1,0,0,0,0,0,0,0,0,0,0,0,0,0,0,0,0,0,0,0,0,0,0] (.seq (.seq (.reg [⟨some 8,none,.mv (.t 4)⟩,⟨some 9,none,.faddr 1 (.t 1)⟩,⟨some 10,none,.load false 1 (.t 9)⟩,⟨some 11,none,.len false (.t 10)⟩,⟨some 12,none,.bin .lss false (.t 8) (.t 11)⟩]) (.cond (.t 12) .skip (.exit 0))) (.seq (.block 1 (.dreg [[],[0],[],[2],[],[3,2,4],[5,3,2,4],[6,5,3,2,4],[7,6,5,3,2,4],[1,0,8,7,6,5,3,2,4],[0,1,2,3,4,5,6,7,8,9],[10,0,1,2,3,4,5,6,7,8,9]] [⟨some 15,none,.faddr 1 (.t 3)⟩,⟨some 16,none,.load false 1 (.t 15)⟩,⟨some 17,none,.faddr 1 (.t 1)⟩,⟨some 18,none,.load false 1 (.t 17)⟩,⟨some 19,none,.mv (.t 4)⟩,⟨some 20,none,.iaddr 2 (.t 18) (.t 19)⟩,⟨some 21,none,.load true 2 (.t 20)⟩,⟨some 22,none,.call 100 [(.t 21)]⟩,⟨(some 23),none,(.mkrow 30 2 [(.str ⟨#[]⟩),.nil] 1 [(0,(.t 22))])⟩,⟨(some 24),none,(.append 30 2 40 [(.str ⟨#[]⟩),.nil] (.t 16) (.t 23))⟩,⟨some 25,none,.faddr 1 (.t 3)⟩,⟨none,none,(.store 1 (.t 25) (.t 24))⟩])) (.reg [⟨some 13,none,.mv (.t 4)⟩,⟨some 14,none,.bin .add false (.t 13) (.c (.int .i64 1))⟩,⟨some 4,none,.mv (.t 14)⟩])))))) (.seq (.reg [⟨some 26,none,.load true 2 (.t 3)⟩,⟨none,none,(.store 2 (.t 2) (.t 26))⟩]) .ret))))
theorem Qv:Aq Tryz.prog 100=some ⟨27,Ld,[(.cell 2 true 2)]⟩:=by kernel_rfl
theorem Gp:modes 100=⟨[],.frz,none,false⟩:=by unfold modes; rfl
def Qao (res:RM) (n0:Nat) (rs:List RX) (Q:SV × List Ob→Prop) (x:X) (st:St):Prop:=∃ out,YN res n0 rs out x st∧Q out
theorem exq {α:Type} {a:α} {Q:α→Prop}:(∃ out,some a=some out∧Q out)=Q a:=propext ⟨fun ⟨o,h,q⟩=>by obtain rfl:=zJ h; exact q,fun q=>⟨a,rfl,q⟩⟩
theorem Qap {res:RM} {n0:Nat} {rs:List RX} {Q:SV × List Ob→Prop} {sl:List SV} {ob:List Ob}:Qao res n0 rs Q .ret ⟨sl,ob⟩=∃ out,R6 res n0 ob (OC ⟨sl,ob⟩ rs)=some out∧Q out:=rfl
theorem Qaq {res:RM} {n0:Nat} {rs:List RX} {Q:SV × List Ob→Prop} {sl:List SV} {ob:List Ob}:Qao res n0 rs Q .normal ⟨sl,ob⟩=∃ out,R6 res n0 ob (OC ⟨sl,ob⟩ rs)=some out∧Q out:=rfl
theorem AM {f:FuncId} {fc:FC} {hand:List Bool} {res:RM} {tr:Bool} {xs:List SV} {ob:List Ob} {Q:SV × List Ob→Prop} (hc:Aq Tryz.prog f=some fc) (hr:modes f=⟨hand,res,none,tr⟩) (hn:xs.length≤fc.nt) (h:go ob.length (Gi res fc.sc) ⟨xs++KY (fc.nt-xs.length),entry tr ob⟩ (Qao res ob.length fc.rs Q)):∃ out,E f xs ob=some out∧Q out:=by
 obtain ⟨x,st',h1,out,h2,h3⟩:=h
 exact ⟨out,Al hc hr hn ⟨x,st',h1,h2⟩,h3⟩
attribute [go_sem] Qap Qaq exq
def Tm.osh (x:Tm):List OT:=[.str x.name,.sh (x.args.map Tm.d)]
theorem Tm.osh_eq (x:Tm):x.osh=[.str x.name,.sh (x.args.map Tm.d)]:=rfl
theorem Tm.osh_full:∀ xs:List Tm,OT.AC (xs.map Tm.osh)=true
 | []=>rfl
 | x :: xs=>by rw [zB,Tm.osh_eq]; simp [OT.AC,OT.CN,OT.full,Tm.osh_full xs]
theorem Tm.osh_er:∀ xs:List Tm,OT.erss (xs.map Tm.osh)=xs.map Tm.d
 | []=>rfl
 | x :: xs=>by rw [zB,zB,Tm.osh_eq,Tm.d_eq]; simp [OT.erss,OT.ers,OT.er,Tm.osh_er xs]
theorem NU {α β:Type} (f:α→β) {xs:List α} {k:Nat} (h:k<xs.length):(xs.take k).map f++[f xs[k]]=(xs.take (k+1)).map f:=by
 rw [yU h,zX]; rfl
def Fa:SC:=(.seq (.reg [⟨some 2,none,.mv (.c (.int .i64 0))⟩]) (.seq (.reg [⟨some 3,none,.mv (.c (.int .i64 0))⟩]) (.seq (.seq (.dreg [[],[0],[1,0],[2,1,0],[],[4],[5,4],[6,5,4],[7,6,5,4],[3,2,1,0,8,7,6,5,4]] [⟨some 4,none,.mv (.t 0)⟩,⟨some 5,none,.nilchk (.t 4)⟩,⟨some 6,none,.faddr 1 (.t 5)⟩,⟨some 7,none,.load false 1 (.t 6)⟩,⟨some 8,none,.mv (.t 0)⟩,⟨some 9,none,.nilchk (.t 8)⟩,⟨some 10,none,.faddr 0 (.t 9)⟩,⟨some 11,none,.load false 1 (.t 10)⟩,⟨some 12,none,.len false (.t 11)⟩,⟨some 13,none,.bin .lss false (.t 7) (.t 12)⟩]) (.cond (.t 13) (.dreg [[],[0],[1,0],[2,1,0],[],[4],[5,4],[6,5,4],[3,2,1,0,7,6,5,4],[8,3,2,1,0,7,6,5,4],[9,8,3,2,1,0,7,6,5,4],[10,9,8,3,2,1,0,7,6,5,4]] [⟨some 14,none,.mv (.t 0)⟩,⟨some 15,none,.nilchk (.t 14)⟩,⟨some 16,none,.faddr 0 (.t 15)⟩,⟨some 17,none,.load false 1 (.t 16)⟩,⟨some 18,none,.mv (.t 0)⟩,⟨some 19,none,.nilchk (.t 18)⟩,⟨some 20,none,.faddr 1 (.t 19)⟩,⟨some 21,none,.load false 1 (.t 20)⟩,⟨some 22,none,.iaddr 1 (.t 17) (.t 21)⟩,⟨some 23,none,.load false 1 (.t 22)⟩,⟨some 24,none,.conv .i64 (.t 23)⟩,⟨some 3,none,.mv (.t 24)⟩]) .skip)) (.seq (.reg [⟨some 25,none,.mv (.t 0)⟩,⟨some 26,none,.nilchk (.t 25)⟩,⟨some 27,none,.faddr 1 (.t 26)⟩,⟨some 28,none,.load false 1 (.t 27)⟩,⟨some 29,none,.bin .add false (.t 28) (.c (.int .i64 1))⟩,⟨some 30,none,.nilchk (.t 25)⟩,⟨some 31,none,.faddr 1 (.t 30)⟩,⟨none,none,(.store 1 (.t 31) (.t 29))⟩]) (.seq (.reg [⟨some 32,none,.mv (.t 0)⟩,⟨some 33,none,.mv (.t 0)⟩,⟨some 34,none,.nilchk (.t 33)⟩,⟨some 35,none,.faddr 2 (.t 34)⟩,⟨some 36,none,.load false 1 (.t 35)⟩,⟨some 37,none,.bin .mul false (.t 36) (.c (.int .u64 6364136223846793005))⟩,⟨some 38,none,.mv (.t 3)⟩,⟨some 39,none,.conv .u64 (.t 38)⟩,⟨some 40,none,.bin .add false (.t 37) (.t 39)⟩,⟨some 41,none,.bin .add false (.t 40) (.c (.int .u64 892892))⟩,⟨some 42,none,.nilchk (.t 32)⟩,⟨some 43,none,.faddr 2 (.t 42)⟩,⟨none,none,(.store 1 (.t 43) (.t 41))⟩]) (.seq (.seq (.dreg [[],[0],[1,0],[2,1,0],[],[4],[5,4],[6,5,4],[7,6,5,4],[3,2,1,0,8,7,6,5,4]] [⟨some 44,none,.mv (.t 0)⟩,⟨some 45,none,.nilchk (.t 44)⟩,⟨some 46,none,.faddr 1 (.t 45)⟩,⟨some 47,none,.load false 1 (.t 46)⟩,⟨some 48,none,.mv (.t 0)⟩,⟨some 49,none,.nilchk (.t 48)⟩,⟨some 50,none,.faddr 0 (.t 49)⟩,⟨some 51,none,.load false 1 (.t 50)⟩,⟨some 52,none,.len false (.t 51)⟩,⟨some 53,none,.bin .leq false (.t 47) (.t 52)⟩]) (.cond (.t 53) (.seq (.reg [⟨some 54,none,.mv (.t 3)⟩,⟨some 2,none,.mv (.t 54)⟩]) .ret) .skip)) (.seq (.reg [⟨some 55,none,.mv (.t 0)⟩,⟨some 56,none,.nilchk (.t 55)⟩,⟨some 57,none,.faddr 2 (.t 56)⟩,⟨some 58,none,.load false 1 (.t 57)⟩,⟨some 59,none,.bin .shr false (.t 58) (.c (.int .u64 40))⟩,⟨some 60,none,.bin .and false (.t 59) (.c (.int .u64 255))⟩,⟨some 61,none,.conv .i64 (.t 60)⟩,⟨some 2,none,.mv (.t 61)⟩]) .ret)))))))
theorem Hi:Aq Tryz.prog 67=some ⟨62,Fa,[(.tmp 2)]⟩:=by kernel_rfl
theorem Fb:modes 67=⟨[],.asis,none,false⟩:=by unfold modes; rfl
def Fc:SC:=(.seq (.reg [⟨some 4,none,.mv (.c (.int .i64 0))⟩]) (.seq (.seq (.reg [⟨some 6,none,.mv (.t 1)⟩,⟨some 7,none,.bin .leq false (.t 6) (.c (.int .i64 1))⟩]) (.cond (.t 7) (.seq (.reg [⟨some 4,none,.mv (.c (.int .i64 0))⟩]) .ret) .skip)) (.seq (.reg [⟨some 8,none,.mv (.t 0)⟩,⟨some 9,none,.call 67 [(.t 8)]⟩,⟨some 5,none,.mv (.t 9)⟩]) (.seq (.seq (.reg [⟨some 10,none,.mv (.t 1)⟩,⟨some 11,none,.bin .gtr false (.t 10) (.c (.int .i64 200))⟩]) (.cond (.t 11) (.reg [⟨some 12,none,.mv (.t 5)⟩,⟨some 13,none,.bin .mul false (.t 12) (.c (.int .i64 256))⟩,⟨some 14,none,.mv (.t 0)⟩,⟨some 15,none,.call 67 [(.t 14)]⟩,⟨some 16,none,.bin .add false (.t 13) (.t 15)⟩,⟨some 5,none,.mv (.t 16)⟩]) .skip)) (.seq (.reg [⟨some 17,none,.mv (.t 5)⟩,⟨some 18,none,.mv (.t 1)⟩,⟨some 19,none,.bin .rem false (.t 17) (.t 18)⟩,⟨some 4,none,.mv (.t 19)⟩]) .ret)))))
theorem Hj:Aq Tryz.prog 28=some ⟨20,Fc,[(.tmp 4)]⟩:=by kernel_rfl
theorem Am:modes 28=⟨[],.asis,none,false⟩:=by unfold modes; rfl
def HS:SC:=(.seq (.reg [⟨some 4,none,.mv (.c (.bool false))⟩]) (.seq (.reg [⟨some 5,none,.mv (.t 0)⟩,⟨some 6,none,.mv (.t 1)⟩,⟨some 7,none,.call 28 [(.t 5),(.t 6)]⟩,⟨some 8,none,.bin .eql false (.t 7) (.c (.int .i64 0))⟩,⟨some 4,none,.mv (.t 8)⟩]) .ret))
theorem LS:Aq Tryz.prog 29=some ⟨9,HS,[(.tmp 4)]⟩:=by kernel_rfl
theorem A2:modes 29=⟨[],.asis,none,false⟩:=by unfold modes; rfl
def IA:SC:=(.seq (.reg [⟨(some 4),none,(.mv (.c (.str ⟨#[]⟩)))⟩]) (.seq (.reg [⟨some 5,none,.mv (.t 1)⟩,⟨some 6,none,.mv (.t 0)⟩,⟨some 7,none,.mv (.t 1)⟩,⟨some 8,none,.len false (.t 7)⟩,⟨some 9,none,.call 28 [(.t 6),(.t 8)]⟩,⟨some 10,none,.iaddr 1 (.t 5) (.t 9)⟩,⟨some 11,none,.load false 1 (.t 10)⟩,⟨some 4,none,.mv (.t 11)⟩]) .ret))
theorem ML:Aq Tryz.prog 37=some ⟨12,IA,[(.tmp 4)]⟩:=by kernel_rfl
theorem Ax:modes 37=⟨[],.asis,none,false⟩:=by unfold modes; rfl
def GE:SC:=(.seq (.reg [⟨some 4,none,.mv (.c (.int .i64 0))⟩]) (.seq (.reg [⟨some 5,none,.mv (.t 1)⟩,⟨some 6,none,.mv (.t 0)⟩,⟨some 7,none,.mv (.t 1)⟩,⟨some 8,none,.len false (.t 7)⟩,⟨some 9,none,.call 28 [(.t 6),(.t 8)]⟩,⟨some 10,none,.iaddr 1 (.t 5) (.t 9)⟩,⟨some 11,none,.load false 1 (.t 10)⟩,⟨some 4,none,.mv (.t 11)⟩]) .ret))
theorem K4:Aq Tryz.prog 36=some ⟨12,GE,[(.tmp 4)]⟩:=by kernel_rfl
theorem AV:modes 36=⟨[],.asis,none,false⟩:=by unfold modes; rfl
theorem QaW {α:Type} {a:α} {Q:α→Prop}:(∃ out,a=out∧Q out)=Q a:=propext ⟨fun ⟨o,h,q⟩=>by subst h; exact q,fun q=>⟨a,rfl,q⟩⟩
attribute [go_sem] QaW
abbrev by_ (b:Int):List D:=[D.byte b]
def Bytes (l:List Int):Prop:=∀ b∈l,0≤b∧b≤255
abbrev cur (l:List Int) (p s:Int):Ob:=.box 53 [.arr (l.map by_),.int .i64 p,.int .u64 s]
theorem Qar (a:Int):0≤bits .and .u64 a 255∧bits .and .u64 a 255≤255:=by
 have h:(BitVec.ofInt 64 a &&& BitVec.ofInt 64 255).toNat≤255:=by
  rw [BitVec.toNat_and]
  exact Nat.and_le_right
 have e:bits .and .u64 a 255=(((BitVec.ofInt 64 a &&& BitVec.ofInt 64 255).toNat:Nat):Int):=by
  show IntKind.u64.wrap _=_
  refine QP ⟨?_,?_⟩
  ·show (0:Int)≤_; omega
  ·show _≤(18446744073709551615:Int)
   have:(BitVec.ofInt 64 a &&& BitVec.ofInt 64 255).toNat≤255:=h
   show (((BitVec.ofInt 64 a &&& BitVec.ofInt 64 255).toNat:Nat):Int)≤_
   omega
 rw [e]
 omega
theorem YQ (l:List Int) (hl:Bytes l) (hn:l.length≤1099511627776) (p s:Int) (hp0:0≤p) (hp:p≤1099511627776):∃ v s',E 67 [.ptr 0 0] [cur l p s]=some (.int .i64 v,[cur l (p+1) s'])∧0≤v∧v≤255:=by
 obtain ⟨Q,hQ⟩:∃ Q:SV × List Ob→Prop,Q=fun out=>∃ v s',out=(.int .i64 v,[cur l (p+1) s'])∧0≤v∧v≤255:=⟨_,rfl⟩
 suffices h:∃ out,E 67 [.ptr 0 0] [cur l p s]=some out∧Q out by
  obtain ⟨out,h1,h2⟩:=h
  rw [hQ] at h2
  obtain ⟨v,s',rfl,h3⟩:=h2
  exact ⟨v,s',h1,h3⟩
 by_cases hlt:p<l.length
 ·have hg:=get_at by_ (show p.toNat<l.length by omega)
  have hb:=hl _ (zE (show p.toNat<l.length by omega))
  have hi:dec (inK .i64 l[p.toNat])=true:=Er (by omega) (by omega)
  have h1:(p<(l.length:Int))=True:=eq_true (by omega)
  have h2:(p+1≤(l.length:Int))=True:=eq_true (by omega)
  refine AM Hi Fb (of_decide_eq_true rfl) ?_
  simp (disch:=omega) only [Fa,go_sem,Ab,hg,hi,h1,h2]
  rw [hQ]
  exact ⟨_,_,rfl,hb⟩
 ·have h1:(p<(l.length:Int))=False:=eq_false (by omega)
  have h2:(p+1≤(l.length:Int))=False:=eq_false (by omega)
  have hb:=fun a=>Qar a
  have hi:∀ a,dec (inK .i64 (bits .and .u64 a 255))=true:=fun a=>Er (by have:=hb a; omega) (by have:=hb a; omega)
  refine AM Hi Fb (of_decide_eq_true rfl) ?_
  simp (disch:=omega) only [Fa,go_sem,Ab,hi,h1,h2]
  rw [hQ]
  exact ⟨_,_,rfl,hb _⟩
theorem CS (l:List Int) (hl:Bytes l) (hn:l.length≤1099511627776) (n:Int) (h1:1≤n) (h2:n≤200) (p s:Int) (hp0:0≤p) (hp:p≤1099511627776):∃ v p' s',E 28 [.ptr 0 0,.int .i64 n] [cur l p s]=some (.int .i64 v,[cur l p' s'])∧(0≤v∧v<n)∧p≤p'∧p'≤p+1:=by
 by_cases hn1:n≤1
 ·refine ⟨0,p,s,?_,by omega,by omega,by omega⟩
  have q1:(n≤1)=True:=eq_true hn1
  refine Al Hj Am (of_decide_eq_true rfl) ?_
  simp (disch:=omega) only [Fc,go_sem,Ab,q1]
 ·obtain ⟨v,s',hv,hv1,hv2⟩:=YQ l hl hn p s hp0 hp
  have hm1:=Int.emod_nonneg v (show n≠0 by omega)
  have hm2:=Int.emod_lt_of_pos v (show 0<n by omega)
  have hm3:v.tmod n=v % n:=yN hv1
  refine ⟨v.tmod n,p+1,s',?_,by omega,by omega,by omega⟩
  have q1:(n≤1)=False:=eq_false hn1
  have q2:(200<n)=False:=eq_false (by omega)
  have q3:(n=0)=False:=eq_false (by omega)
  refine Al Hj Am (of_decide_eq_true rfl) ?_
  simp (disch:=omega) only [Fc,go_sem,Ab,q1,q2,q3,hv,Fb]
theorem JT (l:List Int) (hl:Bytes l) (hn:l.length≤1099511627776) (n:Int) (h1:1≤n) (h2:n≤200) (p s:Int) (hp0:0≤p) (hp:p≤1099511627776):∃ b p' s',E 29 [.ptr 0 0,.int .i64 n] [cur l p s]=some (.bool b,[cur l p' s'])∧p≤p'∧p'≤p+1:=by
 obtain ⟨v,p',s',hv,_,h3,h4⟩:=CS l hl hn n h1 h2 p s hp0 hp
 refine ⟨dec (v=0),p',s',?_,h3,h4⟩
 refine Al LS A2 (of_decide_eq_true rfl) ?_
 simp (disch:=omega) only [HS,go_sem,Ab,hv,Am]
theorem R9 (l:List Int) (hl:Bytes l) (hn:l.length≤1099511627776) (xs:List ByteArray) (h1:1≤xs.length) (h2:xs.length≤200) (p s:Int) (hp0:0≤p) (hp:p≤1099511627776):∃ x p' s',E 37 [.ptr 0 0,.arr (xs.map fun s=>[D.str s])] [cur l p s]=some (.str x,[cur l p' s'])∧x∈xs∧p≤p'∧p'≤p+1:=by
 obtain ⟨v,p',s',hv,⟨hv0,hv1⟩,h3,h4⟩:=CS l hl hn xs.length (by omega) (by omega) p s hp0 hp
 have hg:=get_at (fun s=>[D.str s]) (show v.toNat<xs.length by omega)
 refine ⟨xs[v.toNat],p',s',?_,zE _,h3,h4⟩
 refine Al ML Ax (of_decide_eq_true rfl) ?_
 simp (disch:=omega) only [IA,go_sem,Ab,hv,hg,Am]
theorem Le (l:List Int) (hl:Bytes l) (hn:l.length≤1099511627776) (xs:List Int) (h1:1≤xs.length) (h2:xs.length≤200) (p s:Int) (hp0:0≤p) (hp:p≤1099511627776):∃ x p' s',E 36 [.ptr 0 0,.arr (xs.map fun n=>[D.int n])] [cur l p s]=some (.int .i64 x,[cur l p' s'])∧x∈xs∧p≤p'∧p'≤p+1:=by
 obtain ⟨v,p',s',hv,⟨hv0,hv1⟩,h3,h4⟩:=CS l hl hn xs.length (by omega) (by omega) p s hp0 hp
 have hg:=get_at (fun n=>[D.int n]) (show v.toNat<xs.length by omega)
 refine ⟨xs[v.toNat],p',s',?_,zE _,h3,h4⟩
 refine Al K4 AV (of_decide_eq_true rfl) ?_
 simp (disch:=omega) only [GE,go_sem,Ab,hv,hg,Am]
theorem Tm.P6 {x:Tm} (h:x.names=true) (hv:Cc x.name=true):x.args=[]:=by
 rw [Tm.Lc,if_pos hv] at h
 exact zC (by simpa using h)
theorem Tm.LT {x:Tm} (h:x.names=true) {y:Tm} (hy:y∈x.args):y.names=true:=by
 rw [Tm.Lc] at h
 split at h
 ·have:x.args=[]:=zC (by simpa using h)
  rw [this] at hy; cases hy
 ·rw [zA,Tm.JB,zL] at h
  exact h.2 y hy
def M6:SC:=(.seq (.reg [⟨some 1,none,.boxv 30 2 (.t 0)⟩,⟨some 2,none,.mv (.c (.int .i64 0))⟩]) (.seq (.reg [⟨some 3,none,.mv (.c (.int .i64 1))⟩]) (.seq (.seq (.reg [⟨some 6,none,.faddr 1 (.t 1)⟩,⟨some 7,none,.load false 1 (.t 6)⟩,⟨some 8,none,.len false (.t 7)⟩,⟨some 9,none,.mv (.c (.int .i64 0))⟩]) (.block 0 (.loop [0,0,0,1,0,0,0,1,1,1,0,0,0,0,0,0,0,0,0,0,0,0] (.seq (.reg [⟨some 10,none,.bin .lss false (.t 9) (.t 8)⟩]) (.seq (.cond (.t 10) .skip (.exit 0)) (.seq (.block 1 (.seq (.reg [⟨some 11,none,.iaddr 2 (.t 7) (.t 9)⟩,⟨some 12,none,.load true 2 (.t 11)⟩,⟨(some 5),none,(.alloc 30 [(.str ⟨#[]⟩),.nil])⟩,⟨none,none,(.store 2 (.t 5) (.t 12))⟩]) (.seq (.seq (.reg [⟨some 13,none,.mv (.t 3)⟩,⟨some 14,none,.bin .gtr false (.t 13) (.c (.int .i64 30))⟩]) (.cond (.t 14) (.seq (.reg [⟨some 15,none,.mv (.t 3)⟩,⟨some 2,none,.mv (.t 15)⟩]) .ret) .skip)) (.reg [⟨some 16,none,.mv (.t 3)⟩,⟨some 17,none,.load true 2 (.t 5)⟩,⟨some 18,none,.call 124 [(.t 17)]⟩,⟨some 19,none,.bin .add false (.t 16) (.t 18)⟩,⟨some 3,none,.mv (.t 19)⟩])))) (.reg [⟨some 20,none,.bin .add false (.t 9) (.c (.int .i64 1))⟩,⟨some 9,none,.mv (.t 20)⟩]))))))) (.seq (.reg [⟨some 21,none,.mv (.t 3)⟩,⟨some 2,none,.mv (.t 21)⟩]) .ret))))
theorem RA:Aq Tryz.prog 124=some ⟨22,M6,[(.tmp 2)]⟩:=by kernel_rfl
theorem FS:modes 124=⟨[],.asis,none,false⟩:=by unfold modes; rfl
theorem YR (x:Tm) (hn:x.nodes≤1099511627776) (ih:∀ y∈x.args,E 124 [y.sv] []=some (.int .i64 y.cap,[])):E 124 [x.sv] []=some (.int .i64 x.cap,[]):=by
 have hl:=Tm.length_le x.args
 have hx:=Tm.nodes_eq x
 rw [Tm.cap_eq]
 refine Al RA FS (of_decide_eq_true rfl) ?_
 simp (disch:=omega) only [M6,go_sem,Ab]
 refine go_loop (α:=Int × Int) (fun a=>⟨slots 22 0 [(3,.int .i64 a.2),(7,.arr (x.args.map Tm.d)),(8,.int .i64 x.args.length),(9,.int .i64 a.1)],[]⟩) (fun a=>∃ k:Nat,a.1=k∧k≤x.args.length∧1≤a.2∧a.2+Tm.nodeS (x.args.drop k)≤x.nodes∧Tm.capL (x.args.drop k) a.2=Tm.capL x.args 1) (fun a=>x.args.length-a.1.toNat) (0,1) ⟨0,rfl,zU _,by dsimp only; omega,by rw [zQ]; dsimp only; omega,rfl⟩ (by simp (disch:=omega) only [go_sem,Ab]) ?_
 rintro ⟨i,n⟩ ⟨k,hi,hk,hn0,hn1,hs⟩
 dsimp only at hi hn0 hn1 hs
 have hni:i.toNat=k:=by omega
 rcases zH k x.args.length with hlt | hge
 ·have hg:=get_at Tm.d hlt
  rw [Tm.d_eq] at hg
  have hd:x.args.drop k=x.args[k] :: x.args.drop (k+1):=zF hlt
  have hc:=ih x.args[k] (zE hlt)
  have hp:=Tm.cap_spec x.args[k]
  rw [hd,Tm.capL] at hs
  rw [hd,Tm.nodeS] at hn1
  rcases yG 30 n with h30 | h30
  ·rw [if_pos h30] at hs
   simp (disch:=omega) only [go_sem,Ab,hni,hg,hc,FS]
   exact hs
  ·rw [if_neg (by omega)] at hs
   simp (disch:=omega) only [go_sem,Ab,hni,hg,hc,FS]
   refine ⟨(i+1,n+x.args[k].cap),⟨k+1,by dsimp only; omega,hlt,by dsimp only; omega,by dsimp only; omega,hs⟩,by dsimp only; omega,?_⟩
   simp only [and_self]
 ·have hd:x.args.drop k=[]:=zK hge
  rw [hd,Tm.capL] at hs
  simp (disch:=omega) only [go_sem,Ab,hni]
  exact hs
theorem WK (x:Tm) (hn:x.nodes≤1099511627776):E 124 [x.sv] []=some (.int .i64 x.cap,[]) :=
 YR x hn fun y hy=>WK y (by have:=Tm.nodes_mem hy; have:=Tm.nodes_eq x; omega)
termination_by SizeOf.sizeOf x
decreasing_by exact Tm.lt_of_mem hy
def JU:SC:=(.seq (.reg [⟨some 2,none,.boxv 30 2 (.t 0)⟩,⟨some 4,none,.mv (.c (.int .i64 0))⟩]) (.seq (.reg [⟨some 5,none,.mv (.c (.int .i64 1))⟩]) (.seq (.seq (.reg [⟨some 6,none,.mv (.c (.int .i64 0))⟩]) (.block 0 (.loop [0,1,1,0,0,1,1,0,0,0,0,0,0,0,0,0,0,0,0,0,0,0,0,0,0,0,0,0,0,0,0] (.seq (.seq (.reg [⟨some 7,none,.mv (.t 6)⟩,⟨some 8,none,.faddr 1 (.t 2)⟩,⟨some 9,none,.load false 1 (.t 8)⟩,⟨some 10,none,.len false (.t 9)⟩,⟨some 11,none,.bin .lss false (.t 7) (.t 10)⟩,⟨some 12,none,.mv (.t 11)⟩,⟨(some 13),(some (12,true)),(.mv (.t 5))⟩,⟨(some 14),(some (12,true)),(.mv (.t 1))⟩,⟨(some 15),(some (12,true)),(.bin .leq false (.t 13) (.t 14))⟩,⟨some 16,none,.pick (.t 12) (.t 15) (.c (.bool false))⟩]) (.cond (.t 16) .skip (.exit 0))) (.seq (.block 1 (.reg [⟨some 19,none,.mv (.t 5)⟩,⟨some 20,none,.faddr 1 (.t 2)⟩,⟨some 21,none,.load false 1 (.t 20)⟩,⟨some 22,none,.mv (.t 6)⟩,⟨some 23,none,.iaddr 2 (.t 21) (.t 22)⟩,⟨some 24,none,.load true 2 (.t 23)⟩,⟨some 25,none,.mv (.t 1)⟩,⟨some 26,none,.mv (.t 5)⟩,⟨some 27,none,.bin .sub false (.t 25) (.t 26)⟩,⟨some 28,none,.call 151 [(.t 24),(.t 27)]⟩,⟨some 29,none,.bin .add false (.t 19) (.t 28)⟩,⟨some 5,none,.mv (.t 29)⟩])) (.reg [⟨some 17,none,.mv (.t 6)⟩,⟨some 18,none,.bin .add false (.t 17) (.c (.int .i64 1))⟩,⟨some 6,none,.mv (.t 18)⟩])))))) (.seq (.reg [⟨some 30,none,.mv (.t 5)⟩,⟨some 4,none,.mv (.t 30)⟩]) .ret))))
theorem OH:Aq Tryz.prog 151=some ⟨31,JU,[(.tmp 4)]⟩:=by kernel_rfl
theorem E7:modes 151=⟨[],.asis,none,false⟩:=by unfold modes; rfl
theorem YS (x:Tm) (m:Int) (hm:0≤m) (hm1:m≤1099511627776) (hn:x.nodes≤1099511627776) (ih:∀ y∈x.args,∀ m:Int,0≤m→m≤1099511627776→E 151 [y.sv,.int .i64 m] []=some (.int .i64 (y.many m),[])):E 151 [x.sv,.int .i64 m] []=some (.int .i64 (x.many m),[]):=by
 have hl:=Tm.length_le x.args
 have hx:=Tm.nodes_eq x
 rw [Tm.many_eq]
 refine Al OH E7 (of_decide_eq_true rfl) ?_
 simp (disch:=omega) only [JU,go_sem,Ab]
 refine go_loop (α:=Int × Int) (fun a=>⟨slots 31 0 [(1,.int .i64 m),(2,.ptr 0 0),(5,.int .i64 a.2),(6,.int .i64 a.1)],[.box 30 [.str x.name,.arr (x.args.map Tm.d)]]⟩) (fun a=>∃ k:Nat,a.1=k∧k≤x.args.length∧1≤a.2∧a.2+Tm.nodeS (x.args.drop k)≤x.nodes∧Tm.manyL (x.args.drop k) m a.2=Tm.manyL x.args m 1) (fun a=>x.args.length-a.1.toNat) (0,1) ⟨0,rfl,zU _,by dsimp only; omega,by rw [zQ]; dsimp only; omega,rfl⟩ (by simp (disch:=omega) only [go_sem,Ab]) ?_
 rintro ⟨i,n⟩ ⟨k,hi,hk,hn0,hn1,hs⟩
 dsimp only at hi hn0 hn1 hs
 have hni:i.toNat=k:=by omega
 rcases zH k x.args.length with hlt | hge
 ·have hg:=get_at Tm.d hlt
  rw [Tm.d_eq] at hg
  have hd:x.args.drop k=x.args[k] :: x.args.drop (k+1):=zF hlt
  rw [hd,Tm.manyL] at hs
  rw [hd,Tm.nodeS] at hn1
  rcases yG m n with h30 | h30
  ·rw [if_neg (by omega)] at hs
   simp (disch:=omega) only [go_sem,Ab,hni,hg,E7]
   exact hs
  ·rw [if_pos h30] at hs
   have hc:=ih x.args[k] (zE hlt) (m-n) (by omega) (by omega)
   have hp:=Tm.many_spec x.args[k] (m-n)
   simp (disch:=omega) only [go_sem,Ab,hni,hg,hc,E7]
   refine ⟨(i+1,n+x.args[k].many (m-n)),⟨k+1,by dsimp only; omega,hlt,by dsimp only; omega,by dsimp only; omega,hs⟩,by dsimp only; omega,?_⟩
   simp only [and_self]
 ·have hd:x.args.drop k=[]:=zK hge
  rw [hd,Tm.manyL] at hs
  simp (disch:=omega) only [go_sem,Ab,hni]
  exact hs
theorem WL (x:Tm) (m:Int) (hm:0≤m) (hm1:m≤1099511627776) (hn:x.nodes≤1099511627776):E 151 [x.sv,.int .i64 m] []=some (.int .i64 (x.many m),[]) :=
 YS x m hm hm1 hn fun y hy m hm hm1=>WL y m hm hm1 (by have:=Tm.nodes_mem hy; have:=Tm.nodes_eq x; omega)
termination_by SizeOf.sizeOf x
decreasing_by exact Tm.lt_of_mem hy
def Lf:SC:=(.seq (.reg [⟨some 1,none,.boxv 30 2 (.t 0)⟩,⟨some 2,none,.mv (.c (.int .i64 0))⟩]) (.seq (.reg [⟨some 3,none,.mv (.c (.int .i64 0))⟩]) (.seq (.seq (.reg [⟨some 6,none,.faddr 1 (.t 1)⟩,⟨some 7,none,.load false 1 (.t 6)⟩,⟨some 8,none,.len false (.t 7)⟩,⟨some 9,none,.mv (.c (.int .i64 0))⟩]) (.block 0 (.loop [0,0,0,1,0,0,0,1,1,1,0,0,0,0,0,0,0,0,0,0] (.seq (.reg [⟨some 10,none,.bin .lss false (.t 9) (.t 8)⟩]) (.seq (.cond (.t 10) .skip (.exit 0)) (.seq (.block 1 (.seq (.reg [⟨some 11,none,.iaddr 2 (.t 7) (.t 9)⟩,⟨some 12,none,.load true 2 (.t 11)⟩,⟨(some 5),none,(.alloc 30 [(.str ⟨#[]⟩),.nil])⟩,⟨none,none,(.store 2 (.t 5) (.t 12))⟩]) (.reg [⟨some 13,none,.mv (.t 3)⟩,⟨some 14,none,.load true 2 (.t 5)⟩,⟨some 15,none,.call 125 [(.t 14)]⟩,⟨some 16,none,.minmax true (.t 13) (.t 15)⟩,⟨some 3,none,.mv (.t 16)⟩]))) (.reg [⟨some 17,none,.bin .add false (.t 9) (.c (.int .i64 1))⟩,⟨some 9,none,.mv (.t 17)⟩]))))))) (.seq (.reg [⟨some 18,none,.mv (.t 3)⟩,⟨some 19,none,.bin .add false (.t 18) (.c (.int .i64 1))⟩,⟨some 2,none,.mv (.t 19)⟩]) .ret))))
theorem Qw:Aq Tryz.prog 125=some ⟨20,Lf,[(.tmp 2)]⟩:=by kernel_rfl
theorem Gq:modes 125=⟨[],.asis,none,false⟩:=by unfold modes; rfl
def JV:SC:=(.seq (.reg [⟨some 4,none,.mv (.c (.int .i64 0))⟩]) (.seq (.seq (.reg [⟨some 5,none,.mv (.t 0)⟩,⟨some 6,none,.mv (.t 1)⟩,⟨some 7,none,.bin .gtr false (.t 5) (.t 6)⟩]) (.cond (.t 7) (.seq (.reg [⟨some 8,none,.mv (.t 0)⟩,⟨some 4,none,.mv (.t 8)⟩]) .ret) .skip)) (.seq (.reg [⟨some 9,none,.mv (.t 1)⟩,⟨some 4,none,.mv (.t 9)⟩]) .ret)))
theorem OI:Aq Tryz.prog 38=some ⟨10,JV,[(.tmp 4)]⟩:=by kernel_rfl
theorem JW:modes 38=⟨[],.asis,none,false⟩:=by unfold modes; rfl
def Jb:SC:=(.seq (.reg [⟨some 1,none,.boxv 30 2 (.t 0)⟩,⟨some 2,none,.mv (.c (.int .i64 0))⟩]) (.seq (.reg [⟨some 3,none,.mv (.c (.int .i64 0))⟩]) (.seq (.seq (.reg [⟨some 4,none,.mv (.c (.int .i64 0))⟩]) (.block 0 (.loop [0,1,0,1,1,0,0,0,0,0,0,0,0,0,0,0,0,0,0,0,0,0] (.seq (.seq (.reg [⟨some 5,none,.mv (.t 4)⟩,⟨some 6,none,.faddr 1 (.t 1)⟩,⟨some 7,none,.load false 1 (.t 6)⟩,⟨some 8,none,.len false (.t 7)⟩,⟨some 9,none,.bin .lss false (.t 5) (.t 8)⟩]) (.cond (.t 9) .skip (.exit 0))) (.seq (.block 1 (.reg [⟨some 12,none,.mv (.t 3)⟩,⟨some 13,none,.faddr 1 (.t 1)⟩,⟨some 14,none,.load false 1 (.t 13)⟩,⟨some 15,none,.mv (.t 4)⟩,⟨some 16,none,.iaddr 2 (.t 14) (.t 15)⟩,⟨some 17,none,.load true 2 (.t 16)⟩,⟨some 18,none,.call 152 [(.t 17)]⟩,⟨some 19,none,.call 38 [(.t 12),(.t 18)]⟩,⟨some 3,none,.mv (.t 19)⟩])) (.reg [⟨some 10,none,.mv (.t 4)⟩,⟨some 11,none,.bin .add false (.t 10) (.c (.int .i64 1))⟩,⟨some 4,none,.mv (.t 11)⟩])))))) (.seq (.reg [⟨some 20,none,.mv (.t 3)⟩,⟨some 21,none,.bin .add false (.t 20) (.c (.int .i64 1))⟩,⟨some 2,none,.mv (.t 21)⟩]) .ret))))
theorem NV:Aq Tryz.prog 152=some ⟨22,Jb,[(.tmp 2)]⟩:=by kernel_rfl
theorem Fd:modes 152=⟨[],.asis,none,false⟩:=by unfold modes; rfl
theorem WM (a b:Int):E 38 [.int .i64 a,.int .i64 b] []=some (.int .i64 (max a b),[]):=by
 refine Al OI JW (of_decide_eq_true rfl) ?_
 simp (disch:=omega) only [JV,go_sem,Ab]
 repeat' (refine R4 (fun hq=>?_) (fun hq=>?_) <;> (first | replace hq:=Ar.1 hq | replace hq:=EU.1 hq) <;> (try simp (disch:=omega) only [go_sem,Ab]))
 all_goals omega
theorem WN (x:Tm) (hn:x.nodes≤1099511627776) (ih:∀ y∈x.args,E 125 [y.sv] []=some (.int .i64 y.deep,[])):E 125 [x.sv] []=some (.int .i64 x.deep,[]):=by
 have hl:=Tm.length_le x.args
 have hx:=Tm.nodes_eq x
 have hd1:=Tm.Qu x
 have hd2:=Tm.Hx x
 refine Al Qw Gq (of_decide_eq_true rfl) ?_
 simp (disch:=omega) only [Lf,go_sem,Ab]
 refine go_loop (α:=Int × (Int)) (fun a=>⟨slots 20 0 [(3,.int .i64 (a.2)),(7,.arr (x.args.map Tm.d)),(8,.int .i64 x.args.length),(9,.int .i64 (a.1))],[]⟩) (fun a=>∃ k:Nat,a.1=k∧k≤(x.args).length∧0≤(a.2)∧max (a.2) (Tm.Hh (x.args.drop k):Nat)=(Tm.Hh x.args:Nat)) (fun a=>(x.args).length-(a.1).toNat) (0,0) ⟨0,rfl,zU _,by dsimp only; omega,by rw [zQ]; dsimp only; omega⟩ (by simp (disch:=omega) only [go_sem,Ab]) ?_
 rintro ⟨i,n⟩ ⟨k,hi,hk,hR⟩
 dsimp only at hi hR
 have hni:i.toNat=k:=by omega
 have hni1:(i+1).toNat=k+1:=by omega
 rcases zH k (x.args).length with hlt | hge
 ·have hg:=get_at Tm.d hlt
  rw [Tm.d_eq] at hg
  have hc:=ih x.args[k] (zE hlt)
  rw [zF hlt,Tm.Hh] at hR
  simp (disch:=omega) only [go_sem,Ab,hni,hg,hc,Gq,YP]
  refine ⟨(i+1,max n (x.args[k].deep:Int)),⟨k+1,by dsimp only; omega,hlt,by dsimp only; omega⟩,by dsimp only; omega,?_⟩
  simp only [and_self]
 ·rw [zK hge,Tm.Hh] at hR
  simp (disch:=omega) only [go_sem,Ab,hni]
  omega
theorem Ua (x:Tm) (hn:x.nodes≤1099511627776):E 125 [x.sv] []=some (.int .i64 x.deep,[]) :=
 WN x hn fun y hy=>Ua y (by have:=Tm.nodes_mem hy; have:=Tm.nodes_eq x; omega)
termination_by SizeOf.sizeOf x
decreasing_by exact Tm.lt_of_mem hy
theorem ST (x:Tm) (hn:x.nodes≤1099511627776) (ih:∀ y∈x.args,E 152 [y.sv] []=some (.int .i64 y.deep,[])):E 152 [x.sv] []=some (.int .i64 x.deep,[]):=by
 have hl:=Tm.length_le x.args
 have hx:=Tm.nodes_eq x
 have hd1:=Tm.Qu x
 have hd2:=Tm.Hx x
 refine Al NV Fd (of_decide_eq_true rfl) ?_
 simp (disch:=omega) only [Jb,go_sem,Ab]
 refine go_loop (α:=Int × (Int)) (fun a=>⟨slots 22 0 [(1,.ptr 0 0),(3,.int .i64 (a.2)),(4,.int .i64 (a.1))],[.box 30 [.str x.name,.arr (x.args.map Tm.d)]]⟩) (fun a=>∃ k:Nat,a.1=k∧k≤(x.args).length∧0≤(a.2)∧max (a.2) (Tm.Hh (x.args.drop k):Nat)=(Tm.Hh x.args:Nat)) (fun a=>(x.args).length-(a.1).toNat) (0,0) ⟨0,rfl,zU _,by dsimp only; omega,by rw [zQ]; dsimp only; omega⟩ (by simp (disch:=omega) only [go_sem,Ab]) ?_
 rintro ⟨i,n⟩ ⟨k,hi,hk,hR⟩
 dsimp only at hi hR
 have hni:i.toNat=k:=by omega
 have hni1:(i+1).toNat=k+1:=by omega
 rcases zH k (x.args).length with hlt | hge
 ·have hg:=get_at Tm.d hlt
  rw [Tm.d_eq] at hg
  have hc:=ih x.args[k] (zE hlt)
  rw [zF hlt,Tm.Hh] at hR
  simp (disch:=omega) only [go_sem,Ab,hni,hg,hc,Fd,WM,JW]
  refine ⟨(i+1,max n (x.args[k].deep:Int)),⟨k+1,by dsimp only; omega,hlt,by dsimp only; omega⟩,by dsimp only; omega,?_⟩
  simp only [and_self]
 ·rw [zK hge,Tm.Hh] at hR
  simp (disch:=omega) only [go_sem,Ab,hni]
  omega
theorem P7 (x:Tm) (hn:x.nodes≤1099511627776):E 152 [x.sv] []=some (.int .i64 x.deep,[]) :=
 ST x hn fun y hy=>P7 y (by have:=Tm.nodes_mem hy; have:=Tm.nodes_eq x; omega)
termination_by SizeOf.sizeOf x
decreasing_by exact Tm.lt_of_mem hy
def C8:SC:=(.seq (.reg [⟨some 4,none,.mv (.c (.int .i64 0))⟩]) (.seq (.seq (.reg [⟨some 6,none,.mv (.t 0)⟩,⟨some 7,none,.len false (.t 6)⟩,⟨some 8,none,.mv (.c (.int .i64 0))⟩]) (.block 0 (.loop [1,1,0,0,0,0,0,1,1,0,0,0,0,0,0,0,0,0,0] (.seq (.reg [⟨some 9,none,.bin .lss false (.t 8) (.t 7)⟩]) (.seq (.cond (.t 9) .skip (.exit 0)) (.seq (.block 1 (.seq (.reg [⟨some 10,none,.mv (.t 8)⟩,⟨some 5,none,.mv (.t 10)⟩]) (.seq (.reg [⟨some 11,none,.mv (.t 1)⟩,⟨some 12,none,.mv (.t 0)⟩,⟨some 13,none,.mv (.t 5)⟩,⟨some 14,none,.iaddr 2 (.t 12) (.t 13)⟩,⟨some 15,none,.load true 2 (.t 14)⟩,⟨some 16,none,.callv (.t 11) [(.t 15)]⟩]) (.cond (.t 16) (.seq (.reg [⟨some 17,none,.mv (.t 5)⟩,⟨some 4,none,.mv (.t 17)⟩]) .ret) .skip)))) (.reg [⟨some 18,none,.bin .add false (.t 8) (.c (.int .i64 1))⟩,⟨some 8,none,.mv (.t 18)⟩]))))))) (.seq (.reg [⟨some 4,none,.mv (.c (.int .i64 (-(0+1))))⟩]) .ret)))
theorem Ee:Aq Tryz.prog 145=some ⟨19,C8,[(.tmp 4)]⟩:=by kernel_rfl
theorem C9:modes 145=⟨[],.asis,none,false⟩:=by unfold modes; rfl
def Ct:SC:=(.seq (.reg [⟨some 4,none,.mv (.c (.bool false))⟩]) (.seq (.reg [⟨some 5,none,.mv (.t 0)⟩,⟨some 6,none,.mv (.t 1)⟩,⟨some 7,none,.call 145 [(.t 5),(.t 6)]⟩,⟨some 8,none,.bin .geq false (.t 7) (.c (.int .i64 0))⟩,⟨some 4,none,.mv (.t 8)⟩]) .ret))
theorem DJ:Aq Tryz.prog 126=some ⟨9,Ct,[(.tmp 4)]⟩:=by kernel_rfl
theorem Cu:modes 126=⟨[],.asis,none,false⟩:=by unfold modes; rfl
theorem MM (fid:Nat) (p:Tm→Bool) (xs:List Tm) (hl:xs.length≤1099511627776) (hg:IG Tryz.prog fid=true) (hm:(modes fid).hand=[]) (hE:∀ x∈xs,E fid [x.sv] []=some (.bool (p x),[])):E 145 [.arr (xs.map Tm.d),.fn fid []] []=some (.int .i64 (Cw p xs 0),[]):=by
 refine Al Ee C9 (of_decide_eq_true rfl) ?_
 simp (disch:=omega) only [C8,go_sem,Ab]
 refine go_loop (α:=Int) (fun a=>⟨slots 19 0 [(0,.arr (xs.map Tm.d)),(1,.fn fid []),(7,.int .i64 xs.length),(8,.int .i64 a)],[]⟩) (fun a=>∃ k:Nat,a=k∧k≤(xs).length∧Cw p (xs.drop k) a=Cw p xs 0) (fun a=>(xs).length-(a).toNat) 0 ⟨0,rfl,zU _,by rw [zQ]⟩ (by simp (disch:=omega) only [go_sem,Ab]) ?_
 rintro i ⟨k,hi,hk,hR⟩
 have hni:i.toNat=k:=by omega
 have hni1:(i+1).toNat=k+1:=by omega
 rcases zH k (xs).length with hlt | hge
 ·have hg':=get_at Tm.d hlt
  rw [Tm.d_eq] at hg'
  have hc:=hE xs[k] (zE hlt)
  rw [zF hlt,Cw] at hR
  cases hp:p xs[k] with
  | true =>
   rw [hp] at hc hR
   simp (disch:=omega) only [go_sem,Ab,hni,hg',hc,hg,hm]
   simpa using hR
  | false =>
   rw [hp] at hc hR
   simp (disch:=omega) only [go_sem,Ab,hni,hg',hc,hg,hm]
   exact ⟨i+1,⟨k+1,by omega,hlt,by simpa using hR⟩,by omega,by first | trivial | rfl⟩
 ·rw [zK hge,Cw] at hR
  simp (disch:=omega) only [go_sem,Ab,hni]
  exact hR
theorem K5 (fid:Nat) (p:Tm→Bool) (xs:List Tm) (hl:xs.length≤1099511627776) (hg:IG Tryz.prog fid=true) (hm:(modes fid).hand=[]) (hE:∀ x∈xs,E fid [x.sv] []=some (.bool (p x),[])):E 126 [.arr (xs.map Tm.d),.fn fid []] []=some (.bool (xs.any p),[]):=by
 have h:=MM fid p xs hl hg hm hE
 refine Al DJ Cu (of_decide_eq_true rfl) ?_
 simp (disch:=omega) only [Ct,go_sem,Ab,h,C9]
 rw [EZ]
def DK:SC:=(.seq (.reg [⟨some 1,none,.boxv 30 2 (.t 0)⟩,⟨some 2,none,.mv (.c (.bool false))⟩]) (.seq (.seq (.reg [⟨some 3,none,.faddr 0 (.t 1)⟩,⟨some 4,none,.load false 1 (.t 3)⟩,⟨some 5,none,.call 42 [(.t 4)]⟩]) (.cond (.t 5) (.seq (.reg [⟨some 6,none,.faddr 1 (.t 1)⟩,⟨some 7,none,.load false 1 (.t 6)⟩,⟨some 8,none,.len false (.t 7)⟩,⟨some 9,none,.bin .eql false (.t 8) (.c (.int .i64 0))⟩,⟨some 2,none,.mv (.t 9)⟩]) .ret) .skip)) (.seq (.reg [⟨some 10,none,.faddr 0 (.t 1)⟩,⟨some 11,none,.load false 1 (.t 10)⟩,⟨some 12,none,.call 80 [(.t 11)]⟩,⟨some 13,none,.mv (.t 12)⟩,⟨(some 14),(some (13,true)),(.faddr 1 (.t 1))⟩,⟨(some 15),(some (13,true)),(.load false 1 (.t 14))⟩,⟨(some 16),(some (13,true)),(.len false (.t 15))⟩,⟨(some 17),(some (13,true)),(.bin .leq false (.t 16) (.c (.int .i64 4)))⟩,⟨some 18,none,.pick (.t 13) (.t 17) (.c (.bool false))⟩,⟨some 19,none,.mv (.t 18)⟩,⟨(some 20),(some (19,true)),(.faddr 1 (.t 1))⟩,⟨(some 21),(some (19,true)),(.load false 1 (.t 20))⟩,⟨(some 22),(some (19,true)),(.call 126 [(.t 21),(.c (.fn 127 []))])⟩,⟨(some 23),(some (19,true)),(.un .not (.t 22))⟩,⟨some 24,none,.pick (.t 19) (.t 23) (.c (.bool false))⟩,⟨some 2,none,.mv (.t 24)⟩]) .ret)))
theorem EF:Aq Tryz.prog 109=some ⟨25,DK,[(.tmp 2)]⟩:=by kernel_rfl
theorem Bw:modes 109=⟨[],.asis,none,false⟩:=by unfold modes; rfl
def Hk:SC:=(.seq (.reg [⟨some 1,none,.boxv 30 2 (.t 0)⟩,⟨some 2,none,.mv (.c (.bool false))⟩]) (.seq (.reg [⟨some 3,none,.load true 2 (.t 1)⟩,⟨some 4,none,.call 109 [(.t 3)]⟩,⟨some 5,none,.un .not (.t 4)⟩,⟨some 2,none,.mv (.t 5)⟩]) .ret))
theorem Lg:Aq Tryz.prog 127=some ⟨6,Hk,[(.tmp 2)]⟩:=by kernel_rfl
theorem Hm:modes 127=⟨[],.asis,none,false⟩:=by unfold modes; rfl
theorem Lh:IG Tryz.prog 127=true:=by kernel_rfl
theorem Tm.any_not (xs:List Tm):(!xs.any fun y=>!y.names)=Tm.GD xs:=by
 rw [Tm.JB]
 induction xs with
 | nil=>rfl
 | cons x xs ih=>simp only [yJ,yQ,Bool.not_or,Bool.not_not,ih]
theorem RB (x:Tm) (hn:x.nodes≤1099511627776) (ih:∀ y∈x.args,E 109 [y.sv] []=some (.bool y.names,[])):E 109 [x.sv] []=some (.bool x.names,[]):=by
 have hl:=Tm.length_le x.args
 have hx:=Tm.nodes_eq x
 have h1:∀ y∈x.args,E 127 [y.sv] []=some (.bool (!y.names),[]):=fun y hy=>by
  have h:=ih y hy
  refine Al Lg Hm (of_decide_eq_true rfl) ?_
  simp (disch:=omega) only [Hk,go_sem,Ab,h,Bw]
 have h2:=K5 127 (fun y=>!y.names) x.args (by omega) Lh (by rw [Hm]) h1
 rw [Tm.Lc,← Tm.any_not]
 cases hv:Cc x.name with
 | true =>
  have h3:=Dg x.name
  rw [hv] at h3
  refine Al EF Bw (of_decide_eq_true rfl) ?_
  simp (disch:=omega) only [DK,go_sem,Ab,h3,Ae]
  rw [IR]; cases x.args <;> simp <;> omega
 | false =>
  have h3:=Dg x.name
  rw [hv] at h3
  have h4:=K2 x.name
  cases hs:Ez x.name with
  | false =>
   rw [hs] at h4
   refine Al EF Bw (of_decide_eq_true rfl) ?_
   simp (disch:=omega) only [DK,go_sem,Ab,h2,h3,h4,Ae,Bj]
  | true =>
   rw [hs] at h4
   rcases zH 4 x.args.length with h5 | h5
   ·refine Al EF Bw (of_decide_eq_true rfl) ?_
    simp (disch:=omega) only [DK,go_sem,Ab,h2,h3,h4,Ae,Bj]
    simp; omega
   ·refine Al EF Bw (of_decide_eq_true rfl) ?_
    simp (disch:=omega) only [DK,go_sem,Ab,h2,h3,h4,Ae,Bj,Cu]
    simp [h5]
theorem Im (x:Tm) (hn:x.nodes≤1099511627776):E 109 [x.sv] []=some (.bool x.names,[]) :=
 RB x hn fun y hy=>Im y (by have:=Tm.nodes_mem hy; have:=Tm.nodes_eq x; omega)
termination_by SizeOf.sizeOf x
decreasing_by exact Tm.lt_of_mem hy
def Ef:SC:=(.seq (.reg [⟨some 1,none,.boxv 30 2 (.t 0)⟩,⟨some 2,none,.mv (.c (.bool false))⟩]) (.seq (.seq (.reg [⟨some 4,none,.faddr 0 (.t 1)⟩,⟨some 5,none,.load false 1 (.t 4)⟩,⟨some 6,none,.call 62 [(.t 5)]⟩]) (.cond (.t 6) (.seq (.reg [⟨some 7,none,.faddr 1 (.t 1)⟩,⟨some 8,none,.load false 1 (.t 7)⟩,⟨some 9,none,.len false (.t 8)⟩,⟨some 10,none,.bin .eql false (.t 9) (.c (.int .i64 0))⟩,⟨some 2,none,.mv (.t 10)⟩]) .ret) .skip)) (.seq (.seq (.reg [⟨some 11,none,.faddr 0 (.t 1)⟩,⟨some 12,none,.load false 1 (.t 11)⟩,⟨some 13,none,.call 95 [(.t 12)]⟩,⟨some 14,none,.un .not (.t 13)⟩,⟨some 15,none,.mv (.t 14)⟩,⟨(some 16),(some (15,false)),(.faddr 1 (.t 1))⟩,⟨(some 17),(some (15,false)),(.load false 1 (.t 16))⟩,⟨(some 18),(some (15,false)),(.len false (.t 17))⟩,⟨(some 19),(some (15,false)),(.bin .gtr false (.t 18) (.c (.int .i64 4)))⟩,⟨some 20,none,.pick (.t 15) (.c (.bool true)) (.t 19)⟩]) (.cond (.t 20) (.seq (.reg [⟨some 2,none,.mv (.c (.bool false))⟩]) .ret) .skip)) (.seq (.seq (.reg [⟨some 3,none,.mv (.c (.int .i64 0))⟩]) (.block 0 (.loop [0,1,0,1,0,0,0,0,0,0,0,0,0,0,0,0,0,0,0,0,0,0,0,0,0,0,0,0,0,0,0,0,0,0,0] (.seq (.seq (.reg [⟨some 21,none,.mv (.t 3)⟩,⟨some 22,none,.faddr 1 (.t 1)⟩,⟨some 23,none,.load false 1 (.t 22)⟩,⟨some 24,none,.len false (.t 23)⟩,⟨some 25,none,.bin .lss false (.t 21) (.t 24)⟩]) (.cond (.t 25) .skip (.exit 0))) (.seq (.block 1 (.seq (.reg [⟨some 28,none,.faddr 1 (.t 1)⟩,⟨some 29,none,.load false 1 (.t 28)⟩,⟨some 30,none,.mv (.t 3)⟩,⟨some 31,none,.iaddr 2 (.t 29) (.t 30)⟩,⟨some 32,none,.load true 2 (.t 31)⟩,⟨some 33,none,.call 142 [(.t 32)]⟩,⟨some 34,none,.un .not (.t 33)⟩]) (.cond (.t 34) (.seq (.reg [⟨some 2,none,.mv (.c (.bool false))⟩]) .ret) .skip))) (.reg [⟨some 26,none,.mv (.t 3)⟩,⟨some 27,none,.bin .add false (.t 26) (.c (.int .i64 1))⟩,⟨some 3,none,.mv (.t 27)⟩])))))) (.seq (.reg [⟨some 2,none,.mv (.c (.bool true))⟩]) .ret)))))
theorem Fe:Aq Tryz.prog 142=some ⟨35,Ef,[(.tmp 2)]⟩:=by kernel_rfl
theorem Bx:modes 142=⟨[],.asis,none,false⟩:=by unfold modes; rfl
theorem SU (x:Tm) (hn:x.nodes≤1099511627776) (ih:∀ y∈x.args,E 142 [y.sv] []=some (.bool y.names,[])):E 142 [x.sv] []=some (.bool x.names,[]):=by
 have hl:=Tm.length_le x.args
 have hx:=Tm.nodes_eq x
 have h3:=EY x.name
 have h4:=K3 x.name
 rw [Tm.Lc]
 cases hv:Cc x.name with
 | true =>
  rw [hv] at h3
  refine Al Fe Bx (of_decide_eq_true rfl) ?_
  simp (disch:=omega) only [Ef,go_sem,Ab,h3,An]
  rw [IR]; cases x.args <;> simp <;> omega
 | false =>
  rw [hv] at h3
  cases hs:Ez x.name with
  | false =>
   rw [hs] at h4
   refine Al Fe Bx (of_decide_eq_true rfl) ?_
   simp (disch:=omega) only [Ef,go_sem,Ab,h3,h4,An,AN]
  | true =>
   rw [hs] at h4
   rcases zH 4 x.args.length with h5 | h5
   ·refine Al Fe Bx (of_decide_eq_true rfl) ?_
    simp (disch:=omega) only [Ef,go_sem,Ab,h3,h4,An,AN]
    simp; omega
   ·refine Al Fe Bx (of_decide_eq_true rfl) ?_
    simp (disch:=omega) only [Ef,go_sem,Ab,h3,h4,An,AN]
    refine go_loop (α:=Int) (fun a=>⟨slots 35 0 [(1,.ptr 0 0),(3,.int .i64 a)],[.box 30 [.str x.name,.arr (x.args.map Tm.d)]]⟩) (fun a=>∃ k:Nat,a=k∧k≤(x.args).length∧Tm.GD (x.args.drop k)=Tm.GD x.args) (fun a=>(x.args).length-(a).toNat) 0 ⟨0,rfl,zU _,by rw [zQ]⟩ (by simp (disch:=omega) only [go_sem,Ab]) ?_
    rintro i ⟨k,hi,hk,hR⟩
    have hni:i.toNat=k:=by omega
    have hni1:(i+1).toNat=k+1:=by omega
    rcases zH k (x.args).length with hlt | hge
    ·have hg:=get_at Tm.d hlt
     rw [Tm.d_eq] at hg
     have hc:=ih x.args[k] (zE hlt)
     rw [zF hlt,Tm.GD] at hR
     cases hp:x.args[k].names with
     | true =>
      rw [hp] at hc hR
      simp (disch:=omega) only [go_sem,Ab,hni,hg,hc,Bx]
      exact ⟨i+1,⟨k+1,by omega,hlt,by simpa using hR⟩,by omega,by first | trivial | rfl⟩
     | false =>
      rw [hp] at hc hR
      simp (disch:=omega) only [go_sem,Ab,hni,hg,hc,Bx]
      simp at hR ⊢; exact fun _=>hR
    ·rw [zK hge,Tm.GD] at hR
     simp (disch:=omega) only [go_sem,Ab,hni]
     simp [h5,← hR]
theorem JC (x:Tm) (hn:x.nodes≤1099511627776):E 142 [x.sv] []=some (.bool x.names,[]) :=
 SU x hn fun y hy=>JC y (by have:=Tm.nodes_mem hy; have:=Tm.nodes_eq x; omega)
termination_by SizeOf.sizeOf x
decreasing_by exact Tm.lt_of_mem hy
def GF:SC:=(.seq (.reg [⟨some 1,none,.boxv 30 2 (.t 0)⟩,⟨some 2,none,.mv (.c (.bool false))⟩]) (.seq (.reg [⟨some 3,none,.load true 2 (.t 1)⟩,⟨some 4,none,.call 124 [(.t 3)]⟩,⟨some 5,none,.bin .leq false (.t 4) (.c (.int .i64 30))⟩,⟨some 6,none,.mv (.t 5)⟩,⟨(some 7),(some (6,true)),(.load true 2 (.t 1))⟩,⟨(some 8),(some (6,true)),(.call 125 [(.t 7)])⟩,⟨(some 9),(some (6,true)),(.bin .leq false (.t 8) (.c (.int .i64 8)))⟩,⟨some 10,none,.pick (.t 6) (.t 9) (.c (.bool false))⟩,⟨some 2,none,.mv (.t 10)⟩]) .ret))
theorem Jc:Aq Tryz.prog 108=some ⟨11,GF,[(.tmp 2)]⟩:=by kernel_rfl
theorem BW:modes 108=⟨[],.asis,none,false⟩:=by unfold modes; rfl
def Hy:SC:=(.seq (.reg [⟨some 1,none,.boxv 30 2 (.t 0)⟩,⟨some 2,none,.mv (.c (.bool false))⟩]) (.seq (.reg [⟨some 3,none,.load true 2 (.t 1)⟩,⟨some 4,none,.call 151 [(.t 3),(.c (.int .i64 30))]⟩,⟨some 5,none,.bin .leq false (.t 4) (.c (.int .i64 30))⟩,⟨some 6,none,.mv (.t 5)⟩,⟨(some 7),(some (6,true)),(.load true 2 (.t 1))⟩,⟨(some 8),(some (6,true)),(.call 152 [(.t 7)])⟩,⟨(some 9),(some (6,true)),(.bin .leq false (.t 8) (.c (.int .i64 8)))⟩,⟨some 10,none,.pick (.t 6) (.t 9) (.c (.bool false))⟩,⟨some 2,none,.mv (.t 10)⟩]) .ret))
theorem JX:Aq Tryz.prog 141=some ⟨11,Hy,[(.tmp 2)]⟩:=by kernel_rfl
theorem Co:modes 141=⟨[],.asis,none,false⟩:=by unfold modes; rfl
def EN:SC:=(.seq (.reg [⟨some 1,none,.boxv 30 2 (.t 0)⟩,⟨some 2,none,.mv (.c (.bool false))⟩]) (.seq (.reg [⟨some 3,none,.load true 2 (.t 1)⟩,⟨some 4,none,.call 108 [(.t 3)]⟩,⟨some 5,none,.mv (.t 4)⟩,⟨(some 6),(some (5,true)),(.load true 2 (.t 1))⟩,⟨(some 7),(some (5,true)),(.call 109 [(.t 6)])⟩,⟨some 8,none,.pick (.t 5) (.t 7) (.c (.bool false))⟩,⟨some 2,none,.mv (.t 8)⟩]) .ret))
theorem GG:Aq Tryz.prog 110=some ⟨9,EN,[(.tmp 2)]⟩:=by kernel_rfl
theorem BM:modes 110=⟨[],.asis,none,false⟩:=by unfold modes; rfl
def Hz:SC:=(.seq (.reg [⟨some 1,none,.boxv 30 2 (.t 0)⟩,⟨some 2,none,.mv (.c (.bool false))⟩]) (.seq (.reg [⟨some 3,none,.load true 2 (.t 1)⟩,⟨some 4,none,.call 141 [(.t 3)]⟩,⟨some 5,none,.mv (.t 4)⟩,⟨(some 6),(some (5,true)),(.load true 2 (.t 1))⟩,⟨(some 7),(some (5,true)),(.call 142 [(.t 6)])⟩,⟨some 8,none,.pick (.t 5) (.t 7) (.c (.bool false))⟩,⟨some 2,none,.mv (.t 8)⟩]) .ret))
theorem JY:Aq Tryz.prog 143=some ⟨9,Hz,[(.tmp 2)]⟩:=by kernel_rfl
theorem CO:modes 143=⟨[],.asis,none,false⟩:=by unfold modes; rfl
def Hn:SC:=(.seq (.reg [⟨some 1,none,.boxv 30 2 (.t 0)⟩,⟨some 2,none,.mv (.c (.bool false))⟩]) (.seq (.reg [⟨some 3,none,.faddr 0 (.t 1)⟩,⟨some 4,none,.load false 1 (.t 3)⟩,⟨(some 5),none,(.bin .eql false (.t 4) (.c (.str ⟨#[61]⟩)))⟩,⟨some 2,none,.mv (.t 5)⟩]) .ret))
theorem Li:Aq Tryz.prog 88=some ⟨6,Hn,[(.tmp 2)]⟩:=by kernel_rfl
theorem Bs:modes 88=⟨[],.asis,none,false⟩:=by unfold modes; rfl
def Cb:SC:=(.seq (.reg [⟨some 1,none,.boxv 30 2 (.t 0)⟩,⟨some 2,none,.mv (.c (.bool false))⟩]) (.seq (.seq (.reg [⟨some 3,none,.load true 2 (.t 1)⟩,⟨some 4,none,.call 88 [(.t 3)]⟩]) (.cond (.t 4) (.seq (.reg [⟨some 5,none,.faddr 1 (.t 1)⟩,⟨some 6,none,.load false 1 (.t 5)⟩,⟨some 7,none,.len false (.t 6)⟩,⟨some 8,none,.bin .eql false (.t 7) (.c (.int .i64 2))⟩,⟨some 9,none,.mv (.t 8)⟩,⟨(some 10),(some (9,true)),(.load true 2 (.t 1))⟩,⟨(some 11),(some (9,true)),(.call 108 [(.t 10)])⟩,⟨some 12,none,.pick (.t 9) (.t 11) (.c (.bool false))⟩,⟨some 13,none,.mv (.t 12)⟩,⟨(some 14),(some (13,true)),(.faddr 1 (.t 1))⟩,⟨(some 15),(some (13,true)),(.load false 1 (.t 14))⟩,⟨(some 16),(some (13,true)),(.iaddr 2 (.t 15) (.c (.int .i64 0)))⟩,⟨(some 17),(some (13,true)),(.load true 2 (.t 16))⟩,⟨(some 18),(some (13,true)),(.call 109 [(.t 17)])⟩,⟨some 19,none,.pick (.t 13) (.t 18) (.c (.bool false))⟩,⟨some 20,none,.mv (.t 19)⟩,⟨(some 21),(some (20,true)),(.faddr 1 (.t 1))⟩,⟨(some 22),(some (20,true)),(.load false 1 (.t 21))⟩,⟨(some 23),(some (20,true)),(.iaddr 2 (.t 22) (.c (.int .i64 1)))⟩,⟨(some 24),(some (20,true)),(.load true 2 (.t 23))⟩,⟨(some 25),(some (20,true)),(.call 109 [(.t 24)])⟩,⟨some 26,none,.pick (.t 20) (.t 25) (.c (.bool false))⟩,⟨some 2,none,.mv (.t 26)⟩]) .ret) .skip)) (.seq (.reg [⟨some 27,none,.faddr 0 (.t 1)⟩,⟨some 28,none,.load false 1 (.t 27)⟩,⟨some 29,none,.call 80 [(.t 28)]⟩,⟨some 30,none,.mv (.t 29)⟩,⟨(some 31),(some (30,true)),(.load true 2 (.t 1))⟩,⟨(some 32),(some (30,true)),(.call 110 [(.t 31)])⟩,⟨some 33,none,.pick (.t 30) (.t 32) (.c (.bool false))⟩,⟨some 2,none,.mv (.t 33)⟩]) .ret)))
theorem Cz:Aq Tryz.prog 85=some ⟨34,Cb,[(.tmp 2)]⟩:=by kernel_rfl
theorem Ad:modes 85=⟨[],.asis,none,false⟩:=by unfold modes; rfl
def Dp:SC:=(.seq (.reg [⟨some 1,none,.boxv 30 2 (.t 0)⟩,⟨some 2,none,.mv (.c (.bool false))⟩]) (.seq (.seq (.reg [⟨some 3,none,.faddr 0 (.t 1)⟩,⟨some 4,none,.load false 1 (.t 3)⟩,⟨(some 5),none,(.bin .eql false (.t 4) (.c (.str ⟨#[61]⟩)))⟩]) (.cond (.t 5) (.seq (.reg [⟨some 6,none,.faddr 1 (.t 1)⟩,⟨some 7,none,.load false 1 (.t 6)⟩,⟨some 8,none,.len false (.t 7)⟩,⟨some 9,none,.bin .eql false (.t 8) (.c (.int .i64 2))⟩,⟨some 10,none,.mv (.t 9)⟩,⟨(some 11),(some (10,true)),(.load true 2 (.t 1))⟩,⟨(some 12),(some (10,true)),(.call 141 [(.t 11)])⟩,⟨some 13,none,.pick (.t 10) (.t 12) (.c (.bool false))⟩,⟨some 14,none,.mv (.t 13)⟩,⟨(some 15),(some (14,true)),(.faddr 1 (.t 1))⟩,⟨(some 16),(some (14,true)),(.load false 1 (.t 15))⟩,⟨(some 17),(some (14,true)),(.iaddr 2 (.t 16) (.c (.int .i64 0)))⟩,⟨(some 18),(some (14,true)),(.load true 2 (.t 17))⟩,⟨(some 19),(some (14,true)),(.call 142 [(.t 18)])⟩,⟨some 20,none,.pick (.t 14) (.t 19) (.c (.bool false))⟩,⟨some 21,none,.mv (.t 20)⟩,⟨(some 22),(some (21,true)),(.faddr 1 (.t 1))⟩,⟨(some 23),(some (21,true)),(.load false 1 (.t 22))⟩,⟨(some 24),(some (21,true)),(.iaddr 2 (.t 23) (.c (.int .i64 1)))⟩,⟨(some 25),(some (21,true)),(.load true 2 (.t 24))⟩,⟨(some 26),(some (21,true)),(.call 142 [(.t 25)])⟩,⟨some 27,none,.pick (.t 21) (.t 26) (.c (.bool false))⟩,⟨some 2,none,.mv (.t 27)⟩]) .ret) .skip)) (.seq (.reg [⟨some 28,none,.faddr 0 (.t 1)⟩,⟨some 29,none,.load false 1 (.t 28)⟩,⟨some 30,none,.call 95 [(.t 29)]⟩,⟨some 31,none,.mv (.t 30)⟩,⟨(some 32),(some (31,true)),(.load true 2 (.t 1))⟩,⟨(some 33),(some (31,true)),(.call 143 [(.t 32)])⟩,⟨some 34,none,.pick (.t 31) (.t 33) (.c (.bool false))⟩,⟨some 2,none,.mv (.t 34)⟩]) .ret)))
theorem DO:Aq Tryz.prog 118=some ⟨35,Dp,[(.tmp 2)]⟩:=by kernel_rfl
theorem Ao:modes 118=⟨[],.asis,none,false⟩:=by unfold modes; rfl
theorem P8 (x:Tm) (hn:x.nodes≤1099511627776):E 108 [x.sv] []=some (.bool x.small,[]):=by
 have h1:=WK x hn
 have h2:=Ua x hn
 have h3:=Tm.cap_spec x
 have h4:=Tm.many_spec x 30
 unfold Tm.small
 rcases zH 30 x.nodes with h5 | h5
 ·rw [decide_eq_false (by omega),zR]
  refine Al Jc BW (of_decide_eq_true rfl) ?_
  simp (disch:=omega) only [GF,go_sem,Ab,h1,h2,FS,Gq]
 ·rw [decide_eq_true h5,zY]
  refine Al Jc BW (of_decide_eq_true rfl) ?_
  simp (disch:=omega) only [GF,go_sem,Ab,h1,h2,FS,Gq]
  rcases zH 8 x.deep with h6 | h6
  ·rw [decide_eq_false (by omega),Aj (by omega)]
  ·rw [decide_eq_true h6,Aw (by omega)]
theorem RC (x:Tm) (hn:x.nodes≤1099511627776):E 141 [x.sv] []=some (.bool x.small,[]):=by
 have h1:=WL x 30 (by omega) (by omega) hn
 have h2:=P7 x hn
 have h3:=Tm.cap_spec x
 have h4:=Tm.many_spec x 30
 unfold Tm.small
 rcases zH 30 x.nodes with h5 | h5
 ·rw [decide_eq_false (by omega),zR]
  refine Al JX Co (of_decide_eq_true rfl) ?_
  simp (disch:=omega) only [Hy,go_sem,Ab,h1,h2,E7,Fd]
 ·rw [decide_eq_true h5,zY]
  refine Al JX Co (of_decide_eq_true rfl) ?_
  simp (disch:=omega) only [Hy,go_sem,Ab,h1,h2,E7,Fd]
  rcases zH 8 x.deep with h6 | h6
  ·rw [decide_eq_false (by omega),Aj (by omega)]
  ·rw [decide_eq_true h6,Aw (by omega)]
theorem OJ (x:Tm) (hn:x.nodes≤1099511627776):E 110 [x.sv] []=some (.bool x.valid,[]):=by
 have h1:=P8 x hn
 have h2:=Im x hn
 unfold Tm.valid
 cases h3:x.small <;> rw [h3] at h1
 ·refine Al GG BM (of_decide_eq_true rfl) ?_
  simp (disch:=omega) only [EN,go_sem,Ab,h1,h2,BW,Bw]
 ·refine Al GG BM (of_decide_eq_true rfl) ?_
  simp (disch:=omega) only [EN,go_sem,Ab,h1,h2,BW,Bw]
theorem WO (x:Tm) (hn:x.nodes≤1099511627776):E 143 [x.sv] []=some (.bool x.valid,[]):=by
 have h1:=RC x hn
 have h2:=JC x hn
 unfold Tm.valid
 cases h3:x.small <;> rw [h3] at h1
 ·refine Al JY CO (of_decide_eq_true rfl) ?_
  simp (disch:=omega) only [Hz,go_sem,Ab,h1,h2,Co,Bx]
 ·refine Al JY CO (of_decide_eq_true rfl) ?_
  simp (disch:=omega) only [Hz,go_sem,Ab,h1,h2,Co,Bx]
theorem Io (x:Tm):E 88 [x.sv] []=some (.bool x.eqn,[]):=by
 unfold Tm.eqn
 refine Al Li Bs (of_decide_eq_true rfl) ?_
 simp (disch:=omega) only [Hn,go_sem,Ab]
theorem OK (x:Tm) (hn:x.nodes≤1099511627776):E 85 [x.sv] []=some (.bool x.atom,[]):=by
 have hl:=Tm.length_le x.args
 have hx:=Tm.nodes_eq x
 have h0:=Io x
 have h1:=P8 x hn
 have h2:=K2 x.name
 have h3:=OJ x hn
 have hE:dec (x.name=⟨#[61]⟩)=x.eqn:=rfl
 unfold Tm.atom
 cases he:x.eqn <;> rw [he] at h0 hE
 ·rw [if_neg (by simp)]
  cases hs:Ez x.name <;> rw [hs] at h2
  ·refine Al Cz Ad (of_decide_eq_true rfl) ?_
   simp (disch:=omega) only [Cb,go_sem,Ab,h0,h1,h2,h3,hE,BW,Bw,Bj,BM,Bs]
  ·refine Al Cz Ad (of_decide_eq_true rfl) ?_
   simp (disch:=omega) only [Cb,go_sem,Ab,h0,h1,h2,h3,hE,BW,Bw,Bj,BM,Bs]
 ·rw [if_pos rfl]
  by_cases hc:x.args.length=2
  ·have hlt0:0<x.args.length:=by omega
   have hlt1:1<x.args.length:=by omega
   have hg0:=get_at Tm.d hlt0
   have hg1:=get_at Tm.d hlt1
   rw [Tm.d_eq] at hg0 hg1
   have hb0:=Tm.nodes_le x.args 0 hlt0
   have hb1:=Tm.nodes_le x.args 1 hlt1
   have hn0:=Im x.args[0] (by omega)
   have hn1:=Im x.args[1] (by omega)
   rw [P5 hc,show (x.args.length == 2)=true by simpa using hc]
   cases hs:x.small <;> rw [hs] at h1
   ·refine Al Cz Ad (of_decide_eq_true rfl) ?_
    simp (disch:=omega) only [Cb,go_sem,Ab,h0,h1,h2,h3,hE,hg0,hg1,hn0,hn1,hc,BW,Bw,Bj,BM,Bs]
    try simp
   ·cases hq:(x.args[0]'hlt0).names <;> rw [hq] at hn0
    ·refine Al Cz Ad (of_decide_eq_true rfl) ?_
     simp (disch:=omega) only [Cb,go_sem,Ab,h0,h1,h2,h3,hE,hg0,hg1,hn0,hn1,hc,BW,Bw,Bj,BM,Bs]
     try simp
    ·refine Al Cz Ad (of_decide_eq_true rfl) ?_
     simp (disch:=omega) only [Cb,go_sem,Ab,h0,h1,h2,h3,hE,hg0,hg1,hn0,hn1,hc,BW,Bw,Bj,BM,Bs]
     try simp
  ·refine Al Cz Ad (of_decide_eq_true rfl) ?_
   simp (disch:=omega) only [Cb,go_sem,Ab,h0,h1,h2,h3,hE,BW,Bw,Bj,BM,Bs]
   rw [show (x.args.length == 2)=false by simpa using hc]
   try simp
theorem WP (x:Tm) (hn:x.nodes≤1099511627776):E 118 [x.sv] []=some (.bool x.atom,[]):=by
 have hl:=Tm.length_le x.args
 have hx:=Tm.nodes_eq x
 have h0:=Io x
 have h1:=RC x hn
 have h2:=K3 x.name
 have h3:=WO x hn
 have hE:dec (x.name=⟨#[61]⟩)=x.eqn:=rfl
 unfold Tm.atom
 cases he:x.eqn <;> rw [he] at h0 hE
 ·rw [if_neg (by simp)]
  cases hs:Ez x.name <;> rw [hs] at h2
  ·refine Al DO Ao (of_decide_eq_true rfl) ?_
   simp (disch:=omega) only [Dp,go_sem,Ab,h0,h1,h2,h3,hE,Co,Bx,AN,CO]
  ·refine Al DO Ao (of_decide_eq_true rfl) ?_
   simp (disch:=omega) only [Dp,go_sem,Ab,h0,h1,h2,h3,hE,Co,Bx,AN,CO]
 ·rw [if_pos rfl]
  by_cases hc:x.args.length=2
  ·have hlt0:0<x.args.length:=by omega
   have hlt1:1<x.args.length:=by omega
   have hg0:=get_at Tm.d hlt0
   have hg1:=get_at Tm.d hlt1
   rw [Tm.d_eq] at hg0 hg1
   have hb0:=Tm.nodes_le x.args 0 hlt0
   have hb1:=Tm.nodes_le x.args 1 hlt1
   have hn0:=JC x.args[0] (by omega)
   have hn1:=JC x.args[1] (by omega)
   rw [P5 hc,show (x.args.length == 2)=true by simpa using hc]
   cases hs:x.small <;> rw [hs] at h1
   ·refine Al DO Ao (of_decide_eq_true rfl) ?_
    simp (disch:=omega) only [Dp,go_sem,Ab,h0,h1,h2,h3,hE,hg0,hg1,hn0,hn1,hc,Co,Bx,AN,CO]
    try simp
   ·cases hq:(x.args[0]'hlt0).names <;> rw [hq] at hn0
    ·refine Al DO Ao (of_decide_eq_true rfl) ?_
     simp (disch:=omega) only [Dp,go_sem,Ab,h0,h1,h2,h3,hE,hg0,hg1,hn0,hn1,hc,Co,Bx,AN,CO]
     try simp
    ·refine Al DO Ao (of_decide_eq_true rfl) ?_
     simp (disch:=omega) only [Dp,go_sem,Ab,h0,h1,h2,h3,hE,hg0,hg1,hn0,hn1,hc,Co,Bx,AN,CO]
     try simp
  ·refine Al DO Ao (of_decide_eq_true rfl) ?_
   simp (disch:=omega) only [Dp,go_sem,Ab,h0,h1,h2,h3,hE,Co,Bx,AN,CO]
   rw [show (x.args.length == 2)=false by simpa using hc]
   try simp
theorem Tm.SW {x:Tm} (h:x.expr=true):x.small=true:=by
 unfold Tm.expr Tm.atom Tm.valid at h
 cases hs:x.small with
 | true=>rfl
 | false =>
  rw [hs] at h
  split at h <;> simp at h
theorem Tm.SY {x:Tm} (h:x.expr=true):x.nodes≤30:=by
 have:=Tm.SW h
 unfold Tm.small at this
 rw [zA,decide_eq_true_eq] at this
 exact this.1
theorem Tm.Ub {x:Tm} (h:x.eqn=true):Cc x.name=false:=by
 unfold Tm.eqn at h
 rw [Ar.1 h]
 kernel_rfl
noncomputable def SZ (a b:ByteArray):Int:=bif strLt a b then -1 else bif dec (a=b) then 0 else 1
noncomputable def Ta (a b:Int):Int:=bif dec (a<b) then -1 else bif dec (b<a) then 1 else 0
def orZ (x y:Int):Int:=if x=0 then y else x
def JZ (s:ByteArray):Bool:=decide (0<s.size)&&(NO (HR s 0) == Cc s)
mutual
def Tm.cok:Tm→Bool
 | .mk n xs=>JZ n&&Tm.Tc xs
def Tm.Tc:List Tm→Bool
 | []=>true
 | x :: xs=>Tm.cok x&&Tm.Tc xs
end
theorem Tm.Td (x:Tm):x.cok=(JZ x.name&&Tm.Tc x.args):=by
 obtain ⟨n,xs⟩:=x
 rw [Tm.cok]; rfl
theorem Tm.WQ {xs:List Tm} (h:Tm.Tc xs=true) {y:Tm} (hy:y∈xs):y.cok=true:=by
 induction xs with
 | nil=>cases hy
 | cons x xs ih =>
  rw [Tm.Tc,zA] at h
  rcases zS.1 hy with rfl | hy
  ·exact h.1
  ·exact ih h.2 hy
structure Ord3 {α:Type} (c:α→α→Int) (a b d:α):Prop where
 anti:c b a=- c a b
 zero:c a b=0 ↔ a=b
 trans:c a b<0→c b d<0→c a d<0
def GH:SC:=(.seq (.reg [⟨some 2,none,.mv (.c (.bool false))⟩]) (.seq (.reg [⟨some 3,none,.mv (.t 0)⟩,⟨some 4,none,.bin .geq false (.t 3) (.c (.int .u8 65))⟩,⟨some 5,none,.mv (.t 4)⟩,⟨(some 6),(some (5,true)),(.mv (.t 0))⟩,⟨(some 7),(some (5,true)),(.bin .leq false (.t 6) (.c (.int .u8 90)))⟩,⟨some 8,none,.pick (.t 5) (.t 7) (.c (.bool false))⟩,⟨some 2,none,.mv (.t 8)⟩]) .ret))
theorem Jd:Aq Tryz.prog 77=some ⟨9,GH,[(.tmp 2)]⟩:=by kernel_rfl
theorem GI:modes 77=⟨[],.asis,none,false⟩:=by unfold modes; rfl
theorem Iq {p:Nat→Int→Bool} {s:ByteArray} (h:EX p s s.size=true) (hs:0<s.size):p 0 (HR s 0)=true:=by
 unfold EX at h
 rw [zL] at h
 exact h 0 (xD.2 hs)
theorem Vf {s:ByteArray} (h:Cc s=true):JZ s=true:=by
 have h0:=h
 unfold Cc inB at h
 rw [zA,zA,decide_eq_true_eq,decide_eq_true_eq] at h
 have hs:0<s.size:=by omega
 have h1:=Iq h.1 hs
 unfold I9 at h1
 unfold JZ
 rw [h0]
 simp at h1
 simp [hs,h1]
theorem P9 {s:ByteArray} (hs:0<s.size) (h:NO (HR s 0)=false):JZ s=true:=by
 have hv:Cc s=false:=by
  rw [Bool.eq_false_iff]
  intro hv
  unfold Cc at hv
  rw [zA] at hv
  have h1:=Iq hv.1 hs
  unfold I9 at h1
  rw [h] at h1
  simp at h1
 unfold JZ
 rw [hv,h]
 simp [hs]
theorem Vg {s:ByteArray} (h:Ez s=true):JZ s=true:=by
 unfold Ez inB at h
 rw [zA,zA,zA,decide_eq_true_eq,decide_eq_true_eq] at h
 have hs:0<s.size:=by omega
 refine P9 hs ?_
 have h1:=Iq h.1.1 hs
 unfold I8 at h1
 simp at h1
 have h2:=h1.1
 unfold OF at h2
 unfold NO
 simp at h2 ⊢
 omega
theorem Vh {s:ByteArray} (h:s.toList=[61]):JZ s=true:=by
 have hs:s.size=1:=by
  have:=congrArg List.length h
  rw [ByteArray.toList_eq] at this
  simpa using this
 refine P9 (by omega) ?_
 unfold HR
 rw [h]
 rfl
mutual
theorem Tm.JD:∀ x:Tm,x.names=true→x.cok=true
 | .mk n xs,h=>by
  rw [Tm.names] at h
  rw [Tm.cok,zA]
  split at h
  ·rename_i hv
   have:xs=[]:=by
    rw [beq_iff_eq] at h
    exact zC h
   subst this
   exact ⟨Vf hv,rfl⟩
  ·rw [zA,zA] at h
   exact ⟨Vg h.1.1,Tm.K6 xs h.2⟩
theorem Tm.K6:∀ xs:List Tm,Tm.GD xs=true→Tm.Tc xs=true
 | [],_=>rfl
 | x :: xs,h=>by
  rw [Tm.GD,zA] at h
  rw [Tm.Tc,zA]
  exact ⟨Tm.JD x h.1,Tm.K6 xs h.2⟩
end
theorem Tm.WR {x:Tm} (h:x.atom=true):x.cok=true:=by
 unfold Tm.atom at h
 rcases he:x.eqn with _ | _
 ·rw [he,if_neg (by simp),zA] at h
  unfold Tm.valid at h
  rw [zA] at h
  exact Tm.JD x h.2.2
 ·rw [he,if_pos rfl,zA,zA] at h
  unfold Tm.eqn at he
  rw [Ar] at he
  rw [Tm.Td,zA]
  exact ⟨Vh (by rw [he,ByteArray.toList_eq]),Tm.K6 _ h.2⟩
theorem Vi {s:ByteArray} {k:Nat} (h:k<s.size):IM s k=HR s k:=by
 rw [←F4 h]
 unfold IM
 rw [show s[k]?=some s[k] from getElem?_pos s k h]; rfl
theorem Vj {s:ByteArray} (h:JZ s=true):0<s.size∧(dec (65≤IM s 0)&&dec (IM s 0≤90))=Cc s:=by
 unfold JZ at h
 rw [zA,decide_eq_true_eq,beq_iff_eq] at h
 refine ⟨h.1,?_⟩
 rw [←h.2,Vi h.1,IR,IR]
 unfold NO
 rfl
theorem K7 (a:ByteArray):strLt a a=false:=by
 unfold strLt
 have key:∀ l:List UInt8,Op.bytesLess l l=false:=by
  intro l
  induction l with
  | nil=>rfl
  | cons x l ih=>simp [Op.bytesLess,ih]
 exact key _
def GJ:SC:=(.seq (.reg [⟨some 2,none,.mv (.c (.bool false))⟩]) (.seq (.reg [⟨some 3,none,.mv (.t 0)⟩,⟨some 4,none,.mv (.t 0)⟩,⟨some 5,none,.bin .neq false (.t 3) (.t 4)⟩,⟨some 2,none,.mv (.t 5)⟩]) .ret))
theorem K8:Aq Tryz.prog 122=some ⟨6,GJ,[(.tmp 2)]⟩:=by kernel_rfl
theorem DD:modes 122=⟨[],.asis,none,false⟩:=by unfold modes; rfl
def IB:SC:=(.seq (.reg [⟨some 2,none,.mv (.c (.bool false))⟩]) (.seq (.reg [⟨some 3,none,.mv (.t 0)⟩,⟨some 4,none,.mv (.t 0)⟩,⟨some 5,none,.bin .neq false (.t 3) (.t 4)⟩,⟨some 2,none,.mv (.t 5)⟩]) .ret))
theorem MN:Aq Tryz.prog 123=some ⟨6,IB,[(.tmp 2)]⟩:=by kernel_rfl
theorem EG:modes 123=⟨[],.asis,none,false⟩:=by unfold modes; rfl
def Dh:SC:=(.seq (.reg [⟨some 4,none,.mv (.c (.int .i64 0))⟩]) (.seq (.reg [⟨some 7,none,.mv (.t 0)⟩,⟨some 8,none,.call 122 [(.t 7)]⟩,⟨some 5,none,.mv (.t 8)⟩]) (.seq (.reg [⟨some 9,none,.mv (.t 1)⟩,⟨some 10,none,.call 122 [(.t 9)]⟩,⟨some 6,none,.mv (.t 10)⟩]) (.seq (.seq (.reg [⟨some 11,none,.mv (.t 5)⟩]) (.cond (.t 11) (.seq (.seq (.reg [⟨some 12,none,.mv (.t 6)⟩]) (.cond (.t 12) (.seq (.reg [⟨some 4,none,.mv (.c (.int .i64 0))⟩]) .ret) .skip)) (.seq (.reg [⟨some 4,none,.mv (.c (.int .i64 (-(0+1))))⟩]) .ret)) .skip)) (.seq (.seq (.reg [⟨some 13,none,.mv (.t 6)⟩]) (.cond (.t 13) (.seq (.reg [⟨some 4,none,.mv (.c (.int .i64 1))⟩]) .ret) .skip)) (.seq (.seq (.reg [⟨some 14,none,.mv (.t 0)⟩,⟨some 15,none,.mv (.t 1)⟩,⟨some 16,none,.bin .lss false (.t 14) (.t 15)⟩]) (.cond (.t 16) (.seq (.reg [⟨some 4,none,.mv (.c (.int .i64 (-(0+1))))⟩]) .ret) .skip)) (.seq (.seq (.reg [⟨some 17,none,.mv (.t 0)⟩,⟨some 18,none,.mv (.t 1)⟩,⟨some 19,none,.bin .gtr false (.t 17) (.t 18)⟩]) (.cond (.t 19) (.seq (.reg [⟨some 4,none,.mv (.c (.int .i64 1))⟩]) .ret) .skip)) (.seq (.reg [⟨some 4,none,.mv (.c (.int .i64 0))⟩]) .ret))))))))
theorem Eg:Aq Tryz.prog 106=some ⟨20,Dh,[(.tmp 4)]⟩:=by kernel_rfl
theorem Di:modes 106=⟨[],.asis,none,false⟩:=by unfold modes; rfl
def DX:SC:=(.seq (.reg [⟨some 4,none,.mv (.c (.int .i64 0))⟩]) (.seq (.reg [⟨some 7,none,.mv (.t 0)⟩,⟨some 8,none,.call 123 [(.t 7)]⟩,⟨some 5,none,.mv (.t 8)⟩]) (.seq (.reg [⟨some 9,none,.mv (.t 1)⟩,⟨some 10,none,.call 123 [(.t 9)]⟩,⟨some 6,none,.mv (.t 10)⟩]) (.seq (.seq (.reg [⟨some 11,none,.mv (.t 5)⟩]) (.cond (.t 11) (.seq (.seq (.reg [⟨some 12,none,.mv (.t 6)⟩]) (.cond (.t 12) (.seq (.reg [⟨some 4,none,.mv (.c (.int .i64 0))⟩]) .ret) .skip)) (.seq (.reg [⟨some 4,none,.mv (.c (.int .i64 (-(0+1))))⟩]) .ret)) .skip)) (.seq (.seq (.reg [⟨some 13,none,.mv (.t 6)⟩]) (.cond (.t 13) (.seq (.reg [⟨some 4,none,.mv (.c (.int .i64 1))⟩]) .ret) .skip)) (.seq (.seq (.reg [⟨some 14,none,.mv (.t 0)⟩,⟨some 15,none,.mv (.t 1)⟩,⟨some 16,none,.bin .lss false (.t 14) (.t 15)⟩]) (.cond (.t 16) (.seq (.reg [⟨some 4,none,.mv (.c (.int .i64 (-(0+1))))⟩]) .ret) .skip)) (.seq (.seq (.reg [⟨some 17,none,.mv (.t 0)⟩,⟨some 18,none,.mv (.t 1)⟩,⟨some 19,none,.bin .gtr false (.t 17) (.t 18)⟩]) (.cond (.t 19) (.seq (.reg [⟨some 4,none,.mv (.c (.int .i64 1))⟩]) .ret) .skip)) (.seq (.reg [⟨some 4,none,.mv (.c (.int .i64 0))⟩]) .ret))))))))
theorem Ff:Aq Tryz.prog 107=some ⟨20,DX,[(.tmp 4)]⟩:=by kernel_rfl
theorem DY:modes 107=⟨[],.asis,none,false⟩:=by unfold modes; rfl
def Lj:SC:=(.seq (.reg [⟨some 2,none,.mv (.c (.int .i64 0))⟩]) (.seq (.reg [⟨some 3,none,.mv (.c (.int .i64 0))⟩]) (.seq (.seq (.reg [⟨some 6,none,.mv (.t 0)⟩,⟨some 7,none,.len false (.t 6)⟩,⟨some 8,none,.mv (.c (.int .i64 0))⟩]) (.block 0 (.loop [0,0,0,1,0,0,1,1,1,0,0,0,0,0,0,0,0,0] (.seq (.reg [⟨some 9,none,.bin .lss false (.t 8) (.t 7)⟩]) (.seq (.cond (.t 9) .skip (.exit 0)) (.seq (.block 1 (.seq (.reg [⟨some 10,none,.iaddr 1 (.t 6) (.t 8)⟩,⟨some 11,none,.load false 1 (.t 10)⟩,⟨some 5,none,.mv (.t 11)⟩]) (.seq (.reg [⟨some 12,none,.mv (.t 5)⟩,⟨some 13,none,.mv (.t 3)⟩,⟨some 14,none,.bin .neq false (.t 12) (.t 13)⟩]) (.cond (.t 14) (.seq (.reg [⟨some 15,none,.mv (.t 5)⟩,⟨some 2,none,.mv (.t 15)⟩]) .ret) .skip)))) (.reg [⟨some 16,none,.bin .add false (.t 8) (.c (.int .i64 1))⟩,⟨some 8,none,.mv (.t 16)⟩]))))))) (.seq (.reg [⟨some 17,none,.mv (.t 3)⟩,⟨some 2,none,.mv (.t 17)⟩]) .ret))))
theorem Qx:Aq Tryz.prog 105=some ⟨18,Lj,[(.tmp 2)]⟩:=by kernel_rfl
theorem Lk:modes 105=⟨[],.asis,none,false⟩:=by unfold modes; rfl
theorem RD (a:ByteArray):E 122 [.str a] []=some (.bool false,[]):=by
 refine Al K8 DD (of_decide_eq_true rfl) ?_
 simp (disch:=omega) only [GJ,go_sem,Ab]
theorem RE (a:Int):E 123 [.int .i64 a] []=some (.bool false,[]):=by
 refine Al MN EG (of_decide_eq_true rfl) ?_
 simp (disch:=omega) only [IB,go_sem,Ab]
theorem Te (a b:ByteArray):E 106 [.str a,.str b] []=some (.int .i64 (SZ a b),[]):=by
 have h1:=RD a
 have h2:=RD b
 unfold SZ
 cases h3:strLt a b
 ·cases h4:dec (a=b)
  ·refine Al Eg Di (of_decide_eq_true rfl) ?_
   simp (disch:=omega) only [Dh,go_sem,Ab,h1,h2,h3,h4,DD]
  ·refine Al Eg Di (of_decide_eq_true rfl) ?_
   simp (disch:=omega) only [Dh,go_sem,Ab,h1,h2,h3,h4,DD]
 ·refine Al Eg Di (of_decide_eq_true rfl) ?_
  simp (disch:=omega) only [Dh,go_sem,Ab,h1,h2,h3,DD]
theorem Tf (a b:Int):E 107 [.int .i64 a,.int .i64 b] []=some (.int .i64 (Ta a b),[]):=by
 have h1:=RE a
 have h2:=RE b
 unfold Ta
 cases h3:dec (a<b)
 ·cases h4:dec (b<a)
  ·refine Al Ff DY (of_decide_eq_true rfl) ?_
   simp (disch:=omega) only [DX,go_sem,Ab,h1,h2,h3,h4,EG]
  ·refine Al Ff DY (of_decide_eq_true rfl) ?_
   simp (disch:=omega) only [DX,go_sem,Ab,h1,h2,h3,h4,EG]
 ·refine Al Ff DY (of_decide_eq_true rfl) ?_
  simp (disch:=omega) only [DX,go_sem,Ab,h1,h2,h3,EG]
def orL:List Int→Int
 | []=>0
 | x :: xs=>if x=0 then orL xs else x
theorem QaX (xs:List Int) (hl:xs.length≤1099511627776):E 105 [.arr (xs.map fun n=>[D.int n])] []=some (.int .i64 (orL xs),[]):=by
 refine Al Qx Lk (of_decide_eq_true rfl) ?_
 simp (disch:=omega) only [Lj,go_sem,Ab]
 refine go_loop (α:=Int) (fun a=>⟨slots 18 0 [(3,.int .i64 0),(6,.arr (xs.map fun n=>[D.int n])),(7,.int .i64 xs.length),(8,.int .i64 a)],[]⟩) (fun a=>∃ k:Nat,a=k∧k≤(xs).length∧orL (xs.drop k)=orL xs) (fun a=>(xs).length-(a).toNat) 0 ⟨0,rfl,zU _,by rw [zQ]⟩ (by simp (disch:=omega) only [go_sem,Ab]) ?_
 rintro i ⟨k,hi,hk,hR⟩
 have hni:i.toNat=k:=by omega
 have hni1:(i+1).toNat=k+1:=by omega
 rcases zH k (xs).length with hlt | hge
 ·have hg:=get_at (fun n=>[D.int n]) hlt
  rw [zF hlt,orL] at hR
  by_cases h0:xs[k]=0
  ·rw [if_pos h0] at hR
   simp (disch:=omega) only [go_sem,Ab,hni,hg,h0]
   exact ⟨i+1,⟨k+1,by omega,hlt,hR⟩,by omega,by first | trivial | rfl⟩
  ·rw [if_neg h0] at hR
   simp (disch:=omega) only [go_sem,Ab,hni,hg,h0]
   exact hR
 ·rw [zK hge,orL] at hR
  simp (disch:=omega) only [go_sem,Ab,hni]
  exact hR
theorem QaQ (a b:Int):E 105 [.arr [[.int a],[.int b]]] []=some (.int .i64 (orZ a b),[]):=by
 have h:=QaX [a,b] (by simp)
 have e:orL [a,b]=orZ a b:=by
  simp only [orL,orZ]
  split
  ·split <;> omega
  ·rfl
 rw [e] at h
 exact h
def Ll:SC:=(.seq (.reg [⟨some 1,none,.boxv 30 2 (.t 0)⟩,⟨some 2,none,.mv (.c (.bool false))⟩]) (.seq (.reg [⟨some 3,none,.faddr 0 (.t 1)⟩,⟨some 4,none,.load false 1 (.t 3)⟩,⟨some 5,none,.idx (.t 4) (.c (.int .i64 0))⟩,⟨some 6,none,.call 77 [(.t 5)]⟩,⟨some 2,none,.mv (.t 6)⟩]) .ret))
theorem Qy:Aq Tryz.prog 111=some ⟨7,Ll,[(.tmp 2)]⟩:=by kernel_rfl
theorem DE:modes 111=⟨[],.asis,none,false⟩:=by unfold modes; rfl
theorem Vk (n:Int):E 77 [.int .u8 n] []=some (.bool (dec (65≤n)&&dec (n≤90)),[]):=by
 cases h1:dec (65≤n)
 ·refine Al Jd GI (of_decide_eq_true rfl) ?_
  simp (disch:=omega) only [GH,go_sem,Ab,h1]
 ·refine Al Jd GI (of_decide_eq_true rfl) ?_
  simp (disch:=omega) only [GH,go_sem,Ab,h1]
theorem Uc (x:Tm) (h:x.cok=true):E 111 [x.sv] []=some (.bool (Cc x.name),[]):=by
 rw [Tm.Td,zA] at h
 obtain ⟨h1,h2⟩:=Vj h.1
 have h3:=Vk (IM x.name 0)
 rw [h2] at h3
 refine Al Qy DE (of_decide_eq_true rfl) ?_
 simp (disch:=omega) only [Ll,go_sem,Ab,h3,GI]
def Dj (p:Nat→Bool):Nat→Bool
 | 0=>true
 | k+1=>Dj p k&&p k
theorem Tg {p:Nat→Bool} {k n:Nat} (h:Dj p k=false) (hn:k≤n):Dj p n=false:=by
 induction n with
 | zero =>
      obtain rfl:k=0:=by omega
      exact h
 | succ n ih =>
  rcases zH n k with h1 | h1
  ·obtain rfl:k=n+1:=by omega
   exact h
  ·rw [Dj,ih h1]; rfl
theorem Lm {p:Nat→Bool} {k j:Nat} (h:Dj p k=true) (hj:j<k):p j=true:=by
 induction k with
 | zero=>omega
 | succ k ih =>
  rw [Dj,zA] at h
  rcases zH j k with h1 | h1
  ·exact ih h.1 h1
  ·obtain rfl:j=k:=by omega
   exact h.2
theorem WS {p:Nat→Bool} {k:Nat} (h:∀ j,j<k→p j=true):Dj p k=true:=by
 induction k with
 | zero=>rfl
 | succ k ih=>rw [Dj,ih fun j hj=>h j (by omega),h k (by omega)]; rfl
theorem Ln {p:Nat→Bool} {k n:Nat} (h:p k=false) (hk:k<n):Dj p n=false:=Tg (k:=k+1) (by rw [Dj,h,y5]) (by omega)
noncomputable def inI (x lo hi:Int):Bool:=dec (lo≤x)&&dec (x≤hi)
theorem Dk {x lo hi:Int}:inI x lo hi=true ↔ lo≤x∧x≤hi:=by unfold inI; rw [zA,Ar,Ar]
def pw (b:Int):Nat→Int
 | 0=>1
 | k+1=>pw b k*b
theorem Lo {b:Int} (h1:1≤b) (h3:b≤3):∀ k:Nat,1≤pw b k∧pw b k≤(3:Int) ^ k
 | 0=>by simp [pw]
 | k+1=>by
  obtain ⟨i1,i2⟩:=Lo h1 h3 k
  rw [pw,Int.pow_succ]
  constructor
  ·have:=Int.mul_le_mul i1 h1 (by omega) (by omega)
   simpa using this
  ·exact Int.mul_le_mul i2 h3 (by omega) (by omega)
theorem LU {k n:Nat} (h:k≤n):(3:Int) ^ k≤3 ^ n:=by
 have:=Nat.pow_le_pow_right (n:=3) (by omega) h
 exact_mod_cast this
theorem Dl {b:Int} (h1:1≤b) (h3:b≤3) {k:Nat} (hk:k≤12):1≤pw b k∧pw b k≤531441:=by
 obtain ⟨i1,i2⟩:=Lo h1 h3 k
 have:=LU hk
 have e:(3:Int) ^ 12=531441:=by decide
 omega
theorem Th {b:Int} (h1:1≤b) (h3:b≤3) {k:Nat} (hk:k≤30):1≤pw b k∧pw b k≤205891132094649:=by
 obtain ⟨i1,i2⟩:=Lo h1 h3 k
 have:=LU hk
 have e:(3:Int) ^ 30=205891132094649:=by decide
 omega
noncomputable def DZ (a b:Tl):Bool:=strLt a.name b.name || (dec (a.name=b.name)&&dec (a.arity<b.arity))
noncomputable def K9 (ts:List Tl) (k:Nat):Bool:=match ts[k]? with
 | none=>true
 | some t=>Ez t.name&&(inI t.arity 0 3&&(match k with
  | 0=>true
  | j+1=>match ts[j]? with
   | none=>true
   | some u=>DZ u t))
theorem F5 {ts:List Tl} (h:0<ts.length):K9 ts 0=(Ez ts[0].name&&inI ts[0].arity 0 3):=by
 unfold K9
 rw [zD h]
 simp
theorem DP {ts:List Tl} {j:Nat} (h:j+1<ts.length):K9 ts (j+1)=(Ez ts[j+1].name&&(inI ts[j+1].arity 0 3&&DZ ts[j] ts[j+1])):=by
 unfold K9
 rw [zD h]
 simp only [zD (show j<ts.length by omega)]
theorem Ti {ts:List Tl} {k:Nat} (h:k<ts.length) (ht:K9 ts k=true):Ez ts[k].name=true∧inI ts[k].arity 0 3=true:=by
 cases k with
 | zero=>rw [F5 h,zA] at ht; exact ht
 | succ j=>rw [DP h,zA,zA] at ht; exact ⟨ht.1,ht.2.1⟩
noncomputable def Eu (ts:List Tl):Bool:=Dj (K9 ts) ts.length&&decide (ts.length≤12)
def kinds (sz:Int) (t:Tl):Int:=if t.pred then 2 else sz
noncomputable def tlB (sz:Int) (t:Tl):Bool:=dec ((t.vals.length:Int)=pw sz t.arity.toNat)&&t.vals.all fun v=>inI v 0 (kinds sz t-1)
noncomputable def Ip.ok (m:Ip):Bool:=inI m.size 1 3&&(Eu m.tables&&m.tables.all (tlB m.size))
theorem Ip.Cx {m:Ip} (h:m.ok=true):(1≤m.size∧m.size≤3)∧Eu m.tables=true∧m.tables.all (tlB m.size)=true:=by
 unfold Ip.ok at h
 rw [zA,zA,Dk] at h
 exact h
theorem FT {ts:List Tl} (h:Eu ts=true) {t:Tl} (ht:t∈ts):0≤t.arity∧t.arity≤3:=by
 unfold Eu at h
 rw [zA] at h
 obtain ⟨k,hk,rfl⟩:=zZ ht
 exact Dk.1 (Ti hk (Lm h.1 hk)).2
theorem Vl {ts:List Tl} (h:Eu ts=true):ts.length≤12:=by
 unfold Eu at h
 rw [zA,decide_eq_true_eq] at h
 exact h.2
def Ip.tame (m:Ip):Prop:=m.tables.length≤1099511627776∧∀ t∈m.tables,t.vals.length≤1099511627776
theorem NW:∀ x y:List UInt8,Op.bytesLess x y=true→Op.bytesLess y x=false
 | [],[],h=>by simp [Op.bytesLess] at h
 | [],_ :: _,_=>rfl
 | _ :: _,[],h=>by simp [Op.bytesLess] at h
 | a :: x,b :: y,h=>by
  simp only [Op.bytesLess,yX,decide_eq_true_eq,zA,beq_iff_eq] at h
  simp only [Op.bytesLess,yW,decide_eq_false_iff_not]
  rcases h with h | ⟨rfl,h⟩
  ·have h2:¬ b<a:=by intro h3; exact absurd (UInt8.lt_trans h h3) (UInt8.lt_irrefl _)
   have h3:(b == a)=false:=by
    rw [beq_eq_false_iff_ne]; rintro rfl; exact UInt8.lt_irrefl _ h
   exact ⟨h2,by rw [h3]; rfl⟩
  ·exact ⟨UInt8.lt_irrefl _,by rw [NW x y h]; simp⟩
theorem NX:∀ x y:List UInt8,Op.bytesLess x y=false→Op.bytesLess y x=false→x=y
 | [],[],_,_=>rfl
 | [],_ :: _,h,_=>by simp [Op.bytesLess] at h
 | _ :: _,[],_,h=>by simp [Op.bytesLess] at h
 | a :: x,b :: y,h,k=>by
  simp only [Op.bytesLess,yW,decide_eq_false_iff_not] at h k
  have hab:a=b:=by
   have h1:=h.1; have h2:=k.1
   rw [UInt8.lt_iff_toNat_lt] at h1 h2
   exact UInt8.toNat_inj.1 (by omega)
  subst hab
  have h1:Op.bytesLess x y=false:=by simpa using h.2
  have h2:Op.bytesLess y x=false:=by simpa using k.2
  rw [NX x y h1 h2]
theorem M7 {a b:ByteArray} (h:strLt a b=true):strLt b a=false:=NW _ _ h
theorem Je {a b:ByteArray} (h:strLt a b=false) (h':strLt b a=false):a=b:=LH (NX _ _ h h')
theorem NY:∀ x y z:List UInt8,Op.bytesLess x y=true→Op.bytesLess y z=true→Op.bytesLess x z=true
 | _,_,[],_,h=>by simp [Op.bytesLess] at h
 | [],[],_ :: _,h,_=>by simp [Op.bytesLess] at h
 | [],_ :: _,_ :: _,_,_=>rfl
 | _ :: _,[],_ :: _,h,_=>by simp [Op.bytesLess] at h
 | a :: x,b :: y,c :: z,h,k=>by
  simp only [Op.bytesLess,yX,decide_eq_true_eq,zA,beq_iff_eq] at h k ⊢
  rcases h with h | ⟨rfl,h⟩
  ·rcases k with k | ⟨rfl,k⟩
   ·exact .inl (UInt8.lt_trans h k)
   ·exact .inl h
  ·rcases k with k | ⟨rfl,k⟩
   ·exact .inl k
   ·exact .inr ⟨rfl,NY x y z h k⟩
theorem Jf {a b c:ByteArray} (h:strLt a b=true) (k:strLt b c=true):strLt a c=true:=NY _ _ _ h k
theorem Jg {a b:ByteArray} (h:strLt a b=true):¬ a=b:=by rintro rfl; rw [K7] at h; cases h
abbrev Env:=ByteArray→Option Int
def Dy (e:Env):MF
 | .str s=>match e s with
  | some n=>some (false,[.int n])
  | none=>none
 | .int _=>none
theorem HT (e:Env) (s:ByteArray):Dy e (.str s)=match e s with | some n=>some (false,[.int n]) | none=>none:=rfl
noncomputable def C4 (e:Env) (s:ByteArray) (n:Int):Env:=fun q=>bif dec (q=s) then some n else e q
theorem Lp (e:Env) (s:ByteArray) (n:Int):KO (Dy e) (.str s) (false,[.int n])=Dy (C4 e s n):=by
 funext k
 cases k with
 | int i=>rw [GZ (fun h=>by cases h)]; rfl
 | str q =>
  rw [Rh,HT,HT]
  unfold C4
  cases dec (q=s) <;> rfl
theorem Vm:Dy (fun _=>none)=nomap:=by
 funext k
 cases k <;> rfl
def InE (sz:Int) (e:Env):Prop:=∀ s n,e s=some n→0≤n∧n<sz
theorem JE {sz:Int} {e:Env} (h:InE sz e) {n:Int} (h0:0≤n) (h1:n<sz) (s:ByteArray):InE sz (C4 e s n):=by
 intro q m hq
 unfold C4 at hq
 cases hd:dec (q=s) with
 | true=>rw [hd] at hq; obtain rfl:=zJ hq; exact ⟨h0,h1⟩
 | false=>rw [hd] at hq; exact h q m hq
noncomputable def asg:List Ag→Env
 | [],_=>none
 | x :: r,s=>bif dec (x.var=s) then some x.elem else asg r s
noncomputable def Qz (sz:Int) (xs:List Ag) (k:Nat):Bool:=match xs[k]? with
 | none=>true
 | some x=>Cc x.var&&(inI x.elem 0 (sz-1)&&(match k with
  | 0=>true
  | j+1=>match xs[j]? with
   | none=>true
   | some y=>strLt y.var x.var))
theorem F6 {sz:Int} {xs:List Ag} (h:0<xs.length):Qz sz xs 0=(Cc xs[0].var&&inI xs[0].elem 0 (sz-1)):=by
 unfold Qz
 rw [zD h]
 simp
theorem DQ {sz:Int} {xs:List Ag} {j:Nat} (h:j+1<xs.length):Qz sz xs (j+1)=(Cc xs[j+1].var&&(inI xs[j+1].elem 0 (sz-1)&&strLt xs[j].var xs[j+1].var)):=by
 unfold Qz
 rw [zD h]
 simp only [zD (show j<xs.length by omega)]
noncomputable def JJ (sz:Int) (xs:List Ag):Bool:=Dj (Qz sz xs) xs.length
noncomputable def IC (xs:List Ag):Env:=xs.foldl (fun e x=>C4 e x.var x.elem) fun _=>none
theorem Tj {xs:List Ag} {k:Nat} (h:k<xs.length):IC (xs.take (k+1))=C4 (IC (xs.take k)) xs[k].var xs[k].elem:=by
 rw [yU h,IC,List.foldl_append]; rfl
def RF (xs:List Ag):Prop:=xs.Pairwise fun x y=>strLt x.var y.var=true
theorem WT {xs:List Ag} (h:RF xs):IC xs=asg xs:=by
 have key:∀ (xs:List Ag),RF xs→∀ (e:Env) (s:ByteArray),xs.foldl (fun e x=>C4 e x.var x.elem) e s=match asg xs s with | some n=>some n | none=>e s:=by
  intro xs
  induction xs with
  | nil=>intro _ e s; rw [asg]; rfl
  | cons x r ih =>
   intro hp e s
   obtain ⟨h1,h2⟩:=List.pairwise_cons.1 hp
   rw [yI,ih h2]
   rw [asg]
   by_cases hs:x.var=s
   ·rw [Aw hs,cond_true]
    have:asg r s=none:=by
     have hn:∀ y∈r,y.var≠s:=fun y hy e'=>Jg (h1 y hy) (hs.trans e'.symm)
     clear ih h1 h2 hp
     induction r with
     | nil=>rw [asg]
     | cons y r ih=>rw [asg,Aj (hn y (by simp)),cond_false,ih fun z hz=>hn z (by simp [hz])]
    rw [this]
    simp only [C4,Aw hs.symm,cond_true]
   ·rw [Aj hs,cond_false]
    cases asg r s with
    | some n=>rfl
    | none=>simp only [C4,Aj (p:=s=x.var) (fun e'=>hs (Eq.symm e')),cond_false]
 funext s
 rw [IC,key xs h]
 cases asg xs s <;> rfl
theorem Tk {sz:Int}:∀ {xs:List Ag},(∀ x∈xs,0≤x.elem∧x.elem<sz)→InE sz (asg xs)
 | [],_=>fun s n h=>by rw [asg] at h; cases h
 | x :: r,h=>fun s n hs=>by
  rw [asg] at hs
  by_cases he:x.var=s
  ·rw [Aw he,cond_true] at hs
   obtain rfl:=zJ hs
   exact h x (by simp)
  ·rw [Aj he,cond_false] at hs
   exact Tk (fun y hy=>h y (by simp [hy])) s n hs
theorem RG {xs:List Ag} (h:∀ j (hj:j+1<xs.length),strLt xs[j].var xs[j+1].var=true):RF xs:=by
 have key:∀ i d (hi:i+d+1<xs.length),strLt (xs[i]'(by omega)).var xs[i+d+1].var=true:=by
  intro i d
  induction d with
  | zero=>intro hi; exact h i hi
  | succ d ih=>intro hi; exact Jf (ih (by omega)) (h (i+d+1) hi)
 unfold RF
 rw [y8]
 intro i j hi hj hij
 obtain ⟨d,rfl⟩:∃ d,j=i+d+1:=⟨j-i-1,by omega⟩
 exact key i d hj
theorem Q0 {sz:Int} {xs:List Ag} (h:JJ sz xs=true):RF xs∧∀ x∈xs,0≤x.elem∧x.elem<sz:=by
 have hat:=fun j (hj:j<xs.length)=>Lm h hj
 refine ⟨RG fun j hj=>?_,fun x hx=>?_⟩
 ·have:=hat (j+1) hj
  rw [DQ hj,zA,zA] at this
  exact this.2.2
 ·obtain ⟨k,hk,rfl⟩:=zZ hx
  have:=hat k hk
  cases k with
  | zero =>
   rw [F6 hk,zA,Dk] at this
   omega
  | succ j =>
   rw [DQ hk,zA,zA,Dk] at this
   omega
noncomputable def Jh (ts:List Tl) (n:ByteArray) (k:Int) (p:Bool):Option Tl:=ts.find? fun t=>dec (t.name=n)&&(dec (t.arity=k)&&(t.pred == p))
noncomputable def CT (ts:List Tl) (n:ByteArray) (k:Int) (p:Bool) (at_:Option Int):Option Int :=
 match Jh ts n k p,at_ with
 | some t,some i=>some (t.vals.getD i.toNat 0)
 | _,_=>none
mutual
noncomputable def Tm.val (m:Ip) (e:Env):Tm→Option Int
 | .mk n args=>bif Cc n then e n else CT m.tables n args.length false (Tm.Cv m e args 0)
noncomputable def Tm.Cv (m:Ip) (e:Env):List Tm→Int→Option Int
 | [],i=>some i
 | x :: xs,i=>match Tm.val m e x with
  | some v=>Tm.Cv m e xs (i*m.size+v)
  | none=>none
end
theorem Tm.Ir (m:Ip) (e:Env) (x:Tm):x.val m e=bif Cc x.name then e x.name else CT m.tables x.name x.args.length false (Tm.Cv m e x.args 0):=by
 obtain ⟨n,a⟩:=x
 rw [Tm.val]; rfl
theorem KA {m:Ip} {e:Env} (h1:1≤m.size):∀ {xs:List Tm} {i r:Int},(∀ x∈xs,∀ v,x.val m e=some v→0≤v∧v<m.size)→0≤i→Tm.Cv m e xs i=some r→i*pw m.size xs.length≤r∧r<(i+1)*pw m.size xs.length
 | [],i,r,_,h0,h=>by
  rw [Tm.Cv] at h
  obtain rfl:=zJ h
  simp [pw]
  omega
 | x :: xs,i,r,hx,h0,h=>by
  rw [Tm.Cv] at h
  cases hv:x.val m e with
  | none=>rw [hv] at h; cases h
  | some v =>
   rw [hv] at h
   obtain ⟨v0,v1⟩:=hx x (by simp) v hv
   have hn:0≤i*m.size+v:=by
    have:=y6 h0 (show 0≤m.size by omega)
    omega
   obtain ⟨g1,g2⟩:=KA h1 (fun y hy=>hx y (by simp [hy])) hn h
   have hp:0≤pw m.size xs.length:=by
    clear g1 g2 h hx
    induction xs with
    | nil=>simp [pw]
    | cons y ys ih=>rw [zI,pw]; exact y6 ih (by omega)
   rw [zI,pw]
   have e1:i*(pw m.size xs.length*m.size)=(i*m.size)*pw m.size xs.length:=by rw [Int.mul_assoc,Int.mul_comm m.size]
   have e2:(i+1)*(pw m.size xs.length*m.size)=(i*m.size+m.size)*pw m.size xs.length:=by
    rw [Int.mul_comm (pw m.size xs.length),← Int.mul_assoc,Int.add_mul i 1 m.size,Int.one_mul]
   rw [e1,e2]
   have k1:(i*m.size)*pw m.size xs.length≤(i*m.size+v)*pw m.size xs.length:=yV (by omega) hp
   have k2:(i*m.size+v+1)*pw m.size xs.length≤(i*m.size+m.size)*pw m.size xs.length:=yV (by omega) hp
   omega
theorem Gy {ts:List Tl} {n:ByteArray} {k:Int} {p:Bool} {t:Tl} (h:Jh ts n k p=some t):t∈ts∧t.name=n∧t.arity=k∧t.pred=p:=by
 unfold Jh at h
 have h1:=List.mem_of_find?_eq_some h
 have h2:=List.find?_some h
 rw [zA,zA,Ar,Ar] at h2
 exact ⟨h1,h2.1,h2.2.1,by simpa using h2.2.2⟩
theorem Ng {m:Ip} (hm:m.ok=true) {n:ByteArray} {l:Nat} {p:Bool} {t:Tl} (ht:Jh m.tables n l p=some t) {i:Int} (h0:0≤i) (h1:i<pw m.size l):∃ h:i.toNat<t.vals.length,t.vals.getD i.toNat 0=t.vals[i.toNat]∧0≤t.vals[i.toNat]∧t.vals[i.toNat]<kinds m.size t:=by
 obtain ⟨_,_,h3⟩:=Ip.Cx hm
 obtain ⟨t1,t2,t3,t4⟩:=Gy ht
 have:=(zL.1 h3) t t1
 unfold tlB at this
 rw [zA,Ar,zL,t3] at this
 have e:(l:Int).toNat=l:=by omega
 rw [e] at this
 have hl:i.toNat<t.vals.length:=by omega
 refine ⟨hl,by rw [zM,zD hl]; rfl,?_⟩
 have h5:=Dk.1 (this.2 _ (zE hl))
 omega
theorem Tm.H0 {m:Ip} (hm:m.ok=true) {e:Env} (he:InE m.size e) (x:Tm):∀ v,x.val m e=some v→0≤v∧v<m.size:=by
 intro v hv
 have ih:∀ y∈x.args,∀ v,y.val m e=some v→0≤v∧v<m.size:=fun y hy=>Tm.H0 hm he y
 obtain ⟨⟨h1,_⟩,_⟩:=Ip.Cx hm
 rw [Tm.Ir] at hv
 cases hb:Cc x.name with
 | true=>rw [hb] at hv; exact he _ _ hv
 | false =>
  rw [hb,cond_false] at hv
  unfold CT at hv
  split at hv
  ·rename_i t i ht hi
   obtain rfl:=zJ hv
   obtain ⟨g1,g2⟩:=KA h1 ih (Int.le_refl 0) hi
   rw [Int.zero_mul] at g1
   rw [Int.zero_add,Int.one_mul] at g2
   obtain ⟨h2,h3,h4,h5⟩:=Ng hm ht g1 g2
   rw [h3]
   obtain ⟨_,_,_,t4⟩:=Gy ht
   unfold kinds at h5
   rw [t4] at h5
   simp at h5
   exact ⟨h4,h5⟩
  ·cases hv
termination_by SizeOf.sizeOf x
decreasing_by exact Tm.lt_of_mem hy
noncomputable def Tm.tru (m:Ip) (e:Env) (x:Tm):Option Int :=
 if x.eqn then match Tm.Cv m e x.args 0 with
  | some i=>some (bif dec (i.tmod m.size=i.tdiv m.size) then 1 else 0)
  | none=>none
 else CT m.tables x.name x.args.length true (Tm.Cv m e x.args 0)
def H1:SC:=(.seq (.reg [⟨some 6,none,.mv (.c (.bool false))⟩]) (.seq (.reg [⟨some 7,none,.mv (.t 0)⟩,⟨some 8,none,.mv (.t 1)⟩,⟨some 9,none,.bin .geq false (.t 7) (.t 8)⟩,⟨some 10,none,.mv (.t 9)⟩,⟨(some 11),(some (10,true)),(.mv (.t 0))⟩,⟨(some 12),(some (10,true)),(.mv (.t 2))⟩,⟨(some 13),(some (10,true)),(.bin .leq false (.t 11) (.t 12))⟩,⟨some 14,none,.pick (.t 10) (.t 13) (.c (.bool false))⟩,⟨some 6,none,.mv (.t 14)⟩]) .ret))
theorem Ka:Aq Tryz.prog 43=some ⟨15,H1,[(.tmp 6)]⟩:=by kernel_rfl
theorem Bo:modes 43=⟨[],.asis,none,false⟩:=by unfold modes; rfl
def Ji:SC:=(.seq (.reg [⟨some 6,none,.mv (.c (.bool false))⟩]) (.seq (.reg [⟨some 7,none,.mv (.t 0)⟩,⟨some 8,none,.mv (.t 1)⟩,⟨some 9,none,.bin .geq false (.t 7) (.t 8)⟩,⟨some 10,none,.mv (.t 9)⟩,⟨(some 11),(some (10,true)),(.mv (.t 0))⟩,⟨(some 12),(some (10,true)),(.mv (.t 2))⟩,⟨(some 13),(some (10,true)),(.bin .leq false (.t 11) (.t 12))⟩,⟨some 14,none,.pick (.t 10) (.t 13) (.c (.bool false))⟩,⟨some 6,none,.mv (.t 14)⟩]) .ret))
theorem M8:Aq Tryz.prog 32=some ⟨15,Ji,[(.tmp 6)]⟩:=by kernel_rfl
theorem Bl:modes 32=⟨[],.asis,none,false⟩:=by unfold modes; rfl
def Lq:SC:=(.seq (.reg [⟨some 4,none,.mv (.c (.int .i64 0))⟩]) (.seq (.reg [⟨some 5,none,.mv (.c (.int .i64 1))⟩]) (.seq (.seq (.reg [⟨some 6,none,.mv (.t 1)⟩,⟨some 7,none,.mv (.c (.int .i64 0))⟩]) (.block 0 (.loop [1,0,0,0,0,1,1,1,0,0,0,0,0,0] (.seq (.reg [⟨some 8,none,.bin .lss false (.t 7) (.t 6)⟩]) (.seq (.cond (.t 8) .skip (.exit 0)) (.seq (.block 1 (.reg [⟨some 9,none,.mv (.t 5)⟩,⟨some 10,none,.mv (.t 0)⟩,⟨some 11,none,.bin .mul false (.t 9) (.t 10)⟩,⟨some 5,none,.mv (.t 11)⟩])) (.reg [⟨some 12,none,.bin .add false (.t 7) (.c (.int .i64 1))⟩,⟨some 7,none,.mv (.t 12)⟩]))))))) (.seq (.reg [⟨some 13,none,.mv (.t 5)⟩,⟨some 4,none,.mv (.t 13)⟩]) .ret))))
theorem Q1:Aq Tryz.prog 47=some ⟨14,Lq,[(.tmp 4)]⟩:=by kernel_rfl
theorem Is:modes 47=⟨[],.asis,none,false⟩:=by unfold modes; rfl
def ID:SC:=(.seq (.reg [⟨some 4,none,.mv (.c (.int .i64 0))⟩]) (.seq (.reg [⟨some 5,none,.mv (.c (.int .i64 1))⟩]) (.seq (.seq (.reg [⟨some 6,none,.mv (.c (.int .i64 0))⟩]) (.block 0 (.loop [1,1,0,0,0,1,1,0,0,0,0,0,0,0,0,0] (.seq (.seq (.reg [⟨some 7,none,.mv (.t 6)⟩,⟨some 8,none,.mv (.t 1)⟩,⟨some 9,none,.bin .lss false (.t 7) (.t 8)⟩]) (.cond (.t 9) .skip (.exit 0))) (.seq (.block 1 (.reg [⟨some 12,none,.mv (.t 5)⟩,⟨some 13,none,.mv (.t 0)⟩,⟨some 14,none,.bin .mul false (.t 12) (.t 13)⟩,⟨some 5,none,.mv (.t 14)⟩])) (.reg [⟨some 10,none,.mv (.t 6)⟩,⟨some 11,none,.bin .add false (.t 10) (.c (.int .i64 1))⟩,⟨some 6,none,.mv (.t 11)⟩])))))) (.seq (.reg [⟨some 15,none,.mv (.t 5)⟩,⟨some 4,none,.mv (.t 15)⟩]) .ret))))
theorem MO:Aq Tryz.prog 61=some ⟨16,ID,[(.tmp 4)]⟩:=by kernel_rfl
theorem Bt:modes 61=⟨[],.asis,none,false⟩:=by unfold modes; rfl
def FU:SC:=(.seq (.reg [⟨some 2,none,.boxv 44 4 (.t 0)⟩,⟨some 3,none,.boxv 44 4 (.t 1)⟩,⟨some 4,none,.mv (.c (.int .i64 0))⟩]) (.seq (.dreg [[],[0],[],[2],[1,0,3,2],[],[5],[],[7],[6,5,8,7,4,1,0,3,2],[4,1,0,3,2,9,6,5,8,7],[10,4,1,0,3,2,9,6,5,8,7],[11,10,4,1,0,3,2,9,6,5,8,7]] [⟨some 5,none,.faddr 0 (.t 2)⟩,⟨some 6,none,.load false 1 (.t 5)⟩,⟨some 7,none,.faddr 0 (.t 3)⟩,⟨some 8,none,.load false 1 (.t 7)⟩,⟨some 9,none,.call 106 [(.t 6),(.t 8)]⟩,⟨some 10,none,.faddr 1 (.t 2)⟩,⟨some 11,none,.load false 1 (.t 10)⟩,⟨some 12,none,.faddr 1 (.t 3)⟩,⟨some 13,none,.load false 1 (.t 12)⟩,⟨some 14,none,.call 107 [(.t 11),(.t 13)]⟩,⟨some 15,none,.mkrow 3 1 [(.int .i64 0)] 2 [(0,(.t 9)),(1,(.t 14))]⟩,⟨some 16,none,.call 105 [(.t 15)]⟩,⟨some 4,none,.mv (.t 16)⟩]) .ret))
theorem Jj:Aq Tryz.prog 81=some ⟨17,FU,[(.tmp 4)]⟩:=by kernel_rfl
theorem Cd:modes 81=⟨[],.asis,none,false⟩:=by unfold modes; rfl
def HU:SC:=(.seq (.reg [⟨some 2,none,.mv (.c (.bool false))⟩]) (.seq (.seq (.reg [⟨some 5,none,.mv (.t 0)⟩,⟨some 6,none,.len false (.t 5)⟩,⟨some 7,none,.mv (.c (.int .i64 0))⟩]) (.block 0 (.loop [1,0,0,0,0,1,1,1,0,0,0,0,0,0,0,0,0,0,0,0,0,0,0,0,0,0,0,0,0,0,0,0,0,0,0,0,0,0,0,0] (.seq (.reg [⟨some 8,none,.bin .lss false (.t 7) (.t 6)⟩]) (.seq (.cond (.t 8) .skip (.exit 0)) (.seq (.block 1 (.seq (.reg [⟨some 9,none,.mv (.t 7)⟩,⟨some 10,none,.iaddr 4 (.t 5) (.t 7)⟩,⟨some 11,none,.load true 4 (.t 10)⟩,⟨(some 4),none,(.alloc 44 [(.str ⟨#[]⟩),(.int .i64 0),(.bool false),.nil])⟩,⟨some 3,none,.mv (.t 9)⟩,⟨none,none,(.store 4 (.t 4) (.t 11))⟩]) (.seq (.dreg [[],[0],[1,0],[2,1,0],[3,2,1,0],[4,3,2,1,0],[5,4,3,2,1,0],[6,5,4,3,2,1,0],[7,6,5,4,3,2,1,0],[4,3,2,1,0,8,7,6,5],[9,4,3,2,1,0,8,7,6,5],[10,9,4,3,2,1,0,8,7,6,5],[11,10,9,4,3,2,1,0,8,7,6,5],[12,11,10,9,4,3,2,1,0,8,7,6,5],[13,12,11,10,9,4,3,2,1,0,8,7,6,5],[13,12,11,10,9,4,3,2,1,0,8,7,6,5],[15,13,12,11,10,9,4,3,2,1,0,8,7,6,5],[14,13,12,11,10,9,4,3,2,1,0,8,7,6,5,16,15],[17,14,13,12,11,10,9,4,3,2,1,0,8,7,6,5,16,15],[13,12,11,10,9,4,3,2,1,0,8,7,6,5],[18,17,14,13,12,11,10,9,4,3,2,1,0,8,7,6,5,16,15,19],[20,18,17,14,13,12,11,10,9,4,3,2,1,0,8,7,6,5,16,15,19],[13,12,11,10,9,4,3,2,1,0,8,7,6,5,21,20,18,17,14,16,15,19],[10,9,4,3,2,1,0,8,7,6,5,22,13,12,11,21,20,18,17,14,16,15,19]] [⟨some 12,none,.faddr 0 (.t 4)⟩,⟨some 13,none,.load false 1 (.t 12)⟩,⟨some 14,none,.call 80 [(.t 13)]⟩,⟨some 15,none,.un .not (.t 14)⟩,⟨some 16,none,.mv (.t 15)⟩,⟨(some 17),(some (16,false)),(.faddr 1 (.t 4))⟩,⟨(some 18),(some (16,false)),(.load false 1 (.t 17))⟩,⟨(some 19),(some (16,false)),(.call 43 [(.t 18),(.c (.int .i64 0)),(.c (.int .i64 3))])⟩,⟨(some 20),(some (16,false)),(.un .not (.t 19))⟩,⟨some 21,none,.pick (.t 16) (.c (.bool true)) (.t 20)⟩,⟨some 22,none,.mv (.t 21)⟩,⟨(some 23),(some (22,false)),(.mv (.t 3))⟩,⟨(some 24),(some (22,false)),(.bin .gtr false (.t 23) (.c (.int .i64 0)))⟩,⟨(some 25),(some (22,false)),(.mv (.t 24))⟩,⟨(some 26),(some (25,true)),(.mv (.t 0))⟩,⟨(some 27),(some (25,true)),(.mv (.t 3))⟩,⟨(some 28),(some (25,true)),(.bin .sub false (.t 27) (.c (.int .i64 1)))⟩,⟨(some 29),(some (25,true)),(.iaddr 4 (.t 26) (.t 28))⟩,⟨(some 30),(some (25,true)),(.load true 4 (.t 29))⟩,⟨(some 31),(some (25,true)),(.load true 4 (.t 4))⟩,⟨(some 32),(some (25,true)),(.call 81 [(.t 30),(.t 31)])⟩,⟨(some 33),(some (25,true)),(.bin .geq false (.t 32) (.c (.int .i64 0)))⟩,⟨(some 34),(some (22,false)),(.pick (.t 25) (.t 33) (.c (.bool false)))⟩,⟨some 35,none,.pick (.t 22) (.c (.bool true)) (.t 34)⟩]) (.cond (.t 35) (.seq (.reg [⟨some 2,none,.mv (.c (.bool false))⟩]) .ret) .skip)))) (.reg [⟨some 36,none,.bin .add false (.t 7) (.c (.int .i64 1))⟩,⟨some 7,none,.mv (.t 36)⟩]))))))) (.seq (.reg [⟨some 37,none,.mv (.t 0)⟩,⟨some 38,none,.len false (.t 37)⟩,⟨some 39,none,.bin .leq false (.t 38) (.c (.int .i64 12))⟩,⟨some 2,none,.mv (.t 39)⟩]) .ret)))
theorem LV:Aq Tryz.prog 44=some ⟨40,HU,[(.tmp 2)]⟩:=by kernel_rfl
theorem Es:modes 44=⟨[],.asis,none,false⟩:=by unfold modes; rfl
def Eh:SC:=(.seq (.reg [⟨some 2,none,.boxv 44 4 (.t 0)⟩,⟨some 4,none,.mv (.c (.int .i64 0))⟩]) (.seq (.seq (.reg [⟨some 5,none,.faddr 2 (.t 2)⟩,⟨some 6,none,.load false 1 (.t 5)⟩]) (.cond (.t 6) (.seq (.reg [⟨some 4,none,.mv (.c (.int .i64 2))⟩]) .ret) .skip)) (.seq (.reg [⟨some 7,none,.mv (.t 1)⟩,⟨some 4,none,.mv (.t 7)⟩]) .ret)))
theorem FV:Aq Tryz.prog 50=some ⟨8,Eh,[(.tmp 4)]⟩:=by kernel_rfl
theorem Ei:modes 50=⟨[],.asis,none,false⟩:=by unfold modes; rfl
def BZ:SC:=(.seq (.reg [⟨some 1,none,.boxv 26 2 (.t 0)⟩,⟨some 2,none,.mv (.c (.bool false))⟩]) (.seq (.seq (.reg [⟨some 3,none,.faddr 0 (.t 1)⟩,⟨some 4,none,.load false 1 (.t 3)⟩,⟨some 5,none,.call 43 [(.t 4),(.c (.int .i64 1)),(.c (.int .i64 3))]⟩,⟨some 6,none,.un .not (.t 5)⟩,⟨some 7,none,.mv (.t 6)⟩,⟨(some 8),(some (7,false)),(.faddr 1 (.t 1))⟩,⟨(some 9),(some (7,false)),(.load false 1 (.t 8))⟩,⟨(some 10),(some (7,false)),(.call 44 [(.t 9)])⟩,⟨(some 11),(some (7,false)),(.un .not (.t 10))⟩,⟨some 12,none,.pick (.t 7) (.c (.bool true)) (.t 11)⟩]) (.cond (.t 12) (.seq (.reg [⟨some 2,none,.mv (.c (.bool false))⟩]) .ret) .skip)) (.seq (.reg [⟨some 13,none,.faddr 1 (.t 1)⟩,⟨some 14,none,.load false 1 (.t 13)⟩,⟨some 15,none,.mkfn 46 [(.t 1)]⟩,⟨some 16,none,.call 45 [(.t 14),(.t 15)]⟩,⟨some 17,none,.un .not (.t 16)⟩,⟨some 2,none,.mv (.t 17)⟩]) .ret)))
theorem CG:Aq Tryz.prog 20=some ⟨18,BZ,[(.tmp 2)]⟩:=by kernel_rfl
theorem A6:modes 20=⟨[],.asis,none,false⟩:=by unfold modes; rfl
def C0:SC:=(.seq (.reg [⟨some 2,none,.boxv 44 4 (.t 0)⟩,⟨some 3,none,.mv (.c (.bool false))⟩]) (.seq (.dreg [[],[0],[1,0],[],[3],[],[5],[4,3,6,5],[2,1,0,7,4,3,6,5],[8,2,1,0,7,4,3,6,5],[9,8,2,1,0,7,4,3,6,5],[10,9,8,2,1,0,7,4,3,6,5],[9,8,2,1,0,7,4,3,6,5],[11,10,9,8,2,1,0,7,4,3,6,5,12],[9,8,2,1,0,7,4,3,6,5,13,11,10,12],[14,9,8,2,1,0,7,4,3,6,5,13,11,10,12]] [⟨some 4,none,.faddr 3 (.t 2)⟩,⟨some 5,none,.load false 1 (.t 4)⟩,⟨some 6,none,.len false (.t 5)⟩,⟨some 7,none,.faddr 0 (.t 1)⟩,⟨some 8,none,.load false 1 (.t 7)⟩,⟨some 9,none,.faddr 1 (.t 2)⟩,⟨some 10,none,.load false 1 (.t 9)⟩,⟨some 11,none,.call 47 [(.t 8),(.t 10)]⟩,⟨some 12,none,.bin .neq false (.t 6) (.t 11)⟩,⟨some 13,none,.mv (.t 12)⟩,⟨(some 14),(some (13,false)),(.faddr 3 (.t 2))⟩,⟨(some 15),(some (13,false)),(.load false 1 (.t 14))⟩,⟨(some 16),(some (13,false)),(.mkfn 49 [(.t 2),(.t 1)])⟩,⟨(some 17),(some (13,false)),(.call 48 [(.t 15),(.t 16)])⟩,⟨some 18,none,.pick (.t 13) (.c (.bool true)) (.t 17)⟩,⟨some 3,none,.mv (.t 18)⟩]) .ret))
theorem Dz:Aq Tryz.prog 46=some ⟨19,C0,[(.tmp 3)]⟩:=by kernel_rfl
theorem BQ:modes 46=⟨[],.asis,none,false⟩:=by unfold modes; rfl
def Dm:SC:=(.seq (.reg [⟨some 4,none,.mv (.c (.bool false))⟩]) (.seq (.reg [⟨some 5,none,.mv (.t 0)⟩,⟨some 6,none,.load true 4 (.t 1)⟩,⟨some 7,none,.faddr 0 (.t 2)⟩,⟨some 8,none,.load false 1 (.t 7)⟩,⟨some 9,none,.call 50 [(.t 6),(.t 8)]⟩,⟨some 10,none,.bin .sub false (.t 9) (.c (.int .i64 1))⟩,⟨some 11,none,.call 43 [(.t 5),(.c (.int .i64 0)),(.t 10)]⟩,⟨some 12,none,.un .not (.t 11)⟩,⟨some 4,none,.mv (.t 12)⟩]) .ret))
theorem Fg:Aq Tryz.prog 49=some ⟨13,Dm,[(.tmp 4)]⟩:=by kernel_rfl
theorem Cp:modes 49=⟨[],.asis,none,false⟩:=by unfold modes; rfl
theorem D0:IG Tryz.prog 46=true:=by kernel_rfl
theorem BH:IG Tryz.prog 49=true:=by kernel_rfl
def Ej:SC:=(.seq (.reg [⟨some 4,none,.mv (.c (.int .i64 0))⟩]) (.seq (.seq (.reg [⟨some 6,none,.mv (.t 0)⟩,⟨some 7,none,.len false (.t 6)⟩,⟨some 8,none,.mv (.c (.int .i64 0))⟩]) (.block 0 (.loop [1,1,0,0,0,0,0,1,1,0,0,0,0,0,0,0,0,0,0] (.seq (.reg [⟨some 9,none,.bin .lss false (.t 8) (.t 7)⟩]) (.seq (.cond (.t 9) .skip (.exit 0)) (.seq (.block 1 (.seq (.reg [⟨some 10,none,.mv (.t 8)⟩,⟨some 5,none,.mv (.t 10)⟩]) (.seq (.reg [⟨some 11,none,.mv (.t 1)⟩,⟨some 12,none,.mv (.t 0)⟩,⟨some 13,none,.mv (.t 5)⟩,⟨some 14,none,.iaddr 1 (.t 12) (.t 13)⟩,⟨some 15,none,.load false 1 (.t 14)⟩,⟨some 16,none,.callv (.t 11) [(.t 15)]⟩]) (.cond (.t 16) (.seq (.reg [⟨some 17,none,.mv (.t 5)⟩,⟨some 4,none,.mv (.t 17)⟩]) .ret) .skip)))) (.reg [⟨some 18,none,.bin .add false (.t 8) (.c (.int .i64 1))⟩,⟨some 8,none,.mv (.t 18)⟩]))))))) (.seq (.reg [⟨some 4,none,.mv (.c (.int .i64 (-(0+1))))⟩]) .ret)))
theorem GK:Aq Tryz.prog 83=some ⟨19,Ej,[(.tmp 4)]⟩:=by kernel_rfl
theorem Ek:modes 83=⟨[],.asis,none,false⟩:=by unfold modes; rfl
def D8:SC:=(.seq (.reg [⟨some 4,none,.mv (.c (.bool false))⟩]) (.seq (.reg [⟨some 5,none,.mv (.t 0)⟩,⟨some 6,none,.mv (.t 1)⟩,⟨some 7,none,.call 83 [(.t 5),(.t 6)]⟩,⟨some 8,none,.bin .geq false (.t 7) (.c (.int .i64 0))⟩,⟨some 4,none,.mv (.t 8)⟩]) .ret))
theorem FW:Aq Tryz.prog 48=some ⟨9,D8,[(.tmp 4)]⟩:=by kernel_rfl
theorem CA:modes 48=⟨[],.asis,none,false⟩:=by unfold modes; rfl
def BF:SC:=(.seq (.reg [⟨some 4,none,.mv (.c (.int .i64 0))⟩]) (.seq (.seq (.reg [⟨some 6,none,.mv (.t 0)⟩,⟨some 7,none,.len false (.t 6)⟩,⟨some 8,none,.mv (.c (.int .i64 0))⟩]) (.block 0 (.loop [1,1,0,0,0,0,0,1,1,0,0,0,0,0,0,0,0,0,0] (.seq (.reg [⟨some 9,none,.bin .lss false (.t 8) (.t 7)⟩]) (.seq (.cond (.t 9) .skip (.exit 0)) (.seq (.block 1 (.seq (.reg [⟨some 10,none,.mv (.t 8)⟩,⟨some 5,none,.mv (.t 10)⟩]) (.seq (.reg [⟨some 11,none,.mv (.t 1)⟩,⟨some 12,none,.mv (.t 0)⟩,⟨some 13,none,.mv (.t 5)⟩,⟨some 14,none,.iaddr 4 (.t 12) (.t 13)⟩,⟨some 15,none,.load true 4 (.t 14)⟩,⟨some 16,none,.callv (.t 11) [(.t 15)]⟩]) (.cond (.t 16) (.seq (.reg [⟨some 17,none,.mv (.t 5)⟩,⟨some 4,none,.mv (.t 17)⟩]) .ret) .skip)))) (.reg [⟨some 18,none,.bin .add false (.t 8) (.c (.int .i64 1))⟩,⟨some 8,none,.mv (.t 18)⟩]))))))) (.seq (.reg [⟨some 4,none,.mv (.c (.int .i64 (-(0+1))))⟩]) .ret)))
theorem Cy:Aq Tryz.prog 82=some ⟨19,BF,[(.tmp 4)]⟩:=by kernel_rfl
theorem AQ:modes 82=⟨[],.asis,none,false⟩:=by unfold modes; rfl
def Cm:SC:=(.seq (.reg [⟨some 4,none,.mv (.c (.bool false))⟩]) (.seq (.reg [⟨some 5,none,.mv (.t 0)⟩,⟨some 6,none,.mv (.t 1)⟩,⟨some 7,none,.call 82 [(.t 5),(.t 6)]⟩,⟨some 8,none,.bin .geq false (.t 7) (.c (.int .i64 0))⟩,⟨some 4,none,.mv (.t 8)⟩]) .ret))
theorem D3:Aq Tryz.prog 45=some ⟨9,Cm,[(.tmp 4)]⟩:=by kernel_rfl
theorem Cn:modes 45=⟨[],.asis,none,false⟩:=by unfold modes; rfl
def F7:SC:=(.seq (.reg [⟨some 2,none,.mv (.c (.bool false))⟩]) (.seq (.seq (.reg [⟨some 5,none,.mv (.t 0)⟩,⟨some 6,none,.len false (.t 5)⟩,⟨some 7,none,.bin .gtr false (.t 6) (.c (.int .i64 12))⟩]) (.cond (.t 7) (.seq (.reg [⟨some 2,none,.mv (.c (.bool false))⟩]) .ret) .skip)) (.seq (.seq (.reg [⟨some 3,none,.mv (.c (.int .i64 0))⟩]) (.block 0 (.loop [1,0,0,1,0,0,0,0,0,0,0,0,0,0,0,0,0,0,0,0,0,0,0,0,0,0,0,0,0,0,0,0,0,0,0,0,0,0,0,0,0,0,0,0,0,0,0,0,0,0,0,0,0,0,0,0,0,0,0,0,0,0,0] (.seq (.seq (.reg [⟨some 8,none,.mv (.t 3)⟩,⟨some 9,none,.mv (.t 0)⟩,⟨some 10,none,.len false (.t 9)⟩,⟨some 11,none,.bin .lss false (.t 8) (.t 10)⟩]) (.cond (.t 11) .skip (.exit 0))) (.seq (.block 1 (.seq (.reg [⟨some 14,none,.mv (.t 0)⟩,⟨some 15,none,.mv (.t 3)⟩,⟨some 16,none,.iaddr 4 (.t 14) (.t 15)⟩,⟨some 17,none,.load true 4 (.t 16)⟩,⟨(some 4),none,(.alloc 44 [(.str ⟨#[]⟩),(.int .i64 0),(.bool false),.nil])⟩,⟨none,none,(.store 4 (.t 4) (.t 17))⟩]) (.seq (.seq (.reg [⟨some 18,none,.faddr 0 (.t 4)⟩,⟨some 19,none,.load false 1 (.t 18)⟩,⟨some 20,none,.call 95 [(.t 19)]⟩,⟨some 21,none,.un .not (.t 20)⟩,⟨some 22,none,.mv (.t 21)⟩,⟨(some 23),(some (22,false)),(.faddr 1 (.t 4))⟩,⟨(some 24),(some (22,false)),(.load false 1 (.t 23))⟩,⟨(some 25),(some (22,false)),(.call 32 [(.t 24),(.c (.int .i64 0)),(.c (.int .i64 3))])⟩,⟨(some 26),(some (22,false)),(.un .not (.t 25))⟩,⟨some 27,none,.pick (.t 22) (.c (.bool true)) (.t 26)⟩]) (.cond (.t 27) (.seq (.reg [⟨some 2,none,.mv (.c (.bool false))⟩]) .ret) .skip)) (.seq (.dreg [[],[0],[1,0],[2,1,0],[2,1,0],[4,2,1,0],[3,2,1,0,5,4],[6,3,2,1,0,5,4],[7,6,3,2,1,0,5,4],[2,1,0],[9,2,1,0],[8,7,6,3,2,1,0,5,4,10,9],[11,8,7,6,3,2,1,0,5,4,10,9],[12,11,8,7,6,3,2,1,0,5,4,10,9],[12,11,8,7,6,3,2,1,0,5,4,10,9],[14,12,11,8,7,6,3,2,1,0,5,4,10,9],[13,12,11,8,7,6,3,2,1,0,5,4,10,9,15,14],[16,13,12,11,8,7,6,3,2,1,0,5,4,10,9,15,14],[17,16,13,12,11,8,7,6,3,2,1,0,5,4,10,9,15,14],[12,11,8,7,6,3,2,1,0,5,4,10,9],[19,12,11,8,7,6,3,2,1,0,5,4,10,9],[18,17,16,13,12,11,8,7,6,3,2,1,0,5,4,10,9,15,14,20,19],[21,18,17,16,13,12,11,8,7,6,3,2,1,0,5,4,10,9,15,14,20,19],[22,21,18,17,16,13,12,11,8,7,6,3,2,1,0,5,4,10,9,15,14,20,19],[22,21,18,17,16,13,12,11,8,7,6,3,2,1,0,5,4,10,9,15,14,20,19],[24,22,21,18,17,16,13,12,11,8,7,6,3,2,1,0,5,4,10,9,15,14,20,19],[23,22,21,18,17,16,13,12,11,8,7,6,3,2,1,0,5,4,10,9,15,14,20,19,25,24],[26,23,22,21,18,17,16,13,12,11,8,7,6,3,2,1,0,5,4,10,9,15,14,20,19,25,24],[27,26,23,22,21,18,17,16,13,12,11,8,7,6,3,2,1,0,5,4,10,9,15,14,20,19,25,24],[22,21,18,17,16,13,12,11,8,7,6,3,2,1,0,5,4,10,9,15,14,20,19],[29,22,21,18,17,16,13,12,11,8,7,6,3,2,1,0,5,4,10,9,15,14,20,19],[28,27,26,23,22,21,18,17,16,13,12,11,8,7,6,3,2,1,0,5,4,10,9,15,14,20,19,25,24,30,29],[22,21,18,17,16,13,12,11,8,7,6,3,2,1,0,5,4,10,9,15,14,20,19,31,28,27,26,23,25,24,30,29],[12,11,8,7,6,3,2,1,0,5,4,10,9,32,22,21,18,17,16,13,15,14,20,19,31,28,27,26,23,25,24,30,29],[2,1,0,33,12,11,8,7,6,3,5,4,10,9,32,22,21,18,17,16,13,15,14,20,19,31,28,27,26,23,25,24,30,29]] [⟨some 28,none,.mv (.t 3)⟩,⟨some 29,none,.bin .gtr false (.t 28) (.c (.int .i64 0))⟩,⟨some 30,none,.mv (.t 29)⟩,⟨(some 31),(some (30,true)),(.mv (.t 0))⟩,⟨(some 32),(some (30,true)),(.mv (.t 3))⟩,⟨(some 33),(some (30,true)),(.bin .sub false (.t 32) (.c (.int .i64 1)))⟩,⟨(some 34),(some (30,true)),(.iaddr 4 (.t 31) (.t 33))⟩,⟨(some 35),(some (30,true)),(.faddr 0 (.t 34))⟩,⟨(some 36),(some (30,true)),(.load false 1 (.t 35))⟩,⟨(some 37),(some (30,true)),(.faddr 0 (.t 4))⟩,⟨(some 38),(some (30,true)),(.load false 1 (.t 37))⟩,⟨(some 39),(some (30,true)),(.bin .gtr false (.t 36) (.t 38))⟩,⟨(some 40),(some (30,true)),(.mv (.t 39))⟩,⟨(some 41),(some (40,false)),(.mv (.t 0))⟩,⟨(some 42),(some (40,false)),(.mv (.t 3))⟩,⟨(some 43),(some (40,false)),(.bin .sub false (.t 42) (.c (.int .i64 1)))⟩,⟨(some 44),(some (40,false)),(.iaddr 4 (.t 41) (.t 43))⟩,⟨(some 45),(some (40,false)),(.faddr 0 (.t 44))⟩,⟨(some 46),(some (40,false)),(.load false 1 (.t 45))⟩,⟨(some 47),(some (40,false)),(.faddr 0 (.t 4))⟩,⟨(some 48),(some (40,false)),(.load false 1 (.t 47))⟩,⟨(some 49),(some (40,false)),(.bin .eql false (.t 46) (.t 48))⟩,⟨(some 50),(some (40,false)),(.mv (.t 49))⟩,⟨(some 51),(some (50,true)),(.mv (.t 0))⟩,⟨(some 52),(some (50,true)),(.mv (.t 3))⟩,⟨(some 53),(some (50,true)),(.bin .sub false (.t 52) (.c (.int .i64 1)))⟩,⟨(some 54),(some (50,true)),(.iaddr 4 (.t 51) (.t 53))⟩,⟨(some 55),(some (50,true)),(.faddr 1 (.t 54))⟩,⟨(some 56),(some (50,true)),(.load false 1 (.t 55))⟩,⟨(some 57),(some (50,true)),(.faddr 1 (.t 4))⟩,⟨(some 58),(some (50,true)),(.load false 1 (.t 57))⟩,⟨(some 59),(some (50,true)),(.bin .geq false (.t 56) (.t 58))⟩,⟨(some 60),(some (40,false)),(.pick (.t 50) (.t 59) (.c (.bool false)))⟩,⟨(some 61),(some (30,true)),(.pick (.t 40) (.c (.bool true)) (.t 60))⟩,⟨some 62,none,.pick (.t 30) (.t 61) (.c (.bool false))⟩]) (.cond (.t 62) (.seq (.reg [⟨some 2,none,.mv (.c (.bool false))⟩]) .ret) .skip))))) (.reg [⟨some 12,none,.mv (.t 3)⟩,⟨some 13,none,.bin .add false (.t 12) (.c (.int .i64 1))⟩,⟨some 3,none,.mv (.t 13)⟩])))))) (.seq (.reg [⟨some 2,none,.mv (.c (.bool true))⟩]) .ret))))
theorem HV:Aq Tryz.prog 60=some ⟨63,F7,[(.tmp 2)]⟩:=by kernel_rfl
theorem D1:modes 60=⟨[],.asis,none,false⟩:=by unfold modes; rfl
def Fh:SC:=(.seq (.reg [⟨some 1,none,.boxv 26 2 (.t 0)⟩,⟨some 2,none,.mv (.c (.bool false))⟩]) (.seq (.seq (.reg [⟨some 7,none,.faddr 0 (.t 1)⟩,⟨some 8,none,.load false 1 (.t 7)⟩,⟨some 9,none,.call 32 [(.t 8),(.c (.int .i64 1)),(.c (.int .i64 3))]⟩,⟨some 10,none,.un .not (.t 9)⟩,⟨some 11,none,.mv (.t 10)⟩,⟨(some 12),(some (11,false)),(.faddr 1 (.t 1))⟩,⟨(some 13),(some (11,false)),(.load false 1 (.t 12))⟩,⟨(some 14),(some (11,false)),(.call 60 [(.t 13)])⟩,⟨(some 15),(some (11,false)),(.un .not (.t 14))⟩,⟨some 16,none,.pick (.t 11) (.c (.bool true)) (.t 15)⟩]) (.cond (.t 16) (.seq (.reg [⟨some 2,none,.mv (.c (.bool false))⟩]) .ret) .skip)) (.seq (.seq (.reg [⟨some 3,none,.mv (.c (.int .i64 0))⟩]) (.block 0 (.loop [0,1,0,1,0,0,0,0,0,0,0,0,0,0,0,0,0,0,0,0,0,0,0,0,0,0,0,0,0,0,0,0,0,0,0,0,0,0,0,0,0,0,0,0,0,0,0,0,0,0,0,0,0,0,0,0,0,0] (.seq (.seq (.reg [⟨some 17,none,.mv (.t 3)⟩,⟨some 18,none,.faddr 1 (.t 1)⟩,⟨some 19,none,.load false 1 (.t 18)⟩,⟨some 20,none,.len false (.t 19)⟩,⟨some 21,none,.bin .lss false (.t 17) (.t 20)⟩]) (.cond (.t 21) .skip (.exit 0))) (.seq (.block 1 (.seq (.reg [⟨some 24,none,.faddr 1 (.t 1)⟩,⟨some 25,none,.load false 1 (.t 24)⟩,⟨some 26,none,.mv (.t 3)⟩,⟨some 27,none,.iaddr 4 (.t 25) (.t 26)⟩,⟨some 28,none,.load true 4 (.t 27)⟩,⟨(some 4),none,(.alloc 44 [(.str ⟨#[]⟩),(.int .i64 0),(.bool false),.nil])⟩,⟨none,none,(.store 4 (.t 4) (.t 28))⟩]) (.seq (.reg [⟨some 29,none,.faddr 0 (.t 1)⟩,⟨some 30,none,.load false 1 (.t 29)⟩,⟨some 31,none,.bin .sub false (.t 30) (.c (.int .i64 1))⟩,⟨some 5,none,.mv (.t 31)⟩]) (.seq (.seq (.reg [⟨some 32,none,.faddr 2 (.t 4)⟩,⟨some 33,none,.load false 1 (.t 32)⟩]) (.cond (.t 33) (.reg [⟨some 5,none,.mv (.c (.int .i64 1))⟩]) .skip)) (.seq (.seq (.dreg [[],[0],[1,0],[],[3],[],[5],[4,3,6,5],[2,1,0,7,4,3,6,5]] [⟨some 34,none,.faddr 3 (.t 4)⟩,⟨some 35,none,.load false 1 (.t 34)⟩,⟨some 36,none,.len false (.t 35)⟩,⟨some 37,none,.faddr 0 (.t 1)⟩,⟨some 38,none,.load false 1 (.t 37)⟩,⟨some 39,none,.faddr 1 (.t 4)⟩,⟨some 40,none,.load false 1 (.t 39)⟩,⟨some 41,none,.call 61 [(.t 38),(.t 40)]⟩,⟨some 42,none,.bin .neq false (.t 36) (.t 41)⟩]) (.cond (.t 42) (.seq (.reg [⟨some 2,none,.mv (.c (.bool false))⟩]) .ret) .skip)) (.seq (.reg [⟨some 6,none,.mv (.c (.int .i64 0))⟩]) (.block 2 (.loop [0,1,0,1,1,1,1,0,0,0,0,0,0,0,0,0,0,0,0,0,0,0,0,0,0,0,0,0,0,0,0,0,0,0,0,0,0,0,0,0,0,0,0,0,0,0,0,0,0,0,0,0,0,0,0,0,0,0] (.seq (.seq (.reg [⟨some 43,none,.mv (.t 6)⟩,⟨some 44,none,.faddr 3 (.t 4)⟩,⟨some 45,none,.load false 1 (.t 44)⟩,⟨some 46,none,.len false (.t 45)⟩,⟨some 47,none,.bin .lss false (.t 43) (.t 46)⟩]) (.cond (.t 47) .skip (.exit 2))) (.seq (.block 3 (.seq (.reg [⟨some 50,none,.faddr 3 (.t 4)⟩,⟨some 51,none,.load false 1 (.t 50)⟩,⟨some 52,none,.mv (.t 6)⟩,⟨some 53,none,.iaddr 1 (.t 51) (.t 52)⟩,⟨some 54,none,.load false 1 (.t 53)⟩,⟨some 55,none,.mv (.t 5)⟩,⟨some 56,none,.call 32 [(.t 54),(.c (.int .i64 0)),(.t 55)]⟩,⟨some 57,none,.un .not (.t 56)⟩]) (.cond (.t 57) (.seq (.reg [⟨some 2,none,.mv (.c (.bool false))⟩]) .ret) .skip))) (.reg [⟨some 48,none,.mv (.t 6)⟩,⟨some 49,none,.bin .add false (.t 48) (.c (.int .i64 1))⟩,⟨some 6,none,.mv (.t 49)⟩]))))))))))) (.reg [⟨some 22,none,.mv (.t 3)⟩,⟨some 23,none,.bin .add false (.t 22) (.c (.int .i64 1))⟩,⟨some 3,none,.mv (.t 23)⟩])))))) (.seq (.reg [⟨some 2,none,.mv (.c (.bool true))⟩]) .ret))))
theorem GM:Aq Tryz.prog 24=some ⟨58,Fh,[(.tmp 2)]⟩:=by kernel_rfl
theorem BX:modes 24=⟨[],.asis,none,false⟩:=by unfold modes; rfl
theorem Lr (x lo hi:Int):E 43 [.int .i64 x,.int .i64 lo,.int .i64 hi] []=some (.bool (inI x lo hi),[]):=by
 unfold inI
 cases h:dec (lo≤x) with
 | false =>
  rw [zR]
  refine Al Ka Bo (of_decide_eq_true rfl) ?_
  simp (disch:=omega) only [H1,go_sem,Ab,h]
 | true =>
  rw [zY]
  refine Al Ka Bo (of_decide_eq_true rfl) ?_
  simp (disch:=omega) only [H1,go_sem,Ab,h]
theorem NZ (x lo hi:Int):E 32 [.int .i64 x,.int .i64 lo,.int .i64 hi] []=some (.bool (inI x lo hi),[]):=by
 unfold inI
 cases h:dec (lo≤x) with
 | false =>
  rw [zR]
  refine Al M8 Bl (of_decide_eq_true rfl) ?_
  simp (disch:=omega) only [Ji,go_sem,Ab,h]
 | true =>
  rw [zY]
  refine Al M8 Bl (of_decide_eq_true rfl) ?_
  simp (disch:=omega) only [Ji,go_sem,Ab,h]
theorem YT (b k:Int) (h1:1≤b) (h3:b≤3) (h0:0≤k) (hk:k≤12):E 47 [.int .i64 b,.int .i64 k] []=some (.int .i64 (pw b k.toNat),[]):=by
 refine Al Q1 Is (of_decide_eq_true rfl) ?_
 simp (disch:=omega) only [Lq,go_sem,Ab]
 refine go_loop (α:=Int) (fun i=>⟨slots 14 0 [(0,.int .i64 b),(5,.int .i64 (pw b i.toNat)),(6,.int .i64 k),(7,.int .i64 i)],[]⟩) (fun i=>0≤i∧i≤k) (fun i=>(k-i).toNat) 0 ⟨Int.le_refl 0,h0⟩ (by simp (disch:=omega) only [go_sem,Ab,xE,pw]) ?_
 rintro i ⟨hi0,hi1⟩
 rcases yG i k with hlt | hge
 ·have hn:(i+1).toNat=i.toNat+1:=by omega
  have hp:=Dl h1 h3 (k:=i.toNat+1) (by omega)
  rw [pw] at hp
  simp (disch:=omega) only [go_sem,Ab]
  refine ⟨i+1,⟨by omega,by omega⟩,by omega,?_⟩
  simp only [hn,pw,and_self]
 ·obtain rfl:i=k:=by omega
  simp (disch:=omega) only [go_sem,Ab]
theorem Oa (b k:Int) (h1:1≤b) (h3:b≤3) (h0:0≤k) (hk:k≤12):E 61 [.int .i64 b,.int .i64 k] []=some (.int .i64 (pw b k.toNat),[]):=by
 refine Al MO Bt (of_decide_eq_true rfl) ?_
 simp (disch:=omega) only [ID,go_sem,Ab]
 refine go_loop (α:=Int) (fun i=>⟨slots 16 0 [(0,.int .i64 b),(1,.int .i64 k),(5,.int .i64 (pw b i.toNat)),(6,.int .i64 i)],[]⟩) (fun i=>0≤i∧i≤k) (fun i=>(k-i).toNat) 0 ⟨Int.le_refl 0,h0⟩ (by simp (disch:=omega) only [go_sem,Ab,xE,pw]) ?_
 rintro i ⟨hi0,hi1⟩
 rcases yG i k with hlt | hge
 ·have hn:(i+1).toNat=i.toNat+1:=by omega
  have hp:=Dl h1 h3 (k:=i.toNat+1) (by omega)
  rw [pw] at hp
  simp (disch:=omega) only [go_sem,Ab]
  refine ⟨i+1,⟨by omega,by omega⟩,by omega,?_⟩
  simp only [hn,pw,and_self]
 ·obtain rfl:i=k:=by omega
  simp (disch:=omega) only [go_sem,Ab]
theorem MP (x y:Tl):E 81 [x.sv,y.sv] []=some (.int .i64 (orZ (SZ x.name y.name) (Ta x.arity y.arity)),[]):=by
 have h1:=Te x.name y.name
 have h2:=Tf x.arity y.arity
 have h3:=QaQ (SZ x.name y.name) (Ta x.arity y.arity)
 refine Al Jj Cd (of_decide_eq_true rfl) ?_
 simp (disch:=omega) only [FU,go_sem,Ab,h1,h2,h3,Di,DY,Lk]
theorem Vn (x y:Tl):DZ x y=dec (orZ (SZ x.name y.name) (Ta x.arity y.arity)<0):=by
 unfold DZ SZ
 cases h1:strLt x.name y.name with
 | true =>
  rw [Bool.true_or,cond_true,orZ,if_neg (by omega)]
  exact (Aw (by omega)).symm
 | false =>
  rw [Bool.false_or,cond_false]
  cases h2:dec (x.name=y.name) with
  | false =>
   rw [zR,cond_false,orZ,if_neg (by omega)]
   exact (Aj (by omega)).symm
  | true =>
   rw [zY,cond_true,orZ,if_pos rfl,Ta]
   cases h3:dec (x.arity<y.arity) with
   | true=>rw [cond_true]; exact (Aw (by omega)).symm
   | false =>
    rw [cond_false]
    cases dec (y.arity<x.arity) with
    | true=>rw [cond_true]; exact (Aj (by omega)).symm
    | false=>rw [cond_false]; exact (Aj (by omega)).symm
theorem RH (xs:List Tl) (hl:xs.length≤1099511627776):E 44 [.arr (xs.map Tl.d)] []=some (.bool (Eu xs),[]):=by
 refine Al LV Es (of_decide_eq_true rfl) ?_
 simp (disch:=omega) only [HU,go_sem,Ab]
 refine go_loop (α:=Int) (fun a=>⟨slots 40 0 [(0,.arr (xs.map Tl.d)),(5,.arr (xs.map Tl.d)),(6,.int .i64 xs.length),(7,.int .i64 a)],[]⟩) (fun a=>∃ k:Nat,a=k∧k≤(xs).length∧Dj (K9 xs) k=true) (fun a=>(xs).length-(a).toNat) 0 ⟨0,rfl,zU _,by rw [Dj]⟩ (by simp (disch:=omega) only [go_sem,Ab]) ?_
 rintro i ⟨k,hi,hk,hR⟩
 have hni:i.toNat=k:=by omega
 have hni1:(i+1).toNat=k+1:=by omega
 rcases zH k (xs).length with hlt | hge
 ·have hg:=get_at Tl.d hlt
  rw [Tl.d_eq] at hg
  have hs:=K2 xs[k].name
  have hw:=Lr xs[k].arity 0 3
  have no:K9 xs k=false→Eu xs=false:=fun h=>by unfold Eu; rw [Ln h hlt,zR]
  cases ha:Ez xs[k].name with
  | false =>
   rw [ha] at hs
   rw [no (by cases k with | zero=>rw [F5 hlt,ha,zR] | succ j=>rw [DP hlt,ha,zR])]
   simp (disch:=omega) only [go_sem,Ab,hni,hg,hs,hw,Bj,Bo,Cd]
  | true =>
   rw [ha] at hs
   cases hb:inI xs[k].arity 0 3 with
   | false =>
    rw [hb] at hw
    rw [no (by cases k with | zero=>rw [F5 hlt,hb,y5] | succ j=>rw [DP hlt,hb,zR,y5])]
    simp (disch:=omega) only [go_sem,Ab,hni,hg,hs,hw,Bj,Bo,Cd]
   | true =>
    rw [hb] at hw
    cases k with
    | zero =>
     obtain rfl:i=0:=hi
     simp (disch:=omega) only [go_sem,Ab,hni,hg,hs,hw,Bj,Bo,Cd]
     exact ⟨1,⟨1,rfl,hlt,by rw [Dj,hR,F5 hlt,ha,hb]; rfl⟩,by omega,by first | trivial | rfl⟩
    | succ j =>
     have hj:j<xs.length:=by omega
     have hg2:=get_at Tl.d hj
     rw [Tl.d_eq] at hg2
     have hni2:(i-1).toNat=j:=by omega
     have hc:=MP xs[j] xs[j+1]
     have hk2:=Vn xs[j] xs[j+1]
     generalize orZ (SZ xs[j].name xs[j+1].name) (Ta xs[j].arity xs[j+1].arity)=cz at *
     rcases yG cz 0 with hq | hq
     ·simp (disch:=omega) only [go_sem,Ab,hni,hg,hs,hw,Bj,Bo,Cd,hni2,hg2,hc]
      exact ⟨i+1,⟨j+1+1,by omega,hlt,by rw [Dj,hR,DP hlt,ha,hb,hk2,Aw hq]; rfl⟩,by omega,by first | trivial | rfl⟩
     ·rw [no (by rw [DP hlt,ha,hb,hk2,Aj (by omega)]; rfl)]
      simp (disch:=omega) only [go_sem,Ab,hni,hg,hs,hw,Bj,Bo,Cd,hni2,hg2,hc]
 ·obtain rfl:k=xs.length:=by omega
  simp (disch:=omega) only [go_sem,Ab,hni]
  unfold Eu
  rw [hR,zY,IR]
  exact decide_eq_decide.2 (by omega)
theorem Vo (t:Tl) (sz:Int):E 50 [t.sv,.int .i64 sz] []=some (.int .i64 (kinds sz t),[]):=by
 unfold kinds
 cases h:t.pred with
 | false =>
  refine Al FV Ei (of_decide_eq_true rfl) ?_
  simp (disch:=omega) only [Eh,go_sem,Ab,h]
  try rfl
 | true =>
  refine Al FV Ei (of_decide_eq_true rfl) ?_
  simp (disch:=omega) only [Eh,go_sem,Ab,h]
  try rfl
theorem WU (m:Ip) (t:Tl) (hs:1≤m.size∧m.size≤3) (v:Int):E 49 [.int .i64 v,.ptr 0 0,.ptr 1 0] [.box 44 [.str t.name,.int .i64 t.arity,.bool t.pred,.arr (t.vals.map fun n=>[D.int n])],.box 26 [.int .i64 m.size,.arr (m.tables.map Tl.d)]]=some (.bool (!inI v 0 (kinds m.size t-1)),[.box 44 [.str t.name,.int .i64 t.arity,.bool t.pred,.arr (t.vals.map fun n=>[D.int n])],.box 26 [.int .i64 m.size,.arr (m.tables.map Tl.d)]]):=by
 have h1:=Vo t m.size
 have h2:=Lr v 0 (kinds m.size t-1)
 have h3:1≤kinds m.size t∧kinds m.size t≤3:=by unfold kinds; split <;> omega
 refine Al Fg Cp (of_decide_eq_true rfl) ?_
 simp (disch:=omega) only [Dm,go_sem,Ab,h1,h2,Bo,Ei]
theorem Tn (m:Ip) (t:Tl) (hs:1≤m.size∧m.size≤3) (xs:List Int) (hl:xs.length≤1099511627776):E 83 [.arr (xs.map (fun n=>[D.int n])),.fn 49 [.ptr 0 0,.ptr 1 0]] [.box 44 [.str t.name,.int .i64 t.arity,.bool t.pred,.arr (t.vals.map fun n=>[D.int n])],.box 26 [.int .i64 m.size,.arr (m.tables.map Tl.d)]]=some (.int .i64 (Cw (fun v=>!inI v 0 (kinds m.size t-1)) xs 0),[.box 44 [.str t.name,.int .i64 t.arity,.bool t.pred,.arr (t.vals.map fun n=>[D.int n])],.box 26 [.int .i64 m.size,.arr (m.tables.map Tl.d)]]):=by
 have hE:=WU m t hs
 generalize hpp:(fun v:Int=>!inI v 0 (kinds m.size t-1))=p at *
 have hpe:∀ v:Int,(!inI v 0 (kinds m.size t-1))=p v:=fun v=>by rw [←hpp]
 refine Al GK Ek (of_decide_eq_true rfl) ?_
 simp (disch:=omega) only [Ej,go_sem,Ab]
 refine go_loop (α:=Int) (fun a=>⟨slots 19 0 [(0,.arr (xs.map (fun n=>[D.int n]))),(1,.fn 49 [.ptr 0 0,.ptr 1 0]),(7,.int .i64 xs.length),(8,.int .i64 a)],[.box 44 [.str t.name,.int .i64 t.arity,.bool t.pred,.arr (t.vals.map fun n=>[D.int n])],.box 26 [.int .i64 m.size,.arr (m.tables.map Tl.d)]]⟩) (fun a=>∃ k:Nat,a=k∧k≤(xs).length∧Cw p (xs.drop k) a=Cw p xs 0) (fun a=>(xs).length-(a).toNat) 0 ⟨0,rfl,zU _,by rw [zQ]⟩ (by simp (disch:=omega) only [go_sem,Ab]) ?_
 rintro i ⟨k,hi,hk,hR⟩
 have hni:i.toNat=k:=by omega
 have hni1:(i+1).toNat=k+1:=by omega
 rcases zH k (xs).length with hlt | hge
 ·have hg':=get_at (fun n=>[D.int n]) hlt
  have hc:=hE xs[k]
  rw [hpe] at hc
  rw [zF hlt,Cw] at hR
  cases hp:p xs[k] with
  | true =>
   rw [hp] at hc hR
   simp (disch:=omega) only [go_sem,Ab,hni,hg',hc,BH,Cp]
   simpa using hR
  | false =>
   rw [hp] at hc hR
   simp (disch:=omega) only [go_sem,Ab,hni,hg',hc,BH,Cp]
   exact ⟨i+1,⟨k+1,by omega,hlt,by simpa using hR⟩,by omega,by first | trivial | rfl⟩
 ·rw [zK hge,Cw] at hR
  simp (disch:=omega) only [go_sem,Ab,hni]
  exact hR
theorem OL (m:Ip) (t:Tl) (hs:1≤m.size∧m.size≤3) (xs:List Int) (hl:xs.length≤1099511627776):E 48 [.arr (xs.map (fun n=>[D.int n])),.fn 49 [.ptr 0 0,.ptr 1 0]] [.box 44 [.str t.name,.int .i64 t.arity,.bool t.pred,.arr (t.vals.map fun n=>[D.int n])],.box 26 [.int .i64 m.size,.arr (m.tables.map Tl.d)]]=some (.bool (xs.any fun v=>!inI v 0 (kinds m.size t-1)),[.box 44 [.str t.name,.int .i64 t.arity,.bool t.pred,.arr (t.vals.map fun n=>[D.int n])],.box 26 [.int .i64 m.size,.arr (m.tables.map Tl.d)]]):=by
 have h:=Tn m t hs xs hl
 refine Al FW CA (of_decide_eq_true rfl) ?_
 simp (disch:=omega) only [D8,go_sem,Ab,h,Ek]
 rw [EZ]
theorem To (m:Ip) (t:Tl) (hs:1≤m.size∧m.size≤3) (ha:0≤t.arity∧t.arity≤3) (hl:t.vals.length≤1099511627776):E 46 [t.sv,.ptr 0 0] [.box 26 [.int .i64 m.size,.arr (m.tables.map Tl.d)]]=some (.bool (!tlB m.size t),[.box 26 [.int .i64 m.size,.arr (m.tables.map Tl.d)]]):=by
 have h1:=YT m.size t.arity hs.1 hs.2 ha.1 (by omega)
 have h2:=OL m t hs t.vals hl
 have hall:(t.vals.any fun v=>!inI v 0 (kinds m.size t-1))=!(t.vals.all fun v=>inI v 0 (kinds m.size t-1)):=by
  induction t.vals with
  | nil=>rfl
  | cons a l ih=>rw [yJ,yQ,ih,Bool.not_and]
 rw [hall] at h2
 have hp:=Dl hs.1 hs.2 (k:=t.arity.toNat) (by omega)
 unfold tlB
 cases hd:dec ((t.vals.length:Int)=pw m.size t.arity.toNat) with
 | false =>
  rw [zR]
  refine Al Dz BQ (of_decide_eq_true rfl) ?_
  simp (disch:=omega) only [C0,go_sem,Ab,h1,h2,hd,Is,CA,BH]
 | true =>
  rw [zY]
  refine Al Dz BQ (of_decide_eq_true rfl) ?_
  simp (disch:=omega) only [C0,go_sem,Ab,h1,h2,hd,Is,CA,BH]
theorem Tp (m:Ip) (hs:1≤m.size∧m.size≤3) (xs:List Tl) (hx:∀ t∈xs,(0≤t.arity∧t.arity≤3)∧t.vals.length≤1099511627776) (hl:xs.length≤1099511627776):E 82 [.arr (xs.map Tl.d),.fn 46 [.ptr 0 0]] [.box 26 [.int .i64 m.size,.arr (m.tables.map Tl.d)]]=some (.int .i64 (Cw (fun t=>!tlB m.size t) xs 0),[.box 26 [.int .i64 m.size,.arr (m.tables.map Tl.d)]]):=by
 have hE:=fun t (ht:t∈xs)=>To m t hs (hx t ht).1 (hx t ht).2
 generalize hpp:(fun t:Tl=>!tlB m.size t)=p at *
 have hpe:∀ t,(!tlB m.size t)=p t:=fun t=>by rw [←hpp]
 refine Al Cy AQ (of_decide_eq_true rfl) ?_
 simp (disch:=omega) only [BF,go_sem,Ab]
 refine go_loop (α:=Int) (fun a=>⟨slots 19 0 [(0,.arr (xs.map Tl.d)),(1,.fn 46 [.ptr 0 0]),(7,.int .i64 xs.length),(8,.int .i64 a)],[.box 26 [.int .i64 m.size,.arr (m.tables.map Tl.d)]]⟩) (fun a=>∃ k:Nat,a=k∧k≤(xs).length∧Cw p (xs.drop k) a=Cw p xs 0) (fun a=>(xs).length-(a).toNat) 0 ⟨0,rfl,zU _,by rw [zQ]⟩ (by simp (disch:=omega) only [go_sem,Ab]) ?_
 rintro i ⟨k,hi,hk,hR⟩
 have hni:i.toNat=k:=by omega
 have hni1:(i+1).toNat=k+1:=by omega
 rcases zH k (xs).length with hlt | hge
 ·have hg':=get_at Tl.d hlt
  rw [Tl.d_eq] at hg'
  have hc:=hE xs[k] (zE hlt)
  rw [hpe] at hc
  rw [zF hlt,Cw] at hR
  cases hp:p xs[k] with
  | true =>
   rw [hp] at hc hR
   simp (disch:=omega) only [go_sem,Ab,hni,hg',hc,D0,BQ]
   simpa using hR
  | false =>
   rw [hp] at hc hR
   simp (disch:=omega) only [go_sem,Ab,hni,hg',hc,D0,BQ]
   exact ⟨i+1,⟨k+1,by omega,hlt,by simpa using hR⟩,by omega,by first | trivial | rfl⟩
 ·rw [zK hge,Cw] at hR
  simp (disch:=omega) only [go_sem,Ab,hni]
  exact hR
theorem OM (m:Ip) (hs:1≤m.size∧m.size≤3) (xs:List Tl) (hx:∀ t∈xs,(0≤t.arity∧t.arity≤3)∧t.vals.length≤1099511627776) (hl:xs.length≤1099511627776):E 45 [.arr (xs.map Tl.d),.fn 46 [.ptr 0 0]] [.box 26 [.int .i64 m.size,.arr (m.tables.map Tl.d)]]=some (.bool (!xs.all (tlB m.size)),[.box 26 [.int .i64 m.size,.arr (m.tables.map Tl.d)]]):=by
 have h:=Tp m hs xs hx hl
 have hall:(xs.any fun t=>!tlB m.size t)=!xs.all (tlB m.size):=by
  induction xs with
  | nil=>rfl
  | cons a l ih=>rw [yJ,yQ,Bool.not_and]; congr 1; clear h hx hl ih; induction l with
   | nil=>rfl
   | cons a l ih=>rw [yJ,yQ,ih,Bool.not_and]
 rw [←hall]
 refine Al D3 Cn (of_decide_eq_true rfl) ?_
 simp (disch:=omega) only [Cm,go_sem,Ab,h,AQ]
 rw [EZ]
theorem ES (m:Ip) (hm:m.tame):E 20 [m.sv] []=some (.bool m.ok,[]):=by
 have h1:=Lr m.size 1 3
 have h2:=RH m.tables hm.1
 unfold Ip.ok
 cases hs:inI m.size 1 3 with
 | false =>
  rw [hs] at h1
  rw [zR]
  refine Al CG A6 (of_decide_eq_true rfl) ?_
  simp (disch:=omega) only [BZ,go_sem,Ab,h1,h2,Bo,Es]
 | true =>
  rw [hs] at h1
  rw [zY]
  cases ht:Eu m.tables with
  | false =>
   rw [ht] at h2
   rw [zR]
   refine Al CG A6 (of_decide_eq_true rfl) ?_
   simp (disch:=omega) only [BZ,go_sem,Ab,h1,h2,Bo,Es]
  | true =>
   rw [ht] at h2
   rw [zY]
   have h3:=OM m (Dk.1 hs) m.tables (fun t hx=>⟨FT ht hx,hm.2 t hx⟩) hm.1
   refine Al CG A6 (of_decide_eq_true rfl) ?_
   simp (disch:=omega) only [BZ,go_sem,Ab,h1,h2,h3,Bo,Es,Cn]
   rw [Bool.not_not]
theorem IE:modes 72=⟨[],.asis,some (Lb NR),false⟩:=by unfold modes; rfl
def Ea:SC:=(.seq (.reg [⟨some 2,none,.alloc 26 [(.int .i64 0),.nil]⟩]) (.seq (.reg [⟨some 8,none,.mv (.t 0)⟩,⟨some 9,none,.mkrow 3 1 [(.int .i64 0)] 4 [(0,(.c (.int .i64 1))),(1,(.c (.int .i64 2))),(2,(.c (.int .i64 2))),(3,(.c (.int .i64 3)))]⟩,⟨some 10,none,.call 36 [(.t 8),(.t 9)]⟩,⟨some 11,none,.build [(.int .i64 0),.nil] [(0,(1,(.t 10)))]⟩,⟨some 3,none,.alloc 26 [(.int .i64 0),.nil]⟩,⟨none,none,(.store 2 (.t 3) (.t 11))⟩]) (.seq (.reg [⟨some 12,none,.call 72 []⟩,⟨some 4,none,.mv (.t 12)⟩]) (.seq (.seq (.reg [⟨some 5,none,.mv (.c (.int .i64 0))⟩]) (.block 0 (.loop [1,0,1,1,1,1,0,0,0,0,0,0,0,0,0,0,0,0,0,0,0,0,0,0,0,0,0,0,0,0,0,0,0,0,0,0,0,0,0,0,0,0,0,0,0,0,0,0,0,0,0,0,0,0,0,0,0] (.seq (.seq (.reg [⟨some 13,none,.mv (.t 5)⟩,⟨some 14,none,.mv (.t 4)⟩,⟨some 15,none,.len false (.t 14)⟩,⟨some 16,none,.bin .lss false (.t 13) (.t 15)⟩]) (.cond (.t 16) .skip (.exit 0))) (.seq (.block 1 (.seq (.reg [⟨some 19,none,.mv (.t 4)⟩,⟨some 20,none,.mv (.t 5)⟩,⟨some 21,none,.iaddr 4 (.t 19) (.t 20)⟩,⟨some 22,none,.load true 4 (.t 21)⟩,⟨(some 6),none,(.alloc 44 [(.str ⟨#[]⟩),(.int .i64 0),(.bool false),.nil])⟩,⟨none,none,(.store 4 (.t 6) (.t 22))⟩]) (.seq (.seq (.reg [⟨some 7,none,.mv (.c (.int .i64 0))⟩]) (.block 2 (.loop [1,0,1,1,1,1,1,1,0,0,0,0,0,0,0,0,0,0,0,0,0,0,0,0,0,0,0,0,0,0,0,0,0,0,0,0,0,0,0,0,0,0,0,0,0,0,0,0,0,0,0,0,0,0,0,0,0] (.seq (.seq (.reg [⟨some 23,none,.mv (.t 7)⟩,⟨some 24,none,.faddr 0 (.t 3)⟩,⟨some 25,none,.load false 1 (.t 24)⟩,⟨some 26,none,.faddr 1 (.t 6)⟩,⟨some 27,none,.load false 1 (.t 26)⟩,⟨some 28,none,.call 61 [(.t 25),(.t 27)]⟩,⟨some 29,none,.bin .lss false (.t 23) (.t 28)⟩]) (.cond (.t 29) .skip (.exit 2))) (.seq (.block 3 (.seq (.reg [⟨some 32,none,.faddr 2 (.t 6)⟩,⟨some 33,none,.load false 1 (.t 32)⟩]) (.cond (.t 33) (.dreg [[],[0],[],[2],[3,2],[1,0,4,3,2],[0,1,2,3,4,5],[6,0,1,2,3,4,5]] [⟨some 34,none,.faddr 3 (.t 6)⟩,⟨some 35,none,.load false 1 (.t 34)⟩,⟨some 36,none,.mv (.t 0)⟩,⟨some 37,none,.call 28 [(.t 36),(.c (.int .i64 2))]⟩,⟨some 38,none,.mkrow 3 1 [(.int .i64 0)] 1 [(0,(.t 37))]⟩,⟨some 39,none,.append 3 1 8 [(.int .i64 0)] (.t 35) (.t 38)⟩,⟨some 40,none,.faddr 3 (.t 6)⟩,⟨none,none,(.store 1 (.t 40) (.t 39))⟩]) (.dreg [[],[0],[],[],[3],[2,4,3],[5,2,4,3],[1,0,6,5,2,4,3],[0,1,2,3,4,5,6,7],[8,0,1,2,3,4,5,6,7]] [⟨some 41,none,.faddr 3 (.t 6)⟩,⟨some 42,none,.load false 1 (.t 41)⟩,⟨some 43,none,.mv (.t 0)⟩,⟨some 44,none,.faddr 0 (.t 3)⟩,⟨some 45,none,.load false 1 (.t 44)⟩,⟨some 46,none,.call 28 [(.t 43),(.t 45)]⟩,⟨some 47,none,.mkrow 3 1 [(.int .i64 0)] 1 [(0,(.t 46))]⟩,⟨some 48,none,.append 3 1 8 [(.int .i64 0)] (.t 42) (.t 47)⟩,⟨some 49,none,.faddr 3 (.t 6)⟩,⟨none,none,(.store 1 (.t 49) (.t 48))⟩])))) (.reg [⟨some 30,none,.mv (.t 7)⟩,⟨some 31,none,.bin .add false (.t 30) (.c (.int .i64 1))⟩,⟨some 7,none,.mv (.t 31)⟩])))))) (.reg [⟨some 50,none,.faddr 1 (.t 3)⟩,⟨some 51,none,.load false 1 (.t 50)⟩,⟨some 52,none,.load true 4 (.t 6)⟩,⟨(some 53),none,(.mkrow 44 4 [(.str ⟨#[]⟩),(.int .i64 0),(.bool false),.nil] 1 [(0,(.t 52))])⟩,⟨(some 54),none,(.append 44 4 56 [(.str ⟨#[]⟩),(.int .i64 0),(.bool false),.nil] (.t 51) (.t 53))⟩,⟨some 55,none,.faddr 1 (.t 3)⟩,⟨none,none,(.store 1 (.t 55) (.t 54))⟩])))) (.reg [⟨some 17,none,.mv (.t 5)⟩,⟨some 18,none,.bin .add false (.t 17) (.c (.int .i64 1))⟩,⟨some 5,none,.mv (.t 18)⟩])))))) (.seq (.reg [⟨some 56,none,.load true 2 (.t 3)⟩,⟨none,none,(.store 2 (.t 2) (.t 56))⟩]) .ret)))))
theorem Gr:Aq Tryz.prog 35=some ⟨57,Ea,[(.cell 2 true 2)]⟩:=by kernel_rfl
theorem AT:modes 35=⟨[],.half [none,some (44,4)],none,false⟩:=by unfold modes; rfl
theorem YU:E 72 [] []=some (.arr (FR.map Tl.nd),[]):=R7 (g:=NR) (congrArg FM.ext IE) rfl
theorem Vp:FR.length=7:=rfl
theorem WV:∀ t∈FR,0≤t.arity∧t.arity≤2∧t.vals=[]:=by
 intro t ht
 simp only [FR,zS,xA,or_false] at ht
 rcases ht with rfl | rfl | rfl | rfl | rfl | rfl | rfl <;> exact ⟨by decide,by decide,rfl⟩
theorem pw2 {b k:Int} (h1:1≤b) (h3:b≤3) (k0:0≤k) (k2:k≤2):1≤pw b k.toNat∧pw b k.toNat≤9:=by
 have h:=Lo h1 h3 k.toNat
 have h2:=LU (show k.toNat≤2 by omega)
 have e:(3:Int) ^ 2=9:=by decide
 omega
def Tl.hs (x:Tl):List OT:=[.str x.name,.int x.arity,.bool x.pred,.sh (x.vals.map fun n=>[D.int n])]
theorem Tl.WW (x:Tl):x.hs=[.str x.name,.int x.arity,.bool x.pred,.sh (x.vals.map fun n=>[D.int n])]:=rfl
theorem Tl.hs_full:∀ xs:List Tl,OT.AC (xs.map Tl.hs)=true
 | []=>rfl
 | x :: xs=>by simp only [zB,OT.AC,Tl.hs,OT.CN,OT.full,Tl.hs_full xs,zG]
theorem Tl.hs_er:∀ xs:List Tl,OT.erss (xs.map Tl.hs)=xs.map Tl.d
 | []=>rfl
 | x :: xs=>by simp only [zB,OT.erss,Tl.hs,OT.ers,OT.er,Tl.hs_er xs,Tl.d_eq]
theorem Tl.hs_half:∀ xs:List Tl,OT.Cj (xs.map Tl.hs)=xs.map Tl.hs
 | []=>rfl
 | x :: xs=>by simp only [zB,OT.Cj,Tl.hs,OT.Hf,OT.half,Tl.hs_half xs]
theorem Tl.o_half:∀ xs:List Tl,OT.Cj (xs.map Tl.o)=xs.map Tl.hs
 | []=>rfl
 | x :: xs=>by rw [zB,zB,Tl.o_eq,Tl.WW]; simp only [OT.Cj,OT.Hf,OT.half,Nc,Tl.o_half xs]
attribute [go_sem] Tl.hs_full Tl.hs_er Tl.hs_half Tl.o_half
abbrev ipH (m:Ip) (g:Nat):SV:=.agg [.int .i64 m.size,.ref g]
abbrev Vq (m:Ip):Ob:=.row 44 4 (m.tables.map Tl.hs)
theorem JF (l:List Int) (v:Int):(l.map fun n=>[OT.int n])++[[OT.int v]]=(l++[v]).map fun n=>[OT.int n]:=by rw [zX]; rfl
theorem YV (acc:List Tl) (nm:ByteArray) (ar:Int) (pr:Bool) (vs:List Int):acc.map Tl.o++[[OT.str nm,OT.int ar,OT.bool pr,OT.ow (vs.map fun n=>[OT.int n])]]=(acc++[(⟨nm,ar,pr,vs⟩:Tl)]).map Tl.o:=by rw [zX,zB,zN,Tl.o_eq]
theorem Qas (nm:ByteArray) (ar:Int) (pr:Bool) (vs:List Int):[[OT.str nm,OT.int ar,OT.bool pr,OT.ow (vs.map fun n=>[OT.int n])]]=([(⟨nm,ar,pr,vs⟩:Tl)]).map Tl.o:=by rw [zB,zN,Tl.o_eq]
theorem LW (l:List Int) (hl:Bytes l) (hn:l.length≤1099511627776) (p s:Int) (h0:0≤p) (h1:p≤1099000000000):∃ m p' s',E 35 [.ptr 0 0] [cur l p s]=some (ipH m 1,[cur l p' s',Vq m])∧(p≤p'∧p'≤p+100)∧(1≤m.size∧m.size≤3)∧m.tables.length=7∧∀ t∈m.tables,1≤t.vals.length∧t.vals.length≤9:=by
 obtain ⟨Q,hQ⟩:∃ Q:SV × List Ob→Prop,Q=fun out=>∃ m p' s',out=(ipH m 1,[cur l p' s',Vq m])∧(p≤p'∧p'≤p+100)∧(1≤m.size∧m.size≤3)∧m.tables.length=7∧∀ t∈m.tables,1≤t.vals.length∧t.vals.length≤9:=⟨_,rfl⟩
 suffices hq0:∃ out,E 35 [.ptr 0 0] [cur l p s]=some out∧Q out by
  obtain ⟨out,hq1,hq2⟩:=hq0
  rw [hQ] at hq2
  obtain ⟨m,p',s',rfl,hq3⟩:=hq2
  exact ⟨m,p',s',hq1,hq3⟩
 obtain ⟨sz,p1,s1,hsz,hmem,g1,g2⟩:=Le l hl hn [1,2,2,3] (by decide) (by decide) p s h0 (by omega)
 simp only [zB,zN] at hsz
 have hsz3:1≤sz∧sz≤3:=by simp only [zS,xA,or_false] at hmem; omega
 have hus:=YU
 have hul:=Vp
 have hj10:((0:Int)+1=0)=False:=by simp
 have h10:((1:Int)=0)=False:=by simp
 refine AM Gr AT (of_decide_eq_true rfl) ?_
 simp (disch:=omega) only [Ea,go_sem,Ab,hsz,hus,IE,AV]
 refine go_loop (α:=Int × Int × Int × List Tl) (fun a=>⟨slots 57 0 [(0,.ptr 0 0),(2,.ptr 1 0),(3,.ptr 2 0),(4,.arr (FR.map Tl.nd)),(5,.int .i64 a.1)],(if a.1=0 then [cur l a.2.1 a.2.2.1,.box 26 [.int .i64 0,.nil],.box 26 [.int .i64 sz,.nil]] else [cur l a.2.1 a.2.2.1,.box 26 [.int .i64 0,.nil],.box 26 [.int .i64 sz,.ref 3],.row 44 4 (a.2.2.2.map Tl.o)])⟩) (fun a=>∃ k:Nat,a.1=k∧k≤7∧a.2.2.2.length=k∧(∀ t∈a.2.2.2,1≤t.vals.length∧t.vals.length≤9)∧p1≤a.2.1∧a.2.1≤p1+9*k) (fun a=>(7-a.1).toNat) (0,p1,s1,[]) ⟨0,rfl,by omega,rfl,(fun _ h=>by cases h),by dsimp only; omega,by dsimp only; omega⟩ (by simp (disch:=omega) only [go_sem,Ab,eq_self,if_true]) ?_
 rintro ⟨i,p2,s2,acc⟩ ⟨k,hi,hk,hal,hac,hp2,hp3⟩
 dsimp only at hi hal hac hp2 hp3
 have hni:i.toNat=k:=by omega
 rcases zH k 7 with hlt | hge
 ·have hltu:k<FR.length:=hlt
  have q1:(i<(FR.length:Int))=True:=eq_true (by omega)
  have hi1:(i+1=0)=False:=by simp; omega
  have hg:=get_at Tl.nd hltu
  obtain ⟨a0,a2,av⟩:=WV FR[k] (zE hltu)
  rw [Tl.QaI] at hg
  obtain ⟨nm,hnm⟩:∃ nm,nm=(FR[k]).name:=⟨_,rfl⟩
  obtain ⟨ar,har⟩:∃ ar,ar=(FR[k]).arity:=⟨_,rfl⟩
  obtain ⟨pr,hpr⟩:∃ pr,pr=(FR[k]).pred:=⟨_,rfl⟩
  rw [←hnm,← har,← hpr] at hg
  rw [←har] at a0 a2
  have hpw:=Oa sz ar hsz3.1 hsz3.2 a0 (by omega)
  have hpb:=pw2 hsz3.1 hsz3.2 a0 a2
  rcases yA k with hk0 | hk0
  ·subst hk0
   obtain rfl:i=0:=hi
   have ha0:acc=[]:=zC hal
   subst ha0
   simp (disch:=omega) only [go_sem,Ab,q1,hg,eq_self,if_true,xE]
   refine go_loop (α:=Int × Int × Int × List Int) (fun b=>⟨slots 57 0 [(0,.ptr 0 0),(2,.ptr 1 0),(3,.ptr 2 0),(4,.arr (FR.map Tl.nd)),(5,.int .i64 0),(6,.ptr 3 0),(7,.int .i64 b.1)],(if b.1=0 then [cur l b.2.1 b.2.2.1,.box 26 [.int .i64 0,.nil],.box 26 [.int .i64 sz,.nil],.box 44 [.str nm,.int .i64 ar,.bool pr,.nil]] else [cur l b.2.1 b.2.2.1,.box 26 [.int .i64 0,.nil],.box 26 [.int .i64 sz,.nil],.box 44 [.str nm,.int .i64 ar,.bool pr,.ref 4],.row 3 1 (b.2.2.2.map fun n=>[OT.int n])])⟩) (fun b=>∃ n:Nat,b.1=n∧(n:Int)≤pw sz ar.toNat∧b.2.2.2.length=n∧p2≤b.2.1∧b.2.1≤p2+n) (fun b=>(pw sz ar.toNat-b.1).toNat) (0,p2,s2,[]) ⟨0,rfl,by omega,rfl,by dsimp only; omega,by dsimp only; omega⟩ (by simp (disch:=omega) only [go_sem,Ab,eq_self,if_true]) ?_
   rintro ⟨j,p3,s3,vs⟩ ⟨n,hj,hn1,hvl,hp3,hp4⟩
   dsimp only at hj hn1 hvl hp3 hp4
   rcases yG (n:Int) (pw sz ar.toNat) with hlt2 | hge2
   ·have q2:(j<pw sz ar.toNat)=True:=eq_true (by omega)
    have hj1:(j+1=0)=False:=by simp; omega
    have hvl9:vs.length≤9:=by omega
    obtain ⟨v,p5,s5,hv,_,g5,g6⟩:=CS l hl hn 2 (by omega) (by omega) p3 s3 (by omega) (by omega)
    obtain ⟨w,p6,s6,hw,_,g7,g8⟩:=CS l hl hn sz (by omega) (by omega) p3 s3 (by omega) (by omega)
    have hsv:=JF vs v
    have hsw:=JF vs w
    rcases yA n with hn0 | hn0
    ·subst hn0
     obtain rfl:j=0:=hj
     have hv0:vs=[]:=zC hvl
     subst hv0
     cases pr
     ·simp (disch:=omega) only [go_sem,Ab,q2,eq_self,if_true,hv,hw,hpw,Bt,Am]
      refine ⟨(0+1,p6,s6,[]++[w]),⟨1,rfl,by omega,rfl,by dsimp only; omega,by dsimp only; omega⟩,by dsimp only; omega,?_⟩
      simp (disch:=omega) only [go_sem,Ab,eq_self,h10,hj10,if_false,yC,zB,zN]
     ·simp (disch:=omega) only [go_sem,Ab,q2,eq_self,if_true,hv,hw,hpw,Bt,Am]
      refine ⟨(0+1,p5,s5,[]++[v]),⟨1,rfl,by omega,rfl,by dsimp only; omega,by dsimp only; omega⟩,by dsimp only; omega,?_⟩
      simp (disch:=omega) only [go_sem,Ab,eq_self,h10,hj10,if_false,yC,zB,zN]
    ·have hj0:(j=0)=False:=by simp; omega
     cases pr
     ·simp (disch:=omega) only [go_sem,Ab,q2,hj0,if_false,hv,hw,hpw,Bt,Am]
      refine ⟨(j+1,p6,s6,vs++[w]),⟨n+1,by dsimp only; omega,by omega,by simp [hvl],by dsimp only; omega,by dsimp only; omega⟩,by dsimp only; omega,?_⟩
      simp (disch:=omega) only [go_sem,Ab,hj1,if_false,hsv,hsw]
     ·simp (disch:=omega) only [go_sem,Ab,q2,hj0,if_false,hv,hw,hpw,Bt,Am]
      refine ⟨(j+1,p5,s5,vs++[v]),⟨n+1,by dsimp only; omega,by omega,by simp [hvl],by dsimp only; omega,by dsimp only; omega⟩,by dsimp only; omega,?_⟩
      simp (disch:=omega) only [go_sem,Ab,hj1,if_false,hsv,hsw]
   ·have q2:(j<pw sz ar.toNat)=False:=eq_false (by omega)
    have hj0:(j=0)=False:=by simp; omega
    have hs1:=Qas nm ar pr vs
    simp (disch:=omega) only [go_sem,Ab,q2,hj0,if_false,hpw,Bt,Am]
    refine ⟨(0+1,p3,s3,([]:List Tl)++[(⟨nm,ar,pr,vs⟩:Tl)]),⟨1,by dsimp only; omega,by omega,by simp,fun t ht=>?_,by dsimp only; omega,by dsimp only; omega⟩,by dsimp only; omega,?_⟩
    ·rcases yY.1 ht with ht | ht
     ·exact hac t ht
     ·simp only [List.mem_singleton] at ht
      subst ht
      exact ⟨by dsimp only; omega,by dsimp only; omega⟩
    ·simp (disch:=omega) only [go_sem,Ab,h10,hj10,if_false,hs1,yC]
  ·have hi0:(i=0)=False:=by simp; omega
   simp (disch:=omega) only [go_sem,Ab,q1,hg,hni,hi0,if_false]
   refine go_loop (α:=Int × Int × Int × List Int) (fun b=>⟨slots 57 0 [(0,.ptr 0 0),(2,.ptr 1 0),(3,.ptr 2 0),(4,.arr (FR.map Tl.nd)),(5,.int .i64 i),(6,.ptr 3 0),(7,.int .i64 b.1)],(if b.1=0 then [cur l b.2.1 b.2.2.1,.box 26 [.int .i64 0,.nil],.box 26 [.int .i64 sz,.ref 4],.box 44 [.str nm,.int .i64 ar,.bool pr,.nil],.row 44 4 (acc.map Tl.o)] else [cur l b.2.1 b.2.2.1,.box 26 [.int .i64 0,.nil],.box 26 [.int .i64 sz,.ref 4],.box 44 [.str nm,.int .i64 ar,.bool pr,.ref 5],.row 44 4 (acc.map Tl.o),.row 3 1 (b.2.2.2.map fun n=>[OT.int n])])⟩) (fun b=>∃ n:Nat,b.1=n∧(n:Int)≤pw sz ar.toNat∧b.2.2.2.length=n∧p2≤b.2.1∧b.2.1≤p2+n) (fun b=>(pw sz ar.toNat-b.1).toNat) (0,p2,s2,[]) ⟨0,rfl,by omega,rfl,by dsimp only; omega,by dsimp only; omega⟩ (by simp (disch:=omega) only [go_sem,Ab,eq_self,if_true]) ?_
   rintro ⟨j,p3,s3,vs⟩ ⟨n,hj,hn1,hvl,hp3,hp4⟩
   dsimp only at hj hn1 hvl hp3 hp4
   rcases yG (n:Int) (pw sz ar.toNat) with hlt2 | hge2
   ·have q2:(j<pw sz ar.toNat)=True:=eq_true (by omega)
    have hj1:(j+1=0)=False:=by simp; omega
    have hvl9:vs.length≤9:=by omega
    obtain ⟨v,p5,s5,hv,_,g5,g6⟩:=CS l hl hn 2 (by omega) (by omega) p3 s3 (by omega) (by omega)
    obtain ⟨w,p6,s6,hw,_,g7,g8⟩:=CS l hl hn sz (by omega) (by omega) p3 s3 (by omega) (by omega)
    have hsv:=JF vs v
    have hsw:=JF vs w
    rcases yA n with hn0 | hn0
    ·subst hn0
     obtain rfl:j=0:=hj
     have hv0:vs=[]:=zC hvl
     subst hv0
     cases pr
     ·simp (disch:=omega) only [go_sem,Ab,q2,eq_self,if_true,hv,hw,hi0,if_false,hpw,Bt,Am]
      refine ⟨(0+1,p6,s6,[]++[w]),⟨1,rfl,by omega,rfl,by dsimp only; omega,by dsimp only; omega⟩,by dsimp only; omega,?_⟩
      simp (disch:=omega) only [go_sem,Ab,eq_self,h10,hj10,if_false,yC,zB,zN,hi0,if_false]
     ·simp (disch:=omega) only [go_sem,Ab,q2,eq_self,if_true,hv,hw,hi0,if_false,hpw,Bt,Am]
      refine ⟨(0+1,p5,s5,[]++[v]),⟨1,rfl,by omega,rfl,by dsimp only; omega,by dsimp only; omega⟩,by dsimp only; omega,?_⟩
      simp (disch:=omega) only [go_sem,Ab,eq_self,h10,hj10,if_false,yC,zB,zN,hi0,if_false]
    ·have hj0:(j=0)=False:=by simp; omega
     cases pr
     ·simp (disch:=omega) only [go_sem,Ab,q2,hj0,if_false,hv,hw,hi0,if_false,hpw,Bt,Am]
      refine ⟨(j+1,p6,s6,vs++[w]),⟨n+1,by dsimp only; omega,by omega,by simp [hvl],by dsimp only; omega,by dsimp only; omega⟩,by dsimp only; omega,?_⟩
      simp (disch:=omega) only [go_sem,Ab,hj1,if_false,hsv,hsw,hi0,if_false]
     ·simp (disch:=omega) only [go_sem,Ab,q2,hj0,if_false,hv,hw,hi0,if_false,hpw,Bt,Am]
      refine ⟨(j+1,p5,s5,vs++[v]),⟨n+1,by dsimp only; omega,by omega,by simp [hvl],by dsimp only; omega,by dsimp only; omega⟩,by dsimp only; omega,?_⟩
      simp (disch:=omega) only [go_sem,Ab,hj1,if_false,hsv,hsw,hi0,if_false]
   ·have q2:(j<pw sz ar.toNat)=False:=eq_false (by omega)
    have hj0:(j=0)=False:=by simp; omega
    have hs1:=YV acc nm ar pr vs
    simp (disch:=omega) only [go_sem,Ab,q2,hj0,if_false,hi0,if_false,hpw,Bt,Am]
    refine ⟨(i+1,p3,s3,acc++[(⟨nm,ar,pr,vs⟩:Tl)]),⟨k+1,by dsimp only; omega,by omega,by simp [hal],fun t ht=>?_,by dsimp only; omega,by dsimp only; omega⟩,by dsimp only; omega,?_⟩
    ·rcases yY.1 ht with ht | ht
     ·exact hac t ht
     ·simp only [List.mem_singleton] at ht
      subst ht
      exact ⟨by dsimp only; omega,by dsimp only; omega⟩
    ·simp (disch:=omega) only [go_sem,Ab,h10,hj10,hi1,if_false,hs1,yC,hi0,if_false]
 ·have q1:(i<(FR.length:Int))=False:=eq_false (by omega)
  have hi0:(i=0)=False:=by simp; omega
  simp (disch:=omega) only [go_sem,Ab,q1,hi0,if_false]
  rw [hQ]
  exact ⟨⟨sz,acc⟩,p2,s2,rfl,by omega,hsz3,by show acc.length=7; omega,hac⟩
theorem QaR {ts:List Tl} {j:Nat} (h:j<ts.length):(ts.map Tl.hs)[j]?=some [.str ts[j].name,.int ts[j].arity,.bool ts[j].pred,.sh (ts[j].vals.map fun n=>[D.int n])]:=by
 rw [yK,zD h]; rfl
theorem Tq (ts:List Tl) (j:Nat) (nm:ByteArray) (ar:Int) (pr:Bool) (vs:List Int):(ts.map Tl.hs).set j [.str nm,.int ar,.bool pr,.sh (vs.map fun n=>[D.int n])]=(ts.set j ⟨nm,ar,pr,vs⟩).map Tl.hs:=by
 rw [List.map_set]; rfl
def tlO (ts:List Tl) (j:Nat) (nm:ByteArray) (ar:Int) (pr:Bool) (X:List (List OT)):List (List OT):=(ts.map Tl.hs).set j [.str nm,.int ar,.bool pr,.ow X]
theorem Qat (ts:List Tl) (j:Nat) (nm:ByteArray) (ar:Int) (pr:Bool) (X:List (List OT)):(ts.map Tl.hs).set j [.str nm,.int ar,.bool pr,.ow X]=tlO ts j nm ar pr X:=rfl
theorem RI {nm:ByteArray} {ar:Int} {pr:Bool} {X:List (List OT)} (hX:OT.AC X=true):∀ (ts:List Tl) (j:Nat),OT.AC (tlO ts j nm ar pr X)=true
 | [],j=>rfl
 | t :: ts,0=>by
  unfold tlO
  rw [zB,yR]
  simp only [OT.AC,OT.CN,OT.full,hX,Tl.hs_full ts,zG]
 | t :: ts,j+1=>by
  have ih:=RI (nm:=nm) (ar:=ar) (pr:=pr) hX ts j
  unfold tlO at ih ⊢
  rw [zB,yS]
  simp only [OT.AC,Tl.hs,OT.CN,OT.full,ih,zG]
theorem RJ {nm:ByteArray} {ar:Int} {pr:Bool} {X:List (List OT)} {vs:List Int} (hX:OT.erss X=vs.map fun n=>[D.int n]):∀ (ts:List Tl) (j:Nat),OT.Cj (tlO ts j nm ar pr X)=(ts.set j ⟨nm,ar,pr,vs⟩).map Tl.hs
 | [],j=>rfl
 | t :: ts,0=>by
  unfold tlO
  rw [zB,yR,yR,zB]
  simp only [OT.Cj,OT.Hf,OT.half,hX,Tl.hs_half ts,Tl.WW]
 | t :: ts,j+1=>by
  have ih:=RJ (nm:=nm) (ar:=ar) (pr:=pr) hX ts j
  unfold tlO at ih ⊢
  rw [zB,yS,yS,zB]
  rw [OT.Cj,ih]
  simp only [Tl.WW,OT.Hf,OT.half]
theorem QaS (ts:List Tl):(ts.map Tl.d).map (fun x=>x.map D.ot)=ts.map Tl.hs:=by rw [yF]; rfl
theorem RK (ts:List Tl):OT.erss (ts.map Tl.hs)=ts.map Tl.d:=Tl.hs_er ts
theorem Zx (xs:List Int) (n:Nat):((xs.map fun n=>[D.int n]).drop n).map (fun x=>x.map D.ot)=(xs.drop n).map fun n=>[OT.int n]:=by rw [←List.map_drop,yF]; rfl
theorem Ud (xs:List Int):((xs.map fun n=>[OT.int n]).all fun l=>l.length == 1)=true:=zL.2 fun e he=>by
 obtain ⟨x,_,rfl⟩:=yO.1 he
 rfl
theorem YW (ts:List Tl):((ts.map Tl.hs).all fun l=>l.length == 4)=true:=zL.2 fun e he=>by
 obtain ⟨x,_,rfl⟩:=yO.1 he
 rfl
theorem WX (ts:List Tl):((ts.map Tl.d).all fun l=>l.length == 4)=true:=zL.2 fun e he=>by
 obtain ⟨x,_,rfl⟩:=yO.1 he
 rfl
structure Drawn (m:Ip):Prop where
 s0:0≤m.size
 s4:m.size≤4
 len:m.tables.length≤7
 vals:∀ t∈m.tables,t.vals.length≤10
theorem Drawn.tame {m:Ip} (h:Drawn m):m.tame:=⟨by have:=h.len; omega,fun t ht=>by have:=h.vals t ht; omega⟩
def AJ:SC:=(.seq (.reg [⟨some 2,none,.alloc 26 [(.int .i64 0),.nil]⟩]) (.seq (.reg [⟨some 5,none,.mv (.t 0)⟩,⟨some 6,none,.call 35 [(.t 5)]⟩,⟨some 3,none,.alloc 26 [(.int .i64 0),.nil]⟩,⟨none,none,(.store 2 (.t 3) (.t 6))⟩]) (.seq (.reg [⟨some 7,none,.mv (.t 0)⟩,⟨some 8,none,.faddr 1 (.t 3)⟩,⟨some 9,none,.load false 1 (.t 8)⟩,⟨some 10,none,.len false (.t 9)⟩,⟨some 11,none,.call 28 [(.t 7),(.t 10)]⟩,⟨some 4,none,.mv (.t 11)⟩]) (.seq (.seq (.reg [⟨some 12,none,.mv (.t 0)⟩,⟨some 13,none,.call 28 [(.t 12),(.c (.int .i64 30))]⟩]) (.block 0 (.seq (.reg [⟨some 15,none,.bin .eql false (.t 13) (.c (.int .i64 0))⟩,⟨some 14,none,.mv (.t 15)⟩]) (.cond (.t 14) (.reg [⟨some 16,none,.mv (.t 0)⟩,⟨some 17,none,.mkrow 3 1 [(.int .i64 0)] 3 [(0,(.c (.int .i64 0))),(1,(.c (.int .i64 4))),(2,(.c (.int .i64 2)))]⟩,⟨some 18,none,.call 36 [(.t 16),(.t 17)]⟩,⟨some 19,none,.faddr 0 (.t 3)⟩,⟨none,none,(.store 1 (.t 19) (.t 18))⟩]) (.seq (.reg [⟨some 21,none,.bin .eql false (.t 13) (.c (.int .i64 1))⟩,⟨some 20,none,.mv (.t 21)⟩]) (.cond (.t 20) (.dreg [[],[0],[],[],[],[3,4],[1,0,2,3,4,5],[6,1,0,2,3,4,5],[7,6,1,0,2,3,4,5]] [⟨some 22,none,.faddr 1 (.t 3)⟩,⟨some 23,none,.load false 1 (.t 22)⟩,⟨some 24,none,.mv (.t 4)⟩,⟨some 25,none,.mv (.t 0)⟩,⟨(some 26),none,(.mkrow 9 1 [(.str ⟨#[]⟩)] 5 [(0,(.c (.str ⟨#[88]⟩))),(1,(.c (.str ⟨#[]⟩))),(2,(.c (.str ⟨#[97]⟩))),(3,(.c (.str ⟨#[61]⟩))),(4,(.c (.str ⟨#[122]⟩)))])⟩,⟨some 27,none,.call 37 [(.t 25),(.t 26)]⟩,⟨some 28,none,.iaddr 4 (.t 23) (.t 24)⟩,⟨some 29,none,.faddr 0 (.t 28)⟩,⟨none,none,(.store 1 (.t 29) (.t 27))⟩]) (.seq (.reg [⟨some 31,none,.bin .eql false (.t 13) (.c (.int .i64 2))⟩,⟨some 30,none,.mv (.t 31)⟩]) (.cond (.t 30) (.dreg [[],[0],[],[],[],[3,4],[1,0,2,3,4,5],[6,1,0,2,3,4,5],[7,6,1,0,2,3,4,5]] [⟨some 32,none,.faddr 1 (.t 3)⟩,⟨some 33,none,.load false 1 (.t 32)⟩,⟨some 34,none,.mv (.t 4)⟩,⟨some 35,none,.mv (.t 0)⟩,⟨some 36,none,.mkrow 3 1 [(.int .i64 0)] 4 [(0,(.c (.int .i64 (-(0+1))))),(1,(.c (.int .i64 0))),(2,(.c (.int .i64 1))),(3,(.c (.int .i64 4)))]⟩,⟨some 37,none,.call 36 [(.t 35),(.t 36)]⟩,⟨some 38,none,.iaddr 4 (.t 33) (.t 34)⟩,⟨some 39,none,.faddr 1 (.t 38)⟩,⟨none,none,(.store 1 (.t 39) (.t 37))⟩]) (.seq (.reg [⟨some 41,none,.bin .eql false (.t 13) (.c (.int .i64 3))⟩,⟨some 40,none,.mv (.t 41)⟩]) (.cond (.t 40) (.dreg [[],[0],[],[],[],[3,4],[5,3,4],[],[7],[],[8,7,9],[10,8,7,9],[11,10,8,7,9],[12,11,10,8,7,9],[6,5,3,4,13,12,11,10,8,7,9],[1,0,2,3,4,5,6,7,8,9,10,11,12,13,14],[15,1,0,2,3,4,5,6,7,8,9,10,11,12,13,14],[16,15,1,0,2,3,4,5,6,7,8,9,10,11,12,13,14]] [⟨some 42,none,.faddr 1 (.t 3)⟩,⟨some 43,none,.load false 1 (.t 42)⟩,⟨some 44,none,.mv (.t 4)⟩,⟨some 45,none,.mv (.t 0)⟩,⟨some 46,none,.mkrow 3 1 [(.int .i64 0)] 3 [(0,(.c (.int .i64 3))),(1,(.c (.int .i64 (-(0+1))))),(2,(.c (.int .i64 0)))]⟩,⟨some 47,none,.call 36 [(.t 45),(.t 46)]⟩,⟨some 48,none,.mkrow 3 1 [(.int .i64 0)] 1 [(0,(.t 47))]⟩,⟨some 49,none,.faddr 1 (.t 3)⟩,⟨some 50,none,.load false 1 (.t 49)⟩,⟨some 51,none,.mv (.t 4)⟩,⟨some 52,none,.iaddr 4 (.t 50) (.t 51)⟩,⟨some 53,none,.faddr 3 (.t 52)⟩,⟨some 54,none,.load false 1 (.t 53)⟩,⟨some 55,none,.slice false 1 (.t 54) (some (.c (.int .i64 1))) none⟩,⟨some 56,none,.append 3 1 8 [(.int .i64 0)] (.t 48) (.t 55)⟩,⟨some 57,none,.iaddr 4 (.t 43) (.t 44)⟩,⟨some 58,none,.faddr 3 (.t 57)⟩,⟨none,none,(.store 1 (.t 58) (.t 56))⟩]) (.seq (.reg [⟨some 60,none,.bin .eql false (.t 13) (.c (.int .i64 4))⟩,⟨some 59,none,.mv (.t 60)⟩]) (.cond (.t 59) (.dreg [[],[0],[],[],[3],[],[4,3,5],[6,4,3,5],[7,6,4,3,5],[8,7,6,4,3,5],[1,0,2,3,4,5,6,7,8,9],[10,1,0,2,3,4,5,6,7,8,9],[11,10,1,0,2,3,4,5,6,7,8,9]] [⟨some 61,none,.faddr 1 (.t 3)⟩,⟨some 62,none,.load false 1 (.t 61)⟩,⟨some 63,none,.mv (.t 4)⟩,⟨some 64,none,.faddr 1 (.t 3)⟩,⟨some 65,none,.load false 1 (.t 64)⟩,⟨some 66,none,.mv (.t 4)⟩,⟨some 67,none,.iaddr 4 (.t 65) (.t 66)⟩,⟨some 68,none,.faddr 2 (.t 67)⟩,⟨some 69,none,.load false 1 (.t 68)⟩,⟨some 70,none,.un .not (.t 69)⟩,⟨some 71,none,.iaddr 4 (.t 62) (.t 63)⟩,⟨some 72,none,.faddr 2 (.t 71)⟩,⟨none,none,(.store 1 (.t 72) (.t 70))⟩]) (.seq (.reg [⟨some 74,none,.bin .eql false (.t 13) (.c (.int .i64 5))⟩,⟨some 73,none,.mv (.t 74)⟩]) (.cond (.t 73) (.dreg [[],[],[1],[],[2,1,3],[0,4,2,1,3],[],[6],[],[8],[7,6,9,8],[5,0,4,2,1,3,10,7,6,9,8],[0,1,2,3,4,5,6,7,8,9,10,11],[12,0,1,2,3,4,5,6,7,8,9,10,11]] [⟨(some 75),none,(.mkrow 44 4 [(.str ⟨#[]⟩),(.int .i64 0),(.bool false),.nil] 0 [])⟩,⟨some 76,none,.faddr 1 (.t 3)⟩,⟨some 77,none,.load false 1 (.t 76)⟩,⟨some 78,none,.mv (.t 4)⟩,⟨some 79,none,.slice false 4 (.t 77) none (some (.t 78))⟩,⟨(some 80),none,(.append 44 4 56 [(.str ⟨#[]⟩),(.int .i64 0),(.bool false),.nil] (.t 75) (.t 79))⟩,⟨some 81,none,.faddr 1 (.t 3)⟩,⟨some 82,none,.load false 1 (.t 81)⟩,⟨some 83,none,.mv (.t 4)⟩,⟨some 84,none,.bin .add false (.t 83) (.c (.int .i64 1))⟩,⟨some 85,none,.slice false 4 (.t 82) (some (.t 84)) none⟩,⟨(some 86),none,(.append 44 4 56 [(.str ⟨#[]⟩),(.int .i64 0),(.bool false),.nil] (.t 80) (.t 85))⟩,⟨some 87,none,.faddr 1 (.t 3)⟩,⟨none,none,(.store 1 (.t 87) (.t 86))⟩]) .skip)))))))))))))) (.seq (.reg [⟨some 88,none,.load true 2 (.t 3)⟩,⟨none,none,(.store 2 (.t 2) (.t 88))⟩]) .ret)))))
theorem AW:Aq Tryz.prog 16=some ⟨89,AJ,[(.cell 2 true 2)]⟩:=by kernel_rfl
theorem Av:modes 16=⟨[],.halfg 75 9 [none,some (44,4)],none,false⟩:=by unfold modes; rfl
theorem JK (l:List Int) (hl:Bytes l) (hn:l.length≤1099511627776) (p s:Int) (h0:0≤p) (h1:p≤1098000000000):∃ m p' s',E 16 [.ptr 0 0] [cur l p s]=some (ipH m 1,[cur l p' s',Vq m])∧(p≤p'∧p'≤p+200)∧Drawn m:=by
 obtain ⟨Q,hQ⟩:∃ Q:SV × List Ob→Prop,Q=fun out=>∃ m p' s',out=(ipH m 1,[cur l p' s',Vq m])∧(p≤p'∧p'≤p+200)∧Drawn m:=⟨_,rfl⟩
 suffices hq0:∃ out,E 16 [.ptr 0 0] [cur l p s]=some out∧Q out by
  obtain ⟨out,hq1,hq2⟩:=hq0
  rw [hQ] at hq2
  obtain ⟨m,p',s',rfl,hq3⟩:=hq2
  exact ⟨m,p',s',hq1,hq3⟩
 obtain ⟨m,p1,s1,hi,⟨g1,g2⟩,⟨z1,z3⟩,htl,hvl⟩:=LW l hl hn p s h0 (by omega)
 obtain ⟨i,p2,s2,hp,⟨i0,i7⟩,g3,g4⟩:=CS l hl hn 7 (by omega) (by omega) p1 s1 (by omega) (by omega)
 obtain ⟨v,p3,s3,hv,⟨v0,v1⟩,g5,g6⟩:=CS l hl hn 30 (by omega) (by omega) p2 s2 (by omega) (by omega)
 have e7:(7:Int)=(m.tables.length:Int):=by omega
 rw [e7] at hp
 dsimp only [ipH,Vq] at hi
 obtain ⟨j,hj⟩:∃ j:Nat,i=j:=⟨i.toNat,by omega⟩
 have hni:i.toNat=j:=by omega
 have hjl:j<m.tables.length:=by omega
 have hga:=QaR hjl
 have hvj:=hvl _ (zE hjl)
 have hvs:∀ t∈m.tables,t.vals.length≤10:=fun t ht=>by have:=hvl t ht; omega
 have hset:∀ (x:Tl),x.vals.length≤10→∀ t∈m.tables.set j x,t.vals.length≤10:=fun x hx t ht=>by
  rcases List.mem_or_eq_of_mem_set ht with h | rfl
  ·exact hvs t h
  ·exact hx
 have hsl:∀ x,(m.tables.set j x).length=7:=fun x=>by rw [List.length_set,htl]
 generalize ht:m.tables[j]=t at *
 rcases (show v=0∨v=1∨v=2∨v=3∨v=4∨v=5∨(¬ v=0∧¬ v=1∧¬ v=2∧¬ v=3∧¬ v=4∧¬ v=5) by omega) with rfl | rfl | rfl | rfl | rfl | rfl | ⟨k0,k1,k2,k3,k4,k5⟩
 ·obtain ⟨u,p4,s4,hu,hum,g7,g8⟩:=Le l hl hn [0,4,2] (by decide) (by decide) p3 s3 (by omega) (by omega)
  simp only [zB,zN] at hu
  have hub:0≤u∧u≤4:=by simp only [zS,xA,or_false] at hum; omega
  refine AM AW Av (of_decide_eq_true rfl) ?_
  simp (disch:=omega) only [AJ,go_sem,Ab,hi,hp,hv,hni,hu,AT,Am,AV,Ax]
  rw [hQ]
  exact ⟨⟨u,m.tables⟩,p4,s4,rfl,by omega,⟨hub.1,hub.2,by show m.tables.length≤7; omega,hvs⟩⟩
 ·obtain ⟨u,p4,s4,hu,_,g7,g8⟩:=R9 l hl hn [⟨#[88]⟩,⟨#[]⟩,⟨#[97]⟩,⟨#[61]⟩,⟨#[122]⟩] (by decide) (by decide) p3 s3 (by omega) (by omega)
  simp only [zB,zN] at hu
  have hs:=Tq m.tables j u t.arity t.pred t.vals
  refine AM AW Av (of_decide_eq_true rfl) ?_
  simp (disch:=omega) only [AJ,go_sem,Ab,hi,hp,hv,hni,hu,hga,hs,AT,Am,AV,Ax]
  rw [hQ]
  exact ⟨⟨m.size,m.tables.set j ⟨u,t.arity,t.pred,t.vals⟩⟩,p4,s4,rfl,by omega,⟨by show 0≤m.size; omega,by show m.size≤4; omega,by rw [hsl]; omega,hset _ (by show t.vals.length≤10; omega)⟩⟩
 ·obtain ⟨u,p4,s4,hu,_,g7,g8⟩:=Le l hl hn [-1,0,1,4] (by decide) (by decide) p3 s3 (by omega) (by omega)
  simp only [zB,zN] at hu
  have hs:=Tq m.tables j t.name u t.pred t.vals
  refine AM AW Av (of_decide_eq_true rfl) ?_
  simp (disch:=omega) only [AJ,go_sem,Ab,hi,hp,hv,hni,hu,hga,hs,AT,Am,AV,Ax]
  rw [hQ]
  exact ⟨⟨m.size,m.tables.set j ⟨t.name,u,t.pred,t.vals⟩⟩,p4,s4,rfl,by omega,⟨by show 0≤m.size; omega,by show m.size≤4; omega,by rw [hsl]; omega,hset _ (by show t.vals.length≤10; omega)⟩⟩
 ·obtain ⟨u,p4,s4,hu,_,g7,g8⟩:=Le l hl hn [3,-1,0] (by decide) (by decide) p3 s3 (by omega) (by omega)
  simp only [zB,zN] at hu
  have hX1:OT.AC ([OT.int u] :: (t.vals.drop 1).map (fun n=>[OT.int n]))=true:=Nf (u :: t.vals.drop 1)
  have hX2:OT.erss ([OT.int u] :: (t.vals.drop 1).map (fun n=>[OT.int n]))=(u :: t.vals.drop 1).map (fun n=>[D.int n]):=Nc (u :: t.vals.drop 1)
  have hs:=Qat m.tables j t.name t.arity t.pred ([OT.int u] :: (t.vals.drop 1).map (fun n=>[OT.int n]))
  have hs2:=RI (nm:=t.name) (ar:=t.arity) (pr:=t.pred) hX1 m.tables j
  have hs3:=RJ (nm:=t.name) (ar:=t.arity) (pr:=t.pred) hX2 m.tables j
  have hiv:=Zx t.vals 1
  have hvl1:(1:Int)≤(t.vals.length:Int):=by omega
  have hal1:((t.vals.map fun n=>[D.int n]).all fun e=>e.length == 1)=true:=zL.2 fun e he=>by
   obtain ⟨x,_,rfl⟩:=yO.1 he
   rfl
  have htk:(t.vals.map fun n=>[D.int n]).take t.vals.length=t.vals.map fun n=>[D.int n]:=z7 (by rw [zT]; exact yD _)
  refine AM AW Av (of_decide_eq_true rfl) ?_
  simp (disch:=omega) only [AJ,go_sem,Ab,hi,hp,hv,hni,hu,hga,hiv,hs,hs2,hs3,hal1,htk,Ud,yE,AT,Am,AV,Ax]
  rw [hQ]
  exact ⟨⟨m.size,m.tables.set j ⟨t.name,t.arity,t.pred,u :: t.vals.drop 1⟩⟩,p4,s4,rfl,by omega,⟨by show 0≤m.size; omega,by show m.size≤4; omega,by rw [hsl]; omega,hset _ (by show (u :: t.vals.drop 1).length≤10; rw [zI,yE]; omega)⟩⟩
 ·have hs:=Tq m.tables j t.name t.arity (!t.pred) t.vals
  refine AM AW Av (of_decide_eq_true rfl) ?_
  simp (disch:=omega) only [AJ,go_sem,Ab,hi,hp,hv,hni,hga,hs,AT,Am,AV,Ax]
  rw [hQ]
  exact ⟨⟨m.size,m.tables.set j ⟨t.name,t.arity,!t.pred,t.vals⟩⟩,p3,s3,rfl,by omega,⟨by show 0≤m.size; omega,by show m.size≤4; omega,by rw [hsl]; omega,hset _ (by show t.vals.length≤10; omega)⟩⟩
 ·have hni1:(i+1).toNat=j+1:=by omega
  have hsp:(m.tables.take j).map Tl.hs++(m.tables.drop (j+1)).map Tl.hs=(m.tables.take j++m.tables.drop (j+1)).map Tl.hs:=zX.symm
  have htk:(m.tables.map Tl.d).take j=(m.tables.take j).map Tl.d:=List.map_take.symm
  have htl7:(m.tables.map Tl.d).take m.tables.length=m.tables.map Tl.d:=z7 (by rw [zT]; exact yD _)
  have hdr:(m.tables.map Tl.d).drop (j+1)=(m.tables.drop (j+1)).map Tl.d:=List.map_drop.symm
  have hl1:(m.tables.take j).length=j:=by rw [yP]; omega
  have hl2:(m.tables.drop (j+1)).length=7-(j+1):=by rw [yE]; omega
  have hl2b:7-(j+1)≤7:=by omega
  refine AM AW Av (of_decide_eq_true rfl) ?_
  simp (disch:=omega) only [AJ,go_sem,Ab,hi,hp,hv,hni,hni1,hsp,htk,htl7,hdr,hl1,hl2,QaS,YW,WX,AT,Am,AV,Ax]
  rw [hQ]
  exact ⟨⟨m.size,m.tables.take j++m.tables.drop (j+1)⟩,p3,s3,rfl,by omega,⟨by show 0≤m.size; omega,by show m.size≤4; omega,by show (m.tables.take j++m.tables.drop (j+1)).length≤7; rw [yH,yP,yE]; omega,fun t ht=>by
   rcases yY.1 ht with h | h
   ·exact hvs t (List.mem_of_mem_take h)
   ·exact hvs t (List.mem_of_mem_drop h)⟩⟩
 ·have k0:=eq_false k0
  have k1:=eq_false k1
  have k2:=eq_false k2
  have k3:=eq_false k3
  have k4:=eq_false k4
  have k5:=eq_false k5
  refine AM AW Av (of_decide_eq_true rfl) ?_
  simp (disch:=omega) only [AJ,go_sem,Ab,hi,hp,hv,hni,k0,k1,k2,k3,k4,k5,AT,Am,AV,Ax]
  rw [hQ]
  exact ⟨m,p3,s3,rfl,by omega,⟨by omega,by omega,by omega,hvs⟩⟩
theorem Qau (xs:List Int) (n:Nat):((xs.map fun n=>[D.int n]).take n).map (fun x=>x.map D.ot)=(xs.take n).map fun n=>[OT.int n]:=by rw [←List.map_take,yF]; rfl
theorem YX (xs:List Int):((xs.map fun n=>[D.int n]).all fun e=>e.length == 1)=true:=zL.2 fun e he=>by
 obtain ⟨x,_,rfl⟩:=yO.1 he
 rfl
theorem PA (a:List Int) (x:Int):(a.map fun n=>[OT.int n])++[[OT.int x]]=(a++[x]).map fun n=>[OT.int n]:=by rw [zX]; rfl
theorem Vr (a b:List Int):(a.map fun n=>[OT.int n])++(b.map fun n=>[OT.int n])=(a++b).map fun n=>[OT.int n]:=zX.symm
def Ev:SC:=(.seq (.reg [⟨some 2,none,.alloc 26 [(.int .i64 0),.nil]⟩,⟨some 3,none,.mv (.c .nil)⟩]) (.seq (.reg [⟨some 9,none,.mv (.t 0)⟩,⟨some 10,none,.build [.nil,(.int .i64 0),(.int .u64 0)] [(0,(1,(.t 9)))]⟩,⟨some 11,none,.boxv 53 3 (.t 10)⟩,⟨some 4,none,.mv (.t 11)⟩]) (.seq (.reg [⟨some 12,none,.mv (.t 4)⟩,⟨some 13,none,.call 16 [(.t 12)]⟩,⟨some 5,none,.alloc 26 [(.int .i64 0),.nil]⟩,⟨none,none,(.store 2 (.t 5) (.t 13))⟩]) (.seq (.reg [⟨some 14,none,.mkrow 3 1 [(.int .i64 0)] 0 []⟩,⟨some 6,none,.mv (.t 14)⟩]) (.seq (.seq (.reg [⟨some 7,none,.mv (.c (.int .i64 0))⟩]) (.block 0 (.loop [0,0,1,0,1,1,1,1,0,0,0,0,0,0,0,0,0,0,0,0,0,0,0,0,0,0,0,0,0,0,0,0,0,0,0,0,0,0,0,0,0,0,0,0,0,0,0,0,0,0,0,0,0,0,0,0,0,0,0] (.seq (.seq (.reg [⟨some 15,none,.mv (.t 7)⟩,⟨some 16,none,.faddr 0 (.t 5)⟩,⟨some 17,none,.load false 1 (.t 16)⟩,⟨some 18,none,.bin .lss false (.t 15) (.t 17)⟩]) (.cond (.t 18) .skip (.exit 0))) (.seq (.block 1 (.seq (.reg [⟨some 21,none,.mv (.t 4)⟩,⟨some 22,none,.mv (.t 7)⟩,⟨some 23,none,.bin .add false (.t 22) (.c (.int .i64 1))⟩,⟨some 24,none,.call 28 [(.t 21),(.t 23)]⟩,⟨some 8,none,.mv (.t 24)⟩]) (.dreg [[],[],[],[1,2],[0,3,1,2],[],[5],[4,0,3,1,2,6,5],[],[],[8,9],[7,4,0,3,1,2,6,5,10,8,9],[11,7,4,0,3,1,2,6,5,10,8,9]] [⟨some 25,none,.mkrow 3 1 [(.int .i64 0)] 0 []⟩,⟨some 26,none,.mv (.t 6)⟩,⟨some 27,none,.mv (.t 8)⟩,⟨some 28,none,.slice false 1 (.t 26) none (some (.t 27))⟩,⟨some 29,none,.append 3 1 8 [(.int .i64 0)] (.t 25) (.t 28)⟩,⟨some 30,none,.mv (.t 7)⟩,⟨some 31,none,.mkrow 3 1 [(.int .i64 0)] 1 [(0,(.t 30))]⟩,⟨some 32,none,.append 3 1 8 [(.int .i64 0)] (.t 29) (.t 31)⟩,⟨some 33,none,.mv (.t 6)⟩,⟨some 34,none,.mv (.t 8)⟩,⟨some 35,none,.slice false 1 (.t 33) (some (.t 34)) none⟩,⟨some 36,none,.append 3 1 8 [(.int .i64 0)] (.t 32) (.t 35)⟩,⟨some 6,none,.mv (.t 36)⟩]))) (.reg [⟨some 19,none,.mv (.t 7)⟩,⟨some 20,none,.bin .add false (.t 19) (.c (.int .i64 1))⟩,⟨some 7,none,.mv (.t 20)⟩])))))) (.seq (.seq (.reg [⟨some 37,none,.mv (.t 4)⟩,⟨some 38,none,.call 29 [(.t 37),(.c (.int .i64 12))]⟩]) (.cond (.t 38) (.reg [⟨some 39,none,.mv (.t 6)⟩,⟨some 40,none,.mv (.t 4)⟩,⟨some 41,none,.call 28 [(.t 40),(.c (.int .i64 4))]⟩,⟨some 42,none,.bin .sub false (.t 41) (.c (.int .i64 1))⟩,⟨some 43,none,.mkrow 3 1 [(.int .i64 0)] 1 [(0,(.t 42))]⟩,⟨some 44,none,.append 3 1 8 [(.int .i64 0)] (.t 39) (.t 43)⟩,⟨some 6,none,.mv (.t 44)⟩]) .skip)) (.seq (.seq (.reg [⟨some 45,none,.mv (.t 4)⟩,⟨some 46,none,.call 29 [(.t 45),(.c (.int .i64 12))]⟩,⟨some 47,none,.mv (.t 46)⟩,⟨(some 48),(some (47,true)),(.mv (.t 6))⟩,⟨(some 49),(some (47,true)),(.len false (.t 48))⟩,⟨(some 50),(some (47,true)),(.bin .gtr false (.t 49) (.c (.int .i64 0)))⟩,⟨some 51,none,.pick (.t 47) (.t 50) (.c (.bool false))⟩]) (.cond (.t 51) (.reg [⟨some 52,none,.mv (.t 6)⟩,⟨some 53,none,.mv (.t 4)⟩,⟨some 54,none,.call 28 [(.t 53),(.c (.int .i64 4))]⟩,⟨some 55,none,.bin .sub false (.t 54) (.c (.int .i64 1))⟩,⟨some 56,none,.iaddr 1 (.t 52) (.c (.int .i64 0))⟩,⟨none,none,(.store 1 (.t 56) (.t 55))⟩]) .skip)) (.seq (.reg [⟨some 57,none,.load true 2 (.t 5)⟩,⟨some 58,none,.mv (.t 6)⟩,⟨none,none,(.store 2 (.t 2) (.t 57))⟩,⟨some 3,none,.mv (.t 58)⟩]) .ret))))))))
theorem GV:Aq Tryz.prog 9=some ⟨59,Ev,[(.cell 2 true 2),(.tmp 3)]⟩:=by kernel_rfl
theorem AO:modes 9=⟨[],.frzg 25 6,none,false⟩:=by unfold modes; rfl
theorem Jk (l:List Int) (hl:Bytes l) (hn:l.length≤1099511627776):∃ (m:Ip) (q:List Int),E 9 [.arr (l.map by_)] []=some (.tup [m.sv,.arr (q.map fun n=>[D.int n])],[])∧Drawn m∧q.length≤6:=by
 suffices h:∃ out,E 9 [.arr (l.map by_)] []=some out∧∃ (m:Ip) (q:List Int),out=(.tup [m.sv,.arr (q.map fun n=>[D.int n])],[])∧Drawn m∧q.length≤6 by
  obtain ⟨out,h1,m,q,rfl,h2⟩:=h
  exact ⟨m,q,h1,h2⟩
 obtain ⟨Q,hQ⟩:∃ Q:SV × List Ob→Prop,Q=fun out=>∃ (m:Ip) (q:List Int),out=(.tup [m.sv,.arr (q.map fun n=>[D.int n])],[])∧Drawn m∧q.length≤6:=⟨_,rfl⟩
 suffices hq0:∃ out,E 9 [.arr (l.map by_)] []=some out∧Q out by
  obtain ⟨out,h1,h2⟩:=hq0
  rw [hQ] at h2
  exact ⟨out,h1,h2⟩
 obtain ⟨m,p1,s1,hm,⟨g1,g2⟩,hd⟩:=JK l hl hn 0 0 (by omega) (by omega)
 dsimp only [ipH,Vq] at hm
 have z0:=hd.s0
 have z4:=hd.s4
 have hms:m.sv=.agg [.int .i64 m.size,.arr (m.tables.map Tl.d)]:=rfl
 refine AM GV AO (of_decide_eq_true rfl) ?_
 simp (disch:=omega) only [Ev,go_sem,Ab,hm,Av,Am,A2]
 refine go_loop (α:=Int × Int × Int × List Int) (fun a=>⟨slots 59 0 [(2,.ptr 0 0),(4,.ptr 1 0),(5,.ptr 2 0),(6,.ref 3),(7,.int .i64 a.1)],[.box 26 [.int .i64 0,.nil],cur l a.2.1 a.2.2.1,.box 26 [.int .i64 m.size,.ref 4],.row 3 1 (a.2.2.2.map fun n=>[OT.int n]),.row 44 4 (m.tables.map Tl.hs)]⟩) (fun a=>∃ k:Nat,a.1=k∧(k:Int)≤m.size∧a.2.2.2.length=k∧p1≤a.2.1∧a.2.1≤p1+k) (fun a=>(m.size-a.1).toNat) (0,p1,s1,[]) ⟨0,rfl,by omega,rfl,by dsimp only; omega,by dsimp only; omega⟩ (by simp (disch:=omega) only [go_sem,Ab,zN]) ?_
 rintro ⟨i,p2,s2,q⟩ ⟨k,hi,hk,hql,hp1,hp2⟩
 dsimp only at hi hql hp1 hp2
 rcases yG (k:Int) m.size with hlt | hge
 ·obtain ⟨v,p3,s3,hv,⟨v0,v1⟩,g3,g4⟩:=CS l hl hn (i+1) (by omega) (by omega) p2 s2 (by omega) (by omega)
  obtain ⟨j,hj⟩:∃ j:Nat,v.toNat=j:=⟨_,rfl⟩
  have q1:(i<m.size)=True:=eq_true (by omega)
  have htk:∀ xs:List Int,(xs.map fun n=>[D.int n]).take xs.length=xs.map fun n=>[D.int n]:=fun xs=>z7 (by rw [zT]; exact yD _)
  have hr:=Vr (q.take j++[i]) (q.drop j)
  have hla:(q.take j++[i]).length=j+1:=by simp only [yH,yP,zI,zP]; omega
  have hjk:j≤q.length:=by omega
  simp (disch:=omega) only [go_sem,Ab,q1,hv,hj,htk,Qau,Zx,YX,Ud,PA,hr,hla,yP,yE,Av,Am,A2]
  refine ⟨(i+1,p3,s3,q.take j++[i]++q.drop j),⟨k+1,by dsimp only; omega,by omega,?_,by dsimp only; omega,by dsimp only; omega⟩,by dsimp only; omega,?_⟩
  ·simp only [yH,yP,yE,zI,zP]; omega
  ·first | trivial | rfl | (simp only [and_self])
 ·have q1:(i<m.size)=False:=eq_false (by omega)
  obtain ⟨b,p3,s3,hb,g3,g4⟩:=JT l hl hn 12 (by omega) (by omega) p2 s2 (by omega) (by omega)
  have tail:∀ (q':List Int) (p4 s4:Int),q'.length≤5→0≤p4→p4≤1098000000000→∃ b' p5 s5,E 29 [.ptr 0 0,.int .i64 12] [cur l p4 s4]=some (.bool b',[cur l p5 s5])∧p4≤p5∧p5≤p4+1:=fun q' p4 s4 _ h0 h1=>JT l hl hn 12 (by omega) (by omega) p4 s4 h0 (by omega)
  cases b with
  | false =>
   obtain ⟨b',p5,s5,hb',g5,g6⟩:=JT l hl hn 12 (by omega) (by omega) p3 s3 (by omega) (by omega)
   cases b' with
   | false =>
    simp (disch:=omega) only [go_sem,Ab,q1,hb,hb',hms,RK,Tl.hs_full,zN,Av,Am,A2]
    rw [hQ]
    exact ⟨m,q,rfl,hd,by omega⟩
   | true =>
    obtain ⟨v,p6,s6,hv,⟨v0,v1⟩,g7,g8⟩:=CS l hl hn 4 (by omega) (by omega) p5 s5 (by omega) (by omega)
    rcases hq:q with _ | ⟨x,r⟩
    ·subst hq
     simp (disch:=omega) only [go_sem,Ab,q1,hb,hb',hms,RK,Tl.hs_full,zN,Av,Am,A2]
     rw [hQ]
     exact ⟨m,[],rfl,hd,by simp⟩
    ·have q2:(0<(q.length:Int))=True:=eq_true (by rw [hq]; simp)
     have q3:(0<q.length)=True:=eq_true (by rw [hq]; simp)
     have hset:(q.map fun n=>[OT.int n]).set 0 [OT.int (v-1)]=((v-1) :: r).map fun n=>[OT.int n]:=by rw [hq]; rfl
     have hg0:(q.map fun n=>[OT.int n])[0]?=some [OT.int x]:=by rw [hq]; rfl
     have hql5:q.length≤5:=by omega
     rw [←hq]
     simp (disch:=omega) only [go_sem,Ab,q1,hb,hb',hv,q2,q3,hset,hg0,hms,RK,Tl.hs_full,Av,Am,A2]
     rw [hQ]
     exact ⟨m,(v-1) :: r,rfl,hd,by rw [hq] at hql5; simp at hql5 ⊢; omega⟩
  | true =>
   obtain ⟨w,pw,sw_,hw,⟨w0,w1⟩,gw1,gw2⟩:=CS l hl hn 4 (by omega) (by omega) p3 s3 (by omega) (by omega)
   obtain ⟨b',p5,s5,hb',g5,g6⟩:=JT l hl hn 12 (by omega) (by omega) pw sw_ (by omega) (by omega)
   have hsn:=PA q (w-1)
   have hsl:(q++[w-1]).length≤5:=by rw [yH,zI,zP]; omega
   cases b' with
   | false =>
    simp (disch:=omega) only [go_sem,Ab,q1,hb,hb',hw,hsn,hms,RK,Tl.hs_full,Av,Am,A2]
    rw [hQ]
    exact ⟨m,q++[w-1],rfl,hd,by omega⟩
   | true =>
    obtain ⟨v,p6,s6,hv,⟨v0,v1⟩,g7,g8⟩:=CS l hl hn 4 (by omega) (by omega) p5 s5 (by omega) (by omega)
    rcases hq:q++[w-1] with _ | ⟨x,r⟩
    ·exact absurd hq (by simp)
    ·have q2:(0<((q++[w-1]).length:Int))=True:=eq_true (by rw [hq]; simp)
     have q3:(0<(q++[w-1]).length)=True:=eq_true (by rw [hq]; simp)
     have hset:((q++[w-1]).map fun n=>[OT.int n]).set 0 [OT.int (v-1)]=((v-1) :: r).map fun n=>[OT.int n]:=by rw [hq]; rfl
     have hg0:((q++[w-1]).map fun n=>[OT.int n])[0]?=some [OT.int x]:=by rw [hq]; rfl
     generalize hqq:q++[w-1]=q2l at *
     simp (disch:=omega) only [go_sem,Ab,q1,hb,hb',hw,hv,hsn,q2,q3,hset,hg0,hms,RK,Tl.hs_full,Av,Am,A2]
     rw [hQ]
     exact ⟨m,(v-1) :: r,rfl,hd,by rw [hq] at hsl; simp at hsl ⊢; omega⟩
def dg (s:Int) (q:Int→Int):Nat→Int→Int
 | 0,_=>0
 | a+1,n=>q (n.tmod s)+s*dg s q a (n.tdiv s)
def OnS (s:Int) (q:Int→Int):Prop:=∀ x,0≤x→x<s→0≤q x∧q x<s
theorem Jl {s n P:Int} (h1:1≤s) (h0:0≤n) (hP:n<P*s):0≤n.tdiv s∧n.tdiv s<P∧0≤n.tmod s∧n.tmod s<s:=by
 rw [y7 h0,yN h0]
 refine ⟨Int.ediv_nonneg h0 (by omega),?_,Int.emod_nonneg _ (by omega),Int.emod_lt_of_pos _ (by omega)⟩
 exact Int.ediv_lt_of_lt_mul (by omega) hP
theorem PB {s x r:Int} (h1:1≤s) (h0:0≤x) (hx:x<s) (hr:0≤r):0≤x+s*r∧(x+s*r).tmod s=x∧(x+s*r).tdiv s=r:=by
 have hm:=y6 (show 0≤s by omega) hr
 have h2:0≤x+s*r:=by omega
 rw [y7 h2,yN h2]
 refine ⟨h2,?_,?_⟩
 ·rw [Int.add_mul_emod_self_left,Int.emod_eq_of_lt h0 hx]
 ·rw [Int.add_mul_ediv_left _ _ (by omega),Int.ediv_eq_zero_of_lt h0 hx]; omega
theorem El {s:Int} {q:Int→Int} (h1:1≤s) (hq:OnS s q):∀ (a:Nat) (n:Int),0≤n→n<pw s a→0≤dg s q a n∧dg s q a n<pw s a
 | 0,n,_,_=>by rw [dg,pw]; omega
 | a+1,n,h0,hn=>by
  rw [pw] at hn
  obtain ⟨d0,d1,m0,m1⟩:=Jl h1 h0 hn
  obtain ⟨i0,i1⟩:=El h1 hq a (n.tdiv s) d0 d1
  obtain ⟨q0,q1⟩:=hq _ m0 m1
  rw [dg,pw]
  have k1:=y6 (show 0≤s by omega) i0
  have k2:s*(dg s q a (n.tdiv s)+1)≤s*pw s a:=Int.mul_le_mul_of_nonneg_left (by omega) (by omega)
  rw [Int.mul_add,Int.mul_one,Int.mul_comm s (pw s a)] at k2
  omega
theorem Oc {s:Int} {q q':Int→Int} (h1:1≤s) (hq:OnS s q) (hi:∀ x,0≤x→x<s→q' (q x)=x):∀ (a:Nat) (n:Int),0≤n→n<pw s a→dg s q' a (dg s q a n)=n
 | 0,n,h0,hn=>by rw [pw] at hn; show (0:Int)=n; omega
 | a+1,n,h0,hn=>by
  rw [pw] at hn
  obtain ⟨d0,d1,m0,m1⟩:=Jl h1 h0 hn
  obtain ⟨i0,i1⟩:=El h1 hq a (n.tdiv s) d0 d1
  obtain ⟨q0,q1⟩:=hq _ m0 m1
  obtain ⟨_,s1,s2⟩:=PB h1 q0 q1 i0
  have e1:dg s q (a+1) n=q (n.tmod s)+s*dg s q a (n.tdiv s):=rfl
  have e2:∀ y,dg s q' (a+1) y=q' (y.tmod s)+s*dg s q' a (y.tdiv s):=fun _=>rfl
  rw [e1,e2,s1,s2,Oc h1 hq hi a _ d0 d1,hi _ m0 m1]
  have:=Int.tmod_add_mul_tdiv n s
  omega
theorem Ls {s:Int} {q:Int→Int} (a:Nat) (at_ w rest:Int):at_+w*dg s q (a+1) rest=(at_+w*q (rest.tmod s))+(w*s)*dg s q a (rest.tdiv s):=by
 rw [dg,Int.mul_add,← Int.mul_assoc]; omega
def LX (g:Nat→Nat) (w:Nat→Int):Nat→List Int→List Int
 | 0,cur=>cur
 | k+1,cur=>(LX g w k cur).set (g k) (w k)
theorem Jm (g:Nat→Nat) (w:Nat→Int):∀ (k:Nat) (cur:List Int),(LX g w k cur).length=cur.length
 | 0,_=>rfl
 | k+1,cur=>by rw [LX,List.length_set,Jm g w k]
theorem Q2 {g:Nat→Nat} {w:Nat→Int} {cur:List Int}:∀ (k:Nat),(∀ i j,i<k→j<k→g i=g j→i=j)→(∀ i,i<k→g i<cur.length)→∀ j,j<k→(LX g w k cur)[g j]?=some (w j)
 | 0,_,_,j,h=>by omega
 | k+1,hi,hl,j,hj=>by
  rw [LX]
  by_cases e:j=k
  ·subst e
   rw [List.getElem?_set_self (by rw [Jm]; exact hl j (by omega))]
  ·have hne:g k≠g j:=fun h=>e (hi k j (by omega) hj h).symm
   rw [List.getElem?_set_ne hne]
   exact Q2 k (fun i j h1 h2=>hi i j (by omega) (by omega)) (fun i h=>hl i (by omega)) j (by omega)
def pf (p:List Int) (x:Int):Int:=p.getD x.toNat 0
noncomputable def KB (s:Int) (p:List Int):Bool:=dec ((p.length:Int)=s)&&(xF p.length).all fun i=>dec ((i:Int)∈p)
theorem LY {s:Int} {p:List Int} (h3:s≤3) (h:KB s p=true):(p.length:Int)=s∧OnS s (pf p)∧(∀ x,0≤x→x<s→x∈p)∧p.Nodup:=by
 unfold KB at h
 rw [zA,Ar,zL] at h
 obtain ⟨hl,hm⟩:=h
 have hm:∀ i,i<p.length→((i:Nat):Int)∈p:=fun i hi=>Ar.1 (hm i (xD.2 hi))
 have key:(∀ x,0≤x→x<s→x∈p):=fun x h0 hx=>by
  have:=hm x.toNat (by omega)
  rwa [show ((x.toNat:Nat):Int)=x by omega] at this
 refine ⟨hl,?_,key,?_⟩
 ·intro x h0 hx
  unfold pf
  match p,hl,hm with
  | [],hl,_=>simp only [zP] at hl; omega
  | [a],hl,hm =>
   have a0:=hm 0 (by simp)
   simp only [zI,zP] at hl
   simp at a0
   obtain rfl:x=0:=by omega
   simp; omega
  | [a,b],hl,hm =>
   have a0:=hm 0 (by simp)
   have a1:=hm 1 (by simp)
   simp only [zI,zP] at hl
   simp at a0 a1
   rcases (show x=0∨x=1 by omega) with rfl | rfl <;> simp <;> omega
  | [a,b,c],hl,hm =>
   have a0:=hm 0 (by simp)
   have a1:=hm 1 (by simp)
   have a2:=hm 2 (by simp)
   simp only [zI,zP] at hl
   simp at a0 a1 a2
   rcases (show x=0∨x=1∨x=2 by omega) with rfl | rfl | rfl <;> simp <;> omega
  | a :: b :: c :: d :: r,hl,_=>simp only [zI] at hl; omega
 ·match p,hl,hm with
  | [],hl,_=>simp
  | [a],hl,hm=>simp
  | [a,b],hl,hm =>
   have a0:=hm 0 (by simp)
   have a1:=hm 1 (by simp)
   simp at a0 a1
   simp; omega
  | [a,b,c],hl,hm =>
   have a0:=hm 0 (by simp)
   have a1:=hm 1 (by simp)
   have a2:=hm 2 (by simp)
   simp at a0 a1 a2
   simp; omega
  | a :: b :: c :: d :: r,hl,_=>simp only [zI] at hl; omega
theorem WY {s:Int} {p:List Int} (h1:1≤s) (h3:s≤3) (hl:(p.length:Int)=s) (hr:∀ x∈p,0≤x∧x<s) (hn:p.Nodup):KB s p=true:=by
 unfold KB
 rw [zA,Ar,zL]
 refine ⟨hl,fun i hi=>Ar.2 ?_⟩
 rw [xD] at hi
 match p,hl with
 | [],hl=>simp at hi
 | [a],hl =>
  simp only [zI,zP] at hl hi
  have:=hr a (by simp)
  simp; omega
 | [a,b],hl =>
  simp only [zI,zP] at hl hi
  have:=hr a (by simp); have:=hr b (by simp)
  simp at hn
  simp; omega
 | [a,b,c],hl =>
  simp only [zI,zP] at hl hi
  have:=hr a (by simp); have:=hr b (by simp); have:=hr c (by simp)
  simp at hn
  simp; omega
 | a :: b :: c :: d :: r,hl=>simp only [zI] at hl; omega
def backL (p:List Int) (k:Nat):List Int:=LX (fun j=>(p.getD j 0).toNat) (fun j=>(j:Int)) k (List.replicate p.length 0)
theorem Gz (p:List Int) (k:Nat):(backL p k).length=p.length:=by unfold backL; rw [Jm,List.length_replicate]
theorem CH {p:List Int} {j:Nat} (h:j<p.length):p.getD j 0=p[j]:=by
 rw [zM,zD h]; rfl
theorem Vs {p:List Int} (hn:p.Nodup) {i j:Nat} (hi:i<p.length) (hj:j<p.length) (h:p.getD i 0=p.getD j 0):i=j:=by
 rw [CH hi,CH hj] at h
 have hp:=y8.1 hn
 rcases Nat.lt_trichotomy i j with hlt | rfl | hlt
 ·exact absurd h (hp i j hi hj hlt)
 ·rfl
 ·exact absurd h.symm (hp j i hj hi hlt)
theorem Lu {s:Int} {p:List Int} (h3:s≤3) (h:KB s p=true):(∀ x,0≤x→x<s→pf (backL p p.length) (pf p x)=x)∧(∀ x,0≤x→x<s→pf p (pf (backL p p.length) x)=x)∧OnS s (pf (backL p p.length)):=by
 obtain ⟨hl,ho,hm,hn⟩:=LY h3 h
 have key:∀ j,j<p.length→(backL p p.length)[(p.getD j 0).toNat]?=some (j:Int):=by
  unfold backL
  refine Q2 p.length (fun i j hi hj e=>Vs hn hi hj ?_) (fun i hi=>?_)
  ·have r1:=ho i (by omega) (by omega)
   have r2:=ho j (by omega) (by omega)
   unfold pf at r1 r2
   rw [yL] at r1 r2
   omega
  ·have r1:=ho i (by omega) (by omega)
   unfold pf at r1
   rw [yL] at r1
   rw [List.length_replicate]
   omega
 have h1:∀ x,0≤x→x<s→pf (backL p p.length) (pf p x)=x:=fun x x0 xs=>by
  have:=key x.toNat (by omega)
  unfold pf
  rw [zM,this]
  simp; omega
 have h2:∀ x,0≤x→x<s→pf p (pf (backL p p.length) x)=x∧0≤pf (backL p p.length) x∧pf (backL p p.length) x<s:=fun x x0 xs=>by
  obtain ⟨j,hj,e⟩:=zZ (hm x x0 xs)
  have hx:pf p j=x:=by unfold pf; rw [yL,CH hj,e]
  have:=h1 j (by omega) (by omega)
  rw [hx] at this
  rw [this]
  exact ⟨hx,by omega,by omega⟩
 exact ⟨h1,fun x a b=>(h2 x a b).1,fun x a b=>(h2 x a b).2⟩
def IH (p:List Int) (t:Tl) (v:Int):Int:=bif t.pred then v else pf p v
def atV (s:Int) (p:List Int) (t:Tl) (k:Nat):Int:=IH p t (t.vals.getD (dg s (pf (backL p p.length)) t.arity.toNat k).toNat 0)
def Tl.rn (s:Int) (p:List Int) (t:Tl):Tl:=⟨t.name,t.arity,t.pred,(xF t.vals.length).map (atV s p t)⟩
def KC (s:Int) (p:List Int) (t:Tl) (k:Nat):List Int:=LX (fun n=>(dg s (pf p) t.arity.toNat n).toNat) (fun n=>IH p t (t.vals.getD n 0)) k t.vals
theorem WZ {s:Int} {p:List Int} {t:Tl} (h1:1≤s) (h3:s≤3) (h:KB s p=true) (hl:(t.vals.length:Int)=pw s t.arity.toNat):KC s p t t.vals.length=(t.rn s p).vals:=by
 obtain ⟨hpl,ho,hm,hn⟩:=LY h3 h
 obtain ⟨b1,b2,b3⟩:=Lu h3 h
 have hA:∀ j,j<t.vals.length→(KC s p t t.vals.length)[(dg s (pf p) t.arity.toNat j).toNat]?=some (IH p t (t.vals.getD j 0)):=by
  unfold KC
  refine Q2 t.vals.length (fun i j hi hj e=>?_) (fun i hi=>?_)
  ·have r1:=El h1 ho t.arity.toNat i (by omega) (by omega)
   have r2:=El h1 ho t.arity.toNat j (by omega) (by omega)
   have e2:dg s (pf p) t.arity.toNat i=dg s (pf p) t.arity.toNat j:=by omega
   have i1:=Oc h1 ho b1 t.arity.toNat i (by omega) (by omega)
   have i2:=Oc h1 ho b1 t.arity.toNat j (by omega) (by omega)
   rw [e2,i2] at i1
   omega
  ·have r1:=El h1 ho t.arity.toNat i (by omega) (by omega)
   omega
 have hlen:(KC s p t t.vals.length).length=t.vals.length:=by unfold KC; rw [Jm]
 show _=(xF t.vals.length).map (atV s p t)
 apply List.ext_getElem?
 intro k
 rcases zH k t.vals.length with hk | hk
 ·have r1:=El h1 b3 t.arity.toNat k (by omega) (by omega)
  have i1:=Oc h1 b3 b2 t.arity.toNat k (by omega) (by omega)
  have:=hA (dg s (pf (backL p p.length)) t.arity.toNat k).toNat (by omega)
  rw [show (((dg s (pf (backL p p.length)) t.arity.toNat k).toNat:Nat):Int)=dg s (pf (backL p p.length)) t.arity.toNat k by omega,i1,yL] at this
  rw [this,yK,List.getElem?_range hk]
  rfl
 ·rw [List.getElem?_eq_none (by omega),List.getElem?_eq_none (by simp; omega)]
noncomputable def Ge (m:Ip) (p:List Int):Bool:=m.ok&&KB m.size p
def Ip.rn (m:Ip) (p:List Int):Ip:=⟨m.size,m.tables.map (Tl.rn m.size p)⟩
noncomputable def H2 (m:Ip) (p:List Int):Ip:=bif Ge m p then m.rn p else ⟨0,[]⟩
theorem PC {s:ByteArray} (h:Cc s=true):Ez s=false:=by
 unfold Cc at h
 rw [zA] at h
 have hsz:0<s.size:=by
  have h2:=h.2
  unfold inB at h2
  rw [zA,decide_eq_true_eq,decide_eq_true_eq] at h2
  omega
 have h0:=Iq h.1 hsz
 unfold Ez
 have h1:EX I8 s s.size=false:=EK (k:=0) hsz (by
  unfold I9 at h0
  unfold I8
  rw [zA] at h0
  have hu:NO (HR s 0)=true:=by simpa using h0.1
  have hlo:OF (HR s 0)=false:=by
   unfold NO at hu
   unfold OF
   rw [zA,decide_eq_true_eq,decide_eq_true_eq] at hu
   rw [decide_eq_false (by omega)]
   rfl
  rw [hlo]
  rfl)
 rw [h1]
 rfl
noncomputable def Fp:List ByteArray→ByteArray→List ByteArray
 | [],n=>[n]
 | x :: xs,n=>bif strLt x n then x :: Fp xs n else bif dec (x=n) then x :: xs else n :: x :: xs
noncomputable def D4:List ByteArray→ByteArray→Nat
 | [],_=>0
 | x :: xs,n=>bif strLt x n then D4 xs n+1 else 0
mutual
noncomputable def Tm.vs:Tm→List ByteArray
 | .mk name args=>bif Cc name then [name] else Tm.vsL args
noncomputable def Tm.vsL:List Tm→List ByteArray
 | []=>[]
 | x :: xs=>Tm.vs x++Tm.vsL xs
end
noncomputable def DF (l ns:List ByteArray):List ByteArray:=ns.foldl Fp l
noncomputable def qB (op:Int):Bool:=dec (op=8) || dec (op=9)
mutual
noncomputable def Fm.fv:Fm→List ByteArray→List ByteArray
 | .mk op atom var parts,b=>bif dec (op=3) then (DF [] atom.vs).filter (fun n=>!dec (n∈b)) else Fm.fvL parts (bif qB op then b++[var] else b)
noncomputable def Fm.fvL:List Fm→List ByteArray→List ByteArray
 | [],_=>[]
 | x :: xs,b=>Fm.fv x b++Fm.fvL xs b
end
noncomputable def Fm.free (x:Fm):List ByteArray:=DF [] (x.fv [])
def Fm.all (n:ByteArray) (y:Fm):Fm:=.mk 8 (.mk ⟨#[]⟩ []) n [y]
def Fm.cls (ns:List ByteArray) (x:Fm):Fm:=ns.foldr Fm.all x
theorem Fm.nodes_eq (x:Fm):x.nodes=1+Fm.nodeS x.parts:=by
 obtain ⟨op,atom,var,parts⟩:=x
 rw [Fm.nodes]; rfl
theorem Fm.nodes_pos (x:Fm):1≤x.nodes:=by rw [Fm.nodes_eq]; omega
theorem Fm.nodes_le:∀ (xs:List Fm) (k:Nat) (h:k<xs.length),xs[k].nodes≤Fm.nodeS xs
 | [],k,h=>absurd h (by simp)
 | x :: xs,0,_=>by rw [Fm.nodeS]; simp
 | x :: xs,k+1,h=>by
  have:=Fm.nodes_le xs k (by simpa using h)
  rw [Fm.nodeS]; simp only [yT]; omega
theorem Fm.Od:∀ (xs:List Fm) (k:Nat) (h:k<xs.length),Fm.nodeS (xs.take (k+1))=Fm.nodeS (xs.take k)+xs[k].nodes
 | [],k,h=>absurd h (by simp)
 | x :: xs,0,_=>by simp [Fm.nodeS]
 | x :: xs,k+1,h=>by
  have:=Fm.Od xs k (by simpa using h)
  simp only [yZ,Fm.nodeS,yT,this]; omega
theorem Fm.ON (xs:List Fm) (k:Nat):Fm.nodeS (xs.take k)≤Fm.nodeS xs:=by
 induction xs generalizing k with
 | nil=>simp [Fm.nodeS]
 | cons x xs ih =>
  cases k with
  | zero=>simp [Fm.nodeS]
  | succ k=>simp only [yZ,Fm.nodeS]; have:=ih k; omega
theorem Fm.nodes_mem {xs:List Fm} {y:Fm} (h:y∈xs):y.nodes≤Fm.nodeS xs:=by
 obtain ⟨k,hk,rfl⟩:=zZ h
 exact Fm.nodes_le xs k hk
mutual
def Fm.cap:Fm→Int
 | .mk _ _ _ xs=>Fm.capL xs 1
def Fm.capL:List Fm→Int→Int
 | [],n=>n
 | x :: xs,n=>if 40 < n then n else Fm.capL xs (n+Fm.cap x)
end
theorem Fm.cap_eq (x:Fm):x.cap=Fm.capL x.parts 1:=by
 obtain ⟨op,atom,var,xs⟩:=x
 rw [Fm.cap]; rfl
theorem Fm.capL_spec:∀ (xs:List Fm) (n:Int),(∀ x∈xs,1≤x.cap∧x.cap≤x.nodes∧(x.cap≤40→x.cap=x.nodes))→1≤n→n≤Fm.capL xs n∧Fm.capL xs n≤n+Fm.nodeS xs∧(Fm.capL xs n≤40→Fm.capL xs n=n+Fm.nodeS xs)
 | [],n,_,h=>by simp [Fm.capL,Fm.nodeS]
 | x :: xs,n,hx,h=>by
  rw [Fm.capL,Fm.nodeS]
  have h1:=hx x (by simp)
  split
  ·omega
  ·have:=Fm.capL_spec xs (n+x.cap) (fun y hy=>hx y (by simp [hy])) (by omega)
   omega
theorem Fm.cap_spec (x:Fm):1≤x.cap∧x.cap≤x.nodes∧(x.cap≤40→x.cap=x.nodes):=by
 rw [Fm.cap_eq,Fm.nodes_eq]
 have:=Fm.capL_spec x.parts 1 (fun y hy=>Fm.cap_spec y) (by omega)
 omega
termination_by SizeOf.sizeOf x
decreasing_by exact Fm.lt_of_mem hy
mutual
def Fm.many:Fm→Int→Int
 | .mk _ _ _ xs,m=>Fm.manyL xs m 1
def Fm.manyL:List Fm→Int→Int→Int
 | [],_,n=>n
 | x :: xs,m,n=>if n≤m then Fm.manyL xs m (n+Fm.many x (m-n)) else n
end
theorem Fm.many_eq (x:Fm) (m:Int):x.many m=Fm.manyL x.parts m 1:=by
 obtain ⟨op,atom,var,xs⟩:=x
 rw [Fm.many]; rfl
theorem Fm.manyL_spec (m:Int):∀ (xs:List Fm) (n:Int),(∀ x∈xs,∀ m,0≤m→1≤x.many m∧x.many m≤x.nodes∧(x.many m≤m→x.many m=x.nodes))→1≤n→n≤Fm.manyL xs m n∧Fm.manyL xs m n≤n+Fm.nodeS xs∧(Fm.manyL xs m n≤m→Fm.manyL xs m n=n+Fm.nodeS xs)
 | [],n,_,h=>by simp [Fm.manyL,Fm.nodeS]
 | x :: xs,n,hx,h=>by
  rw [Fm.manyL,Fm.nodeS]
  split
  ·have h1:=hx x (by simp) (m-n) (by omega)
   have:=Fm.manyL_spec m xs (n+x.many (m-n)) (fun y hy=>hx y (by simp [hy])) (by omega)
   omega
  ·omega
theorem Fm.many_spec (x:Fm) (m:Int):1≤x.many m∧x.many m≤x.nodes∧(x.many m≤m→x.many m=x.nodes):=by
 rw [Fm.many_eq,Fm.nodes_eq]
 have:=Fm.manyL_spec m x.parts 1 (fun y hy m _=>Fm.many_spec y m) (by omega)
 omega
termination_by SizeOf.sizeOf x
decreasing_by exact Fm.lt_of_mem hy
theorem Oe (n:Int):n=1∨n=2∨n=3∨n=4∨n=5∨n=6∨n=7∨n=8∨n=9∨(n≠1∧n≠2∧n≠3∧n≠4∧n≠5∧n≠6∧n≠7∧n≠8∧n≠9):=by omega
theorem Fm.E8 (x:Fm):x.forms=(x.form&&Fm.JS x.parts):=by
 obtain ⟨op,atom,var,parts⟩:=x
 rw [Fm.forms]; rfl
theorem Fm.LZ:∀ xs:List Fm,Fm.JS xs=xs.all Fm.forms
 | []=>rfl
 | x :: xs=>by rw [Fm.JS,Fm.LZ xs]; rfl
theorem Fm.any_not (xs:List Fm):(!xs.any fun y=>!y.forms)=Fm.JS xs:=by
 rw [Fm.LZ]
 induction xs with
 | nil=>rfl
 | cons x xs ih=>simp only [yJ,yQ,Bool.not_or,Bool.not_not,ih]
theorem Fm.length_le:∀ xs:List Fm,xs.length≤Fm.nodeS xs
 | []=>by simp
 | x :: xs=>by
  have h:=Fm.length_le xs
  have h1:=Fm.nodes_pos x
  rw [Fm.nodeS,zI]; omega
mutual
def Fm.tame:Fm→Prop
 | .mk _ atom _ parts=>atom.nodes≤1099511627776∧Fm.D9 parts
def Fm.D9:List Fm→Prop
 | []=>True
 | x :: xs=>Fm.tame x∧Fm.D9 xs
end
theorem Fm.It (x:Fm):x.tame=(x.atom.nodes≤1099511627776∧Fm.D9 x.parts):=by
 obtain ⟨op,atom,var,parts⟩:=x
 rw [Fm.tame]; rfl
theorem Fm.PD:∀ {xs:List Fm},Fm.D9 xs→∀ y∈xs,y.tame
 | [],_,y,hy=>by cases hy
 | x :: xs,h,y,hy=>by
  rw [Fm.D9] at h
  rcases zS.1 hy with rfl | hy
  ·exact h.1
  ·exact Fm.PD h.2 y hy
theorem Fm.Lv {x:Fm} (h:x.tame):x.atom.nodes≤1099511627776:=by rw [Fm.It] at h; exact h.1
theorem Fm.Ma {x y:Fm} (h:x.tame) (hy:y∈x.parts):y.tame:=by rw [Fm.It] at h; exact Fm.PD h.2 y hy
mutual
def Fm.vn:Fm→Nat
 | .mk _ atom _ parts=>atom.nodes+Fm.vnS parts
def Fm.vnS:List Fm→Nat
 | []=>0
 | x :: xs=>Fm.vn x+Fm.vnS xs
end
theorem Fm.M9 (x:Fm):x.vn=x.atom.nodes+Fm.vnS x.parts:=by
 obtain ⟨op,atom,var,parts⟩:=x
 rw [Fm.vn]; rfl
theorem Jn {x:Fm} (h:x.valid=true):x.nodes≤40∧x.forms=true:=by
 unfold Fm.valid at h
 rw [zA,decide_eq_true_eq] at h
 exact h
theorem Tm.Vt {x:Tm} (h:x.atom=true):x.expr=true:=by unfold Tm.expr; rw [h,Bool.or_true]
theorem Tm.Iu {x:Tm} (h:x.atom=true):x.nodes≤30:=Tm.SY (Tm.Vt h)
theorem Tm.Q3 {x:Tm} (h:x.isZ=true):x=.mk ⟨#[]⟩ []:=by
 obtain ⟨n,a⟩:=x
 unfold Tm.isZ at h
 rw [zA] at h
 have h1:n=⟨#[]⟩:=Ar.1 h.1
 have h3:(a.length == 0)=true:=h.2
 have h2:a=[]:=zC (by simpa using h3)
 rw [h1,h2]
theorem Fm.F8 {x:Fm} (h:x.form=true) (ho:x.op=3):x.parts=[]∧x.atom.atom=true∧x.var=⟨#[]⟩:=by
 unfold Fm.form at h
 simp only [ho] at h
 simp at h
 exact ⟨h.1.1,h.1.2,Ar.1 h.2⟩
theorem Fm.GN {x:Fm} (h:x.form=true) (ho:¬ x.op=3):x.atom=.mk ⟨#[]⟩ []:=by
 unfold Fm.form at h
 split at h
 ·rw [zA,zA] at h; exact Tm.Q3 h.1.2
 ·try rw [if_neg ho] at h
  split at h
  ·rw [zA,zA] at h; exact Tm.Q3 h.1.2
  ·split at h
   ·rw [zA,zA] at h; exact Tm.Q3 h.1.2
   ·split at h
    ·rw [zA,zA] at h; exact Tm.Q3 h.1.2
    ·cases h
theorem Fm.Of {x:Fm} (h:x.form=true) (ho:qB x.op=true):Cc x.var=true∧∃ p,x.parts=[p]:=by
 unfold qB at ho
 rw [yX,Ar,Ar] at ho
 unfold Fm.form at h
 rw [if_neg (by omega),if_neg (by omega),if_neg (by omega),if_neg (by omega),if_pos (by omega),zA,zA] at h
 refine ⟨h.2,?_⟩
 have hl:x.parts.length=1:=by simpa using h.1.1
 match hq:x.parts,hl with
 | [p],_=>exact ⟨p,rfl⟩
theorem Fm.C1 {x y:Fm} (h:x.forms=true) (hy:y∈x.parts):y.forms=true:=by
 rw [Fm.E8,zA,Fm.LZ,zL] at h
 exact h.2 y hy
theorem Fm.Dq {x:Fm} (h:x.forms=true):x.form=true:=by
 rw [Fm.E8,zA] at h
 exact h.1
theorem Fm.Nh {x:Fm} (h:x.form=true):x.atom.nodes≤30:=by
 by_cases ho:x.op=3
 ·exact Tm.Iu (Fm.F8 h ho).2.1
 ·rw [Fm.GN h ho,Tm.nodes_eq]
  simp [Tm.args,Tm.nodeS]
theorem Fm.KD (x:Fm) (h:x.forms=true):x.tame:=by
 have key:∀ xs:List Fm,(∀ y∈xs,y.tame)→Fm.D9 xs:=by
  intro xs
  induction xs with
  | nil=>intro _; rw [Fm.D9]; trivial
  | cons y ys ih=>intro hh; rw [Fm.D9]; exact ⟨hh y (by simp),ih fun z hz=>hh z (by simp [hz])⟩
 have h1:=Fm.Nh (Fm.Dq h)
 rw [Fm.It]
 exact ⟨by omega,key _ fun y hy=>Fm.KD y (Fm.C1 h hy)⟩
termination_by SizeOf.sizeOf x
decreasing_by exact Fm.lt_of_mem hy
theorem Tm.G0 {x:Tm} (h:x.atom=true):(Cc x.name=true→x.args=[])∧∀ y∈x.args,y.names=true:=by
 unfold Tm.atom at h
 cases he:x.eqn with
 | true =>
  rw [he,if_pos rfl,zA,zA] at h
  have h2:=h.2
  rw [Tm.JB,zL] at h2
  refine ⟨fun hv=>?_,h2⟩
  have hn:=Ar.1 he
  have hnv0:Cc ⟨#[61]⟩=false:=by kernel_rfl
  rw [hn,hnv0] at hv
  cases hv
 | false =>
  rw [he,if_neg (by simp),zA] at h
  have hnm:x.names=true:=by have h3:=h.2; unfold Tm.valid at h3; rw [zA] at h3; exact h3.2
  exact ⟨fun hv=>Tm.P6 hnm hv,fun y hy=>Tm.LT hnm hy⟩
theorem Tm.RL (x:Tm):x.vs=bif Cc x.name then [x.name] else Tm.vsL x.args:=by
 obtain ⟨n,a⟩:=x
 rw [Tm.vs]; rfl
theorem Tm.Q4 {v:ByteArray}:∀ {xs:List Tm},v∈Tm.vsL xs ↔ ∃ x∈xs,v∈x.vs
 | []=>by simp [Tm.vsL]
 | x :: xs=>by rw [Tm.vsL,yY,Tm.Q4 (xs:=xs)]; simp
theorem Tm.Ue:∀ xs:List Tm,(∀ x∈xs,x.vs.length≤x.nodes)→(Tm.vsL xs).length≤Tm.nodeS xs
 | [],_=>by simp [Tm.vsL]
 | x :: xs,h=>by
  have h1:=h x (by simp)
  have h2:=Tm.Ue xs fun y hy=>h y (by simp [hy])
  rw [Tm.vsL,Tm.nodeS,yH]; omega
theorem Tm.KE (x:Tm):x.vs.length≤x.nodes:=by
 have h:=Tm.Ue x.args fun y hy=>Tm.KE y
 rw [Tm.RL,Tm.nodes_eq]
 cases Cc x.name with
 | true=>simp
 | false=>simp only [cond_false]; omega
termination_by SizeOf.sizeOf x
decreasing_by exact Tm.lt_of_mem hy
noncomputable def Iv (l:List ByteArray) (n:ByteArray):List ByteArray:=bif dec (n∈l) then l else l++[n]
theorem Xa (l:List ByteArray) (n:ByteArray):(Iv l n).length≤l.length+1:=by
 unfold Iv
 cases dec (n∈l) <;> simp
theorem Xb {l:List ByteArray} {n m:ByteArray}:m∈Iv l n ↔ m∈l∨m=n:=by
 unfold Iv
 by_cases h:n∈l
 ·rw [Aw h,cond_true]
  exact ⟨.inl,fun h'=>h'.elim id fun e=>e▸h⟩
 ·rw [Aj h,cond_false]
  simp
theorem Tr {l:List ByteArray} {n:ByteArray} (h:l.Nodup):(Iv l n).Nodup:=by
 unfold Iv
 by_cases k:n∈l
 ·rw [Aw k]; exact h
 ·rw [Aj k,cond_false,List.nodup_append]
  exact ⟨h,by simp,fun a ha b hb e=>by simp at hb; subst hb; subst e; exact k ha⟩
noncomputable def CR (l ns:List ByteArray):List ByteArray:=ns.foldl Iv l
theorem HW:∀ (ns l:List ByteArray),(CR l ns).length≤l.length+ns.length
 | [],l=>by simp [CR]
 | n :: ns,l=>by
  have h:=HW ns (Iv l n)
  have h2:=Xa l n
  simp only [CR,yI,zI] at h ⊢
  omega
theorem RN:∀ {ns l:List ByteArray} {m:ByteArray},m∈CR l ns ↔ m∈l∨m∈ns
 | [],l,m=>by simp [CR]
 | n :: ns,l,m=>by
  have h:=RN (ns:=ns) (l:=Iv l n) (m:=m)
  simp only [CR,yI] at h ⊢
  rw [h,Xb]
  simp only [zS]
  exact or_assoc
theorem Og:∀ {ns l:List ByteArray},l.Nodup→(CR l ns).Nodup
 | [],l,h=>h
 | n :: ns,l,h=>Og (ns:=ns) (Tr h)
theorem Oh (l a b:List ByteArray):CR l (a++b)=CR (CR l a) b:=List.foldl_append
def DL:SC:=(.seq (.reg [⟨some 4,none,.mv (.c (.int .i64 0))⟩]) (.seq (.seq (.reg [⟨some 6,none,.mv (.t 0)⟩,⟨some 7,none,.len false (.t 6)⟩,⟨some 8,none,.mv (.c (.int .i64 0))⟩]) (.block 0 (.loop [1,1,0,0,0,0,0,1,1,0,0,0,0,0,0,0,0,0,0] (.seq (.reg [⟨some 9,none,.bin .lss false (.t 8) (.t 7)⟩]) (.seq (.cond (.t 9) .skip (.exit 0)) (.seq (.block 1 (.seq (.reg [⟨some 10,none,.mv (.t 8)⟩,⟨some 5,none,.mv (.t 10)⟩]) (.seq (.reg [⟨some 11,none,.mv (.t 1)⟩,⟨some 12,none,.mv (.t 0)⟩,⟨some 13,none,.mv (.t 5)⟩,⟨some 14,none,.iaddr 1 (.t 12) (.t 13)⟩,⟨some 15,none,.load false 1 (.t 14)⟩,⟨some 16,none,.bin .eql false (.t 11) (.t 15)⟩]) (.cond (.t 16) (.seq (.reg [⟨some 17,none,.mv (.t 5)⟩,⟨some 4,none,.mv (.t 17)⟩]) .ret) .skip)))) (.reg [⟨some 18,none,.bin .add false (.t 8) (.c (.int .i64 1))⟩,⟨some 8,none,.mv (.t 18)⟩]))))))) (.seq (.reg [⟨some 4,none,.mv (.c (.int .i64 (-(0+1))))⟩]) .ret)))
theorem Gf:Aq Tryz.prog 92=some ⟨19,DL,[(.tmp 4)]⟩:=by kernel_rfl
theorem DM:modes 92=⟨[],.asis,none,false⟩:=by unfold modes; rfl
def Du:SC:=(.seq (.reg [⟨some 4,none,.mv (.c (.bool false))⟩]) (.seq (.reg [⟨some 5,none,.mv (.t 0)⟩,⟨some 6,none,.mv (.t 1)⟩,⟨some 7,none,.call 92 [(.t 5),(.t 6)]⟩,⟨some 8,none,.bin .geq false (.t 7) (.c (.int .i64 0))⟩,⟨some 4,none,.mv (.t 8)⟩]) .ret))
theorem Fq:Aq Tryz.prog 58=some ⟨9,Du,[(.tmp 4)]⟩:=by kernel_rfl
theorem Ay:modes 58=⟨[],.asis,none,false⟩:=by unfold modes; rfl
theorem Xc (xs:List ByteArray) (n:ByteArray) (hl:xs.length≤1099511627776):E 92 [.arr (xs.map fun s=>[D.str s]),.str n] []=some (.int .i64 (Cw (fun s=>dec (n=s)) xs 0),[]):=by
 refine Al Gf DM (of_decide_eq_true rfl) ?_
 simp (disch:=omega) only [DL,go_sem,Ab]
 refine go_loop (α:=Int) (fun a=>⟨slots 19 0 [(0,.arr (xs.map fun s=>[D.str s])),(1,.str n),(7,.int .i64 xs.length),(8,.int .i64 a)],[]⟩) (fun a=>∃ k:Nat,a=k∧k≤(xs).length∧Cw (fun s=>dec (n=s)) (xs.drop k) a=Cw (fun s=>dec (n=s)) xs 0) (fun a=>(xs).length-(a).toNat) 0 ⟨0,rfl,zU _,by rw [zQ]⟩ (by simp (disch:=omega) only [go_sem,Ab]) ?_
 rintro i ⟨k,hi,hk,hR⟩
 have hni:i.toNat=k:=by omega
 have hni1:(i+1).toNat=k+1:=by omega
 rcases zH k (xs).length with hlt | hge
 ·have hg:=get_at (fun s=>[D.str s]) hlt
  rw [zF hlt,Cw] at hR
  cases hp:dec (n=xs[k]) with
  | true =>
   rw [hp] at hR
   simp (disch:=omega) only [go_sem,Ab,hni,hg,hp]
   simpa using hR
  | false =>
   rw [hp] at hR
   simp (disch:=omega) only [go_sem,Ab,hni,hg,hp]
   exact ⟨i+1,⟨k+1,by omega,hlt,by simpa using hR⟩,by omega,by first | trivial | rfl⟩
 ·rw [zK hge,Cw] at hR
  simp (disch:=omega) only [go_sem,Ab,hni]
  exact hR
theorem FX (xs:List ByteArray) (n:ByteArray) (hl:xs.length≤1099511627776):E 58 [.arr (xs.map fun s=>[D.str s]),.str n] []=some (.bool (dec (n∈xs)),[]):=by
 have h:=Xc xs n hl
 have e:dec (n∈xs)=dec (0≤Cw (fun s=>dec (n=s)) xs 0):=by
  rw [EZ]
  by_cases hm:n∈xs
  ·rw [Aw hm]
   exact (List.any_eq_true.2 ⟨n,hm,Aw rfl⟩).symm
  ·rw [Aj hm]
   refine Eq.symm (Bool.eq_false_iff.2 fun h=>?_)
   obtain ⟨x,h1,h2⟩:=List.any_eq_true.1 h
   have e:=Ar.1 h2
   subst e
   exact hm h1
 rw [e]
 refine Al Fq Ay (of_decide_eq_true rfl) ?_
 simp (disch:=omega) only [Du,go_sem,Ab,h,DM]
theorem JG:∀ (ns l:List ByteArray),l.length≤(CR l ns).length
 | [],l=>by simp [CR]
 | n :: ns,l=>by
  have h:=JG ns (Iv l n)
  have h2:l.length≤(Iv l n).length:=by unfold Iv; cases dec (n∈l) <;> simp
  simp only [CR,yI] at h ⊢
  omega
def Em:SC:=(.seq (.reg [⟨some 3,none,.boxv 30 2 (.t 1)⟩,⟨some 4,none,.mv (.c .nil)⟩]) (.seq (.seq (.reg [⟨some 7,none,.faddr 1 (.t 3)⟩,⟨some 8,none,.load false 1 (.t 7)⟩,⟨some 9,none,.len false (.t 8)⟩,⟨some 10,none,.bin .eql false (.t 9) (.c (.int .i64 0))⟩,⟨some 11,none,.mv (.t 10)⟩,⟨(some 12),(some (11,true)),(.load true 2 (.t 3))⟩,⟨(some 13),(some (11,true)),(.call 111 [(.t 12)])⟩,⟨some 14,none,.pick (.t 11) (.t 13) (.c (.bool false))⟩]) (.cond (.t 14) (.seq (.seq (.reg [⟨some 15,none,.mv (.t 0)⟩,⟨some 16,none,.faddr 0 (.t 3)⟩,⟨some 17,none,.load false 1 (.t 16)⟩,⟨some 18,none,.call 58 [(.t 15),(.t 17)]⟩,⟨some 19,none,.un .not (.t 18)⟩]) (.cond (.t 19) (.reg [⟨some 20,none,.mv (.t 0)⟩,⟨some 21,none,.faddr 0 (.t 3)⟩,⟨some 22,none,.load false 1 (.t 21)⟩,⟨(some 23),none,(.mkrow 9 1 [(.str ⟨#[]⟩)] 1 [(0,(.t 22))])⟩,⟨(some 24),none,(.append 9 1 16 [(.str ⟨#[]⟩)] (.t 20) (.t 23))⟩,⟨some 0,none,.mv (.t 24)⟩]) .skip)) (.seq (.reg [⟨some 25,none,.mv (.t 0)⟩,⟨some 4,none,.mv (.t 25)⟩]) .ret)) .skip)) (.seq (.seq (.reg [⟨some 26,none,.faddr 1 (.t 3)⟩,⟨some 27,none,.load false 1 (.t 26)⟩,⟨some 28,none,.len false (.t 27)⟩,⟨some 29,none,.mv (.c (.int .i64 0))⟩]) (.block 0 (.loop [1,0,0,0,0,0,0,0,0,0,0,0,0,0,0,0,0,0,0,0,0,0,0,0,0,0,0,1,1,1,0,0,0,0,0,0,0,0] (.seq (.reg [⟨some 30,none,.bin .lss false (.t 29) (.t 28)⟩]) (.seq (.cond (.t 30) .skip (.exit 0)) (.seq (.block 1 (.seq (.reg [⟨some 31,none,.iaddr 2 (.t 27) (.t 29)⟩,⟨some 32,none,.load true 2 (.t 31)⟩,⟨(some 6),none,(.alloc 30 [(.str ⟨#[]⟩),.nil])⟩,⟨none,none,(.store 2 (.t 6) (.t 32))⟩]) (.reg [⟨some 33,none,.mv (.t 0)⟩,⟨some 34,none,.load true 2 (.t 6)⟩,⟨some 35,none,.call 129 [(.t 33),(.t 34)]⟩,⟨some 0,none,.mv (.t 35)⟩]))) (.reg [⟨some 36,none,.bin .add false (.t 29) (.c (.int .i64 1))⟩,⟨some 29,none,.mv (.t 36)⟩]))))))) (.seq (.reg [⟨some 37,none,.mv (.t 0)⟩,⟨some 4,none,.mv (.t 37)⟩]) .ret))))
theorem Fi:Aq Tryz.prog 129=some ⟨38,Em,[(.tmp 4)]⟩:=by kernel_rfl
theorem CU:modes 129=⟨[true],.asis,none,false⟩:=by unfold modes; rfl
abbrev Xd (x:Tm):Prop:=∀ l:List ByteArray,l.length+x.nodes≤1048576→E 129 [.ref 0,x.sv] [.row 9 1 (l.map fun s=>[OT.str s])]=some ((bif dec (l.length<(CR l x.vs).length) then .ref 1 else .ref 0),(bif dec (l.length<(CR l x.vs).length) then [.gone,.row 9 1 ((CR l x.vs).map fun s=>[OT.str s])] else [.row 9 1 ((CR l x.vs).map fun s=>[OT.str s])]))
theorem Oi (x:Tm) (hva:Cc x.name=true→x.args=[]) (hc:x.cok=true) (ih:∀ y∈x.args,Xd y):Xd x:=by
 intro l hn
 have hl:=Tm.length_le x.args
 have hne:=Tm.nodes_eq x
 have hv:=Uc x hc
 have hvs:=Tm.RL x
 rcases yA x.args.length with h0 | h0
 ·have hx0:x.args=[]:=zC h0
  have hz:((x.args.length:Int)=0)=True:=by rw [hx0]; simp
  cases hvv:Cc x.name with
  | true =>
   rw [hvv] at hv hvs
   have h1:=FX l x.name (by omega)
   rw [hvs]
   cases hm:dec (x.name∈l) with
   | true =>
    have e:CR l [x.name]=l:=by simp only [CR,yI,List.foldl_nil,Iv,hm,cond_true]
    rw [hm] at h1
    simp only [cond_true,e]
    refine Al Fi CU (of_decide_eq_true rfl) ?_
    simp (disch:=omega) only [Em,go_sem,Ab,hz,hv,h1,DE,Ay]
   | false =>
    have e:CR l [x.name]=l++[x.name]:=by simp only [CR,yI,List.foldl_nil,Iv,hm,cond_false]
    have hg:l.length<(l++[x.name]).length:=by simp
    rw [hm] at h1
    simp only [cond_true,e,Aw hg]
    refine Al Fi CU (of_decide_eq_true rfl) ?_
    simp (disch:=omega) only [Em,go_sem,Ab,hz,hv,h1,DE,Ay]
    simp only [zX,zB,zN]
  | false =>
   rw [hvv] at hv hvs
   have e:CR l x.vs=l:=by rw [hvs,hx0]; simp only [cond_false,Tm.vsL]; rfl
   rw [e]
   refine Al Fi CU (of_decide_eq_true rfl) ?_
   simp (disch:=omega) only [Em,go_sem,Ab,hz,hv,DE]
   refine go_loop (α:=Int) (fun a=>⟨slots 38 0 [(0,.ref 0),(27,.arr (x.args.map Tm.d)),(28,.int .i64 x.args.length),(29,.int .i64 a)],[.row 9 1 (l.map fun s=>[OT.str s])]⟩) (fun a=>∃ k:Nat,a=k∧k≤(x.args).length) (fun a=>(x.args).length-(a).toNat) 0 ⟨0,rfl,zU _⟩ (by simp (disch:=omega) only [go_sem,Ab]) ?_
   rintro i ⟨k,hi,hk⟩
   have hni:i.toNat=k:=by omega
   have hni1:(i+1).toNat=k+1:=by omega
   rcases zH k (x.args).length with hlt | hge
   ·omega
   ·simp (disch:=omega) only [go_sem,Ab,hni]
 ·have hz:((x.args.length:Int)=0)=False:=eq_false (by omega)
  have hvv:Cc x.name=false:=by
   cases h:Cc x.name with
   | false=>rfl
   | true=>rw [hva h] at h0; simp at h0
  rw [hvv] at hvs
  simp only [cond_false] at hvs
  rw [hvs]
  refine Al Fi CU (of_decide_eq_true rfl) ?_
  simp (disch:=omega) only [Em,go_sem,Ab,hz]
  refine go_loop (α:=Int × (List ByteArray)) (fun a=>⟨slots 38 0 [(0,(bif dec (l.length<(a.2).length) then .ref 1 else .ref 0)),(27,.arr (x.args.map Tm.d)),(28,.int .i64 x.args.length),(29,.int .i64 (a.1))],(bif dec (l.length<(a.2).length) then [.gone,.row 9 1 ((a.2).map fun s=>[OT.str s])] else [.row 9 1 ((a.2).map fun s=>[OT.str s])])⟩) (fun a=>∃ k:Nat,a.1=k∧k≤(x.args).length∧CR (a.2) (Tm.vsL (x.args.drop k))=CR l (Tm.vsL x.args)∧(a.2).length+Tm.nodeS (x.args.drop k)≤1048576∧l.length≤(a.2).length) (fun a=>(x.args).length-(a.1).toNat) (0,l) ⟨0,rfl,zU _,by rw [zQ],by rw [zQ]; dsimp only; omega,yD _⟩ (by simp (disch:=omega) only [go_sem,Ab]) ?_
  rintro ⟨i,acc⟩ ⟨k,hi,hk,hR⟩
  dsimp only at hi hR
  have hni:i.toNat=k:=by omega
  have hni1:(i+1).toNat=k+1:=by omega
  rcases zH k (x.args).length with hlt | hge
  ·have hg:=get_at Tm.d hlt
   rw [Tm.d_eq] at hg
   obtain ⟨hR1,hR2,hR3⟩:=hR
   rw [zF hlt,Tm.vsL,Oh] at hR1
   rw [zF hlt,Tm.nodeS] at hR2
   have hc:=ih x.args[k] (zE hlt) acc (by omega)
   have hlen:=HW x.args[k].vs acc
   have hgr:=JG x.args[k].vs acc
   have hvl:=Tm.KE x.args[k]
   obtain ⟨acc2,ha2⟩:∃ a,a=CR acc x.args[k].vs:=⟨_,rfl⟩
   rw [←ha2] at hc hlen hgr hR1
   rcases zH l.length acc.length with q1 | q1 <;> rcases zH acc.length acc2.length with q2 | q2
   all_goals
    first
     |rw [Aw q2] at hc
     |rw [Aj (Nat.not_lt.2 q2)] at hc
    simp only [cond_true,cond_false] at hc
    simp (disch:=omega) only [go_sem,Ab,hni,hg,hc,CU]
    refine ⟨(i+1,acc2),⟨k+1,by dsimp only; omega,hlt,hR1,by dsimp only; omega,by dsimp only; omega⟩,by dsimp only; omega,?_⟩
    first | done | simp (disch:=omega) only [go_sem,Ab]
  ·rw [zK hge,Tm.vsL] at hR
   obtain ⟨hR1,hR2,hR3⟩:=hR
   have hR1:acc=CR l (Tm.vsL x.args):=hR1
   rw [←hR1]
   rcases zH l.length acc.length with q1 | q1
   ·simp (disch:=omega) only [go_sem,Ab,hni]
   ·simp (disch:=omega) only [go_sem,Ab,hni]
theorem PE (x:Tm) (hx:x.names=true) (hc:x.cok=true):Xd x :=
 Oi x (fun h=>Tm.P6 hx h) hc fun y hy=>PE y (Tm.LT hx hy) (by rw [Tm.Td,zA] at hc; exact Tm.WQ hc.2 hy)
termination_by SizeOf.sizeOf x
decreasing_by exact Tm.lt_of_mem hy
noncomputable def Q5 (l:List ByteArray):List ByteArray:=(srt (l.map (·.toList))).map fun x=>⟨x.toArray⟩
theorem Vu (l:List ByteArray):(Q5 l).Perm l:=by
 unfold Q5
 have h:(srt (l.map (·.toList))).Perm (l.map (·.toList)):=List.mergeSort_perm _ _
 have h2:=h.map fun x:List UInt8=>(⟨x.toArray⟩:ByteArray)
 rw [yF] at h2
 have e:((fun x:List UInt8=>(⟨x.toArray⟩:ByteArray)) ∘ fun x:ByteArray=>x.toList)=id:=by
  funext x
  exact K0 x
 rw [e,List.map_id] at h2
 exact h2
theorem BI:modes 94=⟨[true],.asis,some sortStr,false⟩:=by unfold modes; rfl
theorem Uf (l:List ByteArray) (hl:l.length≤1099511627776):E 94 [.ref 0] [.row 9 1 (l.map fun s=>[OT.str s])]=some (.tup [],[.row 9 1 ((Q5 l).map fun s=>[OT.str s])]):=by
 rw [Qt (g:=sortStr) (congrArg FM.ext BI)]
 unfold sortStr
 simp only
 rw [Aw ⟨by first | trivial | rfl,fun e he=>by obtain ⟨s,_,rfl⟩:=yO.1 he; exact ⟨s,rfl⟩,by simpa using hl⟩,cond_true]
 have e1:(l.map fun s=>[OT.str s]).map (fun e=>(SN e).toList)=l.map (·.toList):=by rw [yF]; rfl
 rw [e1]
 unfold Q5
 rw [yF]
 rfl
noncomputable def Tm.vars (x:Tm):List ByteArray:=Q5 (CR [] x.vs)
def F9:SC:=(.seq (.reg [⟨some 1,none,.boxv 30 2 (.t 0)⟩,⟨some 2,none,.mv (.c .nil)⟩]) (.seq (.reg [⟨(some 4),none,(.mkrow 9 1 [(.str ⟨#[]⟩)] 0 [])⟩,⟨some 5,none,.load true 2 (.t 1)⟩,⟨some 6,none,.call 129 [(.t 4),(.t 5)]⟩,⟨some 3,none,.mv (.t 6)⟩]) (.seq (.reg [⟨some 7,none,.mv (.t 3)⟩,⟨some 8,none,.call 94 [(.t 7)]⟩]) (.seq (.reg [⟨some 9,none,.mv (.t 3)⟩,⟨some 2,none,.mv (.t 9)⟩]) .ret))))
theorem HX:Aq Tryz.prog 113=some ⟨10,F9,[(.tmp 2)]⟩:=by kernel_rfl
theorem FA:modes 113=⟨[],.asis,none,false⟩:=by unfold modes; rfl
theorem Q6 (x:Tm) (hcol:Xd x) (hn:x.nodes≤1048576):E 113 [x.sv] []=some (.ref 0,[.row 9 1 (x.vars.map fun s=>[OT.str s])]):=by
 have h1:=hcol [] (by simpa using hn)
 have hl:=HW x.vs []
 have hv:=Tm.KE x
 rw [zP,y2] at hl
 have h2:=Uf (CR [] x.vs) (by omega)
 rw [zN,zP] at h1
 unfold Tm.vars
 rcases zH 0 (CR [] x.vs).length with q | q
 ·rw [Aw q] at h1
  simp only [cond_true] at h1
  refine Al HX FA (of_decide_eq_true rfl) ?_
  simp (disch:=omega) only [F9,go_sem,Ab,h1,h2,CU,BI]
 ·rw [Aj (by omega)] at h1
  simp only [cond_false] at h1
  refine Al HX FA (of_decide_eq_true rfl) ?_
  simp (disch:=omega) only [F9,go_sem,Ab,h1,h2,CU,BI]
theorem Ts (x:Tm) (h:x.atom=true):Xd x :=
 Oi x (Tm.G0 h).1 (Tm.WR h) fun y hy=>PE y ((Tm.G0 h).2 y hy) (Tm.JD y ((Tm.G0 h).2 y hy))
end Go.Proofs.YtoglfpfdhojaaaaGreat
