/-
  Texts of this claim, one behind the other, each built on those ahead of it. No condition.
-/
import Derived.Test.YtbcljemengiocaaGreatDoorK42b
import Derived.Shelf.Sort.Plain
import Derived.Sort.EncStr
import Derived.Shelf.Lays
import Derived.Test.YtbcljemengiocaaGreatDoorChecked
import Derived.Shelf.Slices.In.SortNone
import Derived.Shelf.LaysM
import Derived.Shelf.Strconv.Itoa3
set_option maxHeartbeats 16000000
open Bool renaming and_eq_true → zA, and_self → zO, and_true → zT, or_eq_true → yH, and_false → yK, or_eq_false_iff → yP, false_and → yW, eq_false_iff → yY, true_and → y5, false_or → xF
open List renaming drop_eq_getElem_cons → zB, drop_zero → zC, drop_eq_nil_of_le → zE, length_cons → zF, map_cons → zH, eq_nil_of_length_eq_zero → zI, getElem_mem → zM, mem_cons → zN, getElem?_append_right → zR, all_eq_true → zS, map_nil → zU, foldl_cons → zV, length_append → zY, length_map → zZ, getElem?_map → z6, getElem_cons_zero → z8, getElem_cons_succ → yA, pairwise_cons → yB, getElem?_set_self → yC, map_append → yD, append_nil → yE, length_nil → yG, map_map → yI, take_succ_eq_append_getElem → yM, any_cons → yO, length_set → yQ, getElem_of_mem → yR, replicate_succ → yS, set_cons_zero → yV, map → yX, getElem?_eq_getElem → yZ, all_cons → y4, getElem_map → y7, set_set → xA, nil_append → xC, length → xD, take_zero → xE
open Nat renaming lt_or_ge → zD, zero_le → zK, le_refl → zP, eq_zero_or_pos → zX, zero_add → yJ, sub_self → yL, lt_of_lt_of_le → yU, add_zero → y8, not_lt → y9
open Option.some renaming injEq → zG, inj → zJ
open Prod.mk renaming injEq → zL, inj → zW
open List.cons renaming injEq → zQ, inj → y6
open Int renaming toNat_zero → z7
open Array renaming getElem?_eq_getElem → yF, getD_eq_getD_getElem? → yT
open Option renaming getD_some → yN, map_some → xB
set_option maxRecDepth 100000
set_option linter.unusedSimpArgs false
set_option linter.unusedVariables false
set_option linter.unusedSectionVars false
namespace Go.Proofs.YtbcljemengiocaaGreatDoor
open Go.RowKit
theorem TC (b n c:Nat) (f:Nat→ByteArray) (x:ByteArray) (w:World) (hn:n≤9223372036854775807)
  (hc:∀ k,k<n→w.cell? ⟨b,k,none⟩=some (.string (f k))):Calls Tryz.prog 98 #[.slice (some ⟨b,0,none⟩) n c,.string x] w (Same w (.int .i64 (Rw (fun k=>x.toList == (f k).toList) n))):=by
 go_enter Tryz.func98,Tryz.ntmps98
 go_wp2
 go_loopw [8] (fun i wr=>Cnt w n (fun k=>∀ j,j<k→(x.toList == (f j).toList)=false) i wr) (fun i _=>n-(intOf i).toNat)
 case atStart=>exact ⟨0,zK _,rfl,fun j hj=>absurd hj (by omega),rfl⟩
 case round =>
  obtain ⟨k,hk,rfl,hok,rfl⟩:=hrel
  have Hok:=Lib.hid hok
  clear hok
  by_cases hlt:k<n
  ·have hck:=hc k (by omega)
   go_wp2_with fail
   ·go_ret
    exact Same.mk' _ (by rw [Rx hlt Hok.out (by assumption)]; rfl)
   ·go_roundw
    case rel=>exact ⟨_,hlt,by go_num,Ry Hok.out (by assumption),rfl⟩
    case measure=>exact HZ hlt
  ·obtain rfl:k=n:=by omega
   go_wp2_with fail
   go_ret
   exact Same.mk' _ (by rw [Pq Hok.out]; rfl)
theorem OX (b n c:Nat) (f:Nat→ByteArray) (x:ByteArray) (w:World) (hn:n≤9223372036854775807)
  (hc:∀ k,k<n→w.cell? ⟨b,k,none⟩=some (.string (f k))):Calls Tryz.prog 78 #[.slice (some ⟨b,0,none⟩) n c,.string x] w (Same w (.bool (W7 (fun k=>x.toList == (f k).toList) n))):=by
 have Hc:=Lib.hid hc
 clear hc
 go_enter Tryz.func78,Tryz.ntmps78
 go_wp2_with (first
  |(go_at_call 98; refine (TC _ _ _ f _ _ hn Hc.out).mono ?_; rintro e w' ⟨rfl,rfl⟩))
 go_ret
 exact Same.mk' _ (by rw [←Yi]; rfl)
theorem QG (w:World):Calls Tryz.prog 97 #[] w fun e w'=>e=.returned (.slice (some ⟨w.heap.size,0,none⟩) 8 8)∧w'=w.alloc (.cells ((words.map fun l=>Value.string ⟨l.toArray⟩).toArray) 9):=by
 go_enter Tryz.func97,Tryz.ntmps97
 go_wp2
 go_ret
 exact ⟨rfl,rfl⟩
theorem Si (w:World):∀ k,k<8→(w.alloc (.cells ((words.map fun l=>Value.string ⟨l.toArray⟩).toArray) 9)).cell? ⟨w.heap.size,k,none⟩=some (.string ⟨(words.getD k []).toArray⟩):=by
 intro k hk
 have hh:(w.alloc (.cells ((words.map fun l=>Value.string ⟨l.toArray⟩).toArray) 9)).heap[w.heap.size]?=some (.cells ((words.map fun l=>Value.string ⟨l.toArray⟩).toArray) 9):=heap_alloc_new w _
 unfold World.cell?
 rw [hh]
 match k,hk with
 | 0,_=>rfl
 | 1,_=>rfl
 | 2,_=>rfl
 | 3,_=>rfl
 | 4,_=>rfl
 | 5,_=>rfl
 | 6,_=>rfl
 | 7,_=>rfl
theorem QH (s:ByteArray) (w:World) (hs:s.size≤9223372036854775807):Calls Tryz.prog 77 #[.string s] w (Ret w (.bool (CD s))):=by
  go_enter Tryz.func77,Tryz.ntmps77
  go_wp2
  go_loopw [6] (fun i wr=>Cnt w s.size (fun k=>DK HH s k=true) i wr) (fun i _=>s.size-(intOf i).toNat)
  case atStart=>exact ⟨0,zK _,rfl,rfl,rfl⟩
  case round =>
    obtain ⟨k,hk,rfl,hok,rfl⟩:=hrel
    have Hok:=Lib.hid hok
    clear hok
    by_cases hlt:k<s.size
    · have Hb:=Lib.hid (Er hlt)
      rcases zX k with rfl | hpos
      all_goals
        go_wp2_with (first
          | (go_at_call 90; refine (My _ _).mono ?_; rintro e w' ⟨rfl,rfl⟩)
          | (go_at_call 91; refine (Mz _ _).mono ?_; rintro e w' ⟨rfl,rfl⟩))
        all_goals first
          | (go_ret
             refine Ret.same _ ?_
             unfold CD
             rw [D7 hlt (by rw [←Hb.out]; simp_all [HH,Hz] <;> omega)]
             rfl)
          | (go_roundw
             case rel=>exact ⟨_,hlt,by go_num,H0 Hok.out (by rw [←Hb.out]; simp_all [HH,Hz] <;> omega),rfl⟩
             case measure=>first | exact HZ hlt | (simp [intOf]; omega))
    · obtain rfl:k=s.size:=by omega
      cases hin:inB s.size 1 6
      · go_wp2_with (first
          | (go_at_call 92; refine (JW _ _ _ _).mono ?_; rintro e w' ⟨rfl,rfl⟩))
        go_ret
        exact Ret.same _ (by unfold CD; rw [hin]; simp)
      · go_wp2_with (first
          | (go_at_call 92; refine (JW _ _ _ _).mono ?_; rintro e w' ⟨rfl,rfl⟩)
          | (go_at_call 97; refine (QG _).mono ?_; rintro e w' ⟨rfl,rfl⟩)
          | (go_at_call 78; refine (OX _ _ _ (fun k=>⟨(words.getD k []).toArray⟩) _ _ (by omega) (Si w)).mono ?_; rintro e w' ⟨rfl,rfl⟩))
        go_ret
        refine Ret.bel ?_ ((Below.refl _ _).alloc (zP _) _)
        unfold CD Xc
        rw [hin,Hok.out]
        simp
theorem Wa (s:ByteArray) (w:World) (hs:s.size≤9223372036854775807):Calls Tryz.prog 68 #[.string s] w (Same w (.bool (Ba s))):=by
  cases hin:inB s.size 1 4
  · go_enter Tryz.func68,Tryz.ntmps68
    go_wp2_with (first
      | (go_at_call 87; refine (Is _ _ _ _).mono ?_; rintro e w' ⟨rfl,rfl⟩))
    go_ret
    exact Same.mk' _ (by unfold Ba; rw [hin]; simp)
  · have hpos:0<s.size:=by simp [inB] at hin; omega
    have Hb:=Lib.hid (Er hpos)
    go_enter Tryz.func68,Tryz.ntmps68
    go_wp2_with (first
      | (go_at_call 87; refine (Is _ _ _ _).mono ?_; rintro e w' ⟨rfl,rfl⟩))
    all_goals first
      | (go_ret
         refine Same.mk' _ ?_
         unfold Ba
         rw [D7 hpos (by rw [←Hb.out]; simp [GS,L1]; omega)]
         rfl)
      | skip
    · go_loopw [3] (fun i wr=>Cnt w s.size (fun k=>1≤k∧DK GS s k=true) i wr) (fun i _=>s.size-(intOf i).toNat)
      case atStart=>exact ⟨1,hpos,rfl,⟨zP _,by rw [Fv,← Hb.out]; simp [DK,GS,L1]; omega⟩,rfl⟩
      case round =>
        obtain ⟨k,hk,rfl,⟨hk1,hok⟩,rfl⟩:=hrel
        have Hok:=Lib.hid hok
        clear hok
        by_cases hlt:k<s.size
        · have Hbk:=Lib.hid (Er hlt)
          have hk0:k≠0:=by omega
          go_wp2_with (first
            | (go_at_call 88; refine (M0 _ _).mono ?_; rintro e w' ⟨rfl,rfl⟩))
          all_goals first
            | (go_ret
               refine Same.mk' _ ?_
               unfold Ba
               rw [D7 hlt (by rw [←Hbk.out]; simp_all [GS] <;> omega)]
               rfl)
            | (go_roundw
               case rel=>exact ⟨_,hlt,by go_num,⟨by omega,H0 Hok.out (by rw [←Hbk.out]; simp_all [GS] <;> omega)⟩,rfl⟩
               case measure=>first | exact HZ hlt | (simp [intOf]; omega))
        · obtain rfl:k=s.size:=by omega
          go_wp2_with fail
          go_ret
          exact Same.mk' _ (by unfold Ba; rw [Hok.out,hin]; rfl)
theorem Vm (s:ByteArray):Xc s=(s.toList == [116,114,117,101] || s.toList == [102,97,108,115,101] || s.toList == [116,114,117,116,104] || s.toList == [98,111,116,104] || s.toList == [101,105,116,104,101,114] || s.toList == [105,102] || s.toList == [97,108,108] || s.toList == [115,111,109,101]):=by
 unfold Xc W7 words
 simp [List.range,List.range.loop,Bool.or_assoc]
theorem QI (s:ByteArray) (w:World) (hs:s.size≤9223372036854775807):Calls Tryz.prog 106 #[.string s] w (Same w (.bool (CD s))):=by
  cases hin:inB s.size 1 6
  · go_enter Tryz.func106,Tryz.ntmps106
    go_wp2_with (first
      | (go_at_call 87; refine (Is _ _ _ _).mono ?_; rintro e w' ⟨rfl,rfl⟩))
    go_ret
    exact Same.mk' _ (by unfold CD; rw [hin]; simp)
  · have hpos:0<s.size:=by simp [inB] at hin; omega
    have Hb:=Lib.hid (Er hpos)
    cases hres:Xc s
    case true =>
      have Hres:=Lib.hid hres
      rw [Vm] at hres
      go_enter Tryz.func106,Tryz.ntmps106
      go_wp2_with (first
        | (go_at_call 87; refine (Is _ _ _ _).mono ?_; rintro e w' ⟨rfl,rfl⟩))
      all_goals first
        | (go_ret
           refine Same.mk' _ ?_
           unfold CD
           rw [Hres.out]; simp)
        | (exfalso; simp_all; done)
    have Hres:=Lib.hid hres
    rw [Vm] at hres
    simp only [yP] at hres
    obtain ⟨⟨⟨⟨⟨⟨⟨e1,e2⟩,e3⟩,e4⟩,e5⟩,e6⟩,e7⟩,e8⟩:=hres
    go_enter Tryz.func106,Tryz.ntmps106
    go_wp2_with (first
      | (go_at_call 87; refine (Is _ _ _ _).mono ?_; rintro e w' ⟨rfl,rfl⟩))
    all_goals first
      | (go_ret
         refine Same.mk' _ ?_
         unfold CD
         rw [D7 hpos (by rw [←Hb.out]; simp [HH,OW]; omega)]; rfl)
      | skip
    go_loopw [3] (fun i wr=>Cnt w s.size (fun k=>1≤k∧DK HH s k=true) i wr) (fun i _=>s.size-(intOf i).toNat)
    case atStart=>exact ⟨1,hpos,rfl,⟨zP _,by rw [Fv,← Hb.out]; simp [DK,HH,Hz,OW]; omega⟩,rfl⟩
    case round =>
      obtain ⟨k,hk,rfl,⟨hk1,hok⟩,rfl⟩:=hrel
      have Hok:=Lib.hid hok
      clear hok
      by_cases hlt:k<s.size
      · have Hbk:=Lib.hid (Er hlt)
        have hk0:k≠0:=by omega
        go_wp2_with (first
          | (go_at_call 88; refine (M0 _ _).mono ?_; rintro e w' ⟨rfl,rfl⟩))
        all_goals first
          | (go_ret
             refine Same.mk' _ ?_
             unfold CD
             rw [D7 hlt (by rw [←Hbk.out]; simp_all [HH] <;> omega)]
             rfl)
          | (go_roundw
             case rel=>exact ⟨_,hlt,by go_num,⟨by omega,H0 Hok.out (by rw [←Hbk.out]; simp_all [HH] <;> omega)⟩,rfl⟩
             case measure=>first | exact HZ hlt | (simp [intOf]; omega))
      · obtain rfl:k=s.size:=by omega
        go_wp2_with fail
        go_ret
        exact Same.mk' _ (by unfold CD; rw [Hok.out,hin,Hres.out]; rfl)
noncomputable def Ck:List ByteArray→ByteArray→List ByteArray
 | [],n=>[n]
 | x :: xs,n=>bif strLt x n then x :: Ck xs n else bif dec (x=n) then x :: xs else n :: x :: xs
noncomputable def Ca:List ByteArray→ByteArray→Nat
 | [],_=>0
 | x :: xs,n=>bif strLt x n then Ca xs n+1 else 0
theorem FunD.toFun {P:Program} {f:FuncId} {xs:List SV} {ob:List Ob} {r:SV} {ob':List Ob} (h:FunD P f xs ob r ob'):Fun P f xs ob r ob':=by
 intro w I V B vs hwf hvs
 refine (h w I V B vs hwf hvs).mono ?_
 rintro e w' ⟨v,I',V',B',he,hr,⟨⟨f1,⟨f2,_⟩,f3,f4,f5⟩,p1,p2,p3,p4,p5⟩⟩
 exact ⟨v,I',V',B',he,hr,⟨⟨f1,⟨f2,fun h=>h.elim⟩,f3,f4,f5⟩,p1,p2,p3,p4,p5⟩⟩
theorem Fun.taken {P:Program} {f:FuncId} {t:TypeId} {sz:Nat} {es:List (List OT)} {n:ByteArray} {t':TypeId} {sz':Nat} {es':List (List OT)} (hf:OT.AK es=true)
  (h:Fun P f [.arr (OT.erss es),.str n] [] (.ref 0) [.row t' sz' es']):Fun P f [.ref 0,.str n] [.row t sz es] (.ref 1) [.gone,.row t' sz' es']:=by
 intro w I V B vs hwf hvs
 obtain ⟨v,q,rfl,hv,hvs⟩:=Dh hvs
 obtain ⟨v2,q,rfl,hv2,hvs⟩:=Dh hvs
 obtain rfl:=Mw hvs
 simp only [RepV] at hv hv2
 obtain ⟨val,hval,hrow⟩:=hwf.obj 0 trivial
 rw [hv.1] at hval
 obtain rfl:=zJ hval
 have hrow:RowR w I (B 0) t sz es v:=hrow
 have hn:∀ g,An ([]:List Ob) g=.free:=fun g=>by cases g <;> rfl
 have hnl:∀ g,¬ (An ([]:List Ob) g).live:=fun g hl=>by rw [hn] at hl; exact hl
 have hHB0:∀ b,¬ HB (fun _ _=>False) ([]:List Ob) b:=fun b ⟨g,hl,_⟩=>hnl g hl
 have hwf0:Wf w (fun x=>I x∨B 0 x) (fun _=>none) (fun _ _=>False) (An []) :=
  ⟨fun b hb=>hb.elim (hwf.ilt b) (hwf.lt 0 b trivial),fun g hl=>(hnl g hl).elim,fun g b hl=>(hnl g hl).elim,fun g b hl=>(hnl g hl).elim,fun g g' b hl=>(hnl g hl).elim,fun g _=>rfl,hwf.gl.keep ⟨zP _,fun x _ _=>rfl⟩ fun x hx=>.inl hx⟩
 have hD:DRep false w (fun x=>I x∨B 0 x) (.arr (OT.erss es)) v:=hrow.er (fun b hb=>.inr hb) (fun b hb=>.inl hb) hf
 refine (h w _ _ _ [v,v2] hwf0 (by simp only [RepVs,RepV]; exact ⟨v,_,rfl,hD,v2,_,rfl,hv2,rfl⟩)).mono ?_
 rintro e w' ⟨rv,I2,V2,B2,rfl,hr,hp⟩
 simp only [RepV] at hr
 have hlv:∀ g,(An [Ob.gone,.row t' sz' es'] g).live→g=1:=fun g h=>by
  match g with
  | 0=>exact h.elim
  | 1=>rfl
  | g+2=>exact h.elim
 obtain ⟨f1,f2,f3,f4,f5⟩:=hp.fr
 refine ⟨rv,I2,fun g=>if g=1 then V2 0 else V g,fun g=>if g=1 then B2 0 else B g,rfl,by simp only [RepV]; exact ⟨by simp [hr.1],hr.2⟩,⟨⟨f1,f2,f3,f4,fun x hx _=>f5 x hx (hHB0 x)⟩,fun b hb=>hp.i0 b (.inl hb),fun b hb=>?_,fun g u hu=>?_,?_,fun g x hl hx=>?_⟩⟩
 ·rcases hp.i1 b hb with (h1 | h1) | h1 | h1
  ·exact .inl h1
  ·exact .inr (.inr ⟨0,trivial,h1⟩)
  ·exact .inr (.inl h1)
  ·exact (hHB0 b h1).elim
 ·by_cases e:g=1
  ·subst e
   rw [hwf.fr 1 rfl] at hu; cases hu
  ·simp only [e,if_false]; exact hu
 ·refine ⟨hp.wf.ilt,fun g hl=>?_,fun g x hl hx=>?_,fun g x hl hx=>?_,fun g g' x hl hl' _ _=>by rw [hlv g hl,hlv g' hl'],fun g hfr=>?_,hp.wf.gl⟩
  ·obtain rfl:=hlv g hl
   obtain ⟨val,hv0,hob⟩:=hp.wf.obj 0 trivial
   exact ⟨val,by simp [hv0],hob⟩
  ·obtain rfl:=hlv g hl
   simp only [if_true] at hx
   exact hp.wf.lt 0 x trivial hx
  ·obtain rfl:=hlv g hl
   simp only [if_true] at hx
   exact hp.wf.dI 0 x trivial hx
  ·match g with
   | 0=>cases hfr
   | 1=>cases hfr
   | g+2 =>
    have e:¬ g+2=1:=by omega
    simp only [e,if_false]
    exact hwf.fr (g+2) rfl
 ·obtain rfl:=hlv g hl
  simp only [if_true] at hx
  rcases hp.bh 0 x trivial hx with h1 | h1
  ·exact (hHB0 x h1).elim
  ·exact .inr h1
def K6 (es:List (List OT)):List ByteArray:=es.map fun e=>match e with
 | .str s :: _=>s
 | _=>⟨#[]⟩
theorem Xd (l:List ByteArray):K6 (l.map fun s=>[OT.str s])=l:=by
 unfold K6
 rw [yI]
 exact (List.map_congr_left fun s _=>rfl).trans (List.map_id l)
theorem Sj:∀ xs:List ByteArray,OT.AK (xs.map fun s=>[OT.str s])=true
 | []=>rfl
 | x :: xs=>by simp only [zH,OT.AK,OT.DC,OT.full,Sj xs,zO]
noncomputable def L2 (xs:List SV) (ob:List Ob):Option (SV × List Ob) :=
 match xs,ob with
 | [.ref 0,.str n],[.row t sz es] =>
  bif dec (es=(K6 es).map (fun s=>[OT.str s])∧(¬ (K6 es).length<(Ck (K6 es) n).length→Fun Tryz.prog 86 [.ref 0,.str n] [.row t sz es] (.ref 0) [.row t sz es])∧((K6 es).length<(Ck (K6 es) n).length→Fun Tryz.prog 86 [.arr ((K6 es).map fun s=>[D.str s]),.str n] [] (.ref 0) [.row 9 1 ((Ck (K6 es) n).map fun s=>[OT.str s])])) then
   bif dec ((K6 es).length<(Ck (K6 es) n).length) then some (.ref 1,[.gone,.row 9 1 ((Ck (K6 es) n).map fun s=>[OT.str s])]) else some (.ref 0,[.row t sz es])
  else none
 | _,_=>none
theorem Sk {xs:List SV} {ob:List Ob} {r:SV} {ob':List Ob} (h:L2 xs ob=some (r,ob')):Fun Tryz.prog 86 xs ob r ob':=by
 unfold L2 at h
 split at h
 ·rename_i n t sz es
  obtain ⟨h1,h2⟩:=Aq h
  obtain ⟨k1,k2,k3⟩:=Ar.1 h1
  by_cases hq:(K6 es).length<(Ck (K6 es) n).length
  ·rw [Ao hq,cond_true] at h2
   simp only [zG,zL] at h2
   obtain ⟨rfl,rfl⟩:=h2
   have h3:=k3 hq
   rw [←EW,← k1] at h3
   exact Fun.taken (by rw [k1]; exact Sj _) h3
  ·rw [Aj hq,cond_false] at h2
   simp only [zG,zL] at h2
   obtain ⟨rfl,rfl⟩:=h2
   exact k2 hq
 ·cases h
end Go.Proofs.YtbcljemengiocaaGreatDoor
set_option maxRecDepth 100000
set_option linter.unusedSimpArgs false
set_option linter.unusedVariables false
set_option linter.unusedSectionVars false
namespace Go.Proofs.YtbcljemengiocaaGreatDoor
open Go.RowKit Go.Shelf Go.Lib Go.Sort
theorem Y9 {w w':World} {I:Nat→Prop} {V:Nat→Option Value} {B:Nat→Nat→Prop} {t:TypeId} {sz:Nat} {es es':List (List OT)} {b cap:Nat} {cur cur':Array Value} (Sub:Nat→Nat→Nat→Prop)
  (hwf:Wf w I V B (An [.row t sz es])) (hv:V 0=some (.slice (some ⟨b,0,none⟩) es.length cap)) (hn:es'.length=es.length) (hs:B 0 b) (hb:w.heap[b]?=some (.cells cur t (0,0)))
  (h1:es.length≤cap) (h2:cap≤9223372036854775807) (h3:cur.size=cap*sz) (h4:∀ i (h:i<es'.length),es'[i].length=sz) (h5:∀ i j x,Sub i j x→B 0 x∧x≠b)
  (h6:∀ i j i' j' x,Sub i j x→Sub i' j' x→i=i'∧j=j')
  (hos:w'.os=w.os) (htape:TapeOk w w') (hout:w'.output=w.output) (hsz:w.heap.size≤w'.heap.size) (hblk:∀ x,x<w.heap.size→x≠b→w'.heap[x]?=w.heap[x]?)
  (hb':w'.heap[b]?=some (.cells cur' t (0,0))) (hcs:cur'.size=cur.size)
  (h7:∀ i j (h:i<es'.length) (h':j<es'[i].length),ORep w' I (Sub i j) (es'[i][j]) (cur'.getD (i*sz+j) undef)) :
  FunPost w I V B [.row t sz es] [.row t sz es'] w' I V B:=by
 have g0:∀ (e:List (List OT)),An [Ob.row t sz e] 0=.row t sz e:=fun _=>rfl
 have gS:∀ (e:List (List OT)) (g:Nat),An [Ob.row t sz e] (g+1)=.free:=fun _ _=>rfl
 have lv:∀ (e e':List (List OT)) (g:Nat),(An [Ob.row t sz e] g).live→(An [Ob.row t sz e'] g).live:=fun e e' g h=>by
  cases g with
  | zero=>trivial
  | succ g=>rw [gS] at h; exact h.elim
 have hbS:∀ x,B 0 x→HB B [Ob.row t sz es] x:=fun x hx=>⟨0,trivial,hx⟩
 refine ⟨⟨hos,htape,hout,hsz,fun x hx hn=>hblk x hx fun e=>hn (hbS x (e▸hs))⟩,fun _ h=>h,fun _ h=>.inl h,VLe.refl _,?_,fun g x hl hx=>.inl ⟨g,lv _ _ g hl,hx⟩⟩
 refine ⟨fun x hx=>yU (hwf.ilt x hx) hsz,fun g hl=>?_,fun g x hl hx=>yU (hwf.lt g x (lv _ _ g hl) hx) hsz,fun g x hl hx=>hwf.dI g x (lv _ _ g hl) hx,fun g g' x hl hl' hx hx'=>hwf.dO g g' x (lv _ _ g hl) (lv _ _ g' hl') hx hx',fun g hf=>?_,hwf.gl.keep ⟨hsz,fun x hx hlt=>hblk x hlt fun e=>hwf.dI 0 x trivial (e▸hs) hx⟩ fun _ h=>h⟩
 ·cases g with
  | zero =>
   refine ⟨_,hv,.inr ⟨b,cap,cur',Sub,by rw [hn],hs,hb',by rw [hn]; exact h1,h2,by rw [hcs]; exact h3,h4,h5,h6,h7⟩⟩
  | succ g=>rw [gS] at hl; exact hl.elim
 ·cases g with
  | zero=>cases hf
  | succ g=>exact hwf.fr (g+1) rfl
theorem Xe {w:World} {I:Nat→Prop} {V:Nat→Option Value} {B:Nat→Nat→Prop} {ob:List Ob} (hwf:Wf w I V B (An ob)):FunPost w I V B ob ob w I V B :=
 ⟨⟨rfl,TapeOk.mk' rfl rfl,rfl,zP _,fun _ _ _=>rfl⟩,fun _ h=>h,fun _ h=>.inl h,VLe.refl _,hwf,fun g b hl hb=>.inl ⟨g,hl,hb⟩⟩
def TD:List OT→ByteArray
 | .str s :: _=>s
 | _=>⟨#[]⟩
end Go.Proofs.YtbcljemengiocaaGreatDoor
set_option maxRecDepth 100000
namespace Go.Proofs.YtbcljemengiocaaGreatDoor
open Go.Shelf
def so_SortS_ren:Go.Shelf.Ren:=⟨fun | 190=>82 | 125=>103 | 258=>102 | 128=>123 | 129=>124 | 302=>114 | 303=>115 | 304=>116 | 305=>117 | 306=>118 | 307=>119 | 308=>120 | 309=>121 | 310=>122 | 333=>132 | 329=>133 | 330=>134 | 334=>135 | 335=>136 | 336=>137 | 344=>143 | n=>n,fun | 31=>51 | 9=>9 | 3=>3 | 46=>110 | 0=>0 | 51=>124 | 53=>126 | 4=>4 | 183=>116 | 182=>115 | 131=>121 | 5=>5 | 218=>132 | 222=>136 | 228=>143 | 229=>144 | n=>n,fun | n=>n⟩
theorem Sl:Go.Proofs.Lays.n190 Tryz.prog so_SortS_ren:={
 mixed:=by kernel_rfl,
 f125:=Tryz.func103.trans (congrArg some (by kernel_rfl)),
 f128:=Tryz.func123.trans (congrArg some (by kernel_rfl)),
 f129:=Tryz.func124.trans (congrArg some (by kernel_rfl)),
 f190:=Tryz.func82.trans (congrArg some (by kernel_rfl)),
 f258:=Tryz.func102.trans (congrArg some (by kernel_rfl)),
 f302:=Tryz.func114.trans (congrArg some (by kernel_rfl)),
 f303:=Tryz.func115.trans (congrArg some (by kernel_rfl)),
 f304:=Tryz.func116.trans (congrArg some (by kernel_rfl)),
 f305:=Tryz.func117.trans (congrArg some (by kernel_rfl)),
 f306:=Tryz.func118.trans (congrArg some (by kernel_rfl)),
 f307:=Tryz.func119.trans (congrArg some (by kernel_rfl)),
 f308:=Tryz.func120.trans (congrArg some (by kernel_rfl)),
 f309:=Tryz.func121.trans (congrArg some (by kernel_rfl)),
 f310:=Tryz.func122.trans (congrArg some (by kernel_rfl)),
 f329:=Tryz.func133.trans (congrArg some (by kernel_rfl)),
 f330:=Tryz.func134.trans (congrArg some (by kernel_rfl)),
 f333:=Tryz.func132.trans (congrArg some (by kernel_rfl)),
 f334:=Tryz.func135.trans (congrArg some (by kernel_rfl)),
 f335:=Tryz.func136.trans (congrArg some (by kernel_rfl)),
 f336:=Tryz.func137.trans (congrArg some (by kernel_rfl)),
 f344:=Tryz.func143.trans (congrArg some (by kernel_rfl)),
 t0:=Tryz.underlying0,
 a0:=Tryz.isAgg0,
 z0:=Tryz.sizeOf0,
 v0:=Tryz.zeroValue0,
 t3:=Tryz.underlying3,
 a3:=Tryz.isAgg3,
 z3:=Tryz.sizeOf3,
 v3:=Tryz.zeroValue3,
 t4:=Tryz.underlying4,
 a4:=Tryz.isAgg4,
 z4:=Tryz.sizeOf4,
 v4:=Tryz.zeroValue4,
 t5:=Tryz.underlying5,
 a5:=Tryz.isAgg5,
 z5:=Tryz.sizeOf5,
 v5:=Tryz.zeroValue5,
 t9:=Tryz.underlying9,
 a9:=Tryz.isAgg9,
 z9:=Tryz.sizeOf9,
 v9:=Tryz.zeroValue9,
 t31:=Tryz.underlying51,
 a31:=Tryz.isAgg51,
 z31:=Tryz.sizeOf51,
 v31:=Tryz.zeroValue51,
 t46:=Tryz.underlying110,
 a46:=Tryz.isAgg110,
 z46:=Tryz.sizeOf110,
 v46:=Tryz.zeroValue110,
 t51:=Tryz.underlying124,
 a51:=Tryz.isAgg124,
 z51:=Tryz.sizeOf124,
 v51:=Tryz.zeroValue124,
 t53:=Tryz.underlying126,
 a53:=Tryz.isAgg126,
 z53:=Tryz.sizeOf126,
 v53:=Tryz.zeroValue126,
 t131:=Tryz.underlying121,
 a131:=Tryz.isAgg121,
 z131:=Tryz.sizeOf121,
 v131:=Tryz.zeroValue121,
 t182:=Tryz.underlying115,
 a182:=Tryz.isAgg115,
 z182:=Tryz.sizeOf115,
 v182:=Tryz.zeroValue115,
 t183:=Tryz.underlying116,
 a183:=Tryz.isAgg116,
 z183:=Tryz.sizeOf116,
 v183:=Tryz.zeroValue116,
 t218:=Tryz.underlying132,
 a218:=Tryz.isAgg132,
 z218:=Tryz.sizeOf132,
 v218:=Tryz.zeroValue132,
 t222:=Tryz.underlying136,
 a222:=Tryz.isAgg136,
 z222:=Tryz.sizeOf136,
 v222:=Tryz.zeroValue136,
 t228:=Tryz.underlying143,
 a228:=Tryz.isAgg143,
 z228:=Tryz.sizeOf143,
 v228:=Tryz.zeroValue143,
 t229:=Tryz.underlying144,
 a229:=Tryz.isAgg144,
 z229:=Tryz.sizeOf144,
 v229:=Tryz.zeroValue144 }
end Go.Proofs.YtbcljemengiocaaGreatDoor
set_option maxRecDepth 100000
set_option linter.unusedSimpArgs false
set_option linter.unusedVariables false
set_option linter.unusedSectionVars false
namespace Go.Proofs.YtbcljemengiocaaGreatDoor
open Go.RowKit Go.Shelf Go.Lib Go.Sort
theorem PL (w:World) (b m:Nat) (ss:List (List UInt8)) (os:Array Obj) (x:Nat) (hx:x<w.heap.size) :
  (Sort.grow (putRow encStr (Sort.ahead w m) b 0 ss.toArray) os).heap[x]?=if b=x then (w.heap[x]?).map (onCells (putCells encStr 0 ss.toArray)) else w.heap[x]?:=by
 unfold Sort.grow putRow mapBlock Sort.ahead
 have hx':x<(w.heap.modify b (onCells (putCells encStr 0 ss.toArray))).size:=by simpa using hx
 simp only [Array.getElem?_append,Array.size_modify,hx,if_true,Array.getElem?_modify]
def srt (ss:List (List UInt8)):List (List UInt8):=ss.mergeSort fun x y=>decide (x≤y)
def Vn (l:List UInt8):List OT:=[.str ⟨l.toArray⟩]
noncomputable def sortStr (xs:List SV) (ob:List Ob):Option (SV × List Ob) :=
 match xs,ob with
 | [.ref 0],[.row t sz es]=>bif dec (sz=1∧(∀ e∈es,∃ s,e=[.str s])∧es.length≤1099511627776) then some (.tup [],[.row t sz ((srt (es.map fun e=>(TD e).toList)).map Vn)]) else none
 | _,_=>none
theorem ORep.Qaq {w:World} {I S:Nat→Prop} {s:ByteArray} {v:Value} (h:ORep w I S (.str s) v):v=.string s∧s.size≤9223372036854775807:=by
 cases h with
 | str _ _ hz=>exact ⟨rfl,hz⟩
theorem JX (s:ByteArray):(⟨s.toList.toArray⟩:ByteArray)=s:=Lr (by rw [ByteArray.toList_eq])
theorem QJ {xs:List SV} {ob:List Ob} {r:SV} {ob':List Ob} (h:sortStr xs ob=some (r,ob')):Fun Tryz.prog 82 xs ob r ob':=by
 unfold sortStr at h
 split at h
 ·rename_i t sz es
  obtain ⟨h1,h2⟩:=Aq h
  obtain ⟨rfl,hk1,hk3⟩:=Ar.1 h1
  simp only [zG,zL] at h2
  obtain ⟨rfl,rfl⟩:=h2
  intro w I V B vs hwf hvs
  obtain ⟨v,q,rfl,hv,hvs⟩:=Dh hvs
  obtain rfl:=Mw hvs
  simp only [RepV] at hv
  obtain ⟨val,hval,hrow⟩:=hwf.obj 0 trivial
  rw [hv.1] at hval
  obtain rfl:=zJ hval
  have hv0:=hv.1
  have hrow:RowR w I (B 0) t 1 es v:=hrow
  rcases zX es.length with h0 | h0
  ·have he:es=[]:=zI h0
   subst he
   obtain ⟨a,c,rfl,_⟩:=hrow.form
   have hcon:=Any.slices_Sort_string_none Sl a c w
   change Calls Tryz.prog 82 _ _ _ at hcon
   refine hcon.mono ?_
   rintro e w' ⟨rfl,rfl⟩
   have e0:(srt ([].map fun e:List OT=>(TD e).toList)).map Vn=[]:=by simp [srt]
   rw [e0]
   exact ⟨_,I,V,B,rfl,by simp only [RepV,RepVs]; exact ⟨[],rfl,rfl⟩,Xe hwf⟩
  ·rcases hrow with ⟨he,_⟩ | ⟨b,cap,cur,Sub,rfl,hs,hb,g1,g2,g3,g4,g5,g6,g7⟩
   ·subst he; simp at h0
   have hblt:=(Array.getElem?_eq_some_iff.1 hb).1
   obtain ⟨ss,hss⟩:∃ ss,ss=es.map fun e=>(TD e).toList:=⟨_,rfl⟩
   have hsl:ss.length=es.length:=by rw [hss]; simp
   rw [←hss]
   have cellv:∀ i (hi:i<es.length),cur[i]?=some (.string (TD es[i]))∧(TD es[i]).size≤9223372036854775807:=fun i hi=>by
    obtain ⟨s,he⟩:=hk1 es[i] (zM hi)
    have hlt:i<cur.size:=by rw [g3]; omega
    have l0:=g7 i 0 hi (by rw [g4 i hi]; omega)
    simp only [he,z8,Nat.mul_one,y8,yT,yF hlt,yN] at l0
    rw [yF hlt,he]
    obtain ⟨z1,z2⟩:=ORep.Qaq l0
    exact ⟨by rw [z1]; rfl,z2⟩
   have hH:Holds encStr w b 0 ss.toArray:=by
    intro j hj
    have hj1:j<ss.length:=by simpa using hj
    have hj':j<es.length:=by rw [←hsl]; exact hj1
    refine ⟨?_,?_⟩
    ·rw [yJ,cell_of_row w b _ _ _ _ hb,(cellv j hj').1,getElem!_pos ss.toArray j hj]
     simp only [List.getElem_toArray,hss,y7,encStr,JX]
    ·unfold World.frozen?
     rw [hb]
     simp
   have hcon:=Any.slices_Sort_string Sl b 0 cap ss w hH hblt (by rw [hsl]; omega)
   change Calls Tryz.prog 82 _ _ _ at hcon
   rw [hsl] at hcon
   refine hcon.mono ?_
   rintro e w' ⟨rfl,m,os,rfl⟩
   refine ⟨_,I,V,B,rfl,by simp only [RepV,RepVs]; exact ⟨[],rfl,rfl⟩,?_⟩
   have hper:(srt ss).Perm ss:=List.mergeSort_perm _ _
   have hsl2:(srt ss).length=es.length:=by rw [hper.length_eq,hsl]
   have hgrow:∀ x,x<w.heap.size→x≠b→(Sort.grow (putRow encStr (Sort.ahead w m) b 0 (srt ss).toArray) os).heap[x]?=w.heap[x]?:=fun x hx hne=>by
    rw [PL w b m _ os x hx,if_neg (fun e=>hne e.symm)]
   have hbl:(Sort.grow (putRow encStr (Sort.ahead w m) b 0 (srt ss).toArray) os).heap[b]?=some (.cells (putCells encStr 0 (srt ss).toArray cur) t (0,0)):=by
    rw [PL w b m _ os b hblt,if_pos rfl,hb]; rfl
   have hsz:w.heap.size≤(Sort.grow (putRow encStr (Sort.ahead w m) b 0 (srt ss).toArray) os).heap.size:=by
    unfold Sort.grow
    simp [putRow,mapBlock,Sort.ahead]
   have hmem:∀ l∈ss,∃ e∈es,(TD e).toList=l:=by
    rw [hss]
    intro l h
    exact List.mem_map.1 h
   have hstr:∀ i (hi:i<(srt ss).length),(⟨(srt ss)[i].toArray⟩:ByteArray).size≤9223372036854775807:=fun i hi=>by
    obtain ⟨e,he,heq⟩:=hmem _ (hper.mem_iff.1 (zM hi))
    obtain ⟨k,hk,rfl⟩:=yR he
    have:=(cellv k hk).2
    rw [←heq,JX]
    exact this
   refine Y9 (fun _ _ _=>False) hwf hv0 (by rw [zZ,hsl2]) hs hb g1 g2 g3 (fun i hi=>by rw [y7]; rfl) (fun i j x h=>h.elim) (fun i j i' j' x h h'=>h.elim) rfl ⟨rfl,fun h=>False.elim h⟩ rfl hsz hgrow hbl (by simp [putCells]) (fun i j hi hj=>?_)
   have hi':i<(srt ss).length:=by simpa using hi
   have hj':j<1:=by simpa [Vn] using hj
   obtain rfl:j=0:=by omega
   have hlt:i<cur.size:=by rw [g3]; omega
   have hc:(putCells encStr 0 (srt ss).toArray cur).getD (i*1+0) undef=.string ⟨(srt ss)[i].toArray⟩:=by
    simp only [Nat.mul_one,y8,putCells,yT,Array.getElem?_mapIdx,yF hlt,xB,yN,zK,true_and,yJ,List.size_toArray,hi',if_true,Nat.sub_zero]
    rw [getElem!_pos (srt ss).toArray i (by simpa using hi')]
    rfl
   rw [hc]
   simp only [y7,Vn,z8]
   exact .str _ _ (hstr i hi')
 ·cases h
end Go.Proofs.YtbcljemengiocaaGreatDoor
set_option maxRecDepth 100000
namespace Go.Proofs.YtbcljemengiocaaGreatDoor
open Go.Shelf
def so_Itoa_ren:Go.Shelf.Ren:=⟨fun | 171=>80 | 243=>100 | 246=>113 | 283=>128 | 284=>129 | 285=>130 | 286=>131 | 129=>124 | 317=>139 | 318=>140 | 319=>141 | 320=>142 | 337=>144 | 338=>145 | n=>n,fun | 3=>3 | 9=>9 | 2=>2 | 4=>4 | 171=>128 | 0=>0 | 53=>126 | 37=>92 | 5=>5 | 173=>130 | 212=>141 | 51=>124 | 20=>20 | 213=>142 | 46=>110 | 232=>146 | 233=>147 | n=>n,fun | 17=>0 | 18=>1 | 19=>2 | n=>n⟩
theorem YA:Go.Proofs.LaysM.n171 Tryz.prog so_Itoa_ren:={
 mixed:=by kernel_rfl,
 f129:=Tryz.func124.trans (congrArg some (by kernel_rfl)),
 f171:=Tryz.func80.trans (congrArg some (by kernel_rfl)),
 f243:=Tryz.func100.trans (congrArg some (by kernel_rfl)),
 f246:=Tryz.func113.trans (congrArg some (by kernel_rfl)),
 f283:=Tryz.func128.trans (congrArg some (by kernel_rfl)),
 f284:=Tryz.func129.trans (congrArg some (by kernel_rfl)),
 f285:=Tryz.func130.trans (congrArg some (by kernel_rfl)),
 f286:=Tryz.func131.trans (congrArg some (by kernel_rfl)),
 f317:=Tryz.func139.trans (congrArg some (by kernel_rfl)),
 f318:=Tryz.func140.trans (congrArg some (by kernel_rfl)),
 f319:=Tryz.func141.trans (congrArg some (by kernel_rfl)),
 f320:=Tryz.func142.trans (congrArg some (by kernel_rfl)),
 f337:=Tryz.func144.trans (congrArg some (by kernel_rfl)),
 f338:=Tryz.func145.trans (congrArg some (by kernel_rfl)),
 t0:=Tryz.underlying0,
 a0:=Tryz.isAgg0,
 z0:=Tryz.sizeOf0,
 v0:=Tryz.zeroValue0,
 t2:=Tryz.underlying2,
 a2:=Tryz.isAgg2,
 z2:=Tryz.sizeOf2,
 v2:=Tryz.zeroValue2,
 t3:=Tryz.underlying3,
 a3:=Tryz.isAgg3,
 z3:=Tryz.sizeOf3,
 v3:=Tryz.zeroValue3,
 t4:=Tryz.underlying4,
 a4:=Tryz.isAgg4,
 z4:=Tryz.sizeOf4,
 v4:=Tryz.zeroValue4,
 t5:=Tryz.underlying5,
 a5:=Tryz.isAgg5,
 z5:=Tryz.sizeOf5,
 v5:=Tryz.zeroValue5,
 t9:=Tryz.underlying9,
 a9:=Tryz.isAgg9,
 z9:=Tryz.sizeOf9,
 v9:=Tryz.zeroValue9,
 t20:=Tryz.underlying20,
 a20:=Tryz.isAgg20,
 z20:=Tryz.sizeOf20,
 v20:=Tryz.zeroValue20,
 t37:=Tryz.underlying92,
 a37:=Tryz.isAgg92,
 z37:=Tryz.sizeOf92,
 v37:=Tryz.zeroValue92,
 t46:=Tryz.underlying110,
 a46:=Tryz.isAgg110,
 z46:=Tryz.sizeOf110,
 v46:=Tryz.zeroValue110,
 t51:=Tryz.underlying124,
 a51:=Tryz.isAgg124,
 z51:=Tryz.sizeOf124,
 v51:=Tryz.zeroValue124,
 t53:=Tryz.underlying126,
 a53:=Tryz.isAgg126,
 z53:=Tryz.sizeOf126,
 v53:=Tryz.zeroValue126,
 t171:=Tryz.underlying128,
 a171:=Tryz.isAgg128,
 z171:=Tryz.sizeOf128,
 v171:=Tryz.zeroValue128,
 t173:=Tryz.underlying130,
 a173:=Tryz.isAgg130,
 z173:=Tryz.sizeOf130,
 v173:=Tryz.zeroValue130,
 t212:=Tryz.underlying141,
 a212:=Tryz.isAgg141,
 z212:=Tryz.sizeOf141,
 v212:=Tryz.zeroValue141,
 t213:=Tryz.underlying142,
 a213:=Tryz.isAgg142,
 z213:=Tryz.sizeOf142,
 t232:=Tryz.underlying146,
 a232:=Tryz.isAgg146,
 z232:=Tryz.sizeOf146,
 v232:=Tryz.zeroValue146,
 t233:=Tryz.underlying147,
 a233:=Tryz.isAgg147,
 z233:=Tryz.sizeOf147,
 v233:=Tryz.zeroValue147,
 g17:=by kernel_rfl,
 g18:=by kernel_rfl,
 g19:=by kernel_rfl,
 i0:=by kernel_rfl,
 i2:=by kernel_rfl,
 i3:=by kernel_rfl,
 i4:=by kernel_rfl,
 i5:=by kernel_rfl,
 i9:=by kernel_rfl,
 i20:=by kernel_rfl,
 i37:=by kernel_rfl,
 i46:=by kernel_rfl,
 i51:=by kernel_rfl,
 i53:=by kernel_rfl,
 i171:=by kernel_rfl,
 i173:=by kernel_rfl,
 i212:=by kernel_rfl,
 i232:=by kernel_rfl,
 i233:=by kernel_rfl,
 m17:=by kernel_rfl,
 m18:=by kernel_rfl,
 m19:=by kernel_rfl }
end Go.Proofs.YtbcljemengiocaaGreatDoor
set_option maxRecDepth 100000
set_option linter.unusedSimpArgs false
set_option linter.unusedVariables false
set_option linter.unusedSectionVars false
namespace Go.Proofs.YtbcljemengiocaaGreatDoor
open Go.RowKit
def HY (n:Int):ByteArray:=⟨(Lib.itoa n).toArray⟩
noncomputable def PM:List SV→Option SV
 | [.int .i64 n]=>bif dec (0≤n∧n≤1099511627776) then some (.str (HY n)) else none
 | _=>none
theorem Jj {n:Int} (h0:0≤n) (h1:n≤1099511627776):(HY n).size≤20:=by
 obtain ⟨u,rfl⟩:∃ u:Nat,n=u:=⟨n.toNat,by omega⟩
 show (Lib.itoa u).toArray.size≤20
 rw [Lib.itoa_nonneg,List.size_toArray,Lib.decDigits_length]
 rcases zX u with rfl | hu
 ·rw [Lib.nDigits_small (by omega)]; omega
 ·have:=Lib.numDigits_eq u hu (by omega)
  split at this <;> omega
theorem TE {xs:List SV} {r:SV} (h:PM xs=some r):Fun Tryz.prog 80 xs [] r []:=by
 unfold PM at h
 split at h
 ·rename_i n
  obtain ⟨h1,h2⟩:=Aq h
  obtain ⟨k1,k2⟩:=Ar.1 h1
  obtain rfl:=zJ h2
  intro w I V B vs hwf hvs
  obtain ⟨v,q,rfl,hv,hvs⟩:=Dh hvs
  obtain rfl:=Mw hvs
  obtain rfl:=Vj hv
  have hcon:=Any.strconv_Itoa YA n (by omega) (by omega) w hwf.gl.2.2
  change Calls Tryz.prog 80 _ _ _ at hcon
  refine hcon.mono ?_
  rintro e w' ⟨rfl,k,os,rfl⟩
  have hsz:w.heap.size≤(Sort.grow (w.drewN k) os).heap.size:=by simp [Sort.grow,World.drewN]
  have hbl:∀ x,x<w.heap.size→(Sort.grow (w.drewN k) os).heap[x]?=w.heap[x]?:=fun x hx=>by
   simp only [Sort.grow,World.drewN]
   rw [Array.getElem?_append_left hx]
  have hno:∀ g,¬ (An ([]:List Ob) g).live:=fun g h=>by
   have e:An ([]:List Ob) g=.free:=rfl
   rw [e] at h
   exact h
  refine ⟨_,I,V,B,rfl,?_,⟨⟨rfl,⟨rfl,fun h=>False.elim h⟩,rfl,hsz,fun x hx _=>hbl x hx⟩,fun _ h=>h,fun _ h=>.inl h,VLe.refl _,⟨fun x hx=>yU (hwf.ilt x hx) hsz,fun g hl=>(hno g hl).elim,fun g x hl=>(hno g hl).elim,fun g x hl=>(hno g hl).elim,fun g g' x hl=>(hno g hl).elim,fun g hg=>hwf.fr g rfl,hwf.gl.keep ⟨hsz,fun x _ hx=>hbl x hx⟩ fun _ h=>h⟩,fun g x hl=>(hno g hl).elim⟩⟩
  have:=Jj k1 k2
  simp only [RepV]
  exact ⟨rfl,by omega⟩
 ·cases h
abbrev Tm.sv (x:Tm):SV:=.agg [.str x.name,.arr (x.args.map Tm.d)]
mutual
def Tm.o:Tm→List OT
 | .mk name args=>[.str name,.ow (Tm.os args)]
def Tm.os:List Tm→List (List OT)
 | []=>[]
 | x :: xs=>Tm.o x :: Tm.os xs
end
theorem Tm.os_eq:∀ xs:List Tm,Tm.os xs=xs.map Tm.o
 | []=>rfl
 | x :: xs=>by rw [Tm.os,Tm.os_eq xs]; rfl
theorem Tm.o_eq (x:Tm):Tm.o x=[.str x.name,.ow (x.args.map Tm.o)]:=by
 obtain ⟨name,args⟩:=x
 rw [Tm.o,Tm.os_eq]; rfl
theorem Tm.ers_of:∀ xs:List Tm,(∀ x∈xs,OT.ers (Tm.o x)=Tm.d x)→OT.erss (xs.map Tm.o)=xs.map Tm.d
 | [],_=>rfl
 | x :: xs,h=>by
  simp only [zH,OT.erss]
  rw [h x (by simp),Tm.ers_of xs fun y hy=>h y (by simp [hy])]
theorem Tm.er (x:Tm):OT.ers (Tm.o x)=Tm.d x:=by
 have h:=Tm.ers_of x.args fun y hy=>Tm.er y
 rw [Tm.o_eq,Tm.d_eq]
 simp only [OT.ers,OT.er,h]
termination_by SizeOf.sizeOf x
decreasing_by exact Tm.lt_of_mem hy
theorem Tm.erss (xs:List Tm):OT.erss (xs.map Tm.o)=xs.map Tm.d:=Tm.ers_of xs fun x _=>Tm.er x
theorem Tm.nos_of:∀ xs:List Tm,(∀ x∈xs,OT.E7 (Tm.o x)=true)→OT.Ci (xs.map Tm.o)=true
 | [],_=>rfl
 | x :: xs,h=>by
  simp only [zH,OT.Ci]
  rw [h x (by simp),Tm.nos_of xs fun y hy=>h y (by simp [hy])]; rfl
theorem Tm.no (x:Tm):OT.E7 (Tm.o x)=true:=by
 have h:=Tm.nos_of x.args fun y hy=>Tm.no y
 rw [Tm.o_eq]
 simp only [OT.E7,OT.noSh,h,zO,zT]
termination_by SizeOf.sizeOf x
decreasing_by exact Tm.lt_of_mem hy
theorem Tm.noss (xs:List Tm):OT.Ci (xs.map Tm.o)=true:=Tm.nos_of xs fun x _=>Tm.no x
abbrev Tm.osv (x:Tm):SV:=.agg [.str x.name,.ref 0]
abbrev Tm.obs (x:Tm):List Ob:=[.row 31 2 (x.args.map Tm.o)]
abbrev Fm.sv (x:Fm):SV:=.agg [.int .i64 x.op,.str x.atom.name,.arr (x.atom.args.map Tm.d),.str x.var,.arr (x.parts.map Fm.d)]
mutual
def Fm.o:Fm→List OT
 | .mk op atom var parts=>[.int op,.str atom.name,.ow (atom.args.map Tm.o),.str var,.ow (Fm.os parts)]
def Fm.os:List Fm→List (List OT)
 | []=>[]
 | x :: xs=>Fm.o x :: Fm.os xs
end
theorem Fm.os_eq:∀ xs:List Fm,Fm.os xs=xs.map Fm.o
 | []=>rfl
 | x :: xs=>by rw [Fm.os,Fm.os_eq xs]; rfl
theorem Fm.o_eq (x:Fm):Fm.o x=[.int x.op,.str x.atom.name,.ow (x.atom.args.map Tm.o),.str x.var,.ow (x.parts.map Fm.o)]:=by
 obtain ⟨op,atom,var,parts⟩:=x
 rw [Fm.o,Fm.os_eq]; rfl
theorem Fm.ers_of:∀ xs:List Fm,(∀ x∈xs,OT.ers (Fm.o x)=Fm.d x)→OT.erss (xs.map Fm.o)=xs.map Fm.d
 | [],_=>rfl
 | x :: xs,h=>by
  simp only [zH,OT.erss]
  rw [h x (by simp),Fm.ers_of xs fun y hy=>h y (by simp [hy])]
theorem Fm.er (x:Fm):OT.ers (Fm.o x)=Fm.d x:=by
 have h:=Fm.ers_of x.parts fun y hy=>Fm.er y
 rw [Fm.o_eq,Fm.d_eq]
 simp only [OT.ers,OT.er,h,Tm.erss]
termination_by SizeOf.sizeOf x
decreasing_by exact Fm.lt_of_mem hy
theorem Fm.erss (xs:List Fm):OT.erss (xs.map Fm.o)=xs.map Fm.d:=Fm.ers_of xs fun x _=>Fm.er x
theorem Fm.nos_of:∀ xs:List Fm,(∀ x∈xs,OT.E7 (Fm.o x)=true)→OT.Ci (xs.map Fm.o)=true
 | [],_=>rfl
 | x :: xs,h=>by
  simp only [zH,OT.Ci]
  rw [h x (by simp),Fm.nos_of xs fun y hy=>h y (by simp [hy])]; rfl
theorem Fm.no (x:Fm):OT.E7 (Fm.o x)=true:=by
 have h:=Fm.nos_of x.parts fun y hy=>Fm.no y
 rw [Fm.o_eq]
 simp only [OT.E7,OT.noSh,h,Tm.noss,zO,zT]
termination_by SizeOf.sizeOf x
decreasing_by exact Fm.lt_of_mem hy
theorem Fm.noss (xs:List Fm):OT.Ci (xs.map Fm.o)=true:=Fm.nos_of xs fun x _=>Fm.no x
abbrev Fm.osv (x:Fm):SV:=.agg [.int .i64 x.op,.str x.atom.name,.ref 0,.str x.var,.ref 1]
abbrev Fm.obs (x:Fm):List Ob:=[.row 31 2 (x.atom.args.map Tm.o),.row 34 5 (x.parts.map Fm.o)]
abbrev Df.sv (x:Df):SV:=.agg [.str x.name,.arr (x.vars.map fun s=>[D.str s]),.int .i64 x.form.op,.str x.form.atom.name,.arr (x.form.atom.args.map Tm.d),.str x.form.var,.arr (x.form.parts.map Fm.d)]
def Df.o (x:Df):List OT:=[.str x.name,.ow (x.vars.map fun s=>[OT.str s]),.int x.form.op,.str x.form.atom.name,.ow (x.form.atom.args.map Tm.o),.str x.form.var,.ow (x.form.parts.map Fm.o)]
theorem Df.o_eq (x:Df):Df.o x=[.str x.name,.ow (x.vars.map fun s=>[OT.str s]),.int x.form.op,.str x.form.atom.name,.ow (x.form.atom.args.map Tm.o),.str x.form.var,.ow (x.form.parts.map Fm.o)]:=rfl
theorem Df.er (x:Df):OT.ers (Df.o x)=Df.d x:=by
 simp only [Df.o,Df.d,OT.ers,OT.er,EW,Tm.erss,Fm.erss]
theorem Df.erss:∀ xs:List Df,OT.erss (xs.map Df.o)=xs.map Df.d
 | []=>rfl
 | x :: xs=>by simp only [zH,OT.erss,Df.er,Df.erss xs]
theorem Df.no (x:Df):OT.E7 (Df.o x)=true:=by
 simp only [Df.o,OT.E7,OT.noSh,Vl,Tm.noss,Fm.noss,zO,zT]
theorem Df.noss:∀ xs:List Df,OT.Ci (xs.map Df.o)=true
 | []=>rfl
 | x :: xs=>by simp only [zH,OT.Ci,Df.no,Df.noss xs,zO]
abbrev Df.osv (x:Df):SV:=.agg [.str x.name,.ref 0,.int .i64 x.form.op,.str x.form.atom.name,.ref 1,.str x.form.var,.ref 2]
abbrev Df.obs (x:Df):List Ob:=[.row 9 1 (x.vars.map fun s=>[OT.str s]),.row 31 2 (x.form.atom.args.map Tm.o),.row 34 5 (x.form.parts.map Fm.o)]
mutual
def Tm.nodes:Tm→Nat
 | .mk _ args=>1+Tm.nodeS args
def Tm.nodeS:List Tm→Nat
 | []=>0
 | x :: xs=>Tm.nodes x+Tm.nodeS xs
end
mutual
def Tm.deep:Tm→Nat
 | .mk _ args=>Tm.FR args+1
def Tm.FR:List Tm→Nat
 | []=>0
 | x :: xs=>max (Tm.deep x) (Tm.FR xs)
end
mutual
def Tm.names:Tm→Bool
 | .mk name args=>if Ba name then args.length == 0 else CD name&&decide (args.length≤4)&&Tm.EO args
def Tm.EO:List Tm→Bool
 | []=>true
 | x :: xs=>Tm.names x&&Tm.EO xs
end
def Tm.small (x:Tm):Bool:=decide (x.nodes≤30)&&decide (x.deep≤8)
def Tm.valid (x:Tm):Bool:=x.small&&x.names
noncomputable def Tm.eqn (x:Tm):Bool:=dec (x.name=⟨#[61]⟩)
noncomputable def Tm.atom (x:Tm):Bool:=if x.eqn then x.args.length == 2&&x.small&&Tm.EO x.args else CD x.name&&x.valid
noncomputable def Tm.expr (x:Tm):Bool:=x.valid || x.atom
noncomputable def Tm.isZ (x:Tm):Bool:=dec (x.name=⟨#[]⟩)&&x.args.length == 0
mutual
theorem Tm.d_inj:∀ x y:Tm,Tm.d x=Tm.d y→x=y
 | .mk n xs,.mk m ys,h=>by
  rw [Tm.d_eq,Tm.d_eq] at h
  simp only [zQ,D.str.injEq,D.arr.injEq,and_true] at h
  have h1:n=m:=h.1
  rw [h1,Tm.ds_inj xs ys h.2]
theorem Tm.ds_inj:∀ xs ys:List Tm,xs.map Tm.d=ys.map Tm.d→xs=ys
 | [],[],_=>rfl
 | [],y :: ys,h=>by simp at h
 | x :: xs,[],h=>by simp at h
 | x :: xs,y :: ys,h=>by
  simp only [zH,zQ] at h
  rw [Tm.d_inj x y h.1,Tm.ds_inj xs ys h.2]
end
mutual
def Fm.nodes:Fm→Nat
 | .mk _ _ _ args=>1+Fm.nodeS args
def Fm.nodeS:List Fm→Nat
 | []=>0
 | x :: xs=>Fm.nodes x+Fm.nodeS xs
end
noncomputable def Fm.form (x:Fm):Bool :=
 if x.op=1∨x.op=2 then x.parts.length == 0&&x.atom.isZ&&dec (x.var=⟨#[]⟩)
 else if x.op=3 then x.parts.length == 0&&x.atom.atom&&dec (x.var=⟨#[]⟩)
 else if x.op=4 then x.parts.length == 1&&x.atom.isZ&&dec (x.var=⟨#[]⟩)
 else if x.op=5∨x.op=6∨x.op=7 then x.parts.length == 2&&x.atom.isZ&&dec (x.var=⟨#[]⟩)
 else if x.op=8∨x.op=9 then x.parts.length == 1&&x.atom.isZ&&Ba x.var
 else false
mutual
noncomputable def Fm.forms:Fm→Bool
 | .mk op atom var parts=>Fm.form (.mk op atom var parts)&&Fm.J3 parts
noncomputable def Fm.J3:List Fm→Bool
 | []=>true
 | x :: xs=>Fm.forms x&&Fm.J3 xs
end
noncomputable def Fm.valid (x:Fm):Bool:=decide (x.nodes≤40)&&x.forms
mutual
noncomputable def Fm.has (n:Int):Fm→Bool
 | .mk op _ _ ps=>dec (n=op) || Fm.Sm n ps
noncomputable def Fm.Sm (n:Int):List Fm→Bool
 | []=>false
 | x :: xs=>Fm.has n x || Fm.Sm n xs
end
noncomputable def Fm.hasS (ns:List Int) (x:Fm):Bool:=ns.any fun n=>x.has n
mutual
theorem Fm.d_inj:∀ x y:Fm,Fm.d x=Fm.d y→x=y
 | .mk op at_ var xs,.mk op' at' var' ys,h=>by
  rw [Fm.d_eq,Fm.d_eq] at h
  simp only [zQ,D.int.injEq,D.str.injEq,D.arr.injEq,and_true] at h
  obtain ⟨h1,h2,h3,h4,h5⟩:=h
  have h1:op=op':=h1
  have h4:var=var':=h4
  have ha:at_=at':=Tm.d_inj at_ at' (by
   have h2:at_.name=at'.name:=h2
   have h3:at_.args.map Tm.d=at'.args.map Tm.d:=h3
   rw [Tm.d_eq,Tm.d_eq,h2,h3])
  rw [h1,h4,ha,Fm.ds_inj xs ys h5]
theorem Fm.ds_inj:∀ xs ys:List Fm,xs.map Fm.d=ys.map Fm.d→xs=ys
 | [],[],_=>rfl
 | [],y :: ys,h=>by simp at h
 | x :: xs,[],h=>by simp at h
 | x :: xs,y :: ys,h=>by
  simp only [zH,zQ] at h
  rw [Fm.d_inj x y h.1,Fm.ds_inj xs ys h.2]
end
theorem Fm.Xf {x y:Fm} (h:x.sv=y.sv):x=y:=by
 refine Fm.d_inj x y ?_
 rw [Fm.d_eq,Fm.d_eq]
 have h:SV.agg [.int .i64 x.op,.str x.atom.name,.arr (x.atom.args.map Tm.d),.str x.var,.arr (x.parts.map Fm.d)]=SV.agg [.int .i64 y.op,.str y.atom.name,.arr (y.atom.args.map Tm.d),.str y.var,.arr (y.parts.map Fm.d)]:=h
 simp only [SV.agg.injEq,zQ,SV.int.injEq,SV.str.injEq,SV.arr.injEq,true_and,and_true] at h
 obtain ⟨h1,h2,h3,h4,h5⟩:=h
 rw [h1,h2,h3,h4,h5]
def pre (p:ByteArray) (n:Int):ByteArray:=p++HY n
noncomputable def CL (p:ByteArray) (taken:List ByteArray):Nat→Int→Int
 | 0,c=>c+1
 | k+1,c=>bif dec (pre p (c+1)∈taken) then CL p taken k (c+1) else c+1
noncomputable def fresh (p:ByteArray) (taken:List ByteArray) (c:Int):Int:=CL p taken (taken.length+1) c
def vT (l:List ByteArray):List Tm:=l.map fun v=>.mk v []
mutual
noncomputable def Tm.vs:Tm→List ByteArray
 | .mk name args=>bif Ba name then [name] else Tm.vsL args
noncomputable def Tm.vsL:List Tm→List ByteArray
 | []=>[]
 | x :: xs=>Tm.vs x++Tm.vsL xs
end
noncomputable def BJ (l ns:List ByteArray):List ByteArray:=ns.foldl Ck l
noncomputable def qB (op:Int):Bool:=dec (op=8) || dec (op=9)
mutual
noncomputable def Fm.fv:Fm→List ByteArray→List ByteArray
 | .mk op atom var parts,b=>bif dec (op=3) then (BJ [] atom.vs).filter (fun n=>!dec (n∈b)) else Fm.fvL parts (bif qB op then b++[var] else b)
noncomputable def Fm.fvL:List Fm→List ByteArray→List ByteArray
 | [],_=>[]
 | x :: xs,b=>Fm.fv x b++Fm.fvL xs b
end
noncomputable def Fm.free (x:Fm):List ByteArray:=BJ [] (x.fv [])
def Fm.at (a:Tm):Fm:=.mk 3 a ⟨#[]⟩ []
def AY:ByteArray:=⟨#[100]⟩
noncomputable def K7 (tk:List ByteArray) (io:Bool) (y:Fm) (s:Int × List Df):Fm × Int × List Df :=
 bif io&&dec (y.op=5) then (Fm.at ⟨pre AY (fresh AY tk s.1),vT y.free⟩,fresh AY tk s.1,s.2++[⟨pre AY (fresh AY tk s.1),y.free,y⟩]) else (y,s)
mutual
noncomputable def Fm.dfn (tk:List ByteArray):Fm→Bool→Int→Fm × Int × List Df
 | .mk op atom var parts,io,c=>K7 tk io (.mk op atom var (Fm.B7 tk parts (dec (op=6)) c).1) (Fm.B7 tk parts (dec (op=6)) c).2
noncomputable def Fm.B7 (tk:List ByteArray):List Fm→Bool→Int→List Fm × Int × List Df
 | [],_,c=>([],c,[])
 | x :: xs,io,c=>((Fm.dfn tk x io c).1 :: (Fm.B7 tk xs io (Fm.dfn tk x io c).2.1).1,(Fm.B7 tk xs io (Fm.dfn tk x io c).2.1).2.1,(Fm.dfn tk x io c).2.2++(Fm.B7 tk xs io (Fm.dfn tk x io c).2.1).2.2)
end
noncomputable def CS (ds:List Df):Bool:=ds.any fun d=>dec (4<d.vars.length)
theorem Sn (a b:List Df):CS (a++b)=(CS a || CS b):=by unfold CS; rw [List.any_append]
abbrev DL (io:Bool) (x:Fm):List SV:=[.ptr 0 0,x.sv,.bool io]
abbrev Gz (tk:List ByteArray) (c:Int) (es:List (List OT)) (b:Bool):List Ob:=[.box 65 [.ptr 1 0,.ref 2,.bool b],.box 63 [.str AY,.ref 3,.int .i64 c],.row 56 7 es,.row 9 1 (tk.map fun s=>[OT.str s])]
abbrev dfR (n:Nat) (y:Fm):SV:=.agg [.int .i64 y.op,.str y.atom.name,.ref n,.str y.var,.ref (n+1)]
abbrev dfT (y:Fm):List Ob:=[.row 31 2 (y.atom.args.map Tm.o),.row 34 5 (y.parts.map Fm.o)]
abbrev JY (tk:List ByteArray) (c:Int) (es:List (List OT)) (b:Bool) (y:Fm):List Ob:=[.box 65 [.ptr 1 0,.ref 6,.bool b],.box 63 [.str AY,.ref 3,.int .i64 c],.gone,.row 9 1 (tk.map fun s=>[OT.str s])]++dfT y++[.row 56 7 es]
def TF (tk:List ByteArray) (x:Fm) (io:Bool) (c:Int) (es:List (List OT)) (b:Bool):Prop :=
 Fun Tryz.prog 27 (DL io x) (Gz tk c es b) (dfR 4 (x.dfn tk io c).1) (JY tk (x.dfn tk io c).2.1 (es++(x.dfn tk io c).2.2.map Df.o) (b || CS (x.dfn tk io c).2.2) (x.dfn tk io c).1)
abbrev JZ (tk:List ByteArray) (c:Int) (b:Bool):List Ob:=[.box 65 [.ptr 1 0,.nil,.bool b],.box 63 [.str AY,.ref 2,.int .i64 c],.row 9 1 (tk.map fun s=>[OT.str s])]
abbrev So (tk:List ByteArray) (c:Int) (ds:List Df) (b:Bool) (y:Fm):List Ob:=[.box 65 [.ptr 1 0,.ref 5,.bool b],.box 63 [.str AY,.ref 2,.int .i64 c],.row 9 1 (tk.map fun s=>[OT.str s])]++dfT y++[.row 56 7 (ds.map Df.o)]
def Zz (tk:List ByteArray) (x:Fm) (io:Bool) (c:Int) (b:Bool):Prop :=
 Fun Tryz.prog 27 (DL io x) (JZ tk c b) (dfR 3 (x.dfn tk io c).1) (So tk (x.dfn tk io c).2.1 (x.dfn tk io c).2.2 (b || CS (x.dfn tk io c).2.2) (x.dfn tk io c).1)
theorem NP:∀ xs ys:List ByteArray,(xs.map fun s=>[OT.str s])=(ys.map fun s=>[OT.str s])→xs=ys
 | [],[],_=>rfl
 | [],y :: ys,h=>by simp at h
 | x :: xs,[],h=>by simp at h
 | x :: xs,y :: ys,h=>by
  simp only [zH,zQ,OT.str.injEq,and_true] at h
  rw [h.1,NP xs ys h.2]
structure DfP where
 tk:List ByteArray
 x:Fm
 io:Bool
 c:Int
 es:List (List OT)
 b:Bool
theorem DfP.ext' {p q:DfP} (h1:DL p.io p.x=DL q.io q.x) (h2:Gz p.tk p.c p.es p.b=Gz q.tk q.c q.es q.b):p=q:=by
 obtain ⟨tk,x,io,c,es,b⟩:=p
 obtain ⟨tk',x',io',c',es',b'⟩:=q
 simp only [DL,zQ,SV.bool.injEq,true_and,and_true] at h1
 simp only [Gz,zQ,Ob.box.injEq,Ob.row.injEq,SV.bool.injEq,SV.int.injEq,true_and,and_true] at h2
 obtain ⟨e1,e2⟩:=h1
 obtain ⟨e3,e4,e5,e6⟩:=h2
 obtain rfl:=Fm.Xf e1
 obtain rfl:=NP _ _ e6
 rw [e2,e3,e4,e5]
theorem DfP.Qar {p q:DfP} (h1:DL p.io p.x=DL q.io q.x) (h2:JZ p.tk p.c p.b=JZ q.tk q.c q.b):p.tk=q.tk∧p.x=q.x∧p.io=q.io∧p.c=q.c∧p.b=q.b:=by
 obtain ⟨tk,x,io,c,es,b⟩:=p
 obtain ⟨tk',x',io',c',es',b'⟩:=q
 simp only [DL,zQ,SV.bool.injEq,true_and,and_true] at h1
 simp only [JZ,zQ,Ob.box.injEq,Ob.row.injEq,SV.bool.injEq,SV.int.injEq,true_and,and_true] at h2
 obtain ⟨e1,e2⟩:=h1
 obtain ⟨e3,e4,e6⟩:=h2
 exact ⟨NP _ _ e6,Fm.Xf e1,e2,e4,e3⟩
def DfP.F (p:DfP):Prop:=TF p.tk p.x p.io p.c p.es p.b
def DfP.Z (p:DfP):Prop:=Zz p.tk p.x p.io p.c p.b
noncomputable def DfP.r (p:DfP):Fm × Int × List Df:=p.x.dfn p.tk p.io p.c
noncomputable def DfP.rF (p:DfP):SV × List Ob:=(dfR 4 p.r.1,JY p.tk p.r.2.1 (p.es++p.r.2.2.map Df.o) (p.b || CS p.r.2.2) p.r.1)
noncomputable def DfP.rZ (p:DfP):SV × List Ob:=(dfR 3 p.r.1,So p.tk p.r.2.1 p.r.2.2 (p.b || CS p.r.2.2) p.r.1)
noncomputable def OY (xs:List SV) (ob:List Ob):Option (SV × List Ob) :=
 open Classical in if h:∃ p:DfP,xs=DL p.io p.x∧ob=Gz p.tk p.c p.es p.b∧p.F then some h.choose.rF
 else if h:∃ p:DfP,xs=DL p.io p.x∧ob=JZ p.tk p.c p.b∧p.Z then some h.choose.rZ else none
theorem YB {tk:List ByteArray} {x:Fm} {io:Bool} {c:Int} {es:List (List OT)} {b:Bool} (h:TF tk x io c es b):OY (DL io x) (Gz tk c es b)=some (dfR 4 (x.dfn tk io c).1,JY tk (x.dfn tk io c).2.1 (es++(x.dfn tk io c).2.2.map Df.o) (b || CS (x.dfn tk io c).2.2) (x.dfn tk io c).1):=by
 have h0:∃ p:DfP,DL io x=DL p.io p.x∧Gz tk c es b=Gz p.tk p.c p.es p.b∧p.F:=⟨⟨tk,x,io,c,es,b⟩,rfl,rfl,h⟩
 have e:(⟨tk,x,io,c,es,b⟩:DfP)=h0.choose:=DfP.ext' h0.choose_spec.1 h0.choose_spec.2.1
 unfold OY
 rw [dif_pos h0,← e]
 rfl
theorem Xg {tk:List ByteArray} {x:Fm} {io:Bool} {c:Int} {b:Bool} (h:Zz tk x io c b):OY (DL io x) (JZ tk c b)=some (dfR 3 (x.dfn tk io c).1,So tk (x.dfn tk io c).2.1 (x.dfn tk io c).2.2 (b || CS (x.dfn tk io c).2.2) (x.dfn tk io c).1):=by
 have hn:¬ ∃ p:DfP,DL io x=DL p.io p.x∧JZ tk c b=Gz p.tk p.c p.es p.b∧p.F:=fun ⟨p,_,h2,_⟩=>by
  have:=congrArg xD h2
  simp at this
 have h0:∃ p:DfP,DL io x=DL p.io p.x∧JZ tk c b=JZ p.tk p.c p.b∧p.Z:=⟨⟨tk,x,io,c,[],b⟩,rfl,rfl,h⟩
 obtain ⟨e1,e2,e3,e4,e5⟩:=DfP.Qar (p:=⟨tk,x,io,c,[],b⟩) (q:=h0.choose) h0.choose_spec.1 h0.choose_spec.2.1
 unfold OY
 rw [dif_neg hn,dif_pos h0]
 unfold DfP.rZ DfP.r
 rw [←e1,← e2,← e3,← e4,← e5]
theorem Wb {xs:List SV} {ob:List Ob} {r:SV} {ob':List Ob} (h:OY xs ob=some (r,ob')):Fun Tryz.prog 27 xs ob r ob':=by
 unfold OY at h
 split at h
 ·rename_i h0
  have hs:=h0.choose_spec
  generalize h0.choose=y at hs h
  obtain ⟨h1,h2,h3⟩:=hs
  obtain ⟨rfl,rfl⟩:=zW (zJ h)
  rw [h1,h2]
  exact h3
 ·split at h
  ·rename_i h0
   have hs:=h0.choose_spec
   generalize h0.choose=y at hs h
   obtain ⟨h1,h2,h3⟩:=hs
   obtain ⟨rfl,rfl⟩:=zW (zJ h)
   rw [h1,h2]
   exact h3
  ·cases h
def Vo:List (Nat × FM)→Nat→FM
 | [],_=>⟨[],.asis,none,false⟩
 | (f,m) :: r,g=>bif f == g then m else Vo r g
theorem Wc {l:List (Nat × FM)} {f:Nat} {g:List SV→List Ob→Option (SV × List Ob)} (h:(Vo l f).ext=some g):∃ m,(f,m)∈l∧m.ext=some g:=by
 induction l with
 | nil=>cases h
 | cons x r ih =>
  obtain ⟨f',m⟩:=x
  simp only [Vo] at h
  cases e:f' == f with
  | true =>
   rw [e] at h
   obtain rfl:f'=f:=by simpa using e
   exact ⟨m,by simp,h⟩
  | false =>
   rw [e] at h
   obtain ⟨m',h1,h2⟩:=ih h
   exact ⟨m',by simp [h1],h2⟩
noncomputable def PN:List SV→Option SV
 | [.int .i64 k]=>bif dec (1≤k)&&dec (k≤1099511627776) then some (.str (BS k)) else none
 | _=>none
theorem TG {xs:List SV} {r:SV} (h:PN xs=some r):Fun Tryz.prog 33 xs [] r []:=by
 unfold PN at h
 split at h
 ·rename_i k
  obtain ⟨h1,h2⟩:=Aq h
  rw [zA,Ar,Ar] at h1
  obtain rfl:=zJ h2
  obtain ⟨n,rfl⟩:∃ n:Nat,k=n:=⟨k.toNat,by omega⟩
  refine Fun.T9 (rv:=.string (BS n)) (fun w I V=>by simp only [RepV,true_and]; exact TA (by omega) (by omega)) fun w I V vs h=>?_
  obtain ⟨v,r,rfl,h3,h⟩:=Dh h
  obtain rfl:=Mw h
  obtain rfl:=Vj h3
  exact QF n w (by omega) (by omega)
 ·cases h
def Xh:List SV→Option SV
 | [.str s]=>some (.bool (Ba s))
 | _=>none
theorem We {xs:List SV} {r:SV} (h:Xh xs=some r):Fun Tryz.prog 71 xs [] r []:=by
 unfold Xh at h
 split at h
 ·rename_i s
  obtain rfl:=zJ h
  refine Fun.of_same (rv:=.bool (Ba s)) (fun w I V=>by simp only [RepV]) fun w I V vs h=>?_
  obtain ⟨v,r,rfl,h3,h⟩:=Dh h
  obtain rfl:=Mw h
  obtain ⟨rfl,h4⟩:=MZ h3
  exact NO s w h4
 ·cases h
def Xi:List SV→Option SV
 | [.str s]=>some (.bool (Ba s))
 | _=>none
theorem Wg {xs:List SV} {r:SV} (h:Xi xs=some r):Fun Tryz.prog 68 xs [] r []:=by
 unfold Xi at h
 split at h
 ·rename_i s
  obtain rfl:=zJ h
  refine Fun.of_same (rv:=.bool (Ba s)) (fun w I V=>by simp only [RepV]) fun w I V vs h=>?_
  obtain ⟨v,r,rfl,h3,h⟩:=Dh h
  obtain rfl:=Mw h
  obtain ⟨rfl,h4⟩:=MZ h3
  exact Wa s w h4
 ·cases h
def Xj:List SV→Option SV
 | [.str s]=>some (.bool (CD s))
 | _=>none
theorem Wh {xs:List SV} {r:SV} (h:Xj xs=some r):Fun Tryz.prog 77 xs [] r []:=by
 unfold Xj at h
 split at h
 ·rename_i s
  obtain rfl:=zJ h
  refine Fun.T9 (rv:=.bool (CD s)) (fun w I V=>by simp only [RepV]) fun w I V vs h=>?_
  obtain ⟨v,r,rfl,h3,h⟩:=Dh h
  obtain rfl:=Mw h
  obtain ⟨rfl,h4⟩:=MZ h3
  exact QH s w h4
 ·cases h
def Xk:List SV→Option SV
 | [.str s]=>some (.bool (CD s))
 | _=>none
theorem Wi {xs:List SV} {r:SV} (h:Xk xs=some r):Fun Tryz.prog 106 xs [] r []:=by
 unfold Xk at h
 split at h
 ·rename_i s
  obtain rfl:=zJ h
  refine Fun.of_same (rv:=.bool (CD s)) (fun w I V=>by simp only [RepV]) fun w I V vs h=>?_
  obtain ⟨v,r,rfl,h3,h⟩:=Dh h
  obtain rfl:=Mw h
  obtain ⟨rfl,h4⟩:=MZ h3
  exact QI s w h4
 ·cases h
noncomputable def modes:FuncId→FM:=Vo [(33,⟨[],.asis,some (Js PN),false⟩),(71,⟨[],.asis,some (Js Xh),false⟩),(68,⟨[],.asis,some (Js Xi),false⟩),(77,⟨[],.asis,some (Js Xj),false⟩),(106,⟨[],.asis,some (Js Xk),false⟩),(86,⟨[true],.asis,some L2,false⟩),(82,⟨[true],.asis,some sortStr,false⟩),(27,⟨[],.asis,some OY,false⟩),(80,⟨[],.asis,some (Js PM),false⟩),(35,⟨[true],.asis,none,true⟩),(31,⟨[true],.asis,none,false⟩),(32,⟨[true],.asis,none,true⟩),(10,⟨[true],.asis,none,false⟩),(11,⟨[true],.asis,none,true⟩),(34,⟨[true],.asis,none,true⟩),(99,⟨[],.own [some (31,2)],none,false⟩),(43,⟨[],.own [none,some (31,2)],none,false⟩),(85,⟨[],.frz,none,false⟩),(81,⟨[true],.asis,none,false⟩),(55,⟨[true],.own [some (9,1)],none,false⟩),(56,⟨[],.own [none,none,some (31,2),none,some (34,5)],none,false⟩),(60,⟨[true],.own [none,none,some (31,2),none,some (34,5)],none,false⟩),(61,⟨[],.own [some (31,2)],none,false⟩),(57,⟨[],.own [none,none,some (31,2),none,some (34,5)],none,false⟩),(46,⟨[true],.asis,none,false⟩),(20,⟨[true],.asis,none,false⟩),(26,⟨[true],.own [some (9,1)],none,false⟩),(54,⟨[],.frz,none,false⟩),(19,⟨[false,false,false,true],.own [none,none,some (31,2),none,some (34,5),some (56,7)],none,false⟩),(5,⟨[],.frl [13],none,false⟩),(7,⟨[],.own [none,none,some (31,2),none,some (34,5),some (56,7),none],none,false⟩),(108,⟨[true],.asis,none,false⟩),(67,⟨[true],.asis,none,false⟩),(45,⟨[],.asis,none,false⟩)]
theorem noExt {l:List (Nat × FM)} (h:(l.all fun p=>p.2.ext.isNone)=true) {f:Nat} {m:FM} {g:List SV→List Ob→Option (SV × List Ob)} (h1:(f,m)∈l) (h2:m.ext=some g):False:=by
 have h3:=zS.1 h _ h1
 rw [h2] at h3
 cases h3
theorem H1:K5 Tryz.prog modes:=by
 intro f g xs ob r ob' hg hx
 obtain ⟨m,h1,h2⟩:=Wc hg
 rcases zN.1 h1 with h1 | h1
 ·obtain ⟨rfl,rfl⟩:=zW h1
  obtain rfl:=zJ h2
  exact Fe TG hx
 rcases zN.1 h1 with h1 | h1
 ·obtain ⟨rfl,rfl⟩:=zW h1
  obtain rfl:=zJ h2
  exact Fe We hx
 rcases zN.1 h1 with h1 | h1
 ·obtain ⟨rfl,rfl⟩:=zW h1
  obtain rfl:=zJ h2
  exact Fe Wg hx
 rcases zN.1 h1 with h1 | h1
 ·obtain ⟨rfl,rfl⟩:=zW h1
  obtain rfl:=zJ h2
  exact Fe Wh hx
 rcases zN.1 h1 with h1 | h1
 ·obtain ⟨rfl,rfl⟩:=zW h1
  obtain rfl:=zJ h2
  exact Fe Wi hx
 rcases zN.1 h1 with h1 | h1
 ·obtain ⟨rfl,rfl⟩:=zW h1
  obtain rfl:=zJ h2
  exact Sk hx
 rcases zN.1 h1 with h1 | h1
 ·obtain ⟨rfl,rfl⟩:=zW h1
  obtain rfl:=zJ h2
  exact QJ hx
 rcases zN.1 h1 with h1 | h1
 ·obtain ⟨rfl,rfl⟩:=zW h1
  obtain rfl:=zJ h2
  exact Wb hx
 rcases zN.1 h1 with h1 | h1
 ·obtain ⟨rfl,rfl⟩:=zW h1
  obtain rfl:=zJ h2
  exact Fe TE hx
 exact (noExt rfl h1 h2).elim
noncomputable def E:FEnv:=ev Tryz.prog modes
noncomputable def calls:CallF:=Cq modes E
theorem E_told {f:FuncId} {xs:List SV} {ob:List Ob} {r:SV} {ob':List Ob} (h:E f xs ob=some (r,ob')):Fun Tryz.prog f xs ob r ob':=Vi Ij H1 f xs ob r ob' h
noncomputable def run (n0:Nat):SC→St→Option (X × St):=fr Tryz.prog calls (Hy n0)
def go (n0:Nat) (sc:SC) (st:St) (K:X→St→Prop):Prop:=∃ x st',run n0 sc st=some (x,st')∧K x st'
def QK (n0:Nat) (b:SC) (K:X→St→Prop):X→St→Prop
 | .normal,st=>go n0 b st K
 | .exit i,st=>K (.exit i) st
 | .ret,st=>K .ret st
def blk (id:Nat) (K:X→St→Prop):X→St→Prop
 | .normal,st=>K .normal st
 | .exit i,st=>if i=id then K .normal st else K (.exit i) st
 | .ret,st=>K .ret st
def NQ (r:Option St) (k:X→St→Prop):Prop :=
 match r with
 | some st=>k .normal st
 | none=>False
def NR (anc:List (List Nat)) (r:Option (List Ent × St)) (k:X→St→Prop):Prop :=
 match r with
 | some (es,st)=>obB anc [] (EI es) 0=true∧k .normal st
 | none=>False
def FS (v:SV) (a b:Unit→Prop):Prop :=
 match v with
 | .bool true=>a ()
 | .bool false=>b ()
 | _=>False
noncomputable def Ka (ops:List SOper) (st:St):Option St:=MA Tryz.prog calls ops st
noncomputable def Kb (ops:List SOper) (acc:List Ent) (st:St):Option (List Ent × St):=Gw Tryz.prog calls ops acc st
section
variable {n0:Nat} {st:St} {K:X→St→Prop}
theorem go_skip:go n0 .skip st K=K .normal st:=by
 refine propext ⟨fun ⟨x,st',h,k⟩=>?_,fun k=>⟨_,_,rfl,k⟩⟩
 obtain ⟨rfl,rfl⟩:X.normal=x∧st=st':=by simpa [run,fr] using h
 exact k
theorem QL {i:Nat}:go n0 (.exit i) st K=K (.exit i) st:=by
 refine propext ⟨fun ⟨x,st',h,k⟩=>?_,fun k=>⟨_,_,rfl,k⟩⟩
 obtain ⟨rfl,rfl⟩:X.exit i=x∧st=st':=by simpa [run,fr] using h
 exact k
theorem go_ret:go n0 .ret st K=K .ret st:=by
 refine propext ⟨fun ⟨x,st',h,k⟩=>?_,fun k=>⟨_,_,rfl,k⟩⟩
 obtain ⟨rfl,rfl⟩:X.ret=x∧st=st':=by simpa [run,fr] using h
 exact k
theorem TH {ops:List SOper}:go n0 (.reg ops) st K=NQ (Ka ops st) K:=by
 unfold NQ Ka
 refine propext ⟨fun ⟨x,st',h,k⟩=>?_,fun k=>?_⟩
 ·simp only [run,fr] at h
  split at h
  ·rename_i s hs
   simp only [zG,zL] at h
   obtain ⟨rfl,rfl⟩:=h
   first | exact k | (simp only [hs]; exact k)
  ·cases h
 ·split at k
  ·rename_i s hs
   exact ⟨.normal,s,by simp only [run,fr,hs],k⟩
  ·exact k.elim
theorem QM {anc:List (List Nat)} {ops:List SOper}:go n0 (.dreg anc ops) st K=NR anc (Kb ops [] st) K:=by
 unfold NR Kb
 refine propext ⟨fun ⟨x,st',h,k⟩=>?_,fun k=>?_⟩
 ·simp only [run,fr] at h
  split at h
  ·rename_i es s hs
   obtain ⟨h1,h2⟩:=Aq h
   simp only [zG,zL] at h2
   obtain ⟨rfl,rfl⟩:=h2
   first | exact ⟨h1,k⟩ | (simp only [hs]; exact ⟨h1,k⟩)
  ·cases h
 ·split at k
  ·rename_i es s hs
   exact ⟨.normal,s,by simp only [run,fr,hs,k.1,cond_true],k.2⟩
  ·exact k.elim
theorem TI {a b:SC}:go n0 (.seq a b) st K=go n0 a st (QK n0 b K):=by
 refine propext ⟨fun ⟨x,st',h,k⟩=>?_,fun ⟨x,st',h,k⟩=>?_⟩
 ·simp only [run,fr,BR] at h
  split at h
  ·rename_i s hs
   exact ⟨.normal,s,hs,x,st',h,k⟩
  ·rename_i i s hs
   simp only [zG,zL] at h
   obtain ⟨rfl,rfl⟩:=h
   exact ⟨_,_,hs,k⟩
  ·rename_i s hs
   simp only [zG,zL] at h
   obtain ⟨rfl,rfl⟩:=h
   exact ⟨_,_,hs,k⟩
  ·cases h
 ·simp only [run] at h
  cases x with
  | normal =>
   obtain ⟨x2,st2,h2,k2⟩:=k
   exact ⟨x2,st2,by simp only [run,fr,BR,h]; exact h2,k2⟩
  | exit i=>exact ⟨_,st',by simp only [run,fr,BR,h],k⟩
  | ret=>exact ⟨_,st',by simp only [run,fr,BR,h],k⟩
theorem NS {n:Nat} {b:SC}:go n0 (.ghost n b) st K=go n0 b (OR n st) K:=by simp only [go,run,fr]
theorem NT {id:Nat} {b:SC}:go n0 (.block id b) st K=go n0 b st (blk id K):=by
 refine propext ⟨fun ⟨x,st',h,k⟩=>?_,fun ⟨x,st',h,k⟩=>?_⟩
 ·simp only [run,fr,D5] at h
  split at h
  ·rename_i s hs
   simp only [zG,zL] at h
   obtain ⟨rfl,rfl⟩:=h
   exact ⟨.normal,s,hs,k⟩
  ·rename_i i s hs
   refine ⟨.exit i,s,hs,?_⟩
   simp only [blk]
   by_cases hi:i=id
   ·simp only [if_pos hi,zG,zL] at h ⊢
    obtain ⟨rfl,rfl⟩:=h
    exact k
   ·simp only [if_neg hi,zG,zL] at h ⊢
    obtain ⟨rfl,rfl⟩:=h
    exact k
  ·rename_i s hs
   simp only [zG,zL] at h
   obtain ⟨rfl,rfl⟩:=h
   exact ⟨_,s,hs,k⟩
  ·cases h
 ·simp only [run] at h
  cases x with
  | normal=>exact ⟨_,st',by simp only [run,fr,D5,h],k⟩
  | exit i =>
   simp only [blk] at k
   by_cases hi:i=id
   ·simp only [if_pos hi] at k
    exact ⟨.normal,st',by simp only [run,fr,D5,h,if_pos hi],k⟩
   ·simp only [if_neg hi] at k
    exact ⟨.exit i,st',by simp only [run,fr,D5,h,if_neg hi],k⟩
  | ret=>exact ⟨_,st',by simp only [run,fr,D5,h],k⟩
theorem Ab {q:SX} {a b:SC}:go n0 (.cond q a b) st K=FS (Au (gets st.sl) q) (fun _=>go n0 a st K) (fun _=>go n0 b st K):=by
 unfold FS
 refine propext ⟨fun ⟨x,st',h,k⟩=>?_,fun k=>?_⟩
 ·simp only [run,fr] at h
  split at h
  ·rename_i t ht
   simp only [ht]
   cases t with
   | true=>exact ⟨x,st',h,k⟩
   | false=>exact ⟨x,st',h,k⟩
  ·cases h
 ·split at k
  ·rename_i ht
   obtain ⟨x,st',h,k⟩:=k
   exact ⟨x,st',by simp only [run,fr,ht,cond_true]; exact h,k⟩
  ·rename_i ht
   obtain ⟨x,st',h,k⟩:=k
   exact ⟨x,st',by simp only [run,fr,ht,cond_false]; exact h,k⟩
  ·exact k.elim
theorem QN {a b:Unit→Prop}:FS (.bool true) a b=a ():=rfl
theorem QO {a b:Unit→Prop}:FS (.bool false) a b=b ():=rfl
theorem QP {t:Bool} {a b:Unit→Prop}:FS (.bool (!t)) a b=FS (.bool t) b a:=by cases t <;> rfl
theorem A6 {q:SX} {a b:SC} (h:Au (gets st.sl) q=.bool true) (k:go n0 a st K):go n0 (.cond q a b) st K:=by rw [Ab,h]; exact k
theorem A7 {q:SX} {a b:SC} (h:Au (gets st.sl) q=.bool false) (k:go n0 b st K):go n0 (.cond q a b) st K:=by rw [Ab,h]; exact k
theorem CX {t:Bool} {a b:Unit→Prop} (h1:t=true→a ()) (h2:t=false→b ()):FS (.bool t) a b:=by
 cases t with
 | true=>exact h1 rfl
 | false=>exact h2 rfl
theorem TJ {b:SC}:QK n0 b K .normal st=go n0 b st K:=rfl
theorem TK {b:SC} {i:Nat}:QK n0 b K (.exit i) st=K (.exit i) st:=rfl
theorem TL {b:SC}:QK n0 b K .ret st=K .ret st:=rfl
theorem Xl {id:Nat}:blk id K .normal st=K .normal st:=rfl
theorem Xm {id i:Nat}:blk id K (.exit i) st=if i=id then K .normal st else K (.exit i) st:=rfl
theorem Xn {id:Nat}:blk id K .ret st=K .ret st:=rfl
theorem QQ:NQ (some st) K=K .normal st:=rfl
def quiet:List Ent→Bool
 | []=>true
 | ⟨_,_,[],_⟩ :: r=>quiet r
 | ⟨_,_,_ :: _,_⟩ :: _=>false
theorem Fw {anc:List (List Nat)} {rd:List Nat} {j:Nat}:∀ {l:List Ent} {i:Nat},quiet l=true→ON anc rd [] j (EI l) i=true
 | [],i,_=>rfl
 | ⟨_,_,[],rdi⟩ :: r,i,h=>by
  have:=Fw (anc:=anc) (rd:=rd) (j:=j) (l:=r) (i:=i+1) h
  simp only [EI,zH,zU] at this ⊢
  simp only [ON,this,zT]
  have e1:meets [] (rd++[])=false:=rfl
  have e2:meets rdi []=false:=by cases rdi <;> simp [meets]
  rw [e1,e2]; rfl
theorem L3 {l l':List Ent} (h:quiet l=true) (h':quiet l'=true):quiet (l++l')=true:=by
 induction l with
 | nil=>exact h'
 | cons x r ih =>
  obtain ⟨a,b,c,d⟩:=x
  cases c with
  | nil=>exact ih h
  | cons _ _=>cases h
theorem GT {anc:List (List Nat)}:∀ {l pre:List Ent} {j:Nat},quiet pre=true→quiet l=true→obB anc (EI pre) (EI l) j=true
 | [],pre,j,_,_=>rfl
 | ⟨a,b,[],rd⟩ :: r,pre,j,hp,h=>by
  have e:=GT (anc:=anc) (l:=r) (pre:=pre++[⟨a,b,[],rd⟩]) (j:=j+1) (L3 hp rfl) h
  have e2:=Fw (anc:=anc) (rd:=rd) (j:=j) (i:=0) hp
  simp only [EI,yD,zH,zU] at e e2 ⊢
  simp only [obB,e2,e,zO]
theorem QR {anc:List (List Nat)} {es:List Ent}:NR anc (some (es,st)) K=match quiet es with
  | true=>K .normal st
  | false=>obB anc [] (EI es) 0=true∧K .normal st:=by
 show (obB anc [] (EI es) 0=true∧K .normal st)=_
 cases h:quiet es with
 | true=>exact propext ⟨fun h=>h.2,fun h'=>⟨GT (pre:=[]) rfl h,h'⟩⟩
 | false=>rfl
noncomputable def TM (r:List SOper) (e:Option (Ent × St)):Option St :=
 match e with
 | some (_,st)=>Ka r st
 | none=>none
noncomputable def TN (r:List SOper) (acc:List Ent) (e:Option (Ent × St)):Option (List Ent × St) :=
 match e with
 | some (x,st)=>Kb r (acc++[x]) st
 | none=>none
noncomputable def opF (so:SOp) (sl:List SV) (ob:List Ob):Option R3:=fOp Tryz.prog calls so sl ob
theorem NU:Ka [] st=some st:=rfl
theorem L4 {d:Option Tmp} {so:SOp} {r:List SOper} {sl:List SV} {ob:List Ob}:Ka (⟨d,none,so⟩ :: r) ⟨sl,ob⟩=TM r (Fn d ⟨sl,ob⟩ (opF so sl ob)):=rfl
noncomputable def gdF (d:Option Tmp) (so:SOp) (want:Bool) (sl:List SV) (ob:List Ob) (v:SV):Option (Ent × St) :=
 match v with
 | .bool b=>bif RT b want then Fn d ⟨sl,ob⟩ (opF so sl ob) else some (⟨false,.tup [],[],[]⟩,⟨D3 sl d (.tup []),ob⟩)
 | .tup []=>some (⟨false,.tup [],[],[]⟩,⟨D3 sl d (.tup []),ob⟩)
 | _=>none
theorem QS {d:Option Tmp} {k:Nat} {want:Bool} {so:SOp} {r:List SOper} {sl:List SV} {ob:List Ob}:Ka (⟨d,some (k,want),so⟩ :: r) ⟨sl,ob⟩=TM r (gdF d so want sl ob (gets sl k)):=rfl
theorem NV {acc:List Ent}:Kb [] acc st=some (acc,st):=rfl
theorem L5 {d:Option Tmp} {so:SOp} {r:List SOper} {acc:List Ent} {sl:List SV} {ob:List Ob}:Kb (⟨d,none,so⟩ :: r) acc ⟨sl,ob⟩=TN r acc (Fn d ⟨sl,ob⟩ (opF so sl ob)):=rfl
theorem QT {d:Option Tmp} {k:Nat} {want:Bool} {so:SOp} {r:List SOper} {acc:List Ent} {sl:List SV} {ob:List Ob}:Kb (⟨d,some (k,want),so⟩ :: r) acc ⟨sl,ob⟩=TN r acc (gdF d so want sl ob (gets sl k)):=rfl
theorem TO {r:List SOper} {e:Ent}:TM r (some (e,st))=Ka r st:=rfl
theorem TP {r:List SOper} {acc:List Ent} {e:Ent}:TN r acc (some (e,st))=Kb r (acc++[e]) st:=rfl
theorem Xo {d:Option Tmp} {so:SOp} {sl:List SV} {ob:List Ob}:gdF d so true sl ob (.bool true)=Fn d ⟨sl,ob⟩ (opF so sl ob):=rfl
theorem TQ {d:Option Tmp} {so:SOp} {sl:List SV} {ob:List Ob}:gdF d so false sl ob (.bool false)=Fn d ⟨sl,ob⟩ (opF so sl ob):=rfl
theorem TR {d:Option Tmp} {so:SOp} {sl:List SV} {ob:List Ob}:gdF d so true sl ob (.bool false)=some (⟨false,.tup [],[],[]⟩,⟨D3 sl d (.tup []),ob⟩):=rfl
theorem TS {d:Option Tmp} {so:SOp} {sl:List SV} {ob:List Ob}:gdF d so false sl ob (.bool true)=some (⟨false,.tup [],[],[]⟩,⟨D3 sl d (.tup []),ob⟩):=rfl
theorem Xp {d:Option Tmp} {so:SOp} {want:Bool} {sl:List SV} {ob:List Ob}:gdF d so want sl ob (.tup [])=some (⟨false,.tup [],[],[]⟩,⟨D3 sl d (.tup []),ob⟩):=rfl
theorem TT {d:Option Tmp} {x:SV} {rd:List Nat}:Fn d st (some (x,[],rd))=some (⟨true,x,[],rd⟩,⟨D3 st.sl d x,st.ob⟩):=rfl
theorem TU {d:Option Tmp} {x:SV} {q:Nat × Ob} {u:List (Nat × Ob)} {rd:List Nat}:Fn d st (some (x,q :: u,rd))=bif RR (C5 st.ob (q :: u)).length (q :: u) then some (⟨true,x,q :: u,rd⟩,⟨D3 st.sl d x,C5 st.ob (q :: u)⟩) else none:=rfl
def It (ob:List Ob) (xs:List SV) (sel:List Nat) (r:Option (SV × List Ob)) (n:Nat):Option R3 :=
 match r with
 | some (r,fob')=>bif decide (n≤fob'.length) then some (Dg sel (AV sel xs) ob.length r fob') else none
 | none=>none
def TV (hd:List Bool) (f:FuncId) (xs:List SV) (ob:List Ob) (sel:List Nat) (e:List SV→List Ob→Option (SV × List Ob)) (b:Option (List Ob)):Option R3 :=
 match b with
 | some fob=>bif Eh sel&&Gx ob.length sel&&Ey fob.length fob then It ob xs sel (e (Ee hd (An ob) sel xs) fob) fob.length else none
 | none=>none
def NW (hd:List Bool) (f:FuncId) (xs:List SV) (ob:List Ob) (sel:List Nat) (e:List SV→List Ob→Option (SV × List Ob)):Option R3:=TV hd f xs ob sel e (D1 sel ob sel)
theorem NX {f:FuncId} {xs:List SV} {ob:List Ob}:calls f xs ob=Cp (modes f).res (NW (modes f).hand f xs ob (reach ob 64 (E9 (modes f).hand xs) []) (E f)):=rfl
theorem TW {r:Option R3}:Cp .asis r=r:=rfl
theorem TX {r:Option R3}:Cp .frz r=r:=rfl
theorem TY {l:List (Option (Nat × Nat))} {r:Option R3}:Cp (.own l) r=r:=rfl
theorem TZ {l:List (Option (Nat × Nat))} {r:Option R3}:Cp (.half l) r=r:=rfl
theorem Ua {l:List (Option (Nat × Nat))} {r:Option R3}:Cp (.tr l) r=r:=rfl
theorem Ub {d n:Nat} {r:Option R3}:Cp (.frzg d n) r=r:=rfl
theorem Uc {d n:Nat} {l:List (Option (Nat × Nat))} {r:Option R3}:Cp (.halfg d n l) r=r:=rfl
theorem Ud {l:List Nat} {r:Option R3}:Cp (.frl l) r=r:=rfl
theorem Ue {r:R3}:Cp .late (some r)=N6 r:=rfl
theorem D8:∀ u:List (Nat × Ob),Cj [] u=u
 | []=>rfl
 | (g,o) :: u=>by rw [Cj,D8 u]; rfl
theorem Uf {m:RM} {b:Bool} {u:List (Nat × Ob)} {rd:List Nat}:Cp m (some (.bool b,u,rd))=some (.bool b,u,rd):=by
 cases m <;> first | rfl | (show some (SV.bool b,Cj [] u,rd)=_; rw [D8])
theorem Ug {m:RM} {k:IntKind} {n:Int} {u:List (Nat × Ob)} {rd:List Nat}:Cp m (some (.int k n,u,rd))=some (.int k n,u,rd):=by
 cases m <;> first | rfl | (show some (SV.int k n,Cj [] u,rd)=_; rw [D8])
theorem L6 {hd:List Bool} {f:FuncId} {xs:List SV} {ob:List Ob} {e:List SV→List Ob→Option (SV × List Ob)}:NW hd f xs ob [] e=It ob xs [] (e (Ee hd (An ob) [] xs) []) 0:=rfl
theorem Kc {hd:List Bool} {f:FuncId} {xs:List SV} {ob:List Ob} {g:Nat} {r:List Nat} {e:List SV→List Ob→Option (SV × List Ob)}:NW hd f xs ob (g :: r) e=TV hd f xs ob (g :: r) e (D1 (g :: r) ob (g :: r)):=rfl
theorem QU {ob:List Ob} {xs:List SV} {r:SV} {fob':List Ob}:It ob xs [] (some (r,fob')) 0=some (Dg [] (AV [] xs) ob.length r fob'):=rfl
theorem QV {ob:List Ob} {xs:List SV} {sel:List Nat} {r:SV} {fob':List Ob} {n:Nat}:It ob xs sel (some (r,fob')) n=bif decide (n≤fob'.length) then some (Dg sel (AV sel xs) ob.length r fob') else none:=rfl
theorem Uh {hd:List Bool} {f:FuncId} {xs:List SV} {ob:List Ob} {sel:List Nat} {fob:List Ob} {e:List SV→List Ob→Option (SV × List Ob)}:TV hd f xs ob sel e (some fob)=bif Eh sel&&Gx ob.length sel&&Ey fob.length fob then It ob xs sel (e (Ee hd (An ob) sel xs) fob) fob.length else none:=rfl
theorem L7 {p:Nat} {r:SV}:Dg [] [] p r []=(r.ren (sgp [] p),[],[]):=rfl
def H2 {α:Type} (n0:Nat) (keep:List Nat) (H:α→St) (R:α→Prop) (μ:α→Nat) (a:α) (K:X→St→Prop):X→St→Prop
 | .normal,st'=>∃ y,R y∧μ y < μ a∧canon n0 keep st'=H y
 | .exit i,st'=>K (.exit i) st'
 | .ret,st'=>K .ret st'
theorem NY {α:Type} {keep:List Nat} {H:α→St} {R:α→Prop} {μ:α→Nat} {a:α} {st':St}:H2 n0 keep H R μ a K .normal st'=∃ y,R y∧μ y < μ a∧canon n0 keep st'=H y:=rfl
theorem NZ {α:Type} {keep:List Nat} {H:α→St} {R:α→Prop} {μ:α→Nat} {a:α} {i:Nat} {st':St}:H2 n0 keep H R μ a K (.exit i) st'=K (.exit i) st':=rfl
theorem Oa {α:Type} {keep:List Nat} {H:α→St} {R:α→Prop} {μ:α→Nat} {a:α} {st':St}:H2 n0 keep H R μ a K .ret st'=K .ret st':=rfl
theorem go_loop {α:Type} {keep:List Nat} {b:SC} (H:α→St) (R:α→Prop) (μ:α→Nat) (a0:α) (hR:R a0) (h0:canon n0 keep st=H a0) (round:∀ a,R a→go n0 b (H a) (H2 n0 keep H R μ a K)):go n0 (.loop keep b) st K:=by
 have key:∀ (n:Nat) (a:α) (st:St),μ a≤n→R a→canon n0 keep st=H a→∃ x st',NK n0 keep (run n0 b) st=some (x,st')∧K x st':=by
  intro n
  induction n with
  | zero =>
   intro a st hn hR hc
   obtain ⟨x,st',h,k⟩:=round a hR
   cases x with
   | normal =>
    obtain ⟨y,_,h2,_⟩:=k
    omega
   | exit i=>exact ⟨_,st',by rw [Du,hc,h]; rfl,k⟩
   | ret=>exact ⟨_,st',by rw [Du,hc,h]; rfl,k⟩
  | succ n ih =>
   intro a st hn hR hc
   obtain ⟨x,st',h,k⟩:=round a hR
   cases x with
   | normal =>
    obtain ⟨y,h1,h2,h3⟩:=k
    obtain ⟨x2,st2,h4,k2⟩:=ih y st' (by omega) h1 h3
    exact ⟨x2,st2,by rw [Du,hc,h]; exact h4,k2⟩
   | exit i=>exact ⟨_,st',by rw [Du,hc,h]; rfl,k⟩
   | ret=>exact ⟨_,st',by rw [Du,hc,h]; rfl,k⟩
 exact key (μ a0) a0 st (zP _) hR h0
def H3 (n0:Nat) (keep keepO:List Nat) (H:EL→St) (F:X × St) (p:EL):X→St→Prop
 | .normal,st'=>canon n0 keep st'=H p
 | .exit i,st'=>F=(.exit i,canon n0 keepO st')
 | .ret,st'=>F=(.ret,canon n0 keepO st')
def Sp (n0:Nat) (keepO:List Nat) (F:X × St):X→St→Prop
 | .normal,_=>False
 | .exit i,st'=>F=(.exit i,canon n0 keepO st')
 | .ret,st'=>F=(.ret,canon n0 keepO st')
theorem L8 {keep keepO:List Nat} {H:EL→St} {F:X × St} {p:EL} {st':St}:H3 n0 keep keepO H F p .normal st'=(canon n0 keep st'=H p):=rfl
theorem L9 {keep keepO:List Nat} {H:EL→St} {F:X × St} {p:EL} {i:Nat} {st':St}:H3 n0 keep keepO H F p (.exit i) st'=(F=(.exit i,canon n0 keepO st')):=rfl
theorem LA {keep keepO:List Nat} {H:EL→St} {F:X × St} {p:EL} {st':St}:H3 n0 keep keepO H F p .ret st'=(F=(.ret,canon n0 keepO st')):=rfl
theorem QW {keepO:List Nat} {F:X × St} {i:Nat} {st':St}:Sp n0 keepO F (.exit i) st'=(F=(.exit i,canon n0 keepO st')):=rfl
theorem QX {keepO:List Nat} {F:X × St} {st':St}:Sp n0 keepO F .ret st'=(F=(.ret,canon n0 keepO st')):=rfl
end
def slots:Nat→Nat→List (Nat × SV)→List SV
 | 0,_,_=>[]
 | n+1,k,[]=>.any :: slots n (k+1) []
 | n+1,k,(j,x) :: r=>bif j == k then x :: slots n (k+1) r else .any :: slots n (k+1) ((j,x) :: r)
def Sq (res:RM) (n0:Nat) (rs:List RX) (out:SV × List Ob) (x:X) (st:St):Prop:=fin res n0 rs x st=some out
def Ui (res:RM) (n0:Nat) (r:Option (SV × List Ob)):Option (SV × List Ob) :=
 match r with
 | some (r,ob)=>order res n0 r ob
 | none=>none
def K8 (res:RM) (n0:Nat) (ob:List Ob) (r:Option SV):Option (SV × List Ob) :=
 match r with
 | some r0=>Ui res n0 (gc n0 r0 ob)
 | none=>none
theorem Uj {res:RM} {n0:Nat} {rs:List RX} {out:SV × List Ob} {sl:List SV} {ob:List Ob}:Sq res n0 rs out .ret ⟨sl,ob⟩=(K8 res n0 ob (Lp ⟨sl,ob⟩ rs)=some out):=rfl
theorem Uk {res:RM} {n0:Nat} {rs:List RX} {out:SV × List Ob} {sl:List SV} {ob:List Ob}:Sq res n0 rs out .normal ⟨sl,ob⟩=(K8 res n0 ob (Lp ⟨sl,ob⟩ rs)=some out):=rfl
theorem QY {res:RM} {n0:Nat} {ob:List Ob} {r:SV}:K8 res n0 ob (some r)=Ui res n0 (gc n0 r ob):=rfl
theorem Ul {n0:Nat} {r:SV} {ob:List Ob} {res:RM}:Ui res n0 (some (r,ob))=order res n0 r ob:=rfl
theorem Ai {f:FuncId} {fc:FC} {hand:List Bool} {res:RM} {tr:Bool} {xs:List SV} {ob:List Ob} {out:SV × List Ob} (hc:Ap Tryz.prog f=some fc) (hr:modes f=⟨hand,res,none,tr⟩) (hn:xs.length≤fc.nt) (h:go ob.length (EB res fc.sc) ⟨xs++HX (fc.nt-xs.length),entry tr ob⟩ (Sq res ob.length fc.rs out)):E f xs ob=some out:=by
 obtain ⟨x,st',h1,h2⟩:=h
 unfold E
 rw [Xb]
 unfold Fq
 rw [hc,hr]
 simp only
 rw [decide_eq_true hn,cond_true]
 have h1:fr Tryz.prog (Cq modes (ev Tryz.prog modes)) (Hy ob.length) (EB res fc.sc) ⟨xs++HX (fc.nt-xs.length),entry tr ob⟩=some (x,st'):=h1
 rw [h1]
 exact h2
theorem Oc {f:FuncId} {g:List SV→List Ob→Option (SV × List Ob)} {xs:List SV} {ob:List Ob} (hg:(modes f).ext=some g):E f xs ob=g xs ob:=by
 unfold E
 rw [Xb]
 unfold Fq
 rw [hg]
theorem PO {f:FuncId} {g:List SV→Option SV} {xs:List SV} {r:SV} (hg:(modes f).ext=some (Js g)) (h:g xs=some r):E f xs []=some (r,[]):=by
 rw [Oc hg]
 simp only [Js,h]
theorem Bz:modes 33=⟨[],.asis,some (Js PN),false⟩:=by unfold modes; rfl
theorem Bt {k:Int} (h1:1≤k) (h2:k≤1099511627776):E 33 [.int .i64 k] []=some (.str (BS k),[]):=by
 refine PO (g:=PN) (by unfold modes; rfl) ?_
 simp only [PN,Ao h1,Ao h2,zO,cond_true]
theorem Ae:modes 71=⟨[],.asis,some (Js Xh),false⟩:=by unfold modes; rfl
theorem C9 (s:ByteArray):E 71 [.str s] []=some (.bool (Ba s),[]):=PO (g:=Xh) (congrArg FM.ext Ae) rfl
theorem Al:modes 68=⟨[],.asis,some (Js Xi),false⟩:=by unfold modes; rfl
theorem E0 (s:ByteArray):E 68 [.str s] []=some (.bool (Ba s),[]):=PO (g:=Xi) (congrArg FM.ext Al) rfl
theorem AC:modes 77=⟨[],.asis,some (Js Xj),false⟩:=by unfold modes; rfl
theorem Es (s:ByteArray):E 77 [.str s] []=some (.bool (CD s),[]):=PO (g:=Xj) (congrArg FM.ext AC) rfl
theorem Bf:modes 106=⟨[],.asis,some (Js Xk),false⟩:=by unfold modes; rfl
theorem Od (s:ByteArray):E 106 [.str s] []=some (.bool (CD s),[]):=PO (g:=Xk) (congrArg FM.ext Bf) rfl
theorem Vp {n:Int} (h1:-9223372036854775808≤n) (h2:n≤9223372036854775807):dec (inK .i64 n)=true:=Ao (Y2.2 ⟨h1,h2⟩)
theorem get_at {α β:Type} (f:α→β) {xs:List α} {k:Nat} (h:k<xs.length):(xs.map f)[k]?=some (f xs[k]):=by rw [z6,yZ h]; rfl
theorem B8 (left:Int) (n:Nat):((n:Int)≤left∧szR left n=left-n)∨(left<n∧szR left n=-1):=by
 unfold szR; split <;> omega
mutual
def D.fit:D→Prop
 | .int _=>True
 | .byte _=>True
 | .nl=>True
 | .bool _=>True
 | .str s=>s.size≤9223372036854775807
 | .arr es=>es.length≤9223372036854775807∧D.Sr es
def D.fits:List D→Prop
 | []=>True
 | x :: r=>D.fit x∧D.fits r
def D.Sr:List (List D)→Prop
 | []=>True
 | x :: r=>D.fits x∧D.Sr r
end
theorem D.Vq:∀ {l:List D},(∀ (j:Nat) (h:j<l.length),D.fit l[j])→D.fits l
 | [],_=>trivial
 | x :: r,h=>⟨h 0 (by simp),D.Vq fun j hj=>h (j+1) (by simpa using hj)⟩
theorem D.Ss:∀ {es:List (List D)},(∀ (i:Nat) (h:i<es.length),D.fits es[i])→D.Sr es
 | [],_=>trivial
 | x :: r,h=>⟨h 0 (by simp),D.Ss fun j hj=>h (j+1) (by simpa using hj)⟩
theorem D.LB {α:Type} {f:α→List D}:∀ {xs:List α},D.Sr (xs.map f)→∀ x∈xs,D.fits (f x)
 | [],_,x,h=>by cases h
 | y :: r,h,x,hx=>by
  simp only [zH,D.Sr] at h
  rcases zN.1 hx with rfl | hx
  ·exact h.1
  ·exact D.LB h.2 x hx
theorem DRep.fit {own:Bool} {w:World} {S:Nat→Prop} {d:D} {v:Value} (h:DRep own w S d v):D.fit d:=by
 induction h with
 | int=>trivial
 | byte=>trivial
 | nl=>trivial
 | bool=>trivial
 | str S s h=>exact h
 | arr S sz es a cap f Sub h1 h2 h3 h4 h5 h6 h7 ih=>exact ⟨Nat.le_trans h1 h2,D.Ss fun i hi=>D.Vq fun j hj=>ih i j hi hj⟩
theorem Zf:dec True=true:=Ao trivial
theorem Zg:dec False=false:=Aj fun h=>h
attribute [go_sem] Vg Vf Uc Ub NS OR SC.CP UX pfx DH Ip OT.Gy OT.P9 OT.half TZ Vd Ee P3 SV.isNil Ob.idsB SV.idsB SV.K0 List.getElem?_cons_zero List.getElem?_cons_succ OT.AK OT.DC OT.full entry toTree Sc PB Sa BT Fd DG UP Ng Ty OT.erss OT.ers OT.er OT.Ci OT.E7 OT.noSh quiet obB ON EI meets Hp go_skip QL go_ret TH QM TI NT QN QO QP TJ TK TL Xl Xm Xn QQ QR NU L4 QS NV L5 QT TO TP Xo TQ TR TS Xp TT TU NX TW TX TY Ua Ud Ue Uf Ug N6 P6 Cj seen L6 Kc QU QV Uh L7 Dg NY NZ Oa Uj Uk QY Ul order opF fOp Ei RL WT RJ RK UO Hu eqK Au gets An HW D3 C5 JN M9 A9 RR SV.cellsN SV.one Ic splice Dl Q2 Ib Jz CW Bo BE AX FO GG R4 eOp.mkEs eOp.addS D.sv OT.sv D.ot Gv Eh reach SV.refs SV.N4 SV.ptrs SV.N5 Ob.refs Ob.liveB E9 D1 SV.back SV.K2 Ob.back Gu GN BW AV AW Gx Ey SV.ren SV.GK Ob.ren mkU sgp gc K3 names RZ JU UT UU UV Lv VT UY UZ Va Vb Ve Vh SC.mark ND EA slots Lp RI rxV HX P5 SV.noSh SV.Kz Ob.noSh SV.own SV.OQ Ej cond_true cond_false zF yG zH zU List.drop_succ_cons zC List.drop_nil List.take_succ_cons xE List.take_nil yE xC List.cons_append y4 List.all_nil List.getD_cons_zero List.getD_cons_succ yO List.any_nil List.contains_cons List.contains_nil List.isEmpty_nil List.isEmpty_cons List.flatten_cons List.flatten_nil yS List.replicate_zero yV List.set_cons_succ y8 yJ zP zK zT y5 zO Bool.or_false xF Bool.true_or Bool.or_true Bool.not_true Bool.not_false yW yK decide_true decide_false beq_self_eq_true if_true if_false xB Option.map_none zG yN Option.getD_none Int.toNat_natCast true_and and_true and_self eq_self_iff_true zZ Bool.false_eq_true Bool.true_eq_false zL SV.int.injEq SV.bool.injEq SV.str.injEq SV.agg.injEq SV.tup.injEq SV.arr.injEq zQ St.mk.injEq Int.zero_add Zf Zg Vp Ao Aj Zv svK svD VH svM MV.sv R2 RO RP RQ Fj St.app QB MK.sv L8 L9 LA QW QX
attribute [go_sem_proc] Nat.reduceAdd Nat.reduceSub Nat.reduceLT Nat.reduceLeDiff Nat.reduceEqDiff Nat.reduceBEq Nat.reduceBneDiff Nat.reduceMul Int.reduceToNat Int.reduceNeg Int.reduceAdd reduceCtorEq
attribute [go_sem_proc ↓] reduceIte
theorem Na:∀ xs:List ByteArray,OT.AK (xs.map fun s=>[OT.str s])=true
 | []=>rfl
 | x :: xs=>by simp only [zH,OT.AK,OT.DC,OT.full,Na xs,zO]
theorem Vr:∀ xs:List Int,OT.AK (xs.map fun n=>[OT.int n])=true
 | []=>rfl
 | x :: xs=>by simp only [zH,OT.AK,OT.DC,OT.full,Vr xs,zO]
theorem Tm.fu_of:∀ xs:List Tm,(∀ x∈xs,OT.DC (Tm.o x)=true)→OT.AK (xs.map Tm.o)=true
 | [],_=>rfl
 | x :: xs,h=>by
  simp only [zH,OT.AK]
  rw [h x (by simp),Tm.fu_of xs fun y hy=>h y (by simp [hy])]; rfl
theorem Tm.fu (x:Tm):OT.DC (Tm.o x)=true:=by
 have h:=Tm.fu_of x.args fun y hy=>Tm.fu y
 rw [Tm.o_eq]
 simp only [OT.DC,OT.full,h,zO,zT]
termination_by SizeOf.sizeOf x
decreasing_by exact Tm.lt_of_mem hy
theorem Tm.fus (xs:List Tm):OT.AK (xs.map Tm.o)=true:=Tm.fu_of xs fun x _=>Tm.fu x
theorem Fm.fu_of:∀ xs:List Fm,(∀ x∈xs,OT.DC (Fm.o x)=true)→OT.AK (xs.map Fm.o)=true
 | [],_=>rfl
 | x :: xs,h=>by
  simp only [zH,OT.AK]
  rw [h x (by simp),Fm.fu_of xs fun y hy=>h y (by simp [hy])]; rfl
theorem Fm.fu (x:Fm):OT.DC (Fm.o x)=true:=by
 have h:=Fm.fu_of x.parts fun y hy=>Fm.fu y
 rw [Fm.o_eq]
 simp only [OT.DC,OT.full,h,Tm.fus,zO,zT]
termination_by SizeOf.sizeOf x
decreasing_by exact Fm.lt_of_mem hy
theorem Fm.fus (xs:List Fm):OT.AK (xs.map Fm.o)=true:=Fm.fu_of xs fun x _=>Fm.fu x
theorem Df.fu (x:Df):OT.DC (Df.o x)=true:=by
 simp only [Df.o,OT.DC,OT.full,Fm.fus,Tm.fus,Na,zO,zT]
theorem Df.fus:∀ xs:List Df,OT.AK (xs.map Df.o)=true
 | []=>rfl
 | x :: xs=>by simp only [zH,OT.AK,Df.fu,Df.fus xs,zO]
attribute [go_sem] Na Vr EW Y5 Vl Y6 Tm.fus Tm.erss Tm.noss Fm.fus Fm.erss Fm.noss Df.fus Df.erss Df.noss
theorem FT {α β:Type} (f:α→β) (dn rest:List α) (x y:α) {k:Nat} (h:dn.length=k):((dn++x :: rest).map f).set k (f y)=((dn++[y])++rest).map f:=by
 subst h
 rw [yD,List.set_append_right _ _ (by simp)]
 simp
theorem Cw {α:Type} (a:α):dec (a=a)=true:=Ao rfl
def FU {α β:Type} (f:α→β) (z:β) (xs:List α) (k:Nat):List β:=(xs.take k).map f++List.replicate (xs.length-k) z
section
variable {α β:Type} (f:α→β) (z:β) {xs:List α} {k:Nat}
theorem Kd:FU f z xs 0=List.replicate xs.length z:=by simp [FU]
theorem LC:(FU f z xs k).length=xs.length:=by simp [FU]; omega
theorem LE:FU f z xs xs.length=xs.map f:=by simp [FU]
theorem LF (h:k<xs.length):(FU f z xs k)[k]?=some z:=by
 have hl:((xs.take k).map f).length=k:=by simp; omega
 unfold FU
 rw [zR (by omega),hl,yL,List.getElem?_replicate]
 simp; omega
theorem LG (h:k<xs.length):(FU f z xs k).set k (f xs[k])=FU f z xs (k+1):=by
 have hl:((xs.take k).map f).length=k:=by simp; omega
 have e:List.take (k+1) xs=List.take k xs++[xs[k]]:=yM h
 unfold FU
 rw [List.set_append_right _ _ (by omega),hl,yL,e,yD,List.append_assoc]
 congr 1
 rw [show xs.length-k=(xs.length-(k+1))+1 by omega,yS,yV]
 rfl
end
theorem YC (a b:Int):(bif dec (a<b) then b else a)=max a b:=by
 by_cases h:a<b
 ·rw [Ao h,cond_true,Int.max_eq_right (by omega)]
 ·rw [Aj h,cond_false,Int.max_eq_left (by omega)]
def D9 {α:Type} (p:α→Bool):List α→Int→Int
 | [],_=>-1
 | x :: xs,i=>if p x then i else D9 p xs (i+1)
theorem Iu {α:Type} (p:α→Bool):∀ (xs:List α),dec (0≤D9 p xs 0)=xs.any p:=by
 have key:∀ (xs:List α) (i:Int),0≤i→(0≤D9 p xs i ↔ xs.any p=true):=by
  intro xs
  induction xs with
  | nil=>intro i h; simp [D9]
  | cons x xs ih =>
   intro i h
   simp only [D9,yO,yH]
   by_cases hp:p x=true
   ·simp [hp,h]
   ·rw [if_neg hp,ih (i+1) (by omega)]; simp [hp]
 intro xs
 cases h:xs.any p with
 | true=>exact Ao ((key xs 0 (by omega)).2 h)
 | false=>exact Aj fun h'=>by rw [(key xs 0 (by omega)).1 h'] at h; cases h
theorem Z0 {p q:Prop} (h:p ↔ q):dec p=dec q:=by rw [propext h]
theorem Tm.nodes_eq (x:Tm):x.nodes=1+Tm.nodeS x.args:=by
 obtain ⟨name,args⟩:=x
 rw [Tm.nodes]; rfl
theorem Tm.nodes_pos (x:Tm):1≤x.nodes:=by rw [Tm.nodes_eq]; omega
theorem Tm.nodes_le:∀ (xs:List Tm) (k:Nat) (h:k<xs.length),xs[k].nodes≤Tm.nodeS xs
 | [],k,h=>absurd h (by simp)
 | x :: xs,0,_=>by rw [Tm.nodeS]; simp
 | x :: xs,k+1,h=>by
  have:=Tm.nodes_le xs k (by simpa using h)
  rw [Tm.nodeS]; simp only [yA]; omega
theorem Tm.QZ (x:Tm):x.deep=Tm.FR x.args+1:=by
 obtain ⟨name,args⟩:=x
 rw [Tm.deep]; rfl
theorem Tm.Iv:∀ xs:List Tm,(∀ y∈xs,y.deep≤y.nodes)→Tm.FR xs≤Tm.nodeS xs
 | [],_=>by simp [Tm.FR]
 | x :: xs,h=>by
  have h1:=h x (by simp)
  have h2:=Tm.Iv xs fun y hy=>h y (by simp [hy])
  rw [Tm.FR,Tm.nodeS]; omega
theorem Tm.G0 (x:Tm):x.deep≤x.nodes:=by
 rw [Tm.QZ,Tm.nodes_eq]
 have:=Tm.Iv x.args fun y hy=>Tm.G0 y
 omega
termination_by SizeOf.sizeOf x
decreasing_by exact Tm.lt_of_mem hy
theorem Tm.Fx (x:Tm):x.names=if Ba x.name then x.args.length == 0 else CD x.name&&decide (x.args.length≤4)&&Tm.EO x.args:=by
 obtain ⟨name,args⟩:=x
 rw [Tm.names]; rfl
theorem Tm.GU:∀ xs:List Tm,Tm.EO xs=xs.all Tm.names
 | []=>rfl
 | x :: xs=>by rw [Tm.EO,Tm.GU xs]; rfl
theorem Tm.length_le:∀ xs:List Tm,xs.length≤Tm.nodeS xs
 | []=>zP _
 | x :: xs=>by
  have:=Tm.length_le xs
  have:=Tm.nodes_pos x
  rw [Tm.nodeS]; simp only [zF]; omega
theorem Tm.nodes_mem {xs:List Tm} {y:Tm} (h:y∈xs):y.nodes≤Tm.nodeS xs:=by
 obtain ⟨k,hk,rfl⟩:=yR h
 exact Tm.nodes_le xs k hk
theorem PP {xs:List Tm} (h:xs.length=2):Tm.EO xs=((xs[0]'(by omega)).names&&(xs[1]'(by omega)).names):=by
 match xs,h with
 | [a,b],_=>simp [Tm.EO]
mutual
def Tm.cap:Tm→Int
 | .mk _ xs=>Tm.capL xs 1
def Tm.capL:List Tm→Int→Int
 | [],n=>n
 | x :: xs,n=>if 30 < n then n else Tm.capL xs (n+Tm.cap x)
end
theorem Tm.cap_eq (x:Tm):x.cap=Tm.capL x.args 1:=by
 obtain ⟨n,xs⟩:=x
 rw [Tm.cap]; rfl
theorem Tm.capL_spec:∀ (xs:List Tm) (n:Int),(∀ x∈xs,1≤x.cap∧x.cap≤x.nodes∧(x.cap≤30→x.cap=x.nodes))→1≤n→n≤Tm.capL xs n∧Tm.capL xs n≤n+Tm.nodeS xs∧(Tm.capL xs n≤30→Tm.capL xs n=n+Tm.nodeS xs)
 | [],n,_,h=>by simp [Tm.capL,Tm.nodeS]
 | x :: xs,n,hx,h=>by
  rw [Tm.capL,Tm.nodeS]
  have h1:=hx x (by simp)
  split
  ·omega
  ·have:=Tm.capL_spec xs (n+x.cap) (fun y hy=>hx y (by simp [hy])) (by omega)
   omega
theorem Tm.cap_spec (x:Tm):1≤x.cap∧x.cap≤x.nodes∧(x.cap≤30→x.cap=x.nodes):=by
 rw [Tm.cap_eq,Tm.nodes_eq]
 have:=Tm.capL_spec x.args 1 (fun y hy=>Tm.cap_spec y) (by omega)
 omega
termination_by SizeOf.sizeOf x
decreasing_by exact Tm.lt_of_mem hy
mutual
def Tm.many:Tm→Int→Int
 | .mk _ xs,m=>Tm.manyL xs m 1
def Tm.manyL:List Tm→Int→Int→Int
 | [],_,n=>n
 | x :: xs,m,n=>if n≤m then Tm.manyL xs m (n+Tm.many x (m-n)) else n
end
theorem Tm.many_eq (x:Tm) (m:Int):x.many m=Tm.manyL x.args m 1:=by
 obtain ⟨n,xs⟩:=x
 rw [Tm.many]; rfl
theorem Tm.manyL_spec (m:Int):∀ (xs:List Tm) (n:Int),(∀ x∈xs,∀ m,0≤m→1≤x.many m∧x.many m≤x.nodes∧(x.many m≤m→x.many m=x.nodes))→1≤n→n≤Tm.manyL xs m n∧Tm.manyL xs m n≤n+Tm.nodeS xs∧(Tm.manyL xs m n≤m→Tm.manyL xs m n=n+Tm.nodeS xs)
 | [],n,_,h=>by simp [Tm.manyL,Tm.nodeS]
 | x :: xs,n,hx,h=>by
  rw [Tm.manyL,Tm.nodeS]
  split
  ·have h1:=hx x (by simp) (m-n) (by omega)
   have:=Tm.manyL_spec m xs (n+x.many (m-n)) (fun y hy=>hx y (by simp [hy])) (by omega)
   omega
  ·omega
theorem Tm.many_spec (x:Tm) (m:Int):1≤x.many m∧x.many m≤x.nodes∧(x.many m≤m→x.many m=x.nodes):=by
 rw [Tm.many_eq,Tm.nodes_eq]
 have:=Tm.manyL_spec m x.args 1 (fun y hy m _=>Tm.many_spec y m) (by omega)
 omega
termination_by SizeOf.sizeOf x
decreasing_by exact Tm.lt_of_mem hy
mutual
noncomputable def Tm.ap (f:ByteArray→Option Tm):Tm→Tm
 | .mk name args=>if Ba name then (f name).getD (.mk name []) else .mk name (Tm.apL f args)
noncomputable def Tm.apL (f:ByteArray→Option Tm):List Tm→List Tm
 | []=>[]
 | x :: xs=>Tm.ap f x :: Tm.apL f xs
end
theorem Tm.PQ {x:Tm} (h:x.names=true) (hv:Ba x.name=true):x.args=[]:=by
 rw [Tm.Fx,if_pos hv] at h
 exact zI (by simpa using h)
theorem Tm.GV {x:Tm} (h:x.names=true) {y:Tm} (hy:y∈x.args):y.names=true:=by
 rw [Tm.Fx] at h
 split at h
 ·have:x.args=[]:=zI (by simpa using h)
  rw [this] at hy; cases hy
 ·rw [zA,Tm.GU,zS] at h
  exact h.2 y hy
theorem Vs (u:Nat):Lib.decDigits u≠[]:=by
 rw [Lib.decDigits]
 split <;> simp
theorem Vt {a b:Nat} (ha:a<10) (hb:b<10) (h:UInt8.ofNat (48+a)=UInt8.ofNat (48+b)):a=b:=by
 have:=congrArg UInt8.toNat h
 rw [UInt8.toNat_ofNat',UInt8.toNat_ofNat'] at this
 omega
theorem Xq:∀ u v:Nat,Lib.decDigits u=Lib.decDigits v→u=v:=by
 intro u
 induction u using Nat.strongRecOn with
 | _ u ih =>
  intro v h
  rw [Lib.decDigits,Lib.decDigits.eq_def v] at h
  split at h <;> split at h
  ·rename_i h1 h2
   exact Vt h1 h2 (by simpa using h)
  ·rename_i h1 h2
   have:=congrArg xD h
   have hne:=Vs (v / 10)
   rw [zY] at this
   have:(Lib.decDigits (v / 10)).length=0:=by simp at this; simpa using this
   exact absurd (zI this) hne
  ·rename_i h1 h2
   have:=congrArg xD h
   have hne:=Vs (u / 10)
   rw [zY] at this
   have:(Lib.decDigits (u / 10)).length=0:=by simp at this; simpa using this
   exact absurd (zI this) hne
  ·rename_i h1 h2
   obtain ⟨e1,e2⟩:=List.append_inj' h rfl
   have e3:=ih (u / 10) (by omega) _ e1
   have e4:=Vt (Nat.mod_lt _ (by omega)) (Nat.mod_lt _ (by omega)) (by simpa using e2)
   omega
theorem Xr {a b:Int} (ha:0≤a) (hb:0≤b) (h:HY a=HY b):a=b:=by
 obtain ⟨u,rfl⟩:∃ u:Nat,a=u:=⟨a.toNat,by omega⟩
 obtain ⟨v,rfl⟩:∃ v:Nat,b=v:=⟨b.toNat,by omega⟩
 unfold HY at h
 rw [Lib.itoa_nonneg,Lib.itoa_nonneg] at h
 have:=Xq u v (by have:=congrArg (fun x:ByteArray=>x.data.toList) h; simpa using this)
 omega
theorem Um {n:Int} (h0:0≤n) (h:n<10):HY n=⟨#[UInt8.ofNat (48+n.toNat)]⟩:=by
 obtain ⟨u,rfl⟩:∃ u:Nat,n=u:=⟨n.toNat,by omega⟩
 unfold HY
 rw [Lib.itoa_nonneg,Lib.decDigits,dif_pos (by omega)]
 rfl
theorem Xs {n:Int} (h:10≤n):HY n=HY (n.tdiv 10)++⟨#[UInt8.ofNat (48+(n.tmod 10).toNat)]⟩:=by
 obtain ⟨u,rfl⟩:∃ u:Nat,n=u:=⟨n.toNat,by omega⟩
 have e1:(u:Int).tdiv 10=((u / 10:Nat):Int):=by rw [Int.tdiv_eq_ediv_of_nonneg (by omega)]; rfl
 have e2:((u:Int).tmod 10).toNat=u % 10:=by rw [Int.tmod_eq_emod_of_nonneg (by omega)]; omega
 rw [e1,e2]
 unfold HY
 rw [Lib.itoa_nonneg,Lib.itoa_nonneg,Lib.decDigits,dif_neg (by omega)]
 have key:∀ (x:List UInt8) (y:UInt8),(⟨(x++[y]).toArray⟩:ByteArray)=⟨x.toArray⟩++⟨#[y]⟩:=fun x y=>by
  have e:∀ a b:ByteArray,a.data=b.data→a=b:=fun a b h=>by cases a; cases b; cases h; rfl
  apply e
  simp
 exact key _ _
theorem YD {p:ByteArray} {a b:Int} (ha:0≤a) (hb:0≤b) (h:pre p a=pre p b):a=b:=by
 refine Xr ha hb ?_
 unfold pre at h
 simpa using h
noncomputable def beyond (p:ByteArray) (taken:List ByteArray) (c:Int):Nat:=(taken.filter fun s=>dec (∃ k:Int,c<k∧s=pre p k)).length
theorem LH (p:ByteArray) (taken:List ByteArray) (c:Int):beyond p taken c≤taken.length:=List.length_filter_le _ _
theorem Jk {p:ByteArray} {taken:List ByteArray} {c:Int} (hc:0≤c) (h:pre p (c+1)∈taken):beyond p taken (c+1)<beyond p taken c:=by
 unfold beyond
 refine filter_lt (fun x hx=>?_) h (Ao ⟨c+1,by omega,rfl⟩) (Aj ?_)
 ·rw [Ar] at hx ⊢
  obtain ⟨k,h1,h2⟩:=hx
  exact ⟨k,by omega,h2⟩
 ·rintro ⟨k,h1,h2⟩
  have:=YD (by omega) (by omega) h2
  omega
theorem K9 (p:ByteArray) (taken:List ByteArray):∀ (k:Nat) (c:Int),c<CL p taken k c∧CL p taken k c≤c+1+k
 | 0,c=>by rw [CL]; omega
 | k+1,c=>by
  have:=K9 p taken k (c+1)
  rw [CL]
  cases dec (pre p (c+1)∈taken) with
  | true=>rw [cond_true]; omega
  | false=>rw [cond_false]; omega
theorem FV {p:ByteArray} {taken:List ByteArray}:∀ (k j:Nat) (c:Int),0≤c→beyond p taken c<k→beyond p taken c<j→CL p taken k c=CL p taken j c
 | 0,_,_,_,h,_=>by omega
 | _,0,_,_,_,h=>by omega
 | k+1,j+1,c,hc,h1,h2=>by
  rw [CL,CL]
  by_cases h:pre p (c+1)∈taken
  ·have:=Jk hc h
   rw [Ao h,cond_true,cond_true]
   exact FV k j (c+1) (by omega) (by omega) (by omega)
  ·rw [Aj h]; rfl
theorem PR {p:ByteArray} {taken:List ByteArray} {c:Int} (hc:0≤c) (h:pre p (c+1)∈taken):fresh p taken c=fresh p taken (c+1):=by
 have h1:=Jk hc h
 have h2:=LH p taken c
 unfold fresh
 rw [CL,Ao h,cond_true]
 exact FV _ _ _ (by omega) (by omega) (by omega)
theorem PS {p:ByteArray} {taken:List ByteArray} {c:Int} (h:¬ pre p (c+1)∈taken):fresh p taken c=c+1:=by
 unfold fresh
 rw [CL,Aj h]; rfl
theorem CY (p:ByteArray) (taken:List ByteArray) (c:Int):c<fresh p taken c∧fresh p taken c≤c+2+taken.length:=by
 have:=K9 p taken (taken.length+1) c
 unfold fresh
 omega
theorem Fy:modes 80=⟨[],.asis,some (Js PM),false⟩:=by unfold modes; rfl
theorem Z1 (n:Int) (h0:0≤n) (h1:n≤1099511627776):E 80 [.int .i64 n] []=some (.str (HY n),[]) :=
 PO (g:=PM) (congrArg FM.ext Fy) (by simp only [PM,Ao (⟨h0,h1⟩:0≤n∧n≤1099511627776),cond_true])
def M1:SC:=(.seq (.reg [⟨some 1,none,.boxv 31 2 (.t 0)⟩,⟨some 2,none,.mv (.c (.int .i64 0))⟩]) (.seq (.reg [⟨some 3,none,.mv (.c (.int .i64 1))⟩]) (.seq (.seq (.reg [⟨some 6,none,.faddr 1 (.t 1)⟩,⟨some 7,none,.load false 1 (.t 6)⟩,⟨some 8,none,.len false (.t 7)⟩,⟨some 9,none,.mv (.c (.int .i64 0))⟩]) (.block 0 (.loop [0,0,0,1,0,0,0,1,1,1,0,0,0,0,0,0,0,0,0,0,0,0] (.seq (.reg [⟨some 10,none,.bin .lss false (.t 9) (.t 8)⟩]) (.seq (.cond (.t 10) .skip (.exit 0)) (.seq (.block 1 (.seq (.reg [⟨some 11,none,.iaddr 2 (.t 7) (.t 9)⟩,⟨some 12,none,.load true 2 (.t 11)⟩,⟨(some 5),none,(.alloc 31 [(.str ⟨#[]⟩),.nil])⟩,⟨none,none,(.store 2 (.t 5) (.t 12))⟩]) (.seq (.seq (.reg [⟨some 13,none,.mv (.t 3)⟩,⟨some 14,none,.bin .gtr false (.t 13) (.c (.int .i64 30))⟩]) (.cond (.t 14) (.seq (.reg [⟨some 15,none,.mv (.t 3)⟩,⟨some 2,none,.mv (.t 15)⟩]) .ret) .skip)) (.reg [⟨some 16,none,.mv (.t 3)⟩,⟨some 17,none,.load true 2 (.t 5)⟩,⟨some 18,none,.call 109 [(.t 17)]⟩,⟨some 19,none,.bin .add false (.t 16) (.t 18)⟩,⟨some 3,none,.mv (.t 19)⟩])))) (.reg [⟨some 20,none,.bin .add false (.t 9) (.c (.int .i64 1))⟩,⟨some 9,none,.mv (.t 20)⟩]))))))) (.seq (.reg [⟨some 21,none,.mv (.t 3)⟩,⟨some 2,none,.mv (.t 21)⟩]) .ret))))
theorem Su:Ap Tryz.prog 109=some ⟨22,M1,[(.tmp 2)]⟩:=by kernel_rfl
theorem EC:modes 109=⟨[],.asis,none,false⟩:=by unfold modes; rfl
theorem YE (x:Tm) (hn:x.nodes≤1099511627776) (ih:∀ y∈x.args,E 109 [y.sv] []=some (.int .i64 y.cap,[])):E 109 [x.sv] []=some (.int .i64 x.cap,[]):=by
 have hl:=Tm.length_le x.args
 have hx:=Tm.nodes_eq x
 rw [Tm.cap_eq]
 refine Ai Su EC (of_decide_eq_true rfl) ?_
 simp (disch:=omega) only [M1,go_sem,Ab]
 refine go_loop (α:=Int × Int) (fun a=>⟨slots 22 0 [(3,.int .i64 a.2),(7,.arr (x.args.map Tm.d)),(8,.int .i64 x.args.length),(9,.int .i64 a.1)],[]⟩) (fun a=>∃ k:Nat,a.1=k∧k≤x.args.length∧1≤a.2∧a.2+Tm.nodeS (x.args.drop k)≤x.nodes∧Tm.capL (x.args.drop k) a.2=Tm.capL x.args 1) (fun a=>x.args.length-a.1.toNat) (0,1) ⟨0,rfl,zK _,by dsimp only; omega,by rw [zC]; dsimp only; omega,rfl⟩ (by simp (disch:=omega) only [go_sem,Ab]) ?_
 rintro ⟨i,n⟩ ⟨k,hi,hk,hn0,hn1,hs⟩
 dsimp only at hi hn0 hn1 hs
 have hni:i.toNat=k:=by omega
 rcases zD k x.args.length with hlt | hge
 ·have hg:=get_at Tm.d hlt
  rw [Tm.d_eq] at hg
  have hd:x.args.drop k=x.args[k] :: x.args.drop (k+1):=zB hlt
  have hc:=ih x.args[k] (zM hlt)
  have hp:=Tm.cap_spec x.args[k]
  rw [hd,Tm.capL] at hs
  rw [hd,Tm.nodeS] at hn1
  rcases Int.lt_or_le 30 n with h30 | h30
  ·rw [if_pos h30] at hs
   simp (disch:=omega) only [go_sem,Ab,hni,hg,hc,EC]
   exact hs
  ·rw [if_neg (by omega)] at hs
   simp (disch:=omega) only [go_sem,Ab,hni,hg,hc,EC]
   refine ⟨(i+1,n+x.args[k].cap),⟨k+1,by dsimp only; omega,hlt,by dsimp only; omega,by dsimp only; omega,hs⟩,by dsimp only; omega,?_⟩
   simp only [and_self]
 ·have hd:x.args.drop k=[]:=zE hge
  rw [hd,Tm.capL] at hs
  simp (disch:=omega) only [go_sem,Ab,hni]
  exact hs
theorem Xt (x:Tm) (hn:x.nodes≤1099511627776):E 109 [x.sv] []=some (.int .i64 x.cap,[]) :=
 YE x hn fun y hy=>Xt y (by have:=Tm.nodes_mem hy; have:=Tm.nodes_eq x; omega)
termination_by SizeOf.sizeOf x
decreasing_by exact Tm.lt_of_mem hy
def J4:SC:=(.seq (.reg [⟨some 2,none,.boxv 31 2 (.t 0)⟩,⟨some 4,none,.mv (.c (.int .i64 0))⟩]) (.seq (.reg [⟨some 5,none,.mv (.c (.int .i64 1))⟩]) (.seq (.seq (.reg [⟨some 6,none,.mv (.c (.int .i64 0))⟩]) (.block 0 (.loop [0,1,1,0,0,1,1,0,0,0,0,0,0,0,0,0,0,0,0,0,0,0,0,0,0,0,0,0,0,0,0] (.seq (.seq (.reg [⟨some 7,none,.mv (.t 6)⟩,⟨some 8,none,.faddr 1 (.t 2)⟩,⟨some 9,none,.load false 1 (.t 8)⟩,⟨some 10,none,.len false (.t 9)⟩,⟨some 11,none,.bin .lss false (.t 7) (.t 10)⟩,⟨some 12,none,.mv (.t 11)⟩,⟨(some 13),(some (12,true)),(.mv (.t 5))⟩,⟨(some 14),(some (12,true)),(.mv (.t 1))⟩,⟨(some 15),(some (12,true)),(.bin .leq false (.t 13) (.t 14))⟩,⟨some 16,none,.pick (.t 12) (.t 15) (.c (.bool false))⟩]) (.cond (.t 16) .skip (.exit 0))) (.seq (.block 1 (.reg [⟨some 19,none,.mv (.t 5)⟩,⟨some 20,none,.faddr 1 (.t 2)⟩,⟨some 21,none,.load false 1 (.t 20)⟩,⟨some 22,none,.mv (.t 6)⟩,⟨some 23,none,.iaddr 2 (.t 21) (.t 22)⟩,⟨some 24,none,.load true 2 (.t 23)⟩,⟨some 25,none,.mv (.t 1)⟩,⟨some 26,none,.mv (.t 5)⟩,⟨some 27,none,.bin .sub false (.t 25) (.t 26)⟩,⟨some 28,none,.call 125 [(.t 24),(.t 27)]⟩,⟨some 29,none,.bin .add false (.t 19) (.t 28)⟩,⟨some 5,none,.mv (.t 29)⟩])) (.reg [⟨some 17,none,.mv (.t 6)⟩,⟨some 18,none,.bin .add false (.t 17) (.c (.int .i64 1))⟩,⟨some 6,none,.mv (.t 18)⟩])))))) (.seq (.reg [⟨some 30,none,.mv (.t 5)⟩,⟨some 4,none,.mv (.t 30)⟩]) .ret))))
theorem OZ:Ap Tryz.prog 125=some ⟨31,J4,[(.tmp 4)]⟩:=by kernel_rfl
theorem Dv:modes 125=⟨[],.asis,none,false⟩:=by unfold modes; rfl
theorem YF (x:Tm) (m:Int) (hm:0≤m) (hm1:m≤1099511627776) (hn:x.nodes≤1099511627776) (ih:∀ y∈x.args,∀ m:Int,0≤m→m≤1099511627776→E 125 [y.sv,.int .i64 m] []=some (.int .i64 (y.many m),[])):E 125 [x.sv,.int .i64 m] []=some (.int .i64 (x.many m),[]):=by
 have hl:=Tm.length_le x.args
 have hx:=Tm.nodes_eq x
 rw [Tm.many_eq]
 refine Ai OZ Dv (of_decide_eq_true rfl) ?_
 simp (disch:=omega) only [J4,go_sem,Ab]
 refine go_loop (α:=Int × Int) (fun a=>⟨slots 31 0 [(1,.int .i64 m),(2,.ptr 0 0),(5,.int .i64 a.2),(6,.int .i64 a.1)],[.box 31 [.str x.name,.arr (x.args.map Tm.d)]]⟩) (fun a=>∃ k:Nat,a.1=k∧k≤x.args.length∧1≤a.2∧a.2+Tm.nodeS (x.args.drop k)≤x.nodes∧Tm.manyL (x.args.drop k) m a.2=Tm.manyL x.args m 1) (fun a=>x.args.length-a.1.toNat) (0,1) ⟨0,rfl,zK _,by dsimp only; omega,by rw [zC]; dsimp only; omega,rfl⟩ (by simp (disch:=omega) only [go_sem,Ab]) ?_
 rintro ⟨i,n⟩ ⟨k,hi,hk,hn0,hn1,hs⟩
 dsimp only at hi hn0 hn1 hs
 have hni:i.toNat=k:=by omega
 rcases zD k x.args.length with hlt | hge
 ·have hg:=get_at Tm.d hlt
  rw [Tm.d_eq] at hg
  have hd:x.args.drop k=x.args[k] :: x.args.drop (k+1):=zB hlt
  rw [hd,Tm.manyL] at hs
  rw [hd,Tm.nodeS] at hn1
  rcases Int.lt_or_le m n with h30 | h30
  ·rw [if_neg (by omega)] at hs
   simp (disch:=omega) only [go_sem,Ab,hni,hg,Dv]
   exact hs
  ·rw [if_pos h30] at hs
   have hc:=ih x.args[k] (zM hlt) (m-n) (by omega) (by omega)
   have hp:=Tm.many_spec x.args[k] (m-n)
   simp (disch:=omega) only [go_sem,Ab,hni,hg,hc,Dv]
   refine ⟨(i+1,n+x.args[k].many (m-n)),⟨k+1,by dsimp only; omega,hlt,by dsimp only; omega,by dsimp only; omega,hs⟩,by dsimp only; omega,?_⟩
   simp only [and_self]
 ·have hd:x.args.drop k=[]:=zE hge
  rw [hd,Tm.manyL] at hs
  simp (disch:=omega) only [go_sem,Ab,hni]
  exact hs
theorem Xu (x:Tm) (m:Int) (hm:0≤m) (hm1:m≤1099511627776) (hn:x.nodes≤1099511627776):E 125 [x.sv,.int .i64 m] []=some (.int .i64 (x.many m),[]) :=
 YF x m hm hm1 hn fun y hy m hm hm1=>Xu y m hm hm1 (by have:=Tm.nodes_mem hy; have:=Tm.nodes_eq x; omega)
termination_by SizeOf.sizeOf x
decreasing_by exact Tm.lt_of_mem hy
def KA:SC:=(.seq (.reg [⟨some 1,none,.boxv 31 2 (.t 0)⟩,⟨some 2,none,.mv (.c (.int .i64 0))⟩]) (.seq (.reg [⟨some 3,none,.mv (.c (.int .i64 0))⟩]) (.seq (.seq (.reg [⟨some 6,none,.faddr 1 (.t 1)⟩,⟨some 7,none,.load false 1 (.t 6)⟩,⟨some 8,none,.len false (.t 7)⟩,⟨some 9,none,.mv (.c (.int .i64 0))⟩]) (.block 0 (.loop [0,0,0,1,0,0,0,1,1,1,0,0,0,0,0,0,0,0,0,0] (.seq (.reg [⟨some 10,none,.bin .lss false (.t 9) (.t 8)⟩]) (.seq (.cond (.t 10) .skip (.exit 0)) (.seq (.block 1 (.seq (.reg [⟨some 11,none,.iaddr 2 (.t 7) (.t 9)⟩,⟨some 12,none,.load true 2 (.t 11)⟩,⟨(some 5),none,(.alloc 31 [(.str ⟨#[]⟩),.nil])⟩,⟨none,none,(.store 2 (.t 5) (.t 12))⟩]) (.reg [⟨some 13,none,.mv (.t 3)⟩,⟨some 14,none,.load true 2 (.t 5)⟩,⟨some 15,none,.call 110 [(.t 14)]⟩,⟨some 16,none,.minmax true (.t 13) (.t 15)⟩,⟨some 3,none,.mv (.t 16)⟩]))) (.reg [⟨some 17,none,.bin .add false (.t 9) (.c (.int .i64 1))⟩,⟨some 9,none,.mv (.t 17)⟩]))))))) (.seq (.reg [⟨some 18,none,.mv (.t 3)⟩,⟨some 19,none,.bin .add false (.t 18) (.c (.int .i64 1))⟩,⟨some 2,none,.mv (.t 19)⟩]) .ret))))
theorem Ra:Ap Tryz.prog 110=some ⟨20,KA,[(.tmp 2)]⟩:=by kernel_rfl
theorem EX:modes 110=⟨[],.asis,none,false⟩:=by unfold modes; rfl
def J5:SC:=(.seq (.reg [⟨some 4,none,.mv (.c (.int .i64 0))⟩]) (.seq (.seq (.reg [⟨some 5,none,.mv (.t 0)⟩,⟨some 6,none,.mv (.t 1)⟩,⟨some 7,none,.bin .gtr false (.t 5) (.t 6)⟩]) (.cond (.t 7) (.seq (.reg [⟨some 8,none,.mv (.t 0)⟩,⟨some 4,none,.mv (.t 8)⟩]) .ret) .skip)) (.seq (.reg [⟨some 9,none,.mv (.t 1)⟩,⟨some 4,none,.mv (.t 9)⟩]) .ret)))
theorem Pa:Ap Tryz.prog 138=some ⟨10,J5,[(.tmp 4)]⟩:=by kernel_rfl
theorem J6:modes 138=⟨[],.asis,none,false⟩:=by unfold modes; rfl
def Iw:SC:=(.seq (.reg [⟨some 1,none,.boxv 31 2 (.t 0)⟩,⟨some 2,none,.mv (.c (.int .i64 0))⟩]) (.seq (.reg [⟨some 3,none,.mv (.c (.int .i64 0))⟩]) (.seq (.seq (.reg [⟨some 4,none,.mv (.c (.int .i64 0))⟩]) (.block 0 (.loop [0,1,0,1,1,0,0,0,0,0,0,0,0,0,0,0,0,0,0,0,0,0] (.seq (.seq (.reg [⟨some 5,none,.mv (.t 4)⟩,⟨some 6,none,.faddr 1 (.t 1)⟩,⟨some 7,none,.load false 1 (.t 6)⟩,⟨some 8,none,.len false (.t 7)⟩,⟨some 9,none,.bin .lss false (.t 5) (.t 8)⟩]) (.cond (.t 9) .skip (.exit 0))) (.seq (.block 1 (.reg [⟨some 12,none,.mv (.t 3)⟩,⟨some 13,none,.faddr 1 (.t 1)⟩,⟨some 14,none,.load false 1 (.t 13)⟩,⟨some 15,none,.mv (.t 4)⟩,⟨some 16,none,.iaddr 2 (.t 14) (.t 15)⟩,⟨some 17,none,.load true 2 (.t 16)⟩,⟨some 18,none,.call 126 [(.t 17)]⟩,⟨some 19,none,.call 138 [(.t 12),(.t 18)]⟩,⟨some 3,none,.mv (.t 19)⟩])) (.reg [⟨some 10,none,.mv (.t 4)⟩,⟨some 11,none,.bin .add false (.t 10) (.c (.int .i64 1))⟩,⟨some 4,none,.mv (.t 11)⟩])))))) (.seq (.reg [⟨some 20,none,.mv (.t 3)⟩,⟨some 21,none,.bin .add false (.t 20) (.c (.int .i64 1))⟩,⟨some 2,none,.mv (.t 21)⟩]) .ret))))
theorem Oe:Ap Tryz.prog 126=some ⟨22,Iw,[(.tmp 2)]⟩:=by kernel_rfl
theorem DM:modes 126=⟨[],.asis,none,false⟩:=by unfold modes; rfl
theorem Xv (a b:Int):E 138 [.int .i64 a,.int .i64 b] []=some (.int .i64 (max a b),[]):=by
 refine Ai Pa J6 (of_decide_eq_true rfl) ?_
 simp (disch:=omega) only [J5,go_sem,Ab]
 repeat' (refine CX (fun hq=>?_) (fun hq=>?_) <;> (first | replace hq:=Ar.1 hq | replace hq:=CN.1 hq) <;> (try simp (disch:=omega) only [go_sem,Ab]))
 all_goals omega
theorem Xw (x:Tm) (hn:x.nodes≤1099511627776) (ih:∀ y∈x.args,E 110 [y.sv] []=some (.int .i64 y.deep,[])):E 110 [x.sv] []=some (.int .i64 x.deep,[]):=by
 have hl:=Tm.length_le x.args
 have hx:=Tm.nodes_eq x
 have hd1:=Tm.QZ x
 have hd2:=Tm.G0 x
 refine Ai Ra EX (of_decide_eq_true rfl) ?_
 simp (disch:=omega) only [KA,go_sem,Ab]
 refine go_loop (α:=Int × (Int)) (fun a=>⟨slots 20 0 [(3,.int .i64 (a.2)),(7,.arr (x.args.map Tm.d)),(8,.int .i64 x.args.length),(9,.int .i64 (a.1))],[]⟩) (fun a=>∃ k:Nat,a.1=k∧k≤(x.args).length∧0≤(a.2)∧max (a.2) (Tm.FR (x.args.drop k):Nat)=(Tm.FR x.args:Nat)) (fun a=>(x.args).length-(a.1).toNat) (0,0) ⟨0,rfl,zK _,by dsimp only; omega,by rw [zC]; dsimp only; omega⟩ (by simp (disch:=omega) only [go_sem,Ab]) ?_
 rintro ⟨i,n⟩ ⟨k,hi,hk,hR⟩
 dsimp only at hi hR
 have hni:i.toNat=k:=by omega
 have hni1:(i+1).toNat=k+1:=by omega
 rcases zD k (x.args).length with hlt | hge
 ·have hg:=get_at Tm.d hlt
  rw [Tm.d_eq] at hg
  have hc:=ih x.args[k] (zM hlt)
  rw [zB hlt,Tm.FR] at hR
  simp (disch:=omega) only [go_sem,Ab,hni,hg,hc,EX,YC]
  refine ⟨(i+1,max n (x.args[k].deep:Int)),⟨k+1,by dsimp only; omega,hlt,by dsimp only; omega⟩,by dsimp only; omega,?_⟩
  simp only [and_self]
 ·rw [zE hge,Tm.FR] at hR
  simp (disch:=omega) only [go_sem,Ab,hni]
  omega
theorem Vu (x:Tm) (hn:x.nodes≤1099511627776):E 110 [x.sv] []=some (.int .i64 x.deep,[]) :=
 Xw x hn fun y hy=>Vu y (by have:=Tm.nodes_mem hy; have:=Tm.nodes_eq x; omega)
termination_by SizeOf.sizeOf x
decreasing_by exact Tm.lt_of_mem hy
theorem Un (x:Tm) (hn:x.nodes≤1099511627776) (ih:∀ y∈x.args,E 126 [y.sv] []=some (.int .i64 y.deep,[])):E 126 [x.sv] []=some (.int .i64 x.deep,[]):=by
 have hl:=Tm.length_le x.args
 have hx:=Tm.nodes_eq x
 have hd1:=Tm.QZ x
 have hd2:=Tm.G0 x
 refine Ai Oe DM (of_decide_eq_true rfl) ?_
 simp (disch:=omega) only [Iw,go_sem,Ab]
 refine go_loop (α:=Int × (Int)) (fun a=>⟨slots 22 0 [(1,.ptr 0 0),(3,.int .i64 (a.2)),(4,.int .i64 (a.1))],[.box 31 [.str x.name,.arr (x.args.map Tm.d)]]⟩) (fun a=>∃ k:Nat,a.1=k∧k≤(x.args).length∧0≤(a.2)∧max (a.2) (Tm.FR (x.args.drop k):Nat)=(Tm.FR x.args:Nat)) (fun a=>(x.args).length-(a.1).toNat) (0,0) ⟨0,rfl,zK _,by dsimp only; omega,by rw [zC]; dsimp only; omega⟩ (by simp (disch:=omega) only [go_sem,Ab]) ?_
 rintro ⟨i,n⟩ ⟨k,hi,hk,hR⟩
 dsimp only at hi hR
 have hni:i.toNat=k:=by omega
 have hni1:(i+1).toNat=k+1:=by omega
 rcases zD k (x.args).length with hlt | hge
 ·have hg:=get_at Tm.d hlt
  rw [Tm.d_eq] at hg
  have hc:=ih x.args[k] (zM hlt)
  rw [zB hlt,Tm.FR] at hR
  simp (disch:=omega) only [go_sem,Ab,hni,hg,hc,DM,Xv,J6]
  refine ⟨(i+1,max n (x.args[k].deep:Int)),⟨k+1,by dsimp only; omega,hlt,by dsimp only; omega⟩,by dsimp only; omega,?_⟩
  simp only [and_self]
 ·rw [zE hge,Tm.FR] at hR
  simp (disch:=omega) only [go_sem,Ab,hni]
  omega
theorem PT (x:Tm) (hn:x.nodes≤1099511627776):E 126 [x.sv] []=some (.int .i64 x.deep,[]) :=
 Un x hn fun y hy=>PT y (by have:=Tm.nodes_mem hy; have:=Tm.nodes_eq x; omega)
termination_by SizeOf.sizeOf x
decreasing_by exact Tm.lt_of_mem hy
def BK:SC:=(.seq (.reg [⟨some 4,none,.mv (.c (.int .i64 0))⟩]) (.seq (.seq (.reg [⟨some 6,none,.mv (.t 0)⟩,⟨some 7,none,.len false (.t 6)⟩,⟨some 8,none,.mv (.c (.int .i64 0))⟩]) (.block 0 (.loop [1,1,0,0,0,0,0,1,1,0,0,0,0,0,0,0,0,0,0] (.seq (.reg [⟨some 9,none,.bin .lss false (.t 8) (.t 7)⟩]) (.seq (.cond (.t 9) .skip (.exit 0)) (.seq (.block 1 (.seq (.reg [⟨some 10,none,.mv (.t 8)⟩,⟨some 5,none,.mv (.t 10)⟩]) (.seq (.reg [⟨some 11,none,.mv (.t 1)⟩,⟨some 12,none,.mv (.t 0)⟩,⟨some 13,none,.mv (.t 5)⟩,⟨some 14,none,.iaddr 2 (.t 12) (.t 13)⟩,⟨some 15,none,.load true 2 (.t 14)⟩,⟨some 16,none,.callv (.t 11) [(.t 15)]⟩]) (.cond (.t 16) (.seq (.reg [⟨some 17,none,.mv (.t 5)⟩,⟨some 4,none,.mv (.t 17)⟩]) .ret) .skip)))) (.reg [⟨some 18,none,.bin .add false (.t 8) (.c (.int .i64 1))⟩,⟨some 8,none,.mv (.t 18)⟩]))))))) (.seq (.reg [⟨some 4,none,.mv (.c (.int .i64 (-(0+1))))⟩]) .ret)))
theorem CZ:Ap Tryz.prog 127=some ⟨19,BK,[(.tmp 4)]⟩:=by kernel_rfl
theorem BL:modes 127=⟨[],.asis,none,false⟩:=by unfold modes; rfl
def B5:SC:=(.seq (.reg [⟨some 4,none,.mv (.c (.bool false))⟩]) (.seq (.reg [⟨some 5,none,.mv (.t 0)⟩,⟨some 6,none,.mv (.t 1)⟩,⟨some 7,none,.call 127 [(.t 5),(.t 6)]⟩,⟨some 8,none,.bin .geq false (.t 7) (.c (.int .i64 0))⟩,⟨some 4,none,.mv (.t 8)⟩]) .ret))
theorem CE:Ap Tryz.prog 111=some ⟨9,B5,[(.tmp 4)]⟩:=by kernel_rfl
theorem B6:modes 111=⟨[],.asis,none,false⟩:=by unfold modes; rfl
theorem MB (fid:Nat) (p:Tm→Bool) (xs:List Tm) (hl:xs.length≤1099511627776) (hg:HV Tryz.prog fid=true) (hm:(modes fid).hand=[]) (hE:∀ x∈xs,E fid [x.sv] []=some (.bool (p x),[])):E 127 [.arr (xs.map Tm.d),.fn fid []] []=some (.int .i64 (D9 p xs 0),[]):=by
 refine Ai CZ BL (of_decide_eq_true rfl) ?_
 simp (disch:=omega) only [BK,go_sem,Ab]
 refine go_loop (α:=Int) (fun a=>⟨slots 19 0 [(0,.arr (xs.map Tm.d)),(1,.fn fid []),(7,.int .i64 xs.length),(8,.int .i64 a)],[]⟩) (fun a=>∃ k:Nat,a=k∧k≤(xs).length∧D9 p (xs.drop k) a=D9 p xs 0) (fun a=>(xs).length-(a).toNat) 0 ⟨0,rfl,zK _,by rw [zC]⟩ (by simp (disch:=omega) only [go_sem,Ab]) ?_
 rintro i ⟨k,hi,hk,hR⟩
 have hni:i.toNat=k:=by omega
 have hni1:(i+1).toNat=k+1:=by omega
 rcases zD k (xs).length with hlt | hge
 ·have hg':=get_at Tm.d hlt
  rw [Tm.d_eq] at hg'
  have hc:=hE xs[k] (zM hlt)
  rw [zB hlt,D9] at hR
  cases hp:p xs[k] with
  | true =>
   rw [hp] at hc hR
   simp (disch:=omega) only [go_sem,Ab,hni,hg',hc,hg,hm]
   simpa using hR
  | false =>
   rw [hp] at hc hR
   simp (disch:=omega) only [go_sem,Ab,hni,hg',hc,hg,hm]
   exact ⟨i+1,⟨k+1,by omega,hlt,by simpa using hR⟩,by omega,by first | trivial | rfl⟩
 ·rw [zE hge,D9] at hR
  simp (disch:=omega) only [go_sem,Ab,hni]
  exact hR
theorem Ke (fid:Nat) (p:Tm→Bool) (xs:List Tm) (hl:xs.length≤1099511627776) (hg:HV Tryz.prog fid=true) (hm:(modes fid).hand=[]) (hE:∀ x∈xs,E fid [x.sv] []=some (.bool (p x),[])):E 111 [.arr (xs.map Tm.d),.fn fid []] []=some (.bool (xs.any p),[]):=by
 have h:=MB fid p xs hl hg hm hE
 refine Ai CE B6 (of_decide_eq_true rfl) ?_
 simp (disch:=omega) only [B5,go_sem,Ab,h,BL]
 rw [Iu]
def CF:SC:=(.seq (.reg [⟨some 1,none,.boxv 31 2 (.t 0)⟩,⟨some 2,none,.mv (.c (.bool false))⟩]) (.seq (.seq (.reg [⟨some 3,none,.faddr 0 (.t 1)⟩,⟨some 4,none,.load false 1 (.t 3)⟩,⟨some 5,none,.call 71 [(.t 4)]⟩]) (.cond (.t 5) (.seq (.reg [⟨some 6,none,.faddr 1 (.t 1)⟩,⟨some 7,none,.load false 1 (.t 6)⟩,⟨some 8,none,.len false (.t 7)⟩,⟨some 9,none,.bin .eql false (.t 8) (.c (.int .i64 0))⟩,⟨some 2,none,.mv (.t 9)⟩]) .ret) .skip)) (.seq (.reg [⟨some 10,none,.faddr 0 (.t 1)⟩,⟨some 11,none,.load false 1 (.t 10)⟩,⟨some 12,none,.call 77 [(.t 11)]⟩,⟨some 13,none,.mv (.t 12)⟩,⟨(some 14),(some (13,true)),(.faddr 1 (.t 1))⟩,⟨(some 15),(some (13,true)),(.load false 1 (.t 14))⟩,⟨(some 16),(some (13,true)),(.len false (.t 15))⟩,⟨(some 17),(some (13,true)),(.bin .leq false (.t 16) (.c (.int .i64 4)))⟩,⟨some 18,none,.pick (.t 13) (.t 17) (.c (.bool false))⟩,⟨some 19,none,.mv (.t 18)⟩,⟨(some 20),(some (19,true)),(.faddr 1 (.t 1))⟩,⟨(some 21),(some (19,true)),(.load false 1 (.t 20))⟩,⟨(some 22),(some (19,true)),(.call 111 [(.t 21),(.c (.fn 112 []))])⟩,⟨(some 23),(some (19,true)),(.un .not (.t 22))⟩,⟨some 24,none,.pick (.t 19) (.t 23) (.c (.bool false))⟩,⟨some 2,none,.mv (.t 24)⟩]) .ret)))
theorem D2:Ap Tryz.prog 95=some ⟨25,CF,[(.tmp 2)]⟩:=by kernel_rfl
theorem AJ:modes 95=⟨[],.asis,none,false⟩:=by unfold modes; rfl
def FW:SC:=(.seq (.reg [⟨some 1,none,.boxv 31 2 (.t 0)⟩,⟨some 2,none,.mv (.c (.bool false))⟩]) (.seq (.reg [⟨some 3,none,.load true 2 (.t 1)⟩,⟨some 4,none,.call 95 [(.t 3)]⟩,⟨some 5,none,.un .not (.t 4)⟩,⟨some 2,none,.mv (.t 5)⟩]) .ret))
theorem KB:Ap Tryz.prog 112=some ⟨6,FW,[(.tmp 2)]⟩:=by kernel_rfl
theorem FX:modes 112=⟨[],.asis,none,false⟩:=by unfold modes; rfl
theorem KC:HV Tryz.prog 112=true:=by kernel_rfl
theorem Tm.any_not (xs:List Tm):(!xs.any fun y=>!y.names)=Tm.EO xs:=by
 rw [Tm.GU]
 induction xs with
 | nil=>rfl
 | cons x xs ih=>simp only [yO,y4,Bool.not_or,Bool.not_not,ih]
theorem Sv (x:Tm) (hn:x.nodes≤1099511627776) (ih:∀ y∈x.args,E 95 [y.sv] []=some (.bool y.names,[])):E 95 [x.sv] []=some (.bool x.names,[]):=by
 have hl:=Tm.length_le x.args
 have hx:=Tm.nodes_eq x
 have h1:∀ y∈x.args,E 112 [y.sv] []=some (.bool (!y.names),[]):=fun y hy=>by
  have h:=ih y hy
  refine Ai KB FX (of_decide_eq_true rfl) ?_
  simp (disch:=omega) only [FW,go_sem,Ab,h,AJ]
 have h2:=Ke 112 (fun y=>!y.names) x.args (by omega) KC (by rw [FX]) h1
 rw [Tm.Fx,← Tm.any_not]
 cases hv:Ba x.name with
 | true =>
  have h3:=C9 x.name
  rw [hv] at h3
  refine Ai D2 AJ (of_decide_eq_true rfl) ?_
  simp (disch:=omega) only [CF,go_sem,Ab,h3,Ae]
  rw [JS]; cases x.args <;> simp <;> omega
 | false =>
  have h3:=C9 x.name
  rw [hv] at h3
  have h4:=Es x.name
  cases hs:CD x.name with
  | false =>
   rw [hs] at h4
   refine Ai D2 AJ (of_decide_eq_true rfl) ?_
   simp (disch:=omega) only [CF,go_sem,Ab,h2,h3,h4,Ae,AC]
  | true =>
   rw [hs] at h4
   rcases zD 4 x.args.length with h5 | h5
   ·refine Ai D2 AJ (of_decide_eq_true rfl) ?_
    simp (disch:=omega) only [CF,go_sem,Ab,h2,h3,h4,Ae,AC]
    simp; omega
   ·refine Ai D2 AJ (of_decide_eq_true rfl) ?_
    simp (disch:=omega) only [CF,go_sem,Ab,h2,h3,h4,Ae,AC,B6]
    simp [h5]
theorem H4 (x:Tm) (hn:x.nodes≤1099511627776):E 95 [x.sv] []=some (.bool x.names,[]) :=
 Sv x hn fun y hy=>H4 y (by have:=Tm.nodes_mem hy; have:=Tm.nodes_eq x; omega)
termination_by SizeOf.sizeOf x
decreasing_by exact Tm.lt_of_mem hy
def Da:SC:=(.seq (.reg [⟨some 1,none,.boxv 31 2 (.t 0)⟩,⟨some 2,none,.mv (.c (.bool false))⟩]) (.seq (.seq (.reg [⟨some 4,none,.faddr 0 (.t 1)⟩,⟨some 5,none,.load false 1 (.t 4)⟩,⟨some 6,none,.call 68 [(.t 5)]⟩]) (.cond (.t 6) (.seq (.reg [⟨some 7,none,.faddr 1 (.t 1)⟩,⟨some 8,none,.load false 1 (.t 7)⟩,⟨some 9,none,.len false (.t 8)⟩,⟨some 10,none,.bin .eql false (.t 9) (.c (.int .i64 0))⟩,⟨some 2,none,.mv (.t 10)⟩]) .ret) .skip)) (.seq (.seq (.reg [⟨some 11,none,.faddr 0 (.t 1)⟩,⟨some 12,none,.load false 1 (.t 11)⟩,⟨some 13,none,.call 106 [(.t 12)]⟩,⟨some 14,none,.un .not (.t 13)⟩,⟨some 15,none,.mv (.t 14)⟩,⟨(some 16),(some (15,false)),(.faddr 1 (.t 1))⟩,⟨(some 17),(some (15,false)),(.load false 1 (.t 16))⟩,⟨(some 18),(some (15,false)),(.len false (.t 17))⟩,⟨(some 19),(some (15,false)),(.bin .gtr false (.t 18) (.c (.int .i64 4)))⟩,⟨some 20,none,.pick (.t 15) (.c (.bool true)) (.t 19)⟩]) (.cond (.t 20) (.seq (.reg [⟨some 2,none,.mv (.c (.bool false))⟩]) .ret) .skip)) (.seq (.seq (.reg [⟨some 3,none,.mv (.c (.int .i64 0))⟩]) (.block 0 (.loop [0,1,0,1,0,0,0,0,0,0,0,0,0,0,0,0,0,0,0,0,0,0,0,0,0,0,0,0,0,0,0,0,0,0,0] (.seq (.seq (.reg [⟨some 21,none,.mv (.t 3)⟩,⟨some 22,none,.faddr 1 (.t 1)⟩,⟨some 23,none,.load false 1 (.t 22)⟩,⟨some 24,none,.len false (.t 23)⟩,⟨some 25,none,.bin .lss false (.t 21) (.t 24)⟩]) (.cond (.t 25) .skip (.exit 0))) (.seq (.block 1 (.seq (.reg [⟨some 28,none,.faddr 1 (.t 1)⟩,⟨some 29,none,.load false 1 (.t 28)⟩,⟨some 30,none,.mv (.t 3)⟩,⟨some 31,none,.iaddr 2 (.t 29) (.t 30)⟩,⟨some 32,none,.load true 2 (.t 31)⟩,⟨some 33,none,.call 105 [(.t 32)]⟩,⟨some 34,none,.un .not (.t 33)⟩]) (.cond (.t 34) (.seq (.reg [⟨some 2,none,.mv (.c (.bool false))⟩]) .ret) .skip))) (.reg [⟨some 26,none,.mv (.t 3)⟩,⟨some 27,none,.bin .add false (.t 26) (.c (.int .i64 1))⟩,⟨some 3,none,.mv (.t 27)⟩])))))) (.seq (.reg [⟨some 2,none,.mv (.c (.bool true))⟩]) .ret)))))
theorem DN:Ap Tryz.prog 105=some ⟨35,Da,[(.tmp 2)]⟩:=by kernel_rfl
theorem AL:modes 105=⟨[],.asis,none,false⟩:=by unfold modes; rfl
theorem Uo (x:Tm) (hn:x.nodes≤1099511627776) (ih:∀ y∈x.args,E 105 [y.sv] []=some (.bool y.names,[])):E 105 [x.sv] []=some (.bool x.names,[]):=by
 have hl:=Tm.length_le x.args
 have hx:=Tm.nodes_eq x
 have h3:=E0 x.name
 have h4:=Od x.name
 rw [Tm.Fx]
 cases hv:Ba x.name with
 | true =>
  rw [hv] at h3
  refine Ai DN AL (of_decide_eq_true rfl) ?_
  simp (disch:=omega) only [Da,go_sem,Ab,h3,Al]
  rw [JS]; cases x.args <;> simp <;> omega
 | false =>
  rw [hv] at h3
  cases hs:CD x.name with
  | false =>
   rw [hs] at h4
   refine Ai DN AL (of_decide_eq_true rfl) ?_
   simp (disch:=omega) only [Da,go_sem,Ab,h3,h4,Al,Bf]
  | true =>
   rw [hs] at h4
   rcases zD 4 x.args.length with h5 | h5
   ·refine Ai DN AL (of_decide_eq_true rfl) ?_
    simp (disch:=omega) only [Da,go_sem,Ab,h3,h4,Al,Bf]
    simp; omega
   ·refine Ai DN AL (of_decide_eq_true rfl) ?_
    simp (disch:=omega) only [Da,go_sem,Ab,h3,h4,Al,Bf]
    refine go_loop (α:=Int) (fun a=>⟨slots 35 0 [(1,.ptr 0 0),(3,.int .i64 a)],[.box 31 [.str x.name,.arr (x.args.map Tm.d)]]⟩) (fun a=>∃ k:Nat,a=k∧k≤(x.args).length∧Tm.EO (x.args.drop k)=Tm.EO x.args) (fun a=>(x.args).length-(a).toNat) 0 ⟨0,rfl,zK _,by rw [zC]⟩ (by simp (disch:=omega) only [go_sem,Ab]) ?_
    rintro i ⟨k,hi,hk,hR⟩
    have hni:i.toNat=k:=by omega
    have hni1:(i+1).toNat=k+1:=by omega
    rcases zD k (x.args).length with hlt | hge
    ·have hg:=get_at Tm.d hlt
     rw [Tm.d_eq] at hg
     have hc:=ih x.args[k] (zM hlt)
     rw [zB hlt,Tm.EO] at hR
     cases hp:x.args[k].names with
     | true =>
      rw [hp] at hc hR
      simp (disch:=omega) only [go_sem,Ab,hni,hg,hc,AL]
      exact ⟨i+1,⟨k+1,by omega,hlt,by simpa using hR⟩,by omega,by first | trivial | rfl⟩
     | false =>
      rw [hp] at hc hR
      simp (disch:=omega) only [go_sem,Ab,hni,hg,hc,AL]
      simp at hR ⊢; exact fun _=>hR
    ·rw [zE hge,Tm.EO] at hR
     simp (disch:=omega) only [go_sem,Ab,hni]
     simp [h5,← hR]
theorem Jl (x:Tm) (hn:x.nodes≤1099511627776):E 105 [x.sv] []=some (.bool x.names,[]) :=
 Uo x hn fun y hy=>Jl y (by have:=Tm.nodes_mem hy; have:=Tm.nodes_eq x; omega)
termination_by SizeOf.sizeOf x
decreasing_by exact Tm.lt_of_mem hy
def Fz:SC:=(.seq (.reg [⟨some 1,none,.boxv 31 2 (.t 0)⟩,⟨some 2,none,.mv (.c (.bool false))⟩]) (.seq (.reg [⟨some 3,none,.load true 2 (.t 1)⟩,⟨some 4,none,.call 109 [(.t 3)]⟩,⟨some 5,none,.bin .leq false (.t 4) (.c (.int .i64 30))⟩,⟨some 6,none,.mv (.t 5)⟩,⟨(some 7),(some (6,true)),(.load true 2 (.t 1))⟩,⟨(some 8),(some (6,true)),(.call 110 [(.t 7)])⟩,⟨(some 9),(some (6,true)),(.bin .leq false (.t 8) (.c (.int .i64 8)))⟩,⟨some 10,none,.pick (.t 6) (.t 9) (.c (.bool false))⟩,⟨some 2,none,.mv (.t 10)⟩]) .ret))
theorem Ix:Ap Tryz.prog 94=some ⟨11,Fz,[(.tmp 2)]⟩:=by kernel_rfl
theorem Bj:modes 94=⟨[],.asis,none,false⟩:=by unfold modes; rfl
def G1:SC:=(.seq (.reg [⟨some 1,none,.boxv 31 2 (.t 0)⟩,⟨some 2,none,.mv (.c (.bool false))⟩]) (.seq (.reg [⟨some 3,none,.load true 2 (.t 1)⟩,⟨some 4,none,.call 125 [(.t 3),(.c (.int .i64 30))]⟩,⟨some 5,none,.bin .leq false (.t 4) (.c (.int .i64 30))⟩,⟨some 6,none,.mv (.t 5)⟩,⟨(some 7),(some (6,true)),(.load true 2 (.t 1))⟩,⟨(some 8),(some (6,true)),(.call 126 [(.t 7)])⟩,⟨(some 9),(some (6,true)),(.bin .leq false (.t 8) (.c (.int .i64 8)))⟩,⟨some 10,none,.pick (.t 6) (.t 9) (.c (.bool false))⟩,⟨some 2,none,.mv (.t 10)⟩]) .ret))
theorem J7:Ap Tryz.prog 104=some ⟨11,G1,[(.tmp 2)]⟩:=by kernel_rfl
theorem Bs:modes 104=⟨[],.asis,none,false⟩:=by unfold modes; rfl
def DA:SC:=(.seq (.reg [⟨some 1,none,.boxv 31 2 (.t 0)⟩,⟨some 2,none,.mv (.c (.bool false))⟩]) (.seq (.reg [⟨some 3,none,.load true 2 (.t 1)⟩,⟨some 4,none,.call 94 [(.t 3)]⟩,⟨some 5,none,.mv (.t 4)⟩,⟨(some 6),(some (5,true)),(.load true 2 (.t 1))⟩,⟨(some 7),(some (5,true)),(.call 95 [(.t 6)])⟩,⟨some 8,none,.pick (.t 5) (.t 7) (.c (.bool false))⟩,⟨some 2,none,.mv (.t 8)⟩]) .ret))
theorem F0:Ap Tryz.prog 96=some ⟨9,DA,[(.tmp 2)]⟩:=by kernel_rfl
theorem Be:modes 96=⟨[],.asis,none,false⟩:=by unfold modes; rfl
def G2:SC:=(.seq (.reg [⟨some 1,none,.boxv 31 2 (.t 0)⟩,⟨some 2,none,.mv (.c (.bool false))⟩]) (.seq (.reg [⟨some 3,none,.load true 2 (.t 1)⟩,⟨some 4,none,.call 104 [(.t 3)]⟩,⟨some 5,none,.mv (.t 4)⟩,⟨(some 6),(some (5,true)),(.load true 2 (.t 1))⟩,⟨(some 7),(some (5,true)),(.call 105 [(.t 6)])⟩,⟨some 8,none,.pick (.t 5) (.t 7) (.c (.bool false))⟩,⟨some 2,none,.mv (.t 8)⟩]) .ret))
theorem J8:Ap Tryz.prog 107=some ⟨9,G2,[(.tmp 2)]⟩:=by kernel_rfl
theorem BX:modes 107=⟨[],.asis,none,false⟩:=by unfold modes; rfl
def FY:SC:=(.seq (.reg [⟨some 1,none,.boxv 31 2 (.t 0)⟩,⟨some 2,none,.mv (.c (.bool false))⟩]) (.seq (.reg [⟨some 3,none,.faddr 0 (.t 1)⟩,⟨some 4,none,.load false 1 (.t 3)⟩,⟨(some 5),none,(.bin .eql false (.t 4) (.c (.str ⟨#[61]⟩)))⟩,⟨some 2,none,.mv (.t 5)⟩]) .ret))
theorem KD:Ap Tryz.prog 93=some ⟨6,FY,[(.tmp 2)]⟩:=by kernel_rfl
theorem Bu:modes 93=⟨[],.asis,none,false⟩:=by unfold modes; rfl
def Bm:SC:=(.seq (.reg [⟨some 1,none,.boxv 31 2 (.t 0)⟩,⟨some 2,none,.mv (.c (.bool false))⟩]) (.seq (.seq (.reg [⟨some 3,none,.load true 2 (.t 1)⟩,⟨some 4,none,.call 93 [(.t 3)]⟩]) (.cond (.t 4) (.seq (.reg [⟨some 5,none,.faddr 1 (.t 1)⟩,⟨some 6,none,.load false 1 (.t 5)⟩,⟨some 7,none,.len false (.t 6)⟩,⟨some 8,none,.bin .eql false (.t 7) (.c (.int .i64 2))⟩,⟨some 9,none,.mv (.t 8)⟩,⟨(some 10),(some (9,true)),(.load true 2 (.t 1))⟩,⟨(some 11),(some (9,true)),(.call 94 [(.t 10)])⟩,⟨some 12,none,.pick (.t 9) (.t 11) (.c (.bool false))⟩,⟨some 13,none,.mv (.t 12)⟩,⟨(some 14),(some (13,true)),(.faddr 1 (.t 1))⟩,⟨(some 15),(some (13,true)),(.load false 1 (.t 14))⟩,⟨(some 16),(some (13,true)),(.iaddr 2 (.t 15) (.c (.int .i64 0)))⟩,⟨(some 17),(some (13,true)),(.load true 2 (.t 16))⟩,⟨(some 18),(some (13,true)),(.call 95 [(.t 17)])⟩,⟨some 19,none,.pick (.t 13) (.t 18) (.c (.bool false))⟩,⟨some 20,none,.mv (.t 19)⟩,⟨(some 21),(some (20,true)),(.faddr 1 (.t 1))⟩,⟨(some 22),(some (20,true)),(.load false 1 (.t 21))⟩,⟨(some 23),(some (20,true)),(.iaddr 2 (.t 22) (.c (.int .i64 1)))⟩,⟨(some 24),(some (20,true)),(.load true 2 (.t 23))⟩,⟨(some 25),(some (20,true)),(.call 95 [(.t 24)])⟩,⟨some 26,none,.pick (.t 20) (.t 25) (.c (.bool false))⟩,⟨some 2,none,.mv (.t 26)⟩]) .ret) .skip)) (.seq (.reg [⟨some 27,none,.faddr 0 (.t 1)⟩,⟨some 28,none,.load false 1 (.t 27)⟩,⟨some 29,none,.call 77 [(.t 28)]⟩,⟨some 30,none,.mv (.t 29)⟩,⟨(some 31),(some (30,true)),(.load true 2 (.t 1))⟩,⟨(some 32),(some (30,true)),(.call 96 [(.t 31)])⟩,⟨some 33,none,.pick (.t 30) (.t 32) (.c (.bool false))⟩,⟨some 2,none,.mv (.t 33)⟩]) .ret)))
theorem B9:Ap Tryz.prog 72=some ⟨34,Bm,[(.tmp 2)]⟩:=by kernel_rfl
theorem Ad:modes 72=⟨[],.asis,none,false⟩:=by unfold modes; rfl
def Cm:SC:=(.seq (.reg [⟨some 1,none,.boxv 31 2 (.t 0)⟩,⟨some 2,none,.mv (.c (.bool false))⟩]) (.seq (.seq (.reg [⟨some 3,none,.faddr 0 (.t 1)⟩,⟨some 4,none,.load false 1 (.t 3)⟩,⟨(some 5),none,(.bin .eql false (.t 4) (.c (.str ⟨#[61]⟩)))⟩]) (.cond (.t 5) (.seq (.reg [⟨some 6,none,.faddr 1 (.t 1)⟩,⟨some 7,none,.load false 1 (.t 6)⟩,⟨some 8,none,.len false (.t 7)⟩,⟨some 9,none,.bin .eql false (.t 8) (.c (.int .i64 2))⟩,⟨some 10,none,.mv (.t 9)⟩,⟨(some 11),(some (10,true)),(.load true 2 (.t 1))⟩,⟨(some 12),(some (10,true)),(.call 104 [(.t 11)])⟩,⟨some 13,none,.pick (.t 10) (.t 12) (.c (.bool false))⟩,⟨some 14,none,.mv (.t 13)⟩,⟨(some 15),(some (14,true)),(.faddr 1 (.t 1))⟩,⟨(some 16),(some (14,true)),(.load false 1 (.t 15))⟩,⟨(some 17),(some (14,true)),(.iaddr 2 (.t 16) (.c (.int .i64 0)))⟩,⟨(some 18),(some (14,true)),(.load true 2 (.t 17))⟩,⟨(some 19),(some (14,true)),(.call 105 [(.t 18)])⟩,⟨some 20,none,.pick (.t 14) (.t 19) (.c (.bool false))⟩,⟨some 21,none,.mv (.t 20)⟩,⟨(some 22),(some (21,true)),(.faddr 1 (.t 1))⟩,⟨(some 23),(some (21,true)),(.load false 1 (.t 22))⟩,⟨(some 24),(some (21,true)),(.iaddr 2 (.t 23) (.c (.int .i64 1)))⟩,⟨(some 25),(some (21,true)),(.load true 2 (.t 24))⟩,⟨(some 26),(some (21,true)),(.call 105 [(.t 25)])⟩,⟨some 27,none,.pick (.t 21) (.t 26) (.c (.bool false))⟩,⟨some 2,none,.mv (.t 27)⟩]) .ret) .skip)) (.seq (.reg [⟨some 28,none,.faddr 0 (.t 1)⟩,⟨some 29,none,.load false 1 (.t 28)⟩,⟨some 30,none,.call 106 [(.t 29)]⟩,⟨some 31,none,.mv (.t 30)⟩,⟨(some 32),(some (31,true)),(.load true 2 (.t 1))⟩,⟨(some 33),(some (31,true)),(.call 107 [(.t 32)])⟩,⟨some 34,none,.pick (.t 31) (.t 33) (.c (.bool false))⟩,⟨some 2,none,.mv (.t 34)⟩]) .ret)))
theorem CI:Ap Tryz.prog 84=some ⟨35,Cm,[(.tmp 2)]⟩:=by kernel_rfl
theorem Ak:modes 84=⟨[],.asis,none,false⟩:=by unfold modes; rfl
theorem PU (x:Tm) (hn:x.nodes≤1099511627776):E 94 [x.sv] []=some (.bool x.small,[]):=by
 have h1:=Xt x hn
 have h2:=Vu x hn
 have h3:=Tm.cap_spec x
 have h4:=Tm.many_spec x 30
 unfold Tm.small
 rcases zD 30 x.nodes with h5 | h5
 ·rw [decide_eq_false (by omega),yW]
  refine Ai Ix Bj (of_decide_eq_true rfl) ?_
  simp (disch:=omega) only [Fz,go_sem,Ab,h1,h2,EC,EX]
 ·rw [decide_eq_true h5,y5]
  refine Ai Ix Bj (of_decide_eq_true rfl) ?_
  simp (disch:=omega) only [Fz,go_sem,Ab,h1,h2,EC,EX]
  rcases zD 8 x.deep with h6 | h6
  ·rw [decide_eq_false (by omega),Aj (by omega)]
  ·rw [decide_eq_true h6,Ao (by omega)]
theorem Sw (x:Tm) (hn:x.nodes≤1099511627776):E 104 [x.sv] []=some (.bool x.small,[]):=by
 have h1:=Xu x 30 (by omega) (by omega) hn
 have h2:=PT x hn
 have h3:=Tm.cap_spec x
 have h4:=Tm.many_spec x 30
 unfold Tm.small
 rcases zD 30 x.nodes with h5 | h5
 ·rw [decide_eq_false (by omega),yW]
  refine Ai J7 Bs (of_decide_eq_true rfl) ?_
  simp (disch:=omega) only [G1,go_sem,Ab,h1,h2,Dv,DM]
 ·rw [decide_eq_true h5,y5]
  refine Ai J7 Bs (of_decide_eq_true rfl) ?_
  simp (disch:=omega) only [G1,go_sem,Ab,h1,h2,Dv,DM]
  rcases zD 8 x.deep with h6 | h6
  ·rw [decide_eq_false (by omega),Aj (by omega)]
  ·rw [decide_eq_true h6,Ao (by omega)]
theorem Pb (x:Tm) (hn:x.nodes≤1099511627776):E 96 [x.sv] []=some (.bool x.valid,[]):=by
 have h1:=PU x hn
 have h2:=H4 x hn
 unfold Tm.valid
 cases h3:x.small <;> rw [h3] at h1
 ·refine Ai F0 Be (of_decide_eq_true rfl) ?_
  simp (disch:=omega) only [DA,go_sem,Ab,h1,h2,Bj,AJ]
 ·refine Ai F0 Be (of_decide_eq_true rfl) ?_
  simp (disch:=omega) only [DA,go_sem,Ab,h1,h2,Bj,AJ]
theorem Xx (x:Tm) (hn:x.nodes≤1099511627776):E 107 [x.sv] []=some (.bool x.valid,[]):=by
 have h1:=Sw x hn
 have h2:=Jl x hn
 unfold Tm.valid
 cases h3:x.small <;> rw [h3] at h1
 ·refine Ai J8 BX (of_decide_eq_true rfl) ?_
  simp (disch:=omega) only [G2,go_sem,Ab,h1,h2,Bs,AL]
 ·refine Ai J8 BX (of_decide_eq_true rfl) ?_
  simp (disch:=omega) only [G2,go_sem,Ab,h1,h2,Bs,AL]
theorem KE (x:Tm):E 93 [x.sv] []=some (.bool x.eqn,[]):=by
 unfold Tm.eqn
 refine Ai KD Bu (of_decide_eq_true rfl) ?_
 simp (disch:=omega) only [FY,go_sem,Ab]
theorem Pc (x:Tm) (hn:x.nodes≤1099511627776):E 72 [x.sv] []=some (.bool x.atom,[]):=by
 have hl:=Tm.length_le x.args
 have hx:=Tm.nodes_eq x
 have h0:=KE x
 have h1:=PU x hn
 have h2:=Es x.name
 have h3:=Pb x hn
 have hE:dec (x.name=⟨#[61]⟩)=x.eqn:=rfl
 unfold Tm.atom
 cases he:x.eqn <;> rw [he] at h0 hE
 ·rw [if_neg (by simp)]
  cases hs:CD x.name <;> rw [hs] at h2
  ·refine Ai B9 Ad (of_decide_eq_true rfl) ?_
   simp (disch:=omega) only [Bm,go_sem,Ab,h0,h1,h2,h3,hE,Bj,AJ,AC,Be,Bu]
  ·refine Ai B9 Ad (of_decide_eq_true rfl) ?_
   simp (disch:=omega) only [Bm,go_sem,Ab,h0,h1,h2,h3,hE,Bj,AJ,AC,Be,Bu]
 ·rw [if_pos rfl]
  by_cases hc:x.args.length=2
  ·have hlt0:0<x.args.length:=by omega
   have hlt1:1<x.args.length:=by omega
   have hg0:=get_at Tm.d hlt0
   have hg1:=get_at Tm.d hlt1
   rw [Tm.d_eq] at hg0 hg1
   have hb0:=Tm.nodes_le x.args 0 hlt0
   have hb1:=Tm.nodes_le x.args 1 hlt1
   have hn0:=H4 x.args[0] (by omega)
   have hn1:=H4 x.args[1] (by omega)
   rw [PP hc,show (x.args.length == 2)=true by simpa using hc]
   cases hs:x.small <;> rw [hs] at h1
   ·refine Ai B9 Ad (of_decide_eq_true rfl) ?_
    simp (disch:=omega) only [Bm,go_sem,Ab,h0,h1,h2,h3,hE,hg0,hg1,hn0,hn1,hc,Bj,AJ,AC,Be,Bu]
    try simp
   ·cases hq:(x.args[0]'hlt0).names <;> rw [hq] at hn0
    ·refine Ai B9 Ad (of_decide_eq_true rfl) ?_
     simp (disch:=omega) only [Bm,go_sem,Ab,h0,h1,h2,h3,hE,hg0,hg1,hn0,hn1,hc,Bj,AJ,AC,Be,Bu]
     try simp
    ·refine Ai B9 Ad (of_decide_eq_true rfl) ?_
     simp (disch:=omega) only [Bm,go_sem,Ab,h0,h1,h2,h3,hE,hg0,hg1,hn0,hn1,hc,Bj,AJ,AC,Be,Bu]
     try simp
  ·refine Ai B9 Ad (of_decide_eq_true rfl) ?_
   simp (disch:=omega) only [Bm,go_sem,Ab,h0,h1,h2,h3,hE,Bj,AJ,AC,Be,Bu]
   rw [show (x.args.length == 2)=false by simpa using hc]
   try simp
theorem Xy (x:Tm) (hn:x.nodes≤1099511627776):E 84 [x.sv] []=some (.bool x.atom,[]):=by
 have hl:=Tm.length_le x.args
 have hx:=Tm.nodes_eq x
 have h0:=KE x
 have h1:=Sw x hn
 have h2:=Od x.name
 have h3:=Xx x hn
 have hE:dec (x.name=⟨#[61]⟩)=x.eqn:=rfl
 unfold Tm.atom
 cases he:x.eqn <;> rw [he] at h0 hE
 ·rw [if_neg (by simp)]
  cases hs:CD x.name <;> rw [hs] at h2
  ·refine Ai CI Ak (of_decide_eq_true rfl) ?_
   simp (disch:=omega) only [Cm,go_sem,Ab,h0,h1,h2,h3,hE,Bs,AL,Bf,BX]
  ·refine Ai CI Ak (of_decide_eq_true rfl) ?_
   simp (disch:=omega) only [Cm,go_sem,Ab,h0,h1,h2,h3,hE,Bs,AL,Bf,BX]
 ·rw [if_pos rfl]
  by_cases hc:x.args.length=2
  ·have hlt0:0<x.args.length:=by omega
   have hlt1:1<x.args.length:=by omega
   have hg0:=get_at Tm.d hlt0
   have hg1:=get_at Tm.d hlt1
   rw [Tm.d_eq] at hg0 hg1
   have hb0:=Tm.nodes_le x.args 0 hlt0
   have hb1:=Tm.nodes_le x.args 1 hlt1
   have hn0:=Jl x.args[0] (by omega)
   have hn1:=Jl x.args[1] (by omega)
   rw [PP hc,show (x.args.length == 2)=true by simpa using hc]
   cases hs:x.small <;> rw [hs] at h1
   ·refine Ai CI Ak (of_decide_eq_true rfl) ?_
    simp (disch:=omega) only [Cm,go_sem,Ab,h0,h1,h2,h3,hE,hg0,hg1,hn0,hn1,hc,Bs,AL,Bf,BX]
    try simp
   ·cases hq:(x.args[0]'hlt0).names <;> rw [hq] at hn0
    ·refine Ai CI Ak (of_decide_eq_true rfl) ?_
     simp (disch:=omega) only [Cm,go_sem,Ab,h0,h1,h2,h3,hE,hg0,hg1,hn0,hn1,hc,Bs,AL,Bf,BX]
     try simp
    ·refine Ai CI Ak (of_decide_eq_true rfl) ?_
     simp (disch:=omega) only [Cm,go_sem,Ab,h0,h1,h2,h3,hE,hg0,hg1,hn0,hn1,hc,Bs,AL,Bf,BX]
     try simp
  ·refine Ai CI Ak (of_decide_eq_true rfl) ?_
   simp (disch:=omega) only [Cm,go_sem,Ab,h0,h1,h2,h3,hE,Bs,AL,Bf,BX]
   rw [show (x.args.length == 2)=false by simpa using hc]
   try simp
theorem Tm.Up {x:Tm} (h:x.expr=true):x.small=true:=by
 unfold Tm.expr Tm.atom Tm.valid at h
 cases hs:x.small with
 | true=>rfl
 | false =>
  rw [hs] at h
  split at h <;> simp at h
theorem Tm.Uq {x:Tm} (h:x.expr=true):x.nodes≤30:=by
 have:=Tm.Up h
 unfold Tm.small at this
 rw [zA,decide_eq_true_eq] at this
 exact this.1
theorem Tm.Ur {x:Tm} (h:x.expr=true):x.names=true∨(x.eqn=true∧Tm.EO x.args=true):=by
 unfold Tm.expr Tm.valid at h
 cases hn:x.names with
 | true=>exact .inl rfl
 | false =>
  rw [hn,yK,xF] at h
  unfold Tm.atom at h
  split at h
  ·rename_i he
   rw [zA] at h
   exact .inr ⟨he,h.2⟩
  ·unfold Tm.valid at h; rw [hn,yK,yK] at h; cases h
theorem Tm.Xz {x:Tm} (h:x.expr=true) {y:Tm} (hy:y∈x.args):y.names=true:=by
 rcases Tm.Ur h with h1 | ⟨h1,h2⟩
 ·exact Tm.GV h1 hy
 ·rw [Tm.GU,zS] at h2; exact h2 y hy
theorem Tm.Of:∀ xs:List Tm,(∀ x∈xs,x.nodes≤1+x.bulk)→Tm.nodeS xs≤xs.length+Tm.sumB xs
 | [],_=>by simp [Tm.nodeS]
 | x :: xs,h=>by
  have h1:=h x (by simp)
  have h2:=Tm.Of xs fun y hy=>h y (by simp [hy])
  rw [Tm.nodeS,Tm.sumB]; simp only [zF]; omega
theorem Tm.Og (x:Tm):x.nodes≤1+x.bulk:=by
 rw [Tm.nodes_eq,Tm.bulk_eq]
 have:=Tm.Of x.args fun y hy=>Tm.Og y
 omega
termination_by SizeOf.sizeOf x
decreasing_by exact Tm.lt_of_mem hy
theorem LI {s:ByteArray} (h:Ba s=true):s.size≤6:=by
 unfold Ba inB at h
 simp at h
 omega
theorem PV {s:ByteArray} (h:CD s=true):s.size≤6:=by
 unfold CD inB at h
 simp at h
 omega
theorem Fm.nodes_eq (x:Fm):x.nodes=1+Fm.nodeS x.parts:=by
 obtain ⟨op,atom,var,parts⟩:=x
 rw [Fm.nodes]; rfl
theorem Fm.nodes_pos (x:Fm):1≤x.nodes:=by rw [Fm.nodes_eq]; omega
theorem Fm.nodes_le:∀ (xs:List Fm) (k:Nat) (h:k<xs.length),xs[k].nodes≤Fm.nodeS xs
 | [],k,h=>absurd h (by simp)
 | x :: xs,0,_=>by rw [Fm.nodeS]; simp
 | x :: xs,k+1,h=>by
  have:=Fm.nodes_le xs k (by simpa using h)
  rw [Fm.nodeS]; simp only [yA]; omega
theorem Fm.nodes_mem {xs:List Fm} {y:Fm} (h:y∈xs):y.nodes≤Fm.nodeS xs:=by
 obtain ⟨k,hk,rfl⟩:=yR h
 exact Fm.nodes_le xs k hk
mutual
def Fm.cap:Fm→Int
 | .mk _ _ _ xs=>Fm.capL xs 1
def Fm.capL:List Fm→Int→Int
 | [],n=>n
 | x :: xs,n=>if 40 < n then n else Fm.capL xs (n+Fm.cap x)
end
theorem Fm.cap_eq (x:Fm):x.cap=Fm.capL x.parts 1:=by
 obtain ⟨op,atom,var,xs⟩:=x
 rw [Fm.cap]; rfl
theorem Fm.capL_spec:∀ (xs:List Fm) (n:Int),(∀ x∈xs,1≤x.cap∧x.cap≤x.nodes∧(x.cap≤40→x.cap=x.nodes))→1≤n→n≤Fm.capL xs n∧Fm.capL xs n≤n+Fm.nodeS xs∧(Fm.capL xs n≤40→Fm.capL xs n=n+Fm.nodeS xs)
 | [],n,_,h=>by simp [Fm.capL,Fm.nodeS]
 | x :: xs,n,hx,h=>by
  rw [Fm.capL,Fm.nodeS]
  have h1:=hx x (by simp)
  split
  ·omega
  ·have:=Fm.capL_spec xs (n+x.cap) (fun y hy=>hx y (by simp [hy])) (by omega)
   omega
theorem Fm.cap_spec (x:Fm):1≤x.cap∧x.cap≤x.nodes∧(x.cap≤40→x.cap=x.nodes):=by
 rw [Fm.cap_eq,Fm.nodes_eq]
 have:=Fm.capL_spec x.parts 1 (fun y hy=>Fm.cap_spec y) (by omega)
 omega
termination_by SizeOf.sizeOf x
decreasing_by exact Fm.lt_of_mem hy
mutual
def Fm.many:Fm→Int→Int
 | .mk _ _ _ xs,m=>Fm.manyL xs m 1
def Fm.manyL:List Fm→Int→Int→Int
 | [],_,n=>n
 | x :: xs,m,n=>if n≤m then Fm.manyL xs m (n+Fm.many x (m-n)) else n
end
theorem Fm.many_eq (x:Fm) (m:Int):x.many m=Fm.manyL x.parts m 1:=by
 obtain ⟨op,atom,var,xs⟩:=x
 rw [Fm.many]; rfl
theorem Fm.manyL_spec (m:Int):∀ (xs:List Fm) (n:Int),(∀ x∈xs,∀ m,0≤m→1≤x.many m∧x.many m≤x.nodes∧(x.many m≤m→x.many m=x.nodes))→1≤n→n≤Fm.manyL xs m n∧Fm.manyL xs m n≤n+Fm.nodeS xs∧(Fm.manyL xs m n≤m→Fm.manyL xs m n=n+Fm.nodeS xs)
 | [],n,_,h=>by simp [Fm.manyL,Fm.nodeS]
 | x :: xs,n,hx,h=>by
  rw [Fm.manyL,Fm.nodeS]
  split
  ·have h1:=hx x (by simp) (m-n) (by omega)
   have:=Fm.manyL_spec m xs (n+x.many (m-n)) (fun y hy=>hx y (by simp [hy])) (by omega)
   omega
  ·omega
theorem Fm.many_spec (x:Fm) (m:Int):1≤x.many m∧x.many m≤x.nodes∧(x.many m≤m→x.many m=x.nodes):=by
 rw [Fm.many_eq,Fm.nodes_eq]
 have:=Fm.manyL_spec m x.parts 1 (fun y hy m _=>Fm.many_spec y m) (by omega)
 omega
termination_by SizeOf.sizeOf x
decreasing_by exact Fm.lt_of_mem hy
theorem Sx (n:Int):n=1∨n=2∨n=3∨n=4∨n=5∨n=6∨n=7∨n=8∨n=9∨(n≠1∧n≠2∧n≠3∧n≠4∧n≠5∧n≠6∧n≠7∧n≠8∧n≠9):=by omega
theorem Fm.DO (x:Fm):x.forms=(x.form&&Fm.J3 x.parts):=by
 obtain ⟨op,atom,var,parts⟩:=x
 rw [Fm.forms]; rfl
theorem Fm.LJ:∀ xs:List Fm,Fm.J3 xs=xs.all Fm.forms
 | []=>rfl
 | x :: xs=>by rw [Fm.J3,Fm.LJ xs]; rfl
theorem Fm.any_not (xs:List Fm):(!xs.any fun y=>!y.forms)=Fm.J3 xs:=by
 rw [Fm.LJ]
 induction xs with
 | nil=>rfl
 | cons x xs ih=>simp only [yO,y4,Bool.not_or,Bool.not_not,ih]
theorem Fm.length_le:∀ xs:List Fm,xs.length≤Fm.nodeS xs
 | []=>by simp
 | x :: xs=>by
  have h:=Fm.length_le xs
  have h1:=Fm.nodes_pos x
  rw [Fm.nodeS,zF]; omega
mutual
def Fm.tame:Fm→Prop
 | .mk _ atom _ parts=>atom.nodes≤1099511627776∧Fm.Iy parts
def Fm.Iy:List Fm→Prop
 | []=>True
 | x :: xs=>Fm.tame x∧Fm.Iy xs
end
theorem Fm.Rb (x:Fm):x.tame=(x.atom.nodes≤1099511627776∧Fm.Iy x.parts):=by
 obtain ⟨op,atom,var,parts⟩:=x
 rw [Fm.tame]; rfl
theorem Fm.PW:∀ {xs:List Fm},Fm.Iy xs→∀ y∈xs,y.tame
 | [],_,y,hy=>by cases hy
 | x :: xs,h,y,hy=>by
  rw [Fm.Iy] at h
  rcases zN.1 hy with rfl | hy
  ·exact h.1
  ·exact Fm.PW h.2 y hy
theorem Fm.Vv {x:Fm} (h:x.tame):x.atom.nodes≤1099511627776:=by rw [Fm.Rb] at h; exact h.1
theorem Fm.PX {x y:Fm} (h:x.tame) (hy:y∈x.parts):y.tame:=by rw [Fm.Rb] at h; exact Fm.PW h.2 y hy
mutual
def Fm.vn:Fm→Nat
 | .mk _ atom _ parts=>atom.nodes+Fm.vnS parts
def Fm.vnS:List Fm→Nat
 | []=>0
 | x :: xs=>Fm.vn x+Fm.vnS xs
end
theorem Fm.DE (x:Fm):x.vn=x.atom.nodes+Fm.vnS x.parts:=by
 obtain ⟨op,atom,var,parts⟩:=x
 rw [Fm.vn]; rfl
theorem Iz {x:Fm} (h:x.valid=true):x.nodes≤40∧x.forms=true:=by
 unfold Fm.valid at h
 rw [zA,decide_eq_true_eq] at h
 exact h
theorem Tm.PY {x:Tm} (h:x.atom=true):x.expr=true:=by unfold Tm.expr; rw [h,Bool.or_true]
theorem Tm.Us {x:Tm} (h:x.atom=true):x.nodes≤30:=Tm.Uq (Tm.PY h)
theorem Tm.Rc {x:Tm} (h:x.isZ=true):x=.mk ⟨#[]⟩ []:=by
 obtain ⟨n,a⟩:=x
 unfold Tm.isZ at h
 rw [zA] at h
 have h1:n=⟨#[]⟩:=Ar.1 h.1
 have h3:(a.length == 0)=true:=h.2
 have h2:a=[]:=zI (by simpa using h3)
 rw [h1,h2]
theorem Fm.GW {x:Fm} (h:x.form=true) (ho:x.op=3):x.parts=[]∧x.atom.atom=true∧x.var=⟨#[]⟩:=by
 unfold Fm.form at h
 simp only [ho] at h
 simp at h
 exact ⟨h.1.1,h.1.2,Ar.1 h.2⟩
theorem Fm.H5 {x:Fm} (h:x.form=true) (ho:¬ x.op=3):x.atom=.mk ⟨#[]⟩ []:=by
 unfold Fm.form at h
 split at h
 ·rw [zA,zA] at h; exact Tm.Rc h.1.2
 ·try rw [if_neg ho] at h
  split at h
  ·rw [zA,zA] at h; exact Tm.Rc h.1.2
  ·split at h
   ·rw [zA,zA] at h; exact Tm.Rc h.1.2
   ·split at h
    ·rw [zA,zA] at h; exact Tm.Rc h.1.2
    ·cases h
theorem Fm.Cn {x y:Fm} (h:x.forms=true) (hy:y∈x.parts):y.forms=true:=by
 rw [Fm.DO,zA,Fm.LJ,zS] at h
 exact h.2 y hy
theorem Fm.CA {x:Fm} (h:x.forms=true):x.form=true:=by
 rw [Fm.DO,zA] at h
 exact h.1
theorem Fm.YG {x:Fm} (h:x.form=true):x.atom.nodes≤30:=by
 by_cases ho:x.op=3
 ·exact Tm.Us (Fm.GW h ho).2.1
 ·rw [Fm.H5 h ho,Tm.nodes_eq]
  simp [Tm.args,Tm.nodeS]
theorem Fm.Sy {x:Fm} (h:x.form=true) (ho:x.op=4):∃ p,x=.mk 4 Tm.zero ⟨#[]⟩ [p]:=by
 have ha:=Fm.H5 h (by omega)
 unfold Fm.form at h
 rw [if_neg (by omega),if_neg (by omega),if_pos ho,zA,zA] at h
 have hl:x.parts.length=1:=by simpa using h.1.1
 have hv:x.var=⟨#[]⟩:=Ar.1 h.2
 obtain ⟨op,atom,var,parts⟩:=x
 change atom=_ at ha
 change parts.length=_ at hl
 change var=_ at hv
 change op=_ at ho
 subst ha hv ho
 match parts,hl with
 | [p],_=>exact ⟨p,rfl⟩
def HI (s:ByteArray):Bool:=decide (0<s.size)&&(L1 (Fu s 0) == Ba s)
mutual
def Tm.cok:Tm→Bool
 | .mk n xs=>HI n&&Tm.Oh xs
def Tm.Oh:List Tm→Bool
 | []=>true
 | x :: xs=>Tm.cok x&&Tm.Oh xs
end
theorem Tm.Rd (x:Tm):x.cok=(HI x.name&&Tm.Oh x.args):=by
 obtain ⟨n,xs⟩:=x
 rw [Tm.cok]; rfl
theorem Tm.X1 {xs:List Tm} (h:Tm.Oh xs=true) {y:Tm} (hy:y∈xs):y.cok=true:=by
 induction xs with
 | nil=>cases hy
 | cons x xs ih =>
  rw [Tm.Oh,zA] at h
  rcases zN.1 hy with rfl | hy
  ·exact h.1
  ·exact ih h.2 hy
structure Ord3 {α:Type} (c:α→α→Int) (a b d:α):Prop where
 anti:c b a=- c a b
 zero:c a b=0 ↔ a=b
 trans:c a b<0→c b d<0→c a d<0
def F1:SC:=(.seq (.reg [⟨some 2,none,.mv (.c (.bool false))⟩]) (.seq (.reg [⟨some 3,none,.mv (.t 0)⟩,⟨some 4,none,.bin .geq false (.t 3) (.c (.int .u8 65))⟩,⟨some 5,none,.mv (.t 4)⟩,⟨(some 6),(some (5,true)),(.mv (.t 0))⟩,⟨(some 7),(some (5,true)),(.bin .leq false (.t 6) (.c (.int .u8 90)))⟩,⟨some 8,none,.pick (.t 5) (.t 7) (.c (.bool false))⟩,⟨some 2,none,.mv (.t 8)⟩]) .ret))
theorem I1:Ap Tryz.prog 89=some ⟨9,F1,[(.tmp 2)]⟩:=by kernel_rfl
theorem F2:modes 89=⟨[],.asis,none,false⟩:=by unfold modes; rfl
theorem F3 {p:Nat→Int→Bool} {s:ByteArray} (h:DK p s s.size=true) (hs:0<s.size):p 0 (Fu s 0)=true:=by
 unfold DK at h
 rw [zS] at h
 exact h 0 (List.mem_range.2 hs)
theorem Wj {s:ByteArray} (h:Ba s=true):HI s=true:=by
 have h0:=h
 unfold Ba inB at h
 rw [zA,zA,decide_eq_true_eq,decide_eq_true_eq] at h
 have hs:0<s.size:=by omega
 have h1:=F3 h.1 hs
 unfold GS at h1
 unfold HI
 rw [h0]
 simp at h1
 simp [hs,h1]
theorem LK {s:ByteArray} (hs:0<s.size) (h:L1 (Fu s 0)=false):HI s=true:=by
 have hv:Ba s=false:=by
  rw [yY]
  intro hv
  unfold Ba at hv
  rw [zA] at hv
  have h1:=F3 hv.1 hs
  unfold GS at h1
  rw [h] at h1
  simp at h1
 unfold HI
 rw [hv,h]
 simp [hs]
theorem Wk {s:ByteArray} (h:CD s=true):HI s=true:=by
 unfold CD inB at h
 rw [zA,zA,zA,decide_eq_true_eq,decide_eq_true_eq] at h
 have hs:0<s.size:=by omega
 refine LK hs ?_
 have h1:=F3 h.1.1 hs
 unfold HH at h1
 simp at h1
 have h2:=h1.1
 unfold OW at h2
 unfold L1
 simp at h2 ⊢
 omega
theorem Wl {s:ByteArray} (h:s.toList=[61]):HI s=true:=by
 have hs:s.size=1:=by
  have:=congrArg xD h
  rw [ByteArray.toList_eq] at this
  simpa using this
 refine LK (by omega) ?_
 unfold Fu
 rw [h]
 rfl
mutual
theorem Tm.GX:∀ x:Tm,x.names=true→x.cok=true
 | .mk n xs,h=>by
  rw [Tm.names] at h
  rw [Tm.cok,zA]
  split at h
  ·rename_i hv
   have:xs=[]:=by
    rw [beq_iff_eq] at h
    exact zI h
   subst this
   exact ⟨Wj hv,rfl⟩
  ·rw [zA,zA] at h
   exact ⟨Wk h.1.1,Tm.Kf xs h.2⟩
theorem Tm.Kf:∀ xs:List Tm,Tm.EO xs=true→Tm.Oh xs=true
 | [],_=>rfl
 | x :: xs,h=>by
  rw [Tm.EO,zA] at h
  rw [Tm.Oh,zA]
  exact ⟨Tm.GX x h.1,Tm.Kf xs h.2⟩
end
theorem Tm.X2 {x:Tm} (h:x.atom=true):x.cok=true:=by
 unfold Tm.atom at h
 rcases he:x.eqn with _ | _
 ·rw [he,if_neg (by simp),zA] at h
  unfold Tm.valid at h
  rw [zA] at h
  exact Tm.GX x h.2.2
 ·rw [he,if_pos rfl,zA,zA] at h
  unfold Tm.eqn at he
  rw [Ar] at he
  rw [Tm.Rd,zA]
  exact ⟨Wl (by rw [he,ByteArray.toList_eq]),Tm.Kf _ h.2⟩
theorem Wm {s:ByteArray} {k:Nat} (h:k<s.size):Id s k=Fu s k:=by
 rw [←Er h]
 unfold Id
 rw [show s[k]?=some s[k] from getElem?_pos s k h]; rfl
theorem Wn {s:ByteArray} (h:HI s=true):0<s.size∧(dec (65≤Id s 0)&&dec (Id s 0≤90))=Ba s:=by
 unfold HI at h
 rw [zA,decide_eq_true_eq,beq_iff_eq] at h
 refine ⟨h.1,?_⟩
 rw [←h.2,Wm h.1,JS,JS]
 unfold L1
 rfl
theorem Oi (a:ByteArray):strLt a a=false:=by
 unfold strLt
 have key:∀ l:List UInt8,Op.bytesLess l l=false:=by
  intro l
  induction l with
  | nil=>rfl
  | cons x l ih=>simp [Op.bytesLess,ih]
 exact key _
def KF:SC:=(.seq (.reg [⟨some 1,none,.boxv 31 2 (.t 0)⟩,⟨some 2,none,.mv (.c (.bool false))⟩]) (.seq (.reg [⟨some 3,none,.faddr 0 (.t 1)⟩,⟨some 4,none,.load false 1 (.t 3)⟩,⟨some 5,none,.idx (.t 4) (.c (.int .i64 0))⟩,⟨some 6,none,.call 89 [(.t 5)]⟩,⟨some 2,none,.mv (.t 6)⟩]) .ret))
theorem Re:Ap Tryz.prog 101=some ⟨7,KF,[(.tmp 2)]⟩:=by kernel_rfl
theorem EY:modes 101=⟨[],.asis,none,false⟩:=by unfold modes; rfl
theorem Wo (n:Int):E 89 [.int .u8 n] []=some (.bool (dec (65≤n)&&dec (n≤90)),[]):=by
 cases h1:dec (65≤n)
 ·refine Ai I1 F2 (of_decide_eq_true rfl) ?_
  simp (disch:=omega) only [F1,go_sem,Ab,h1]
 ·refine Ai I1 F2 (of_decide_eq_true rfl) ?_
  simp (disch:=omega) only [F1,go_sem,Ab,h1]
theorem YH (x:Tm) (h:x.cok=true):E 101 [x.sv] []=some (.bool (Ba x.name),[]):=by
 rw [Tm.Rd,zA] at h
 obtain ⟨h1,h2⟩:=Wn h.1
 have h3:=Wo (Id x.name 0)
 rw [h2] at h3
 refine Ai Re EY (of_decide_eq_true rfl) ?_
 simp (disch:=omega) only [KF,go_sem,Ab,h3,F2]
theorem Tm.Jm {x:Tm} (h:x.atom=true):(Ba x.name=true→x.args=[])∧∀ y∈x.args,y.names=true:=by
 unfold Tm.atom at h
 cases he:x.eqn with
 | true =>
  rw [he,if_pos rfl,zA,zA] at h
  have h2:=h.2
  rw [Tm.GU,zS] at h2
  refine ⟨fun hv=>?_,h2⟩
  have hn:=Ar.1 he
  have hnv0:Ba ⟨#[61]⟩=false:=by kernel_rfl
  rw [hn,hnv0] at hv
  cases hv
 | false =>
  rw [he,if_neg (by simp),zA] at h
  have hnm:x.names=true:=by have h3:=h.2; unfold Tm.valid at h3; rw [zA] at h3; exact h3.2
  exact ⟨fun hv=>Tm.PQ hnm hv,fun y hy=>Tm.GV hnm hy⟩
theorem Tm.Vw (x:Tm):x.vs=bif Ba x.name then [x.name] else Tm.vsL x.args:=by
 obtain ⟨n,a⟩:=x
 rw [Tm.vs]; rfl
theorem Tm.Vx {v:ByteArray}:∀ {xs:List Tm},v∈Tm.vsL xs ↔ ∃ x∈xs,v∈x.vs
 | []=>by simp [Tm.vsL]
 | x :: xs=>by rw [Tm.vsL,List.mem_append,Tm.Vx (xs:=xs)]; simp
theorem Tm.Vy:∀ xs:List Tm,(∀ x∈xs,x.vs.length≤x.nodes)→(Tm.vsL xs).length≤Tm.nodeS xs
 | [],_=>by simp [Tm.vsL]
 | x :: xs,h=>by
  have h1:=h x (by simp)
  have h2:=Tm.Vy xs fun y hy=>h y (by simp [hy])
  rw [Tm.vsL,Tm.nodeS,zY]; omega
theorem Tm.LL (x:Tm):x.vs.length≤x.nodes:=by
 have h:=Tm.Vy x.args fun y hy=>Tm.LL y
 rw [Tm.Vw,Tm.nodes_eq]
 cases Ba x.name with
 | true=>simp
 | false=>simp only [cond_false]; omega
termination_by SizeOf.sizeOf x
decreasing_by exact Tm.lt_of_mem hy
noncomputable def G3 (l:List ByteArray) (n:ByteArray):List ByteArray:=bif dec (n∈l) then l else l++[n]
theorem X3 (l:List ByteArray) (n:ByteArray):(G3 l n).length≤l.length+1:=by
 unfold G3
 cases dec (n∈l) <;> simp
theorem X4 {l:List ByteArray} {n m:ByteArray}:m∈G3 l n ↔ m∈l∨m=n:=by
 unfold G3
 by_cases h:n∈l
 ·rw [Ao h,cond_true]
  exact ⟨.inl,fun h'=>h'.elim id fun e=>e▸h⟩
 ·rw [Aj h,cond_false]
  simp
theorem Ut {l:List ByteArray} {n:ByteArray} (h:l.Nodup):(G3 l n).Nodup:=by
 unfold G3
 by_cases k:n∈l
 ·rw [Ao k]; exact h
 ·rw [Aj k,cond_false,List.nodup_append]
  exact ⟨h,by simp,fun a ha b hb e=>by simp at hb; subst hb; subst e; exact k ha⟩
noncomputable def Bb (l ns:List ByteArray):List ByteArray:=ns.foldl G3 l
theorem Db:∀ (ns l:List ByteArray),(Bb l ns).length≤l.length+ns.length
 | [],l=>by simp [Bb]
 | n :: ns,l=>by
  have h:=Db ns (G3 l n)
  have h2:=X3 l n
  simp only [Bb,zV,zF] at h ⊢
  omega
theorem Oj:∀ {ns l:List ByteArray} {m:ByteArray},m∈Bb l ns ↔ m∈l∨m∈ns
 | [],l,m=>by simp [Bb]
 | n :: ns,l,m=>by
  have h:=Oj (ns:=ns) (l:=G3 l n) (m:=m)
  simp only [Bb,zV] at h ⊢
  rw [h,X4]
  simp only [zN]
  exact or_assoc
theorem Ok:∀ {ns l:List ByteArray},l.Nodup→(Bb l ns).Nodup
 | [],l,h=>h
 | n :: ns,l,h=>Ok (ns:=ns) (Ut h)
theorem ED (l a b:List ByteArray):Bb l (a++b)=Bb (Bb l a) b:=List.foldl_append
def CG:SC:=(.seq (.reg [⟨some 4,none,.mv (.c (.int .i64 0))⟩]) (.seq (.seq (.reg [⟨some 6,none,.mv (.t 0)⟩,⟨some 7,none,.len false (.t 6)⟩,⟨some 8,none,.mv (.c (.int .i64 0))⟩]) (.block 0 (.loop [1,1,0,0,0,0,0,1,1,0,0,0,0,0,0,0,0,0,0] (.seq (.reg [⟨some 9,none,.bin .lss false (.t 8) (.t 7)⟩]) (.seq (.cond (.t 9) .skip (.exit 0)) (.seq (.block 1 (.seq (.reg [⟨some 10,none,.mv (.t 8)⟩,⟨some 5,none,.mv (.t 10)⟩]) (.seq (.reg [⟨some 11,none,.mv (.t 1)⟩,⟨some 12,none,.mv (.t 0)⟩,⟨some 13,none,.mv (.t 5)⟩,⟨some 14,none,.iaddr 1 (.t 12) (.t 13)⟩,⟨some 15,none,.load false 1 (.t 14)⟩,⟨some 16,none,.bin .eql false (.t 11) (.t 15)⟩]) (.cond (.t 16) (.seq (.reg [⟨some 17,none,.mv (.t 5)⟩,⟨some 4,none,.mv (.t 17)⟩]) .ret) .skip)))) (.reg [⟨some 18,none,.bin .add false (.t 8) (.c (.int .i64 1))⟩,⟨some 8,none,.mv (.t 18)⟩]))))))) (.seq (.reg [⟨some 4,none,.mv (.c (.int .i64 (-(0+1))))⟩]) .ret)))
theorem EK:Ap Tryz.prog 98=some ⟨19,CG,[(.tmp 4)]⟩:=by kernel_rfl
theorem CH:modes 98=⟨[],.asis,none,false⟩:=by unfold modes; rfl
def Cs:SC:=(.seq (.reg [⟨some 4,none,.mv (.c (.bool false))⟩]) (.seq (.reg [⟨some 5,none,.mv (.t 0)⟩,⟨some 6,none,.mv (.t 1)⟩,⟨some 7,none,.call 98 [(.t 5),(.t 6)]⟩,⟨some 8,none,.bin .geq false (.t 7) (.c (.int .i64 0))⟩,⟨some 4,none,.mv (.t 8)⟩]) .ret))
theorem Ed:Ap Tryz.prog 78=some ⟨9,Cs,[(.tmp 4)]⟩:=by kernel_rfl
theorem A1:modes 78=⟨[],.asis,none,false⟩:=by unfold modes; rfl
theorem X5 (xs:List ByteArray) (n:ByteArray) (hl:xs.length≤1099511627776):E 98 [.arr (xs.map fun s=>[D.str s]),.str n] []=some (.int .i64 (D9 (fun s=>dec (n=s)) xs 0),[]):=by
 refine Ai EK CH (of_decide_eq_true rfl) ?_
 simp (disch:=omega) only [CG,go_sem,Ab]
 refine go_loop (α:=Int) (fun a=>⟨slots 19 0 [(0,.arr (xs.map fun s=>[D.str s])),(1,.str n),(7,.int .i64 xs.length),(8,.int .i64 a)],[]⟩) (fun a=>∃ k:Nat,a=k∧k≤(xs).length∧D9 (fun s=>dec (n=s)) (xs.drop k) a=D9 (fun s=>dec (n=s)) xs 0) (fun a=>(xs).length-(a).toNat) 0 ⟨0,rfl,zK _,by rw [zC]⟩ (by simp (disch:=omega) only [go_sem,Ab]) ?_
 rintro i ⟨k,hi,hk,hR⟩
 have hni:i.toNat=k:=by omega
 have hni1:(i+1).toNat=k+1:=by omega
 rcases zD k (xs).length with hlt | hge
 ·have hg:=get_at (fun s=>[D.str s]) hlt
  rw [zB hlt,D9] at hR
  cases hp:dec (n=xs[k]) with
  | true =>
   rw [hp] at hR
   simp (disch:=omega) only [go_sem,Ab,hni,hg,hp]
   simpa using hR
  | false =>
   rw [hp] at hR
   simp (disch:=omega) only [go_sem,Ab,hni,hg,hp]
   exact ⟨i+1,⟨k+1,by omega,hlt,by simpa using hR⟩,by omega,by first | trivial | rfl⟩
 ·rw [zE hge,D9] at hR
  simp (disch:=omega) only [go_sem,Ab,hni]
  exact hR
theorem FZ (xs:List ByteArray) (n:ByteArray) (hl:xs.length≤1099511627776):E 78 [.arr (xs.map fun s=>[D.str s]),.str n] []=some (.bool (dec (n∈xs)),[]):=by
 have h:=X5 xs n hl
 have e:dec (n∈xs)=dec (0≤D9 (fun s=>dec (n=s)) xs 0):=by
  rw [Iu]
  by_cases hm:n∈xs
  ·rw [Ao hm]
   exact (List.any_eq_true.2 ⟨n,hm,Ao rfl⟩).symm
  ·rw [Aj hm]
   refine Eq.symm (yY.2 fun h=>?_)
   obtain ⟨x,h1,h2⟩:=List.any_eq_true.1 h
   have e:=Ar.1 h2
   subst e
   exact hm h1
 rw [e]
 refine Ai Ed A1 (of_decide_eq_true rfl) ?_
 simp (disch:=omega) only [Cs,go_sem,Ab,h,CH]
theorem Di:∀ (ns l:List ByteArray),l.length≤(Bb l ns).length
 | [],l=>by simp [Bb]
 | n :: ns,l=>by
  have h:=Di ns (G3 l n)
  have h2:l.length≤(G3 l n).length:=by unfold G3; cases dec (n∈l) <;> simp
  simp only [Bb,zV] at h ⊢
  omega
def Dc:SC:=(.seq (.reg [⟨some 3,none,.boxv 31 2 (.t 1)⟩,⟨some 4,none,.mv (.c .nil)⟩]) (.seq (.seq (.reg [⟨some 7,none,.faddr 1 (.t 3)⟩,⟨some 8,none,.load false 1 (.t 7)⟩,⟨some 9,none,.len false (.t 8)⟩,⟨some 10,none,.bin .eql false (.t 9) (.c (.int .i64 0))⟩,⟨some 11,none,.mv (.t 10)⟩,⟨(some 12),(some (11,true)),(.load true 2 (.t 3))⟩,⟨(some 13),(some (11,true)),(.call 101 [(.t 12)])⟩,⟨some 14,none,.pick (.t 11) (.t 13) (.c (.bool false))⟩]) (.cond (.t 14) (.seq (.seq (.reg [⟨some 15,none,.mv (.t 0)⟩,⟨some 16,none,.faddr 0 (.t 3)⟩,⟨some 17,none,.load false 1 (.t 16)⟩,⟨some 18,none,.call 78 [(.t 15),(.t 17)]⟩,⟨some 19,none,.un .not (.t 18)⟩]) (.cond (.t 19) (.reg [⟨some 20,none,.mv (.t 0)⟩,⟨some 21,none,.faddr 0 (.t 3)⟩,⟨some 22,none,.load false 1 (.t 21)⟩,⟨(some 23),none,(.mkrow 9 1 [(.str ⟨#[]⟩)] 1 [(0,(.t 22))])⟩,⟨(some 24),none,(.append 9 1 16 [(.str ⟨#[]⟩)] (.t 20) (.t 23))⟩,⟨some 0,none,.mv (.t 24)⟩]) .skip)) (.seq (.reg [⟨some 25,none,.mv (.t 0)⟩,⟨some 4,none,.mv (.t 25)⟩]) .ret)) .skip)) (.seq (.seq (.reg [⟨some 26,none,.faddr 1 (.t 3)⟩,⟨some 27,none,.load false 1 (.t 26)⟩,⟨some 28,none,.len false (.t 27)⟩,⟨some 29,none,.mv (.c (.int .i64 0))⟩]) (.block 0 (.loop [1,0,0,0,0,0,0,0,0,0,0,0,0,0,0,0,0,0,0,0,0,0,0,0,0,0,0,1,1,1,0,0,0,0,0,0,0,0] (.seq (.reg [⟨some 30,none,.bin .lss false (.t 29) (.t 28)⟩]) (.seq (.cond (.t 30) .skip (.exit 0)) (.seq (.block 1 (.seq (.reg [⟨some 31,none,.iaddr 2 (.t 27) (.t 29)⟩,⟨some 32,none,.load true 2 (.t 31)⟩,⟨(some 6),none,(.alloc 31 [(.str ⟨#[]⟩),.nil])⟩,⟨none,none,(.store 2 (.t 6) (.t 32))⟩]) (.reg [⟨some 33,none,.mv (.t 0)⟩,⟨some 34,none,.load true 2 (.t 6)⟩,⟨some 35,none,.call 81 [(.t 33),(.t 34)]⟩,⟨some 0,none,.mv (.t 35)⟩]))) (.reg [⟨some 36,none,.bin .add false (.t 29) (.c (.int .i64 1))⟩,⟨some 29,none,.mv (.t 36)⟩]))))))) (.seq (.reg [⟨some 37,none,.mv (.t 0)⟩,⟨some 4,none,.mv (.t 37)⟩]) .ret))))
theorem DP:Ap Tryz.prog 81=some ⟨38,Dc,[(.tmp 4)]⟩:=by kernel_rfl
theorem Cx:modes 81=⟨[true],.asis,none,false⟩:=by unfold modes; rfl
abbrev LM (x:Tm):Prop:=∀ l:List ByteArray,l.length+x.nodes≤1048576→E 81 [.ref 0,x.sv] [.row 9 1 (l.map fun s=>[OT.str s])]=some ((bif dec (l.length<(Bb l x.vs).length) then .ref 1 else .ref 0),(bif dec (l.length<(Bb l x.vs).length) then [.gone,.row 9 1 ((Bb l x.vs).map fun s=>[OT.str s])] else [.row 9 1 ((Bb l x.vs).map fun s=>[OT.str s])]))
theorem Kg (x:Tm) (hva:Ba x.name=true→x.args=[]) (hc:x.cok=true) (ih:∀ y∈x.args,LM y):LM x:=by
 intro l hn
 have hl:=Tm.length_le x.args
 have hne:=Tm.nodes_eq x
 have hv:=YH x hc
 have hvs:=Tm.Vw x
 rcases zX x.args.length with h0 | h0
 ·have hx0:x.args=[]:=zI h0
  have hz:((x.args.length:Int)=0)=True:=by rw [hx0]; simp
  cases hvv:Ba x.name with
  | true =>
   rw [hvv] at hv hvs
   have h1:=FZ l x.name (by omega)
   rw [hvs]
   cases hm:dec (x.name∈l) with
   | true =>
    have e:Bb l [x.name]=l:=by simp only [Bb,zV,List.foldl_nil,G3,hm,cond_true]
    rw [hm] at h1
    simp only [cond_true,e]
    refine Ai DP Cx (of_decide_eq_true rfl) ?_
    simp (disch:=omega) only [Dc,go_sem,Ab,hz,hv,h1,EY,A1]
   | false =>
    have e:Bb l [x.name]=l++[x.name]:=by simp only [Bb,zV,List.foldl_nil,G3,hm,cond_false]
    have hg:l.length<(l++[x.name]).length:=by simp
    rw [hm] at h1
    simp only [cond_true,e,Ao hg]
    refine Ai DP Cx (of_decide_eq_true rfl) ?_
    simp (disch:=omega) only [Dc,go_sem,Ab,hz,hv,h1,EY,A1]
    simp only [yD,zH,zU]
  | false =>
   rw [hvv] at hv hvs
   have e:Bb l x.vs=l:=by rw [hvs,hx0]; simp only [cond_false,Tm.vsL]; rfl
   rw [e]
   refine Ai DP Cx (of_decide_eq_true rfl) ?_
   simp (disch:=omega) only [Dc,go_sem,Ab,hz,hv,EY]
   refine go_loop (α:=Int) (fun a=>⟨slots 38 0 [(0,.ref 0),(27,.arr (x.args.map Tm.d)),(28,.int .i64 x.args.length),(29,.int .i64 a)],[.row 9 1 (l.map fun s=>[OT.str s])]⟩) (fun a=>∃ k:Nat,a=k∧k≤(x.args).length) (fun a=>(x.args).length-(a).toNat) 0 ⟨0,rfl,zK _⟩ (by simp (disch:=omega) only [go_sem,Ab]) ?_
   rintro i ⟨k,hi,hk⟩
   have hni:i.toNat=k:=by omega
   have hni1:(i+1).toNat=k+1:=by omega
   rcases zD k (x.args).length with hlt | hge
   ·omega
   ·simp (disch:=omega) only [go_sem,Ab,hni]
 ·have hz:((x.args.length:Int)=0)=False:=eq_false (by omega)
  have hvv:Ba x.name=false:=by
   cases h:Ba x.name with
   | false=>rfl
   | true=>rw [hva h] at h0; simp at h0
  rw [hvv] at hvs
  simp only [cond_false] at hvs
  rw [hvs]
  refine Ai DP Cx (of_decide_eq_true rfl) ?_
  simp (disch:=omega) only [Dc,go_sem,Ab,hz]
  refine go_loop (α:=Int × (List ByteArray)) (fun a=>⟨slots 38 0 [(0,(bif dec (l.length<(a.2).length) then .ref 1 else .ref 0)),(27,.arr (x.args.map Tm.d)),(28,.int .i64 x.args.length),(29,.int .i64 (a.1))],(bif dec (l.length<(a.2).length) then [.gone,.row 9 1 ((a.2).map fun s=>[OT.str s])] else [.row 9 1 ((a.2).map fun s=>[OT.str s])])⟩) (fun a=>∃ k:Nat,a.1=k∧k≤(x.args).length∧Bb (a.2) (Tm.vsL (x.args.drop k))=Bb l (Tm.vsL x.args)∧(a.2).length+Tm.nodeS (x.args.drop k)≤1048576∧l.length≤(a.2).length) (fun a=>(x.args).length-(a.1).toNat) (0,l) ⟨0,rfl,zK _,by rw [zC],by rw [zC]; dsimp only; omega,zP _⟩ (by simp (disch:=omega) only [go_sem,Ab]) ?_
  rintro ⟨i,acc⟩ ⟨k,hi,hk,hR⟩
  dsimp only at hi hR
  have hni:i.toNat=k:=by omega
  have hni1:(i+1).toNat=k+1:=by omega
  rcases zD k (x.args).length with hlt | hge
  ·have hg:=get_at Tm.d hlt
   rw [Tm.d_eq] at hg
   obtain ⟨hR1,hR2,hR3⟩:=hR
   rw [zB hlt,Tm.vsL,ED] at hR1
   rw [zB hlt,Tm.nodeS] at hR2
   have hc:=ih x.args[k] (zM hlt) acc (by omega)
   have hlen:=Db x.args[k].vs acc
   have hgr:=Di x.args[k].vs acc
   have hvl:=Tm.LL x.args[k]
   obtain ⟨acc2,ha2⟩:∃ a,a=Bb acc x.args[k].vs:=⟨_,rfl⟩
   rw [←ha2] at hc hlen hgr hR1
   rcases zD l.length acc.length with q1 | q1 <;> rcases zD acc.length acc2.length with q2 | q2
   all_goals
    first
     |rw [Ao q2] at hc
     |rw [Aj (y9.2 q2)] at hc
    simp only [cond_true,cond_false] at hc
    simp (disch:=omega) only [go_sem,Ab,hni,hg,hc,Cx]
    refine ⟨(i+1,acc2),⟨k+1,by dsimp only; omega,hlt,hR1,by dsimp only; omega,by dsimp only; omega⟩,by dsimp only; omega,?_⟩
    first | done | simp (disch:=omega) only [go_sem,Ab]
  ·rw [zE hge,Tm.vsL] at hR
   obtain ⟨hR1,hR2,hR3⟩:=hR
   have hR1:acc=Bb l (Tm.vsL x.args):=hR1
   rw [←hR1]
   rcases zD l.length acc.length with q1 | q1
   ·simp (disch:=omega) only [go_sem,Ab,hni]
   ·simp (disch:=omega) only [go_sem,Ab,hni]
theorem LN (x:Tm) (hx:x.names=true) (hc:x.cok=true):LM x :=
 Kg x (fun h=>Tm.PQ hx h) hc fun y hy=>LN y (Tm.GV hx hy) (by rw [Tm.Rd,zA] at hc; exact Tm.X1 hc.2 hy)
termination_by SizeOf.sizeOf x
decreasing_by exact Tm.lt_of_mem hy
noncomputable def Sz (l:List ByteArray):List ByteArray:=(srt (l.map (·.toList))).map fun x=>⟨x.toArray⟩
theorem Wp (l:List ByteArray):(Sz l).Perm l:=by
 unfold Sz
 have h:(srt (l.map (·.toList))).Perm (l.map (·.toList)):=List.mergeSort_perm _ _
 have h2:=h.map fun x:List UInt8=>(⟨x.toArray⟩:ByteArray)
 rw [yI] at h2
 have e:((fun x:List UInt8=>(⟨x.toArray⟩:ByteArray)) ∘ fun x:ByteArray=>x.toList)=id:=by
  funext x
  exact JX x
 rw [e,List.map_id] at h2
 exact h2
theorem CR:modes 82=⟨[true],.asis,some sortStr,false⟩:=by unfold modes; rfl
theorem YI (l:List ByteArray) (hl:l.length≤1099511627776):E 82 [.ref 0] [.row 9 1 (l.map fun s=>[OT.str s])]=some (.tup [],[.row 9 1 ((Sz l).map fun s=>[OT.str s])]):=by
 rw [Oc (g:=sortStr) (congrArg FM.ext CR)]
 unfold sortStr
 simp only
 rw [Ao ⟨by first | trivial | rfl,fun e he=>by obtain ⟨s,_,rfl⟩:=List.mem_map.1 he; exact ⟨s,rfl⟩,by simpa using hl⟩,cond_true]
 have e1:(l.map fun s=>[OT.str s]).map (fun e=>(TD e).toList)=l.map (·.toList):=by rw [yI]; rfl
 rw [e1]
 unfold Sz
 rw [yI]
 rfl
theorem Ol (x:Tm) (h:x.atom=true):LM x :=
 Kg x (Tm.Jm h).1 (Tm.X2 h) fun y hy=>LN y ((Tm.Jm h).2 y hy) (Tm.GX y ((Tm.Jm h).2 y hy))
namespace Wd
def modes:FuncId→FM:=fun _=>⟨[],.asis,none,false⟩
theorem mode (f:FuncId):modes f=⟨[],.asis,none,false⟩:=rfl
theorem H1:@K5 QE Tryz.prog modes:=fun _ _ _ _ _ _ hg _=>by cases hg
noncomputable def E:FEnv:=ev Tryz.prog modes
noncomputable def calls:CallF:=Cq modes E
theorem E_told {f:FuncId} {xs:List SV} {ob:List Ob} {r:SV} {ob':List Ob} (h:E f xs ob=some (r,ob')):FunD Tryz.prog f xs ob r ob':=@Vi QE _ _ Ij H1 f xs ob r ob' h
noncomputable def run (n0:Nat):SC→St→Option (X × St):=fr Tryz.prog calls (Hy n0)
def go (n0:Nat) (sc:SC) (st:St) (K:X→St→Prop):Prop:=∃ x st',run n0 sc st=some (x,st')∧K x st'
def QK (n0:Nat) (b:SC) (K:X→St→Prop):X→St→Prop
 | .normal,st=>go n0 b st K
 | .exit i,st=>K (.exit i) st
 | .ret,st=>K .ret st
def blk (id:Nat) (K:X→St→Prop):X→St→Prop
 | .normal,st=>K .normal st
 | .exit i,st=>if i=id then K .normal st else K (.exit i) st
 | .ret,st=>K .ret st
def NQ (r:Option St) (k:X→St→Prop):Prop :=
 match r with
 | some st=>k .normal st
 | none=>False
def NR (anc:List (List Nat)) (r:Option (List Ent × St)) (k:X→St→Prop):Prop :=
 match r with
 | some (es,st)=>obB anc [] (EI es) 0=true∧k .normal st
 | none=>False
def FS (v:SV) (a b:Unit→Prop):Prop :=
 match v with
 | .bool true=>a ()
 | .bool false=>b ()
 | _=>False
noncomputable def Ka (ops:List SOper) (st:St):Option St:=MA Tryz.prog calls ops st
noncomputable def Kb (ops:List SOper) (acc:List Ent) (st:St):Option (List Ent × St):=Gw Tryz.prog calls ops acc st
section
variable {n0:Nat} {st:St} {K:X→St→Prop}
theorem go_skip:go n0 .skip st K=K .normal st:=by
 refine propext ⟨fun ⟨x,st',h,k⟩=>?_,fun k=>⟨_,_,rfl,k⟩⟩
 obtain ⟨rfl,rfl⟩:X.normal=x∧st=st':=by simpa [run,fr] using h
 exact k
theorem QL {i:Nat}:go n0 (.exit i) st K=K (.exit i) st:=by
 refine propext ⟨fun ⟨x,st',h,k⟩=>?_,fun k=>⟨_,_,rfl,k⟩⟩
 obtain ⟨rfl,rfl⟩:X.exit i=x∧st=st':=by simpa [run,fr] using h
 exact k
theorem go_ret:go n0 .ret st K=K .ret st:=by
 refine propext ⟨fun ⟨x,st',h,k⟩=>?_,fun k=>⟨_,_,rfl,k⟩⟩
 obtain ⟨rfl,rfl⟩:X.ret=x∧st=st':=by simpa [run,fr] using h
 exact k
theorem TH {ops:List SOper}:go n0 (.reg ops) st K=NQ (Ka ops st) K:=by
 unfold NQ Ka
 refine propext ⟨fun ⟨x,st',h,k⟩=>?_,fun k=>?_⟩
 ·simp only [run,fr] at h
  split at h
  ·rename_i s hs
   simp only [zG,zL] at h
   obtain ⟨rfl,rfl⟩:=h
   first | exact k | (simp only [hs]; exact k)
  ·cases h
 ·split at k
  ·rename_i s hs
   exact ⟨.normal,s,by simp only [run,fr,hs],k⟩
  ·exact k.elim
theorem QM {anc:List (List Nat)} {ops:List SOper}:go n0 (.dreg anc ops) st K=NR anc (Kb ops [] st) K:=by
 unfold NR Kb
 refine propext ⟨fun ⟨x,st',h,k⟩=>?_,fun k=>?_⟩
 ·simp only [run,fr] at h
  split at h
  ·rename_i es s hs
   obtain ⟨h1,h2⟩:=Aq h
   simp only [zG,zL] at h2
   obtain ⟨rfl,rfl⟩:=h2
   first | exact ⟨h1,k⟩ | (simp only [hs]; exact ⟨h1,k⟩)
  ·cases h
 ·split at k
  ·rename_i es s hs
   exact ⟨.normal,s,by simp only [run,fr,hs,k.1,cond_true],k.2⟩
  ·exact k.elim
theorem TI {a b:SC}:go n0 (.seq a b) st K=go n0 a st (QK n0 b K):=by
 refine propext ⟨fun ⟨x,st',h,k⟩=>?_,fun ⟨x,st',h,k⟩=>?_⟩
 ·simp only [run,fr,BR] at h
  split at h
  ·rename_i s hs
   exact ⟨.normal,s,hs,x,st',h,k⟩
  ·rename_i i s hs
   simp only [zG,zL] at h
   obtain ⟨rfl,rfl⟩:=h
   exact ⟨_,_,hs,k⟩
  ·rename_i s hs
   simp only [zG,zL] at h
   obtain ⟨rfl,rfl⟩:=h
   exact ⟨_,_,hs,k⟩
  ·cases h
 ·simp only [run] at h
  cases x with
  | normal =>
   obtain ⟨x2,st2,h2,k2⟩:=k
   exact ⟨x2,st2,by simp only [run,fr,BR,h]; exact h2,k2⟩
  | exit i=>exact ⟨_,st',by simp only [run,fr,BR,h],k⟩
  | ret=>exact ⟨_,st',by simp only [run,fr,BR,h],k⟩
theorem NS {n:Nat} {b:SC}:go n0 (.ghost n b) st K=go n0 b (OR n st) K:=by simp only [go,run,fr]
theorem NT {id:Nat} {b:SC}:go n0 (.block id b) st K=go n0 b st (blk id K):=by
 refine propext ⟨fun ⟨x,st',h,k⟩=>?_,fun ⟨x,st',h,k⟩=>?_⟩
 ·simp only [run,fr,D5] at h
  split at h
  ·rename_i s hs
   simp only [zG,zL] at h
   obtain ⟨rfl,rfl⟩:=h
   exact ⟨.normal,s,hs,k⟩
  ·rename_i i s hs
   refine ⟨.exit i,s,hs,?_⟩
   simp only [blk]
   by_cases hi:i=id
   ·simp only [if_pos hi,zG,zL] at h ⊢
    obtain ⟨rfl,rfl⟩:=h
    exact k
   ·simp only [if_neg hi,zG,zL] at h ⊢
    obtain ⟨rfl,rfl⟩:=h
    exact k
  ·rename_i s hs
   simp only [zG,zL] at h
   obtain ⟨rfl,rfl⟩:=h
   exact ⟨_,s,hs,k⟩
  ·cases h
 ·simp only [run] at h
  cases x with
  | normal=>exact ⟨_,st',by simp only [run,fr,D5,h],k⟩
  | exit i =>
   simp only [blk] at k
   by_cases hi:i=id
   ·simp only [if_pos hi] at k
    exact ⟨.normal,st',by simp only [run,fr,D5,h,if_pos hi],k⟩
   ·simp only [if_neg hi] at k
    exact ⟨.exit i,st',by simp only [run,fr,D5,h,if_neg hi],k⟩
  | ret=>exact ⟨_,st',by simp only [run,fr,D5,h],k⟩
theorem Ab {q:SX} {a b:SC}:go n0 (.cond q a b) st K=FS (Au (gets st.sl) q) (fun _=>go n0 a st K) (fun _=>go n0 b st K):=by
 unfold FS
 refine propext ⟨fun ⟨x,st',h,k⟩=>?_,fun k=>?_⟩
 ·simp only [run,fr] at h
  split at h
  ·rename_i t ht
   simp only [ht]
   cases t with
   | true=>exact ⟨x,st',h,k⟩
   | false=>exact ⟨x,st',h,k⟩
  ·cases h
 ·split at k
  ·rename_i ht
   obtain ⟨x,st',h,k⟩:=k
   exact ⟨x,st',by simp only [run,fr,ht,cond_true]; exact h,k⟩
  ·rename_i ht
   obtain ⟨x,st',h,k⟩:=k
   exact ⟨x,st',by simp only [run,fr,ht,cond_false]; exact h,k⟩
  ·exact k.elim
theorem QN {a b:Unit→Prop}:FS (.bool true) a b=a ():=rfl
theorem QO {a b:Unit→Prop}:FS (.bool false) a b=b ():=rfl
theorem QP {t:Bool} {a b:Unit→Prop}:FS (.bool (!t)) a b=FS (.bool t) b a:=by cases t <;> rfl
theorem TJ {b:SC}:QK n0 b K .normal st=go n0 b st K:=rfl
theorem TK {b:SC} {i:Nat}:QK n0 b K (.exit i) st=K (.exit i) st:=rfl
theorem TL {b:SC}:QK n0 b K .ret st=K .ret st:=rfl
theorem Xl {id:Nat}:blk id K .normal st=K .normal st:=rfl
theorem Xm {id i:Nat}:blk id K (.exit i) st=if i=id then K .normal st else K (.exit i) st:=rfl
theorem Xn {id:Nat}:blk id K .ret st=K .ret st:=rfl
theorem QQ:NQ (some st) K=K .normal st:=rfl
def quiet:List Ent→Bool
 | []=>true
 | ⟨_,_,[],_⟩ :: r=>quiet r
 | ⟨_,_,_ :: _,_⟩ :: _=>false
theorem Fw {anc:List (List Nat)} {rd:List Nat} {j:Nat}:∀ {l:List Ent} {i:Nat},quiet l=true→ON anc rd [] j (EI l) i=true
 | [],i,_=>rfl
 | ⟨_,_,[],rdi⟩ :: r,i,h=>by
  have:=Fw (anc:=anc) (rd:=rd) (j:=j) (l:=r) (i:=i+1) h
  simp only [EI,zH,zU] at this ⊢
  simp only [ON,this,zT]
  have e1:meets [] (rd++[])=false:=rfl
  have e2:meets rdi []=false:=by cases rdi <;> simp [meets]
  rw [e1,e2]; rfl
theorem L3 {l l':List Ent} (h:quiet l=true) (h':quiet l'=true):quiet (l++l')=true:=by
 induction l with
 | nil=>exact h'
 | cons x r ih =>
  obtain ⟨a,b,c,d⟩:=x
  cases c with
  | nil=>exact ih h
  | cons _ _=>cases h
theorem GT {anc:List (List Nat)}:∀ {l pre:List Ent} {j:Nat},quiet pre=true→quiet l=true→obB anc (EI pre) (EI l) j=true
 | [],pre,j,_,_=>rfl
 | ⟨a,b,[],rd⟩ :: r,pre,j,hp,h=>by
  have e:=GT (anc:=anc) (l:=r) (pre:=pre++[⟨a,b,[],rd⟩]) (j:=j+1) (L3 hp rfl) h
  have e2:=Fw (anc:=anc) (rd:=rd) (j:=j) (i:=0) hp
  simp only [EI,yD,zH,zU] at e e2 ⊢
  simp only [obB,e2,e,zO]
theorem QR {anc:List (List Nat)} {es:List Ent}:NR anc (some (es,st)) K=match quiet es with
  | true=>K .normal st
  | false=>obB anc [] (EI es) 0=true∧K .normal st:=by
 show (obB anc [] (EI es) 0=true∧K .normal st)=_
 cases h:quiet es with
 | true=>exact propext ⟨fun h=>h.2,fun h'=>⟨GT (pre:=[]) rfl h,h'⟩⟩
 | false=>rfl
noncomputable def TM (r:List SOper) (e:Option (Ent × St)):Option St :=
 match e with
 | some (_,st)=>Ka r st
 | none=>none
noncomputable def TN (r:List SOper) (acc:List Ent) (e:Option (Ent × St)):Option (List Ent × St) :=
 match e with
 | some (x,st)=>Kb r (acc++[x]) st
 | none=>none
noncomputable def opF (so:SOp) (sl:List SV) (ob:List Ob):Option R3:=fOp Tryz.prog calls so sl ob
theorem NU:Ka [] st=some st:=rfl
theorem L4 {d:Option Tmp} {so:SOp} {r:List SOper} {sl:List SV} {ob:List Ob}:Ka (⟨d,none,so⟩ :: r) ⟨sl,ob⟩=TM r (Fn d ⟨sl,ob⟩ (opF so sl ob)):=rfl
noncomputable def gdF (d:Option Tmp) (so:SOp) (want:Bool) (sl:List SV) (ob:List Ob) (v:SV):Option (Ent × St) :=
 match v with
 | .bool b=>bif RT b want then Fn d ⟨sl,ob⟩ (opF so sl ob) else some (⟨false,.tup [],[],[]⟩,⟨D3 sl d (.tup []),ob⟩)
 | .tup []=>some (⟨false,.tup [],[],[]⟩,⟨D3 sl d (.tup []),ob⟩)
 | _=>none
theorem QS {d:Option Tmp} {k:Nat} {want:Bool} {so:SOp} {r:List SOper} {sl:List SV} {ob:List Ob}:Ka (⟨d,some (k,want),so⟩ :: r) ⟨sl,ob⟩=TM r (gdF d so want sl ob (gets sl k)):=rfl
theorem NV {acc:List Ent}:Kb [] acc st=some (acc,st):=rfl
theorem L5 {d:Option Tmp} {so:SOp} {r:List SOper} {acc:List Ent} {sl:List SV} {ob:List Ob}:Kb (⟨d,none,so⟩ :: r) acc ⟨sl,ob⟩=TN r acc (Fn d ⟨sl,ob⟩ (opF so sl ob)):=rfl
theorem QT {d:Option Tmp} {k:Nat} {want:Bool} {so:SOp} {r:List SOper} {acc:List Ent} {sl:List SV} {ob:List Ob}:Kb (⟨d,some (k,want),so⟩ :: r) acc ⟨sl,ob⟩=TN r acc (gdF d so want sl ob (gets sl k)):=rfl
theorem TO {r:List SOper} {e:Ent}:TM r (some (e,st))=Ka r st:=rfl
theorem TP {r:List SOper} {acc:List Ent} {e:Ent}:TN r acc (some (e,st))=Kb r (acc++[e]) st:=rfl
theorem Xo {d:Option Tmp} {so:SOp} {sl:List SV} {ob:List Ob}:gdF d so true sl ob (.bool true)=Fn d ⟨sl,ob⟩ (opF so sl ob):=rfl
theorem TQ {d:Option Tmp} {so:SOp} {sl:List SV} {ob:List Ob}:gdF d so false sl ob (.bool false)=Fn d ⟨sl,ob⟩ (opF so sl ob):=rfl
theorem TR {d:Option Tmp} {so:SOp} {sl:List SV} {ob:List Ob}:gdF d so true sl ob (.bool false)=some (⟨false,.tup [],[],[]⟩,⟨D3 sl d (.tup []),ob⟩):=rfl
theorem TS {d:Option Tmp} {so:SOp} {sl:List SV} {ob:List Ob}:gdF d so false sl ob (.bool true)=some (⟨false,.tup [],[],[]⟩,⟨D3 sl d (.tup []),ob⟩):=rfl
theorem Xp {d:Option Tmp} {so:SOp} {want:Bool} {sl:List SV} {ob:List Ob}:gdF d so want sl ob (.tup [])=some (⟨false,.tup [],[],[]⟩,⟨D3 sl d (.tup []),ob⟩):=rfl
theorem TT {d:Option Tmp} {x:SV} {rd:List Nat}:Fn d st (some (x,[],rd))=some (⟨true,x,[],rd⟩,⟨D3 st.sl d x,st.ob⟩):=rfl
theorem TU {d:Option Tmp} {x:SV} {q:Nat × Ob} {u:List (Nat × Ob)} {rd:List Nat}:Fn d st (some (x,q :: u,rd))=bif RR (C5 st.ob (q :: u)).length (q :: u) then some (⟨true,x,q :: u,rd⟩,⟨D3 st.sl d x,C5 st.ob (q :: u)⟩) else none:=rfl
def It (ob:List Ob) (xs:List SV) (sel:List Nat) (r:Option (SV × List Ob)) (n:Nat):Option R3 :=
 match r with
 | some (r,fob')=>bif decide (n≤fob'.length) then some (Dg sel (AV sel xs) ob.length r fob') else none
 | none=>none
def TV (hd:List Bool) (f:FuncId) (xs:List SV) (ob:List Ob) (sel:List Nat) (e:List SV→List Ob→Option (SV × List Ob)) (b:Option (List Ob)):Option R3 :=
 match b with
 | some fob=>bif Eh sel&&Gx ob.length sel&&Ey fob.length fob then It ob xs sel (e (Ee hd (An ob) sel xs) fob) fob.length else none
 | none=>none
def NW (hd:List Bool) (f:FuncId) (xs:List SV) (ob:List Ob) (sel:List Nat) (e:List SV→List Ob→Option (SV × List Ob)):Option R3:=TV hd f xs ob sel e (D1 sel ob sel)
theorem NX {f:FuncId} {xs:List SV} {ob:List Ob}:calls f xs ob=Cp (modes f).res (NW (modes f).hand f xs ob (reach ob 64 (E9 (modes f).hand xs) []) (E f)):=rfl
theorem TW {r:Option R3}:Cp .asis r=r:=rfl
theorem TX {r:Option R3}:Cp .frz r=r:=rfl
theorem TY {l:List (Option (Nat × Nat))} {r:Option R3}:Cp (.own l) r=r:=rfl
theorem TZ {l:List (Option (Nat × Nat))} {r:Option R3}:Cp (.half l) r=r:=rfl
theorem Ua {l:List (Option (Nat × Nat))} {r:Option R3}:Cp (.tr l) r=r:=rfl
theorem Ub {d n:Nat} {r:Option R3}:Cp (.frzg d n) r=r:=rfl
theorem Uc {d n:Nat} {l:List (Option (Nat × Nat))} {r:Option R3}:Cp (.halfg d n l) r=r:=rfl
theorem Ud {l:List Nat} {r:Option R3}:Cp (.frl l) r=r:=rfl
theorem Ue {r:R3}:Cp .late (some r)=N6 r:=rfl
theorem D8:∀ u:List (Nat × Ob),Cj [] u=u
 | []=>rfl
 | (g,o) :: u=>by rw [Cj,D8 u]; rfl
theorem Uf {m:RM} {b:Bool} {u:List (Nat × Ob)} {rd:List Nat}:Cp m (some (.bool b,u,rd))=some (.bool b,u,rd):=by
 cases m <;> first | rfl | (show some (SV.bool b,Cj [] u,rd)=_; rw [D8])
theorem Ug {m:RM} {k:IntKind} {n:Int} {u:List (Nat × Ob)} {rd:List Nat}:Cp m (some (.int k n,u,rd))=some (.int k n,u,rd):=by
 cases m <;> first | rfl | (show some (SV.int k n,Cj [] u,rd)=_; rw [D8])
theorem L6 {hd:List Bool} {f:FuncId} {xs:List SV} {ob:List Ob} {e:List SV→List Ob→Option (SV × List Ob)}:NW hd f xs ob [] e=It ob xs [] (e (Ee hd (An ob) [] xs) []) 0:=rfl
theorem Kc {hd:List Bool} {f:FuncId} {xs:List SV} {ob:List Ob} {g:Nat} {r:List Nat} {e:List SV→List Ob→Option (SV × List Ob)}:NW hd f xs ob (g :: r) e=TV hd f xs ob (g :: r) e (D1 (g :: r) ob (g :: r)):=rfl
theorem QU {ob:List Ob} {xs:List SV} {r:SV} {fob':List Ob}:It ob xs [] (some (r,fob')) 0=some (Dg [] (AV [] xs) ob.length r fob'):=rfl
theorem QV {ob:List Ob} {xs:List SV} {sel:List Nat} {r:SV} {fob':List Ob} {n:Nat}:It ob xs sel (some (r,fob')) n=bif decide (n≤fob'.length) then some (Dg sel (AV sel xs) ob.length r fob') else none:=rfl
theorem Uh {hd:List Bool} {f:FuncId} {xs:List SV} {ob:List Ob} {sel:List Nat} {fob:List Ob} {e:List SV→List Ob→Option (SV × List Ob)}:TV hd f xs ob sel e (some fob)=bif Eh sel&&Gx ob.length sel&&Ey fob.length fob then It ob xs sel (e (Ee hd (An ob) sel xs) fob) fob.length else none:=rfl
theorem L7 {p:Nat} {r:SV}:Dg [] [] p r []=(r.ren (sgp [] p),[],[]):=rfl
def H2 {α:Type} (n0:Nat) (keep:List Nat) (H:α→St) (R:α→Prop) (μ:α→Nat) (a:α) (K:X→St→Prop):X→St→Prop
 | .normal,st'=>∃ y,R y∧μ y < μ a∧canon n0 keep st'=H y
 | .exit i,st'=>K (.exit i) st'
 | .ret,st'=>K .ret st'
theorem NY {α:Type} {keep:List Nat} {H:α→St} {R:α→Prop} {μ:α→Nat} {a:α} {st':St}:H2 n0 keep H R μ a K .normal st'=∃ y,R y∧μ y < μ a∧canon n0 keep st'=H y:=rfl
theorem NZ {α:Type} {keep:List Nat} {H:α→St} {R:α→Prop} {μ:α→Nat} {a:α} {i:Nat} {st':St}:H2 n0 keep H R μ a K (.exit i) st'=K (.exit i) st':=rfl
theorem Oa {α:Type} {keep:List Nat} {H:α→St} {R:α→Prop} {μ:α→Nat} {a:α} {st':St}:H2 n0 keep H R μ a K .ret st'=K .ret st':=rfl
theorem go_loop {α:Type} {keep:List Nat} {b:SC} (H:α→St) (R:α→Prop) (μ:α→Nat) (a0:α) (hR:R a0) (h0:canon n0 keep st=H a0) (round:∀ a,R a→go n0 b (H a) (H2 n0 keep H R μ a K)):go n0 (.loop keep b) st K:=by
 have key:∀ (n:Nat) (a:α) (st:St),μ a≤n→R a→canon n0 keep st=H a→∃ x st',NK n0 keep (run n0 b) st=some (x,st')∧K x st':=by
  intro n
  induction n with
  | zero =>
   intro a st hn hR hc
   obtain ⟨x,st',h,k⟩:=round a hR
   cases x with
   | normal =>
    obtain ⟨y,_,h2,_⟩:=k
    omega
   | exit i=>exact ⟨_,st',by rw [Du,hc,h]; rfl,k⟩
   | ret=>exact ⟨_,st',by rw [Du,hc,h]; rfl,k⟩
  | succ n ih =>
   intro a st hn hR hc
   obtain ⟨x,st',h,k⟩:=round a hR
   cases x with
   | normal =>
    obtain ⟨y,h1,h2,h3⟩:=k
    obtain ⟨x2,st2,h4,k2⟩:=ih y st' (by omega) h1 h3
    exact ⟨x2,st2,by rw [Du,hc,h]; exact h4,k2⟩
   | exit i=>exact ⟨_,st',by rw [Du,hc,h]; rfl,k⟩
   | ret=>exact ⟨_,st',by rw [Du,hc,h]; rfl,k⟩
 exact key (μ a0) a0 st (zP _) hR h0
def H3 (n0:Nat) (keep keepO:List Nat) (H:EL→St) (F:X × St) (p:EL):X→St→Prop
 | .normal,st'=>canon n0 keep st'=H p
 | .exit i,st'=>F=(.exit i,canon n0 keepO st')
 | .ret,st'=>F=(.ret,canon n0 keepO st')
def Sp (n0:Nat) (keepO:List Nat) (F:X × St):X→St→Prop
 | .normal,_=>False
 | .exit i,st'=>F=(.exit i,canon n0 keepO st')
 | .ret,st'=>F=(.ret,canon n0 keepO st')
theorem L8 {keep keepO:List Nat} {H:EL→St} {F:X × St} {p:EL} {st':St}:H3 n0 keep keepO H F p .normal st'=(canon n0 keep st'=H p):=rfl
theorem L9 {keep keepO:List Nat} {H:EL→St} {F:X × St} {p:EL} {i:Nat} {st':St}:H3 n0 keep keepO H F p (.exit i) st'=(F=(.exit i,canon n0 keepO st')):=rfl
theorem LA {keep keepO:List Nat} {H:EL→St} {F:X × St} {p:EL} {st':St}:H3 n0 keep keepO H F p .ret st'=(F=(.ret,canon n0 keepO st')):=rfl
theorem QW {keepO:List Nat} {F:X × St} {i:Nat} {st':St}:Sp n0 keepO F (.exit i) st'=(F=(.exit i,canon n0 keepO st')):=rfl
theorem QX {keepO:List Nat} {F:X × St} {st':St}:Sp n0 keepO F .ret st'=(F=(.ret,canon n0 keepO st')):=rfl
end
def slots:Nat→Nat→List (Nat × SV)→List SV
 | 0,_,_=>[]
 | n+1,k,[]=>.any :: slots n (k+1) []
 | n+1,k,(j,x) :: r=>bif j == k then x :: slots n (k+1) r else .any :: slots n (k+1) ((j,x) :: r)
def Sq (res:RM) (n0:Nat) (rs:List RX) (out:SV × List Ob) (x:X) (st:St):Prop:=fin res n0 rs x st=some out
def Ui (res:RM) (n0:Nat) (r:Option (SV × List Ob)):Option (SV × List Ob) :=
 match r with
 | some (r,ob)=>order res n0 r ob
 | none=>none
def K8 (res:RM) (n0:Nat) (ob:List Ob) (r:Option SV):Option (SV × List Ob) :=
 match r with
 | some r0=>Ui res n0 (gc n0 r0 ob)
 | none=>none
theorem Uj {res:RM} {n0:Nat} {rs:List RX} {out:SV × List Ob} {sl:List SV} {ob:List Ob}:Sq res n0 rs out .ret ⟨sl,ob⟩=(K8 res n0 ob (Lp ⟨sl,ob⟩ rs)=some out):=rfl
theorem Uk {res:RM} {n0:Nat} {rs:List RX} {out:SV × List Ob} {sl:List SV} {ob:List Ob}:Sq res n0 rs out .normal ⟨sl,ob⟩=(K8 res n0 ob (Lp ⟨sl,ob⟩ rs)=some out):=rfl
theorem QY {res:RM} {n0:Nat} {ob:List Ob} {r:SV}:K8 res n0 ob (some r)=Ui res n0 (gc n0 r ob):=rfl
theorem Ul {n0:Nat} {r:SV} {ob:List Ob} {res:RM}:Ui res n0 (some (r,ob))=order res n0 r ob:=rfl
theorem Ai {f:FuncId} {fc:FC} {hand:List Bool} {res:RM} {tr:Bool} {xs:List SV} {ob:List Ob} {out:SV × List Ob} (hc:Ap Tryz.prog f=some fc) (hr:modes f=⟨hand,res,none,tr⟩) (hn:xs.length≤fc.nt) (h:go ob.length (EB res fc.sc) ⟨xs++HX (fc.nt-xs.length),entry tr ob⟩ (Sq res ob.length fc.rs out)):E f xs ob=some out:=by
 obtain ⟨x,st',h1,h2⟩:=h
 unfold E
 rw [Xb]
 unfold Fq
 rw [hc,hr]
 simp only
 rw [decide_eq_true hn,cond_true]
 have h1:fr Tryz.prog (Cq modes (ev Tryz.prog modes)) (Hy ob.length) (EB res fc.sc) ⟨xs++HX (fc.nt-xs.length),entry tr ob⟩=some (x,st'):=h1
 rw [h1]
 exact h2
end Wd
theorem Om:∀ {xs:List ByteArray} {n m:ByteArray},m∈Ck xs n ↔ m∈xs∨m=n
 | [],n,m=>by simp [Ck]
 | x :: xs,n,m=>by
  rw [Ck]
  cases strLt x n with
  | true=>rw [cond_true,zN,Om,zN,or_assoc]
  | false =>
   rw [cond_false]
   by_cases h:x=n
   ·rw [Ao h,cond_true]
    exact ⟨.inl,fun h'=>h'.elim id fun e=>by subst e; subst h; simp⟩
   ·rw [Aj h,cond_false,zN]
    exact or_comm
theorem On:∀ (xs:List ByteArray) (n:ByteArray),(Ck xs n).length≤xs.length+1
 | [],n=>by simp [Ck]
 | x :: xs,n=>by
  have h:=On xs n
  rw [Ck]
  cases strLt x n with
  | true=>simp only [cond_true,zF]; omega
  | false =>
   rw [cond_false]
   cases dec (x=n) with
   | true=>simp only [cond_true,zF]; omega
   | false=>simp only [cond_false,zF]; omega
theorem Vz:∀ (xs:List ByteArray) (n:ByteArray),Ca xs n≤xs.length
 | [],n=>by simp [Ca]
 | x :: xs,n=>by
  have h:=Vz xs n
  rw [Ca]
  cases strLt x n with
  | true=>simp only [cond_true,zF]; omega
  | false=>simp only [cond_false,zF]; omega
theorem H6:∀ {xs:List ByteArray} {n:ByteArray} (h:Ca xs n<xs.length),xs[Ca xs n]=n→Ck xs n=xs
 | [],n,h,_=>by simp at h
 | x :: xs,n,h,e=>by
  rw [Ck]
  cases hq:strLt x n with
  | true =>
   simp only [Ca,hq,cond_true,zF,yA] at h e
   rw [cond_true,H6 (by omega) e]
  | false =>
   simp only [Ca,hq,cond_false,z8] at e
   rw [cond_false,Ao e]; rfl
theorem DQ:∀ {xs:List ByteArray} {n:ByteArray},(∀ h:Ca xs n<xs.length,¬ xs[Ca xs n]=n)→Ck xs n=xs.take (Ca xs n)++n :: xs.drop (Ca xs n)
 | [],n,_=>by simp [Ck,Ca]
 | x :: xs,n,h=>by
  rw [Ck]
  cases hq:strLt x n with
  | true =>
   simp only [Ca,hq,cond_true,zF,yA] at h ⊢
   rw [DQ fun h'=>h (by omega)]
   simp
  | false =>
   simp only [Ca,hq,cond_false,z8] at h ⊢
   rw [Aj (h (by simp))]
   simp
theorem PZ {xs:List ByteArray} {n:ByteArray} {k:Nat} (h:k+Ca (xs.drop k) n=Ca xs n) (hk:k<xs.length):(strLt xs[k] n=true∧k+1+Ca (xs.drop (k+1)) n=Ca xs n)∨(strLt xs[k] n=false∧k=Ca xs n):=by
 rw [zB hk,Ca] at h
 cases hq:strLt xs[k] n with
 | true=>rw [hq,cond_true] at h; exact .inl ⟨rfl,by omega⟩
 | false=>rw [hq,cond_false] at h; exact .inr ⟨rfl,by omega⟩
theorem YJ (xs:List ByteArray) (k:Nat):((xs.map fun s=>[D.str s]).take k).map (fun x=>x.map D.ot)=(xs.take k).map fun s=>[OT.str s]:=by
 rw [←List.map_take,yI]; rfl
theorem YK (xs:List ByteArray) (k:Nat):((xs.map fun s=>[D.str s]).drop k).map (fun x=>x.map D.ot)=(xs.drop k).map fun s=>[OT.str s]:=by
 rw [←List.map_drop,yI]; rfl
theorem Rf (xs:List ByteArray):((xs.map fun s=>[OT.str s]).all fun l=>l.length == 1)=true:=by
 rw [List.all_map,zS]
 intro x _; rfl
theorem S1 (xs:List ByteArray):((xs.map fun s=>[D.str s]).all fun l=>l.length == 1)=true:=by
 rw [List.all_map,zS]
 intro x _; rfl
namespace Wd
attribute [local go_sem] Vg Vf Uc Ub NS OR SC.CP UX pfx DH Ip OT.Gy OT.P9 OT.half TZ Vd Ee P3 SV.isNil Ob.idsB SV.idsB SV.K0 List.getElem?_cons_zero List.getElem?_cons_succ OT.AK OT.DC OT.full entry toTree Sc PB Sa BT Fd DG UP Ng Ty OT.erss OT.ers OT.er OT.Ci OT.E7 OT.noSh quiet obB ON EI meets Hp go_skip QL go_ret TH QM TI NT QN QO QP TJ TK TL Xl Xm Xn QQ QR NU L4 QS NV L5 QT TO TP Xo TQ TR TS Xp TT TU NX TW TX TY Ua Ud Ue Uf Ug N6 P6 Cj seen L6 Kc QU QV Uh L7 Dg NY NZ Oa Uj Uk QY Ul order opF fOp Ei RL WT RJ RK UO Hu eqK Au gets An HW D3 C5 JN M9 A9 RR SV.cellsN SV.one Ic splice Dl Q2 Ib Jz CW Bo BE AX FO GG R4 eOp.mkEs eOp.addS D.sv OT.sv D.ot Gv Eh reach SV.refs SV.N4 SV.ptrs SV.N5 Ob.refs Ob.liveB E9 D1 SV.back SV.K2 Ob.back Gu GN BW AV AW Gx Ey SV.ren SV.GK Ob.ren mkU sgp gc K3 names RZ JU UT UU UV Lv VT UY UZ Va Vb Ve Vh SC.mark ND EA slots Lp RI rxV HX P5 SV.noSh SV.Kz Ob.noSh SV.own SV.OQ Ej cond_true cond_false zF yG zH zU List.drop_succ_cons zC List.drop_nil List.take_succ_cons xE List.take_nil yE xC List.cons_append y4 List.all_nil List.getD_cons_zero List.getD_cons_succ yO List.any_nil List.contains_cons List.contains_nil List.isEmpty_nil List.isEmpty_cons List.flatten_cons List.flatten_nil yS List.replicate_zero yV List.set_cons_succ y8 yJ zP zK zT y5 zO Bool.or_false xF Bool.true_or Bool.or_true Bool.not_true Bool.not_false yW yK decide_true decide_false beq_self_eq_true if_true if_false xB Option.map_none zG yN Option.getD_none Int.toNat_natCast true_and and_true and_self eq_self_iff_true zZ Bool.false_eq_true Bool.true_eq_false zL SV.int.injEq SV.bool.injEq SV.str.injEq SV.agg.injEq SV.tup.injEq SV.arr.injEq zQ St.mk.injEq Int.zero_add Zf Zg Vp Ao Aj Zv svK svD VH svM MV.sv R2 RO RP RQ Fj St.app QB MK.sv L8 L9 LA QW QX mode
def H7:SC:=(.seq (.reg [⟨some 4,none,.mv (.c .nil)⟩]) (.seq (.reg [⟨some 5,none,.mv (.c (.int .i64 0))⟩]) (.seq (.block 0 (.loop [1,1,0,0,0,1,0,0,0,0,0,0,0,0,0,0,0,0,0,0,0,0,0,0,0,0,0,0,0,0,0,0,0,0,0,0,0,0,0,0,0,0,0,0,0] (.seq (.seq (.reg [⟨some 6,none,.mv (.t 5)⟩,⟨some 7,none,.mv (.t 0)⟩,⟨some 8,none,.len false (.t 7)⟩,⟨some 9,none,.bin .lss false (.t 6) (.t 8)⟩,⟨some 10,none,.mv (.t 9)⟩,⟨(some 11),(some (10,true)),(.mv (.t 0))⟩,⟨(some 12),(some (10,true)),(.mv (.t 5))⟩,⟨(some 13),(some (10,true)),(.iaddr 1 (.t 11) (.t 12))⟩,⟨(some 14),(some (10,true)),(.load false 1 (.t 13))⟩,⟨(some 15),(some (10,true)),(.mv (.t 1))⟩,⟨(some 16),(some (10,true)),(.bin .lss false (.t 14) (.t 15))⟩,⟨some 17,none,.pick (.t 10) (.t 16) (.c (.bool false))⟩]) (.cond (.t 17) .skip (.exit 0))) (.block 1 (.reg [⟨some 18,none,.mv (.t 5)⟩,⟨some 19,none,.bin .add false (.t 18) (.c (.int .i64 1))⟩,⟨some 5,none,.mv (.t 19)⟩]))))) (.seq (.seq (.reg [⟨some 20,none,.mv (.t 5)⟩,⟨some 21,none,.mv (.t 0)⟩,⟨some 22,none,.len false (.t 21)⟩,⟨some 23,none,.bin .lss false (.t 20) (.t 22)⟩,⟨some 24,none,.mv (.t 23)⟩,⟨(some 25),(some (24,true)),(.mv (.t 0))⟩,⟨(some 26),(some (24,true)),(.mv (.t 5))⟩,⟨(some 27),(some (24,true)),(.iaddr 1 (.t 25) (.t 26))⟩,⟨(some 28),(some (24,true)),(.load false 1 (.t 27))⟩,⟨(some 29),(some (24,true)),(.mv (.t 1))⟩,⟨(some 30),(some (24,true)),(.bin .eql false (.t 28) (.t 29))⟩,⟨some 31,none,.pick (.t 24) (.t 30) (.c (.bool false))⟩]) (.cond (.t 31) (.seq (.reg [⟨some 32,none,.mv (.t 0)⟩,⟨some 4,none,.mv (.t 32)⟩]) .ret) .skip)) (.seq (.dreg [[],[],[],[1,2],[0,3,1,2],[],[5],[4,0,3,1,2,6,5],[],[],[8,9],[7,4,0,3,1,2,6,5,10,8,9],[11,7,4,0,3,1,2,6,5,10,8,9]] [⟨(some 33),none,(.mkrow 9 1 [(.str ⟨#[]⟩)] 0 [])⟩,⟨some 34,none,.mv (.t 0)⟩,⟨some 35,none,.mv (.t 5)⟩,⟨some 36,none,.slice false 1 (.t 34) none (some (.t 35))⟩,⟨(some 37),none,(.append 9 1 16 [(.str ⟨#[]⟩)] (.t 33) (.t 36))⟩,⟨some 38,none,.mv (.t 1)⟩,⟨(some 39),none,(.mkrow 9 1 [(.str ⟨#[]⟩)] 1 [(0,(.t 38))])⟩,⟨(some 40),none,(.append 9 1 16 [(.str ⟨#[]⟩)] (.t 37) (.t 39))⟩,⟨some 41,none,.mv (.t 0)⟩,⟨some 42,none,.mv (.t 5)⟩,⟨some 43,none,.slice false 1 (.t 41) (some (.t 42)) none⟩,⟨(some 44),none,(.append 9 1 16 [(.str ⟨#[]⟩)] (.t 40) (.t 43))⟩,⟨some 4,none,.mv (.t 44)⟩]) .ret)))))
theorem KG:Ap Tryz.prog 86=some ⟨45,H7,[(.tmp 4)]⟩:=by kernel_rfl
theorem CB:modes 86=⟨[],.asis,none,false⟩:=rfl
theorem YL {xs:List ByteArray} {k:Nat} (h:k<xs.length):(xs.map fun s=>[OT.str s])[k]?=some [OT.str xs[k]]:=by rw [z6,yZ h]; rfl
theorem l2PutN_E (xs:List ByteArray) (n:ByteArray) (hl:xs.length≤1048576) (hg:xs.length<(Ck xs n).length):E 86 [.arr (xs.map fun s=>[D.str s]),.str n] []=some (.ref 0,[.row 9 1 ((Ck xs n).map fun s=>[OT.str s])]):=by
 have e1:=YJ xs (Ca xs n)
 have e2:=YK xs (Ca xs n)
 have e3:=Rf (xs.take (Ca xs n))
 have e4:=Rf (xs.drop (Ca xs n))
 have e5:=S1 xs
 have l1:=Vz xs n
 have e6:(xs.map fun s=>[D.str s]).take xs.length=xs.map fun s=>[D.str s]:=List.take_of_length_le (by simp)
 have e7:(xs.take (Ca xs n)).length=Ca xs n:=by rw [List.length_take]; omega
 have e8:(xs.drop (Ca xs n)).length=xs.length-Ca xs n:=List.length_drop
 refine Ai KG CB (of_decide_eq_true rfl) ?_
 simp (disch:=omega) only [H7,go_sem,Ab]
 refine go_loop (α:=Int) (fun a=>⟨slots 45 0 [(0,.arr (xs.map fun s=>[D.str s])),(1,.str n),(5,.int .i64 a)],[]⟩) (fun a=>∃ k:Nat,a=k∧k≤(xs).length∧k+Ca (xs.drop k) n=Ca xs n) (fun a=>(xs).length-(a).toNat) 0 ⟨0,rfl,zK _,by rw [zC,yJ]⟩ (by simp (disch:=omega) only [go_sem,Ab]) ?_
 rintro i ⟨k,hi,hk,hR⟩
 have hni:i.toNat=k:=by omega
 have hni1:(i+1).toNat=k+1:=by omega
 rcases zD k (xs).length with hlt | hge
 ·have hg':=get_at (fun s=>[D.str s]) hlt
  rcases PZ hR hlt with ⟨q,hR'⟩ | ⟨q,hk'⟩
  ·simp (disch:=omega) only [go_sem,Ab,hni,hg',q]
   exact ⟨i+1,⟨k+1,by omega,hlt,hR'⟩,by omega,by first | trivial | rfl⟩
  ·subst hk'
   by_cases h0:xs[Ca xs n]=n
   ·have hi0:=H6 hlt h0
    rw [hi0] at hg
    exact absurd hg (Nat.lt_irrefl _)
   ·have hi0:=DQ (fun _=>h0)
    have hx2:(xs.take (Ca xs n)).map (fun s=>[OT.str s])++[[OT.str n]]++(xs.drop (Ca xs n)).map (fun s=>[OT.str s])=(Ck xs n).map fun s=>[OT.str s]:=by rw [hi0]; simp
    simp (disch:=omega) only [go_sem,Ab,hni,hg',q,h0,e1,e2,e3,e4,e5,e6,e7,e8,hx2,zY,z7]
 ·obtain rfl:k=xs.length:=by omega
  have hk':xs.length=Ca xs n:=by rw [←hR,zE (zP _)]; simp [Ca]
  have hi0:=DQ (xs:=xs) (n:=n) (fun h=>by omega)
  have hx2:(xs.take (Ca xs n)).map (fun s=>[OT.str s])++[[OT.str n]]++(xs.drop (Ca xs n)).map (fun s=>[OT.str s])=(Ck xs n).map fun s=>[OT.str s]:=by rw [hi0]; simp
  rw [hk'] at hni
  simp (disch:=omega) only [go_sem,Ab,hni,e1,e2,e3,e4,e5,e6,e7,e8,hx2,zY,z7]
theorem l2PutT_E (xs:List ByteArray) (n:ByteArray) (hl:xs.length≤1048576) (hg:¬ xs.length<(Ck xs n).length):E 86 [.ref 0,.str n] [.row 9 1 (xs.map fun s=>[OT.str s])]=some (.ref 0,[.row 9 1 (xs.map fun s=>[OT.str s])]):=by
 refine Ai KG CB (of_decide_eq_true rfl) ?_
 simp (disch:=omega) only [H7,go_sem,Ab]
 refine go_loop (α:=Int) (fun a=>⟨slots 45 0 [(0,.ref 0),(1,.str n),(5,.int .i64 a)],[.row 9 1 (xs.map fun s=>[OT.str s])]⟩) (fun a=>∃ k:Nat,a=k∧k≤(xs).length∧k+Ca (xs.drop k) n=Ca xs n) (fun a=>(xs).length-(a).toNat) 0 ⟨0,rfl,zK _,by rw [zC,yJ]⟩ (by simp (disch:=omega) only [go_sem,Ab]) ?_
 rintro i ⟨k,hi,hk,hR⟩
 have hni:i.toNat=k:=by omega
 have hni1:(i+1).toNat=k+1:=by omega
 rcases zD k (xs).length with hlt | hge
 ·have hg':=YL hlt
  rcases PZ hR hlt with ⟨q,hR'⟩ | ⟨q,hk'⟩
  ·simp (disch:=omega) only [go_sem,Ab,hni,hg',q]
   exact ⟨i+1,⟨k+1,by omega,hlt,hR'⟩,by omega,by first | trivial | rfl⟩
  ·subst hk'
   by_cases h0:xs[Ca xs n]=n
   ·simp (disch:=omega) only [go_sem,Ab,hni,hg',q,h0,Oi,Cw]
   ·have hi0:=DQ (fun _=>h0)
    refine absurd ?_ hg
    rw [hi0]; simp; omega
 ·obtain rfl:k=xs.length:=by omega
  have hk':xs.length=Ca xs n:=by rw [←hR,zE (zP _)]; simp [Ca]
  have hi0:=DQ (xs:=xs) (n:=n) (fun h=>by omega)
  refine absurd ?_ hg
  rw [hi0]; simp; omega
end Wd
theorem CB:modes 86=⟨[true],.asis,some L2,false⟩:=by unfold modes; rfl
theorem S2 (xs:List ByteArray) (n:ByteArray) (hl:xs.length≤1048576):E 86 [.ref 0,.str n] [.row 9 1 (xs.map fun s=>[OT.str s])]=some (bif dec (xs.length<(Ck xs n).length) then .ref 1 else .ref 0,bif dec (xs.length<(Ck xs n).length) then [.gone,.row 9 1 ((Ck xs n).map fun s=>[OT.str s])] else [.row 9 1 (xs.map fun s=>[OT.str s])]):=by
 rw [Oc (g:=L2) (congrArg FM.ext CB)]
 unfold L2
 simp only [Xd]
 rw [Ao ⟨trivial,fun h=>(FunD.toFun (Wd.E_told (Wd.l2PutT_E xs n hl h))),fun h=>FunD.toFun (Wd.E_told (Wd.l2PutN_E xs n hl h))⟩,cond_true]
 cases dec (xs.length<(Ck xs n).length) <;> rfl
theorem Qa (xs:List ByteArray) (n:ByteArray):xs.length≤(Ck xs n).length:=by
 rcases zD (Ca xs n) xs.length with h | h
 ·by_cases h0:xs[Ca xs n]=n
  ·rw [H6 h h0]; exact zP _
  ·rw [DQ (fun _=>h0)]; simp; omega
 ·rw [DQ (fun h'=>by omega)]; simp; omega
theorem Qb {xs:List ByteArray} {n:ByteArray} (h:(Ck xs n).length≤xs.length):Ck xs n=xs:=by
 rcases zD (Ca xs n) xs.length with h1 | h1
 ·by_cases h0:xs[Ca xs n]=n
  ·exact H6 h1 h0
  ·rw [DQ (fun _=>h0)] at h
   simp at h
   omega
 ·rw [DQ (fun h'=>by omega)] at h
  simp at h
  omega
theorem EE:∀ (ns l:List ByteArray),(BJ l ns).length≤l.length+ns.length
 | [],l=>by simp [BJ]
 | n :: ns,l=>by
  have h:=EE ns (Ck l n)
  have h2:=On l n
  simp only [BJ,zV,zF] at h ⊢
  omega
theorem F4:∀ {ns l:List ByteArray} {m:ByteArray},m∈BJ l ns ↔ m∈l∨m∈ns
 | [],l,m=>by simp [BJ]
 | n :: ns,l,m=>by
  have h:=F4 (ns:=ns) (l:=Ck l n) (m:=m)
  simp only [BJ,zV] at h ⊢
  rw [h,Om]
  simp only [zN]
  exact or_assoc
theorem Oo (l a b:List ByteArray):BJ l (a++b)=BJ (BJ l a) b:=List.foldl_append
def E1:SC:=(.seq (.reg [⟨some 3,none,.boxv 31 2 (.t 1)⟩,⟨some 4,none,.mv (.c .nil)⟩]) (.seq (.seq (.reg [⟨some 6,none,.faddr 0 (.t 3)⟩,⟨some 7,none,.load false 1 (.t 6)⟩,⟨some 8,none,.call 68 [(.t 7)]⟩]) (.cond (.t 8) (.seq (.reg [⟨some 9,none,.mv (.t 0)⟩,⟨some 10,none,.faddr 0 (.t 3)⟩,⟨some 11,none,.load false 1 (.t 10)⟩,⟨some 12,none,.call 86 [(.t 9),(.t 11)]⟩,⟨some 4,none,.mv (.t 12)⟩]) .ret) .skip)) (.seq (.seq (.reg [⟨some 5,none,.mv (.c (.int .i64 0))⟩]) (.block 0 (.loop [1,0,0,1,0,1,0,0,0,0,0,0,0,0,0,0,0,0,0,0,0,0,0,0,0,0,0,0] (.seq (.seq (.reg [⟨some 13,none,.mv (.t 5)⟩,⟨some 14,none,.faddr 1 (.t 3)⟩,⟨some 15,none,.load false 1 (.t 14)⟩,⟨some 16,none,.len false (.t 15)⟩,⟨some 17,none,.bin .lss false (.t 13) (.t 16)⟩]) (.cond (.t 17) .skip (.exit 0))) (.seq (.block 1 (.reg [⟨some 20,none,.mv (.t 0)⟩,⟨some 21,none,.faddr 1 (.t 3)⟩,⟨some 22,none,.load false 1 (.t 21)⟩,⟨some 23,none,.mv (.t 5)⟩,⟨some 24,none,.iaddr 2 (.t 22) (.t 23)⟩,⟨some 25,none,.load true 2 (.t 24)⟩,⟨some 26,none,.call 108 [(.t 20),(.t 25)]⟩,⟨some 0,none,.mv (.t 26)⟩])) (.reg [⟨some 18,none,.mv (.t 5)⟩,⟨some 19,none,.bin .add false (.t 18) (.c (.int .i64 1))⟩,⟨some 5,none,.mv (.t 19)⟩])))))) (.seq (.reg [⟨some 27,none,.mv (.t 0)⟩,⟨some 4,none,.mv (.t 27)⟩]) .ret))))
theorem G4:Ap Tryz.prog 108=some ⟨28,E1,[(.tmp 4)]⟩:=by kernel_rfl
theorem CJ:modes 108=⟨[true],.asis,none,false⟩:=by unfold modes; rfl
def G5:SC:=(.seq (.reg [⟨some 1,none,.boxv 31 2 (.t 0)⟩,⟨some 2,none,.mv (.c .nil)⟩]) (.seq (.reg [⟨(some 3),none,(.mkrow 9 1 [(.str ⟨#[]⟩)] 0 [])⟩,⟨some 4,none,.load true 2 (.t 1)⟩,⟨some 5,none,.call 108 [(.t 3),(.t 4)]⟩,⟨some 2,none,.mv (.t 5)⟩]) .ret))
theorem J9:Ap Tryz.prog 85=some ⟨6,G5,[(.tmp 2)]⟩:=by kernel_rfl
theorem G6:modes 85=⟨[],.frz,none,false⟩:=by unfold modes; rfl
theorem Jn:∀ (ns l:List ByteArray),l.length≤(BJ l ns).length
 | [],l=>zP _
 | n :: ns,l=>by
  have h:=Jn ns (Ck l n)
  have h2:=Qa l n
  simp only [BJ,zV] at h ⊢
  omega
abbrev X6 (x:Tm):Prop:=∀ l:List ByteArray,l.length+x.nodes≤1048576→E 108 [.ref 0,x.sv] [.row 9 1 (l.map fun s=>[OT.str s])]=some ((bif dec (l.length<(BJ l x.vs).length) then .ref 1 else .ref 0),(bif dec (l.length<(BJ l x.vs).length) then [.gone,.row 9 1 ((BJ l x.vs).map fun s=>[OT.str s])] else [.row 9 1 ((BJ l x.vs).map fun s=>[OT.str s])]))
theorem Wq (x:Tm) (ih:∀ y∈x.args,X6 y):X6 x:=by
 intro l hn
 have hl:=Tm.length_le x.args
 have hne:=Tm.nodes_eq x
 have hvs:=Tm.Vw x
 have hp:=S2 l x.name (by omega)
 have hxs:x.sv=.agg [.str x.name,.arr (x.args.map Tm.d)]:=rfl
 cases hvv:Ba x.name with
 | true =>
  rw [hvv] at hvs
  have e:BJ l x.vs=Ck l x.name:=by rw [hvs]; rfl
  rw [e]
  rcases zD l.length (Ck l x.name).length with q | q
  all_goals
   first
    |rw [Ao q] at hp ⊢
    |rw [Aj (y9.2 q)] at hp ⊢
   simp only [cond_true,cond_false] at hp ⊢
  ·refine Ai G4 CJ (of_decide_eq_true rfl) ?_
   simp (disch:=omega) only [E1,go_sem,Ab,hvv,hp,Al,E0,CB]
  ·have e2:Ck l x.name=l:=Qb q
   rw [e2]
   refine Ai G4 CJ (of_decide_eq_true rfl) ?_
   simp (disch:=omega) only [E1,go_sem,Ab,hvv,hp,Al,E0,CB]
 | false =>
  rw [hvv] at hvs
  simp only [cond_false] at hvs
  rw [hvs]
  have hgl:dec (l.length < l.length)=false:=Aj (by omega)
  refine Ai G4 CJ (of_decide_eq_true rfl) ?_
  simp (disch:=omega) only [E1,go_sem,Ab,hvv,Al,E0]
  refine go_loop (α:=Int × (List ByteArray)) (fun a=>⟨slots 28 0 [(0,(bif dec (l.length < (a.2).length) then .ref 1 else .ref 0)),(3,(bif dec (l.length < (a.2).length) then .ptr 2 0 else .ptr 1 0)),(5,.int .i64 (a.1))],(bif dec (l.length < (a.2).length) then [.gone,.row 9 1 ((a.2).map fun s=>[OT.str s]),.box 31 [.str x.name,.arr (x.args.map Tm.d)]] else [.row 9 1 ((a.2).map fun s=>[OT.str s]),.box 31 [.str x.name,.arr (x.args.map Tm.d)]])⟩) (fun a=>∃ k:Nat,a.1=k∧k≤(x.args).length∧BJ (a.2) (Tm.vsL (x.args.drop k))=BJ l (Tm.vsL x.args)∧(a.2).length+Tm.nodeS (x.args.drop k)≤1048576∧l.length≤(a.2).length) (fun a=>(x.args).length - (a.1).toNat) (0,l) ⟨0,rfl,zK _,by rw [zC],by rw [zC]; dsimp only; omega,zP _⟩ (by simp (disch:=omega) only [go_sem,Ab,hgl]) ?_
  rintro ⟨i,acc⟩ ⟨k,hi,hk,hR⟩
  dsimp only at hi hR
  have hni:i.toNat=k:=by omega
  have hni1:(i+1).toNat=k+1:=by omega
  rcases zD k (x.args).length with hlt | hge
  ·have hg:=get_at Tm.d hlt
   rw [Tm.d_eq] at hg
   obtain ⟨hR1,hR2,hR3⟩:=hR
   rw [zB hlt,Tm.vsL,Oo] at hR1
   rw [zB hlt,Tm.nodeS] at hR2
   have hc:=ih x.args[k] (zM hlt) acc (by omega)
   have hlen:=EE x.args[k].vs acc
   have hgr:=Jn x.args[k].vs acc
   have hvl:=Tm.LL x.args[k]
   obtain ⟨acc2,ha2⟩:∃ a,a=BJ acc x.args[k].vs:=⟨_,rfl⟩
   rw [←ha2] at hc hlen hgr hR1
   rcases zD l.length acc.length with q1 | q1 <;> rcases zD acc.length acc2.length with q2 | q2
   all_goals
    first
     |rw [Ao q2] at hc
     |rw [Aj (y9.2 q2)] at hc
    simp only [cond_true,cond_false] at hc
    first
     |have d1:=Ao q1
     |have d1:=Aj (y9.2 q1)
    first
     |have d2:dec (l.length < acc2.length)=true:=Ao (by omega)
     |have d2:dec (l.length < acc2.length)=false:=Aj (by omega)
    simp (disch:=omega) only [go_sem,Ab,hni,hg,hc,d1,CJ]
    refine ⟨(i+1,acc2),⟨k+1,by dsimp only; omega,hlt,hR1,by dsimp only; omega,by dsimp only; omega⟩,by dsimp only; omega,?_⟩
    first | done | simp (disch:=omega) only [go_sem,Ab,d2]
  ·rw [zE hge,Tm.vsL] at hR
   obtain ⟨hR1,hR2,hR3⟩:=hR
   have hR1:acc=BJ l (Tm.vsL x.args):=hR1
   rw [←hR1]
   rcases zD l.length acc.length with q1 | q1
   ·have d1:=Ao q1
    simp (disch:=omega) only [go_sem,Ab,hni,d1]
   ·have d1:=Aj (y9.2 q1)
    simp (disch:=omega) only [go_sem,Ab,hni,d1]
theorem S3 (x:Tm):X6 x:=Wq x fun y hy=>S3 y
termination_by SizeOf.sizeOf x
decreasing_by exact Tm.lt_of_mem hy
theorem X7 (x:Tm) (hn:x.nodes≤1048576):E 85 [x.sv] []=some (.arr ((BJ [] x.vs).map fun s=>[D.str s]),[]):=by
 have h:=S3 x [] (by simpa using hn)
 rw [zU,yG] at h
 obtain ⟨ns,hns⟩:∃ ns,ns=BJ [] x.vs:=⟨_,rfl⟩
 rw [←hns] at h ⊢
 rcases zD 0 ns.length with q | q
 ·rw [Ao q] at h
  simp only [cond_true] at h
  refine Ai J9 G6 (of_decide_eq_true rfl) ?_
  simp (disch:=omega) only [G5,go_sem,Ab,h,CJ]
 ·have e:ns=[]:=zI (by omega)
  subst e
  rw [Aj (by simp)] at h
  simp only [cond_false,zU] at h
  refine Ai J9 G6 (of_decide_eq_true rfl) ?_
  simp (disch:=omega) only [G5,go_sem,Ab,h,CJ]
theorem Oq:∀ x y:List UInt8,Op.bytesLess x y=true→Op.bytesLess y x=false
 | [],[],h=>by simp [Op.bytesLess] at h
 | [],_ :: _,_=>rfl
 | _ :: _,[],h=>by simp [Op.bytesLess] at h
 | a :: x,b :: y,h=>by
  simp only [Op.bytesLess,yH,decide_eq_true_eq,zA,beq_iff_eq] at h
  simp only [Op.bytesLess,yP,decide_eq_false_iff_not]
  rcases h with h | ⟨rfl,h⟩
  ·have h2:¬ b<a:=by intro h3; exact absurd (UInt8.lt_trans h h3) (UInt8.lt_irrefl _)
   have h3:(b == a)=false:=by
    rw [beq_eq_false_iff_ne]; rintro rfl; exact UInt8.lt_irrefl _ h
   exact ⟨h2,by rw [h3]; rfl⟩
  ·exact ⟨UInt8.lt_irrefl _,by rw [Oq x y h]; simp⟩
theorem Or:∀ x y:List UInt8,Op.bytesLess x y=false→Op.bytesLess y x=false→x=y
 | [],[],_,_=>rfl
 | [],_ :: _,h,_=>by simp [Op.bytesLess] at h
 | _ :: _,[],_,h=>by simp [Op.bytesLess] at h
 | a :: x,b :: y,h,k=>by
  simp only [Op.bytesLess,yP,decide_eq_false_iff_not] at h k
  have hab:a=b:=by
   have h1:=h.1; have h2:=k.1
   rw [UInt8.lt_iff_toNat_lt] at h1 h2
   exact UInt8.toNat_inj.1 (by omega)
  subst hab
  have h1:Op.bytesLess x y=false:=by simpa using h.2
  have h2:Op.bytesLess y x=false:=by simpa using k.2
  rw [Or x y h1 h2]
theorem I4 {a b:ByteArray} (h:strLt a b=true):strLt b a=false:=Oq _ _ h
theorem I5 {a b:ByteArray} (h:strLt a b=false) (h':strLt b a=false):a=b:=Lr (Or _ _ h h')
theorem Ot:∀ x y z:List UInt8,Op.bytesLess x y=true→Op.bytesLess y z=true→Op.bytesLess x z=true
 | _,_,[],_,h=>by simp [Op.bytesLess] at h
 | [],[],_ :: _,h,_=>by simp [Op.bytesLess] at h
 | [],_ :: _,_ :: _,_,_=>rfl
 | _ :: _,[],_ :: _,h,_=>by simp [Op.bytesLess] at h
 | a :: x,b :: y,c :: z,h,k=>by
  simp only [Op.bytesLess,yH,decide_eq_true_eq,zA,beq_iff_eq] at h k ⊢
  rcases h with h | ⟨rfl,h⟩
  ·rcases k with k | ⟨rfl,k⟩
   ·exact .inl (UInt8.lt_trans h k)
   ·exact .inl h
  ·rcases k with k | ⟨rfl,k⟩
   ·exact .inl k
   ·exact .inr ⟨rfl,Ot x y z h k⟩
theorem S4 {a b c:ByteArray} (h:strLt a b=true) (k:strLt b c=true):strLt a c=true:=Ot _ _ _ h k
theorem V4:∀ x y:List UInt8,Op.bytesLess x y=true ↔ x<y
 | [],[]=>by simp [Op.bytesLess]
 | [],b :: y=>by simp [Op.bytesLess]
 | a :: x,[]=>by simp [Op.bytesLess]
 | a :: x,b :: y=>by
  have h:=V4 x y
  rw [List.cons_lt_cons_iff,← h]
  simp only [Op.bytesLess,yH,decide_eq_true_eq,zA,beq_iff_eq]
theorem X8 (a b:ByteArray):strLt a b=true ↔ a.toList<b.toList:=V4 _ _
theorem Qc (n:ByteArray):∀ xs:List ByteArray,xs.Pairwise (fun x y=>strLt x y=true)→(Ck xs n).Pairwise fun x y=>strLt x y=true
 | [],_=>by simp [Ck]
 | x :: xs,h=>by
  rw [Ck]
  rw [yB] at h
  cases hq:strLt x n with
  | true =>
   rw [cond_true,yB]
   refine ⟨fun y hy=>?_,Qc n xs h.2⟩
   rcases Om.1 hy with hy | rfl
   ·exact h.1 y hy
   ·exact hq
  | false =>
   rw [cond_false]
   by_cases he:x=n
   ·rw [Ao he,cond_true,yB]; exact h
   ·rw [Aj he,cond_false,yB,yB]
    have hn:strLt n x=true:=by
     cases hh:strLt n x with
     | true=>rfl
     | false=>exact absurd (I5 hq hh) he
    refine ⟨fun y hy=>?_,h⟩
    rcases zN.1 hy with rfl | hy
    ·exact hn
    ·exact S4 hn (h.1 y hy)
theorem Jo:∀ (ns xs:List ByteArray),xs.Pairwise (fun x y=>strLt x y=true)→(BJ xs ns).Pairwise fun x y=>strLt x y=true
 | [],xs,h=>h
 | n :: ns,xs,h=>Jo ns (Ck xs n) (Qc n xs h)
theorem Kh {xs:List ByteArray} (h:xs.Pairwise fun x y=>strLt x y=true):xs.Nodup :=
 h.imp fun {a b} hab e=>by rw [e,Oi] at hab; cases hab
theorem Wr (l:List ByteArray):(Sz l).Pairwise fun x y=>strLt y x=false:=by
 unfold Sz srt
 rw [List.pairwise_map]
 have h:=List.pairwise_mergeSort (le:=fun x y:List UInt8=>decide (x≤y)) (fun a b c h k=>by
  rw [decide_eq_true_eq] at h k ⊢; exact List.le_trans h k) (fun a b=>by
  rw [yH,decide_eq_true_eq,decide_eq_true_eq]; exact List.le_total a b) (l.map (·.toList))
 refine h.imp fun {a b} hab=>?_
 rw [decide_eq_true_eq] at hab
 rw [yY]
 intro hh
 have:=(X8 _ _).1 hh
 rw [ByteArray.toList_eq,ByteArray.toList_eq] at this
 exact absurd this (List.not_lt.2 hab)
theorem Ws (ns:List ByteArray):Sz (Bb [] ns)=BJ [] ns:=by
 have h1:=Jo ns [] List.Pairwise.nil
 have n1:=Kh h1
 have n2:(Bb [] ns).Nodup:=Ok List.nodup_nil
 have hp:(Sz (Bb [] ns)).Perm (BJ [] ns):=(Wp _).trans ((List.perm_ext_iff_of_nodup n2 n1).2 fun a=>by rw [Oj,F4])
 refine List.Perm.eq_of_pairwise (le:=fun x y=>strLt y x=false) (fun a b _ _ h k=>I5 k h) (Wr _) (h1.imp fun h=>I4 h) hp
theorem Fm.S5 (x:Fm) (b:List ByteArray):x.fv b=bif dec (x.op=3) then (BJ [] x.atom.vs).filter (fun n=>!dec (n∈b)) else Fm.fvL x.parts (bif qB x.op then b++[x.var] else b):=by
 obtain ⟨op,atom,var,parts⟩:=x
 rw [Fm.fv]; rfl
theorem Fm.Rg {m:ByteArray} {b:List ByteArray}:∀ {xs:List Fm},m∈Fm.fvL xs b ↔ ∃ x∈xs,m∈x.fv b
 | []=>by simp [Fm.fvL]
 | x :: xs=>by rw [Fm.fvL,List.mem_append,Fm.Rg (xs:=xs)]; simp
theorem Fm.Rh (b:List ByteArray):∀ xs:List Fm,(∀ x∈xs,(x.fv b).length≤x.vn)→(Fm.fvL xs b).length≤Fm.vnS xs
 | [],_=>by simp [Fm.fvL]
 | x :: xs,h=>by
  have h1:=h x (by simp)
  have h2:=Fm.Rh b xs fun y hy=>h y (by simp [hy])
  rw [Fm.fvL,Fm.vnS,zY]; omega
theorem Fm.Ou (x:Fm):∀ b:List ByteArray,(x.fv b).length≤x.vn:=by
 intro b
 rw [Fm.S5,Fm.DE]
 cases dec (x.op=3) with
 | true =>
  simp only [cond_true]
  have h1:=List.length_filter_le (fun n=>!dec (n∈b)) (BJ [] x.atom.vs)
  have h2:=EE x.atom.vs []
  have h3:=Tm.LL x.atom
  simp only [yG] at h2
  omega
 | false =>
  simp only [cond_false]
  have h:=Fm.Rh (bif qB x.op then b++[x.var] else b) x.parts fun y hy=>Fm.Ou y _
  omega
termination_by SizeOf.sizeOf x
decreasing_by exact Fm.lt_of_mem hy
theorem Fm.X9:∀ xs:List Fm,(∀ x∈xs,x.vn≤30*x.nodes)→Fm.vnS xs≤30*Fm.nodeS xs
 | [],_=>by simp [Fm.vnS]
 | x :: xs,h=>by
  have h1:=h x (by simp)
  have h2:=Fm.X9 xs fun y hy=>h y (by simp [hy])
  rw [Fm.vnS,Fm.nodeS]; omega
theorem Fm.V5 (x:Fm) (h:x.forms=true):x.vn≤30*x.nodes:=by
 have h1:=Fm.X9 x.parts fun y hy=>Fm.V5 y (Fm.Cn h hy)
 have h2:=Fm.YG (Fm.CA h)
 rw [Fm.DE,Fm.nodes_eq]; omega
termination_by SizeOf.sizeOf x
decreasing_by exact Fm.lt_of_mem hy
theorem Fm.XA (x:Fm) (n:ByteArray):n∈x.free ↔ n∈x.fv []:=by unfold Fm.free; rw [F4]; simp
def EF {α β S:Type} (f:α→S→β × S):List α→S→List β × S
 | [],s=>([],s)
 | x :: xs,s=>((f x s).1 :: (EF f xs (f x s).2).1,(EF f xs (f x s).2).2)
theorem Qd {s:ByteArray} (h:Ba s=true):CD s=false:=by
 unfold Ba at h
 rw [zA] at h
 have hsz:0<s.size:=by
  have h2:=h.2
  unfold inB at h2
  rw [zA,decide_eq_true_eq,decide_eq_true_eq] at h2
  omega
 have h0:=F3 h.1 hsz
 unfold CD
 have h1:DK HH s s.size=false:=D7 (k:=0) hsz (by
  unfold GS at h0
  unfold HH
  rw [zA] at h0
  have hu:L1 (Fu s 0)=true:=by simpa using h0.1
  have hlo:OW (Fu s 0)=false:=by
   unfold L1 at hu
   unfold OW
   rw [zA,decide_eq_true_eq,decide_eq_true_eq] at hu
   rw [decide_eq_false (by omega)]
   rfl
  rw [hlo]
  rfl)
 rw [h1]
 rfl
theorem XB {x:Tm} (h:x.atom=true):Ba x.name=false:=by
 unfold Tm.atom at h
 split at h
 ·rename_i hq
  have:x.name=⟨#[61]⟩:=Ar.1 hq
  rw [this]; decide +kernel
 ·rw [zA] at h
  cases hv:Ba x.name with
  | false=>rfl
  | true =>
   have:=Qd hv
   rw [h.1] at this
   cases this
noncomputable def Qas (x:Bd):Bool:=Ba x.var&&(x.term.valid&&!dec (x.term.name=x.var))
noncomputable def Qat (xs:List Bd) (k:Nat):Bool:=match xs[k]? with
 | none=>true
 | some x=>Qas x&&(match k with
  | 0=>true
  | j+1=>match xs[j]? with
   | none=>true
   | some y=>strLt y.var x.var)
noncomputable def ZT (xs:List Bd):Nat→Bool
 | 0=>true
 | k+1=>ZT xs k&&Qat xs k
noncomputable def Sb.ok (x:Sb):Bool:=decide (x.binds.length≤12)&&ZT x.binds x.binds.length
def Et:SC:=(.seq (.reg [⟨some 2,none,.mv (.c .nil)⟩]) (.seq (.seq (.reg [⟨some 6,none,.mv (.t 0)⟩,⟨some 7,none,.len false (.t 6)⟩,⟨some 8,none,.bin .eql false (.t 7) (.c (.int .i64 0))⟩]) (.cond (.t 8) (.seq (.reg [⟨some 2,none,.mv (.c .nil)⟩]) .ret) .skip)) (.seq (.reg [⟨some 9,none,.mv (.t 0)⟩,⟨some 10,none,.len false (.t 9)⟩,⟨(some 11),none,(.mkslice 31 2 40 [(.str ⟨#[]⟩),.nil] (.t 10))⟩,⟨some 3,none,.mv (.t 11)⟩]) (.seq (.seq (.reg [⟨some 12,none,.mv (.t 0)⟩,⟨some 13,none,.len false (.t 12)⟩,⟨some 14,none,.mv (.c (.int .i64 0))⟩]) (.block 0 (.loop [0,0,0,1,0,0,0,0,0,0,0,0,1,1,1,0,0,0,0,0,0,0,0,0,0,0] (.seq (.reg [⟨some 15,none,.bin .lss false (.t 14) (.t 13)⟩]) (.seq (.cond (.t 15) .skip (.exit 0)) (.seq (.block 1 (.seq (.reg [⟨some 16,none,.mv (.t 14)⟩,⟨some 17,none,.iaddr 2 (.t 12) (.t 14)⟩,⟨some 18,none,.load true 2 (.t 17)⟩,⟨(some 5),none,(.alloc 31 [(.str ⟨#[]⟩),.nil])⟩,⟨some 4,none,.mv (.t 16)⟩,⟨none,none,(.store 2 (.t 5) (.t 18))⟩]) (.reg [⟨some 19,none,.mv (.t 3)⟩,⟨some 20,none,.mv (.t 4)⟩,⟨some 21,none,.load true 2 (.t 5)⟩,⟨some 22,none,.call 79 [(.t 21)]⟩,⟨some 23,none,.iaddr 2 (.t 19) (.t 20)⟩,⟨none,none,(.store 2 (.t 23) (.t 22))⟩]))) (.reg [⟨some 24,none,.bin .add false (.t 14) (.c (.int .i64 1))⟩,⟨some 14,none,.mv (.t 24)⟩]))))))) (.seq (.reg [⟨some 25,none,.mv (.t 3)⟩,⟨some 2,none,.mv (.t 25)⟩]) .ret)))))
theorem GY:Ap Tryz.prog 99=some ⟨26,Et,[(.tmp 2)]⟩:=by kernel_rfl
theorem Eu:modes 99=⟨[],.own [some (31,2)],none,false⟩:=by unfold modes; rfl
def HJ:SC:=(.seq (.reg [⟨some 1,none,.boxv 31 2 (.t 0)⟩,⟨(some 2),none,(.alloc 31 [(.str ⟨#[]⟩),.nil])⟩]) (.seq (.dreg [[],[0],[],[2],[3,2],[1,0,4,3,2],[5,1,0,4,3,2]] [⟨some 3,none,.faddr 0 (.t 1)⟩,⟨some 4,none,.load false 1 (.t 3)⟩,⟨some 5,none,.faddr 1 (.t 1)⟩,⟨some 6,none,.load false 1 (.t 5)⟩,⟨some 7,none,.call 99 [(.t 6)]⟩,⟨(some 8),none,(.build [(.str ⟨#[]⟩),.nil] [(0,(1,(.t 4))),(1,(1,(.t 7)))])⟩,⟨none,none,(.store 2 (.t 2) (.t 8))⟩]) .ret))
theorem MC:Ap Tryz.prog 79=some ⟨9,HJ,[(.cell 2 true 2)]⟩:=by kernel_rfl
theorem EM:modes 79=⟨[],.asis,none,false⟩:=by unfold modes; rfl
def KH:SC:=(.seq (.reg [⟨some 1,none,.boxv 31 2 (.t 0)⟩,⟨(some 2),none,(.alloc 31 [(.str ⟨#[]⟩),.nil])⟩]) (.seq (.reg [⟨some 5,none,.faddr 0 (.t 1)⟩,⟨some 6,none,.load false 1 (.t 5)⟩,⟨(some 7),none,(.build [(.str ⟨#[]⟩),.nil] [(0,(1,(.t 6)))])⟩,⟨(some 3),none,(.alloc 31 [(.str ⟨#[]⟩),.nil])⟩,⟨none,none,(.store 2 (.t 3) (.t 7))⟩]) (.seq (.seq (.reg [⟨some 4,none,.mv (.c (.int .i64 0))⟩]) (.block 0 (.loop [0,1,1,1,1,0,0,0,0,0,0,0,0,0,0,0,0,0,0,0,0,0,0,0,0,0,0] (.seq (.seq (.reg [⟨some 8,none,.mv (.t 4)⟩,⟨some 9,none,.faddr 1 (.t 1)⟩,⟨some 10,none,.load false 1 (.t 9)⟩,⟨some 11,none,.len false (.t 10)⟩,⟨some 12,none,.bin .lss false (.t 8) (.t 11)⟩]) (.cond (.t 12) .skip (.exit 0))) (.seq (.block 1 (.dreg [[],[0],[],[2],[],[3,2,4],[5,3,2,4],[6,5,3,2,4],[7,6,5,3,2,4],[1,0,8,7,6,5,3,2,4],[0,1,2,3,4,5,6,7,8,9],[10,0,1,2,3,4,5,6,7,8,9]] [⟨some 15,none,.faddr 1 (.t 3)⟩,⟨some 16,none,.load false 1 (.t 15)⟩,⟨some 17,none,.faddr 1 (.t 1)⟩,⟨some 18,none,.load false 1 (.t 17)⟩,⟨some 19,none,.mv (.t 4)⟩,⟨some 20,none,.iaddr 2 (.t 18) (.t 19)⟩,⟨some 21,none,.load true 2 (.t 20)⟩,⟨some 22,none,.call 43 [(.t 21)]⟩,⟨(some 23),none,(.mkrow 31 2 [(.str ⟨#[]⟩),.nil] 1 [(0,(.t 22))])⟩,⟨(some 24),none,(.append 31 2 40 [(.str ⟨#[]⟩),.nil] (.t 16) (.t 23))⟩,⟨some 25,none,.faddr 1 (.t 3)⟩,⟨none,none,(.store 1 (.t 25) (.t 24))⟩])) (.reg [⟨some 13,none,.mv (.t 4)⟩,⟨some 14,none,.bin .add false (.t 13) (.c (.int .i64 1))⟩,⟨some 4,none,.mv (.t 14)⟩])))))) (.seq (.reg [⟨some 26,none,.load true 2 (.t 3)⟩,⟨none,none,(.store 2 (.t 2) (.t 26))⟩]) .ret))))
theorem Ri:Ap Tryz.prog 43=some ⟨27,KH,[(.cell 2 true 2)]⟩:=by kernel_rfl
theorem BG:modes 43=⟨[],.own [none,some (31,2)],none,false⟩:=by unfold modes; rfl
theorem Rj (xs:List Tm) (hl:xs.length≤1099511627776) (h:∀ x∈xs,E 79 [x.sv] []=some (x.osv,x.obs)):E 99 [.arr (xs.map Tm.d)] []=some (.ref 0,[.row 31 2 (xs.map Tm.o)]):=by
 cases xs with
 | nil =>
  refine Ai GY Eu (of_decide_eq_true rfl) ?_
  simp (disch:=omega) only [Et,go_sem,Ab]
 | cons x0 xs0 =>
 generalize hxs:x0 :: xs0=xs at *
 have hpos:0<xs.length:=by rw [←hxs]; simp
 refine Ai GY Eu (of_decide_eq_true rfl) ?_
 simp (disch:=omega) only [Et,go_sem,Ab]
 refine go_loop (α:=Int) (fun a=>⟨slots 26 0 [(3,.ref 0),(12,.arr (xs.map Tm.d)),(13,.int .i64 xs.length),(14,.int .i64 a)],[.row 31 2 (FU Tm.o [.str ⟨#[]⟩,.ow []] xs a.toNat)]⟩) (fun a=>∃ k:Nat,a=k∧k≤(xs).length) (fun a=>(xs).length-(a).toNat) 0 ⟨0,rfl,zK _⟩ (by simp (disch:=omega) only [go_sem,Ab,Kd,z7]) ?_
 rintro i ⟨k,hi,hk⟩
 have hni:i.toNat=k:=by omega
 have hni1:(i+1).toNat=k+1:=by omega
 rcases zD k (xs).length with hlt | hge
 ·have hg:=get_at Tm.d hlt
  rw [Tm.d_eq] at hg
  have hz:=LF Tm.o [.str ⟨#[]⟩,.ow []] hlt
  have hc:=h xs[k] (zM hlt)
  have hs:=LG Tm.o [.str ⟨#[]⟩,.ow []] hlt
  rw [Tm.o_eq] at hs
  simp (disch:=omega) only [go_sem,Ab,hni,hg,hc,hz,LC,EM,Tm.osv,Tm.obs]
  refine ⟨i+1,⟨k+1,by omega,hlt⟩,by omega,?_⟩
  simp (disch:=omega) only [go_sem,Ab,hni1,hs]
 ·obtain rfl:k=xs.length:=by omega
  simp (disch:=omega) only [go_sem,Ab,hni,LE]
theorem S6 (x:Tm) (h:E 99 [.arr (x.args.map Tm.d)] []=some (.ref 0,[.row 31 2 (x.args.map Tm.o)])):E 79 [x.sv] []=some (x.osv,x.obs):=by
 refine Ai MC EM (of_decide_eq_true rfl) ?_
 simp (disch:=omega) only [HJ,go_sem,Ab,h,Eu]
theorem Ov (x:Tm) (hn:x.nodes≤1099511627776):E 79 [x.sv] []=some (x.osv,x.obs) :=
 S6 x (Rj x.args (by have:=Tm.nodes_eq x; have:=Tm.length_le x.args; omega) fun y hy=>Ov y (by have:=Tm.nodes_mem hy; have:=Tm.nodes_eq x; omega))
termination_by SizeOf.sizeOf x
decreasing_by exact Tm.lt_of_mem hy
def ZU (res:RM) (n0:Nat) (rs:List RX) (Q:SV × List Ob→Prop) (x:X) (st:St):Prop:=∃ out,Sq res n0 rs out x st∧Q out
theorem exq {α:Type} {a:α} {Q:α→Prop}:(∃ out,some a=some out∧Q out)=Q a:=propext ⟨fun ⟨o,h,q⟩=>by obtain rfl:=zJ h; exact q,fun q=>⟨a,rfl,q⟩⟩
theorem Z2 {res:RM} {n0:Nat} {rs:List RX} {Q:SV × List Ob→Prop} {sl:List SV} {ob:List Ob}:ZU res n0 rs Q .ret ⟨sl,ob⟩=∃ out,K8 res n0 ob (Lp ⟨sl,ob⟩ rs)=some out∧Q out:=rfl
theorem Z3 {res:RM} {n0:Nat} {rs:List RX} {Q:SV × List Ob→Prop} {sl:List SV} {ob:List Ob}:ZU res n0 rs Q .normal ⟨sl,ob⟩=∃ out,K8 res n0 ob (Lp ⟨sl,ob⟩ rs)=some out∧Q out:=rfl
attribute [go_sem] Z2 Z3 exq
def Tm.osh (x:Tm):List OT:=[.str x.name,.sh (x.args.map Tm.d)]
theorem Tm.XC (x:Tm):x.osh=[.str x.name,.sh (x.args.map Tm.d)]:=rfl
theorem Tm.S7:∀ xs:List Tm,OT.AK (xs.map Tm.osh)=true
 | []=>rfl
 | x :: xs=>by rw [zH,Tm.XC]; simp [OT.AK,OT.DC,OT.full,Tm.S7 xs]
theorem Tm.XD:∀ xs:List Tm,OT.erss (xs.map Tm.osh)=xs.map Tm.d
 | []=>rfl
 | x :: xs=>by rw [zH,zH,Tm.XC,Tm.d_eq]; simp [OT.erss,OT.ers,OT.er,Tm.XD xs]
theorem XE {α β:Type} (f:α→β) {xs:List α} {k:Nat} (h:k<xs.length):(xs.take k).map f++[f xs[k]]=(xs.take (k+1)).map f:=by
 rw [yM h,yD]; rfl
theorem XF (x:Tm) (hn:x.nodes≤1099511627776) (ih:∀ y∈x.args,E 43 [y.sv] []=some (y.osv,y.obs)):E 43 [x.sv] []=some (x.osv,x.obs):=by
 have hl:=Tm.length_le x.args
 have hne:=Tm.nodes_eq x
 have h10:((1:Int)=0)=False:=by simp
 have hfu:=Tm.S7 x.args
 have her:=Tm.XD x.args
 refine Ai Ri BG (of_decide_eq_true rfl) ?_
 simp (disch:=omega) only [KH,go_sem,Ab]
 refine go_loop (α:=Int) (fun a=>⟨slots 27 0 [(1,.ptr 0 0),(2,.ptr 1 0),(3,.ptr 2 0),(4,.int .i64 a)],(if a=0 then [.box 31 [.str x.name,.arr (x.args.map Tm.d)],.box 31 [.str ⟨#[]⟩,.nil],.box 31 [.str x.name,.nil]] else [.box 31 [.str x.name,.arr (x.args.map Tm.d)],.box 31 [.str ⟨#[]⟩,.nil],.box 31 [.str x.name,.ref 3],.row 31 2 ((x.args.take a.toNat).map Tm.o)])⟩) (fun a=>∃ k:Nat,a=k∧k≤(x.args).length) (fun a=>(x.args).length-(a).toNat) 0 ⟨0,rfl,zK _⟩ (by simp (disch:=omega) only [go_sem,Ab,eq_self,if_true]) ?_
 rintro i ⟨k,hi,hk⟩
 have hni:i.toNat=k:=by omega
 have hni1:(i+1).toNat=k+1:=by omega
 rcases zD k (x.args).length with hlt | hge
 ·have hg:=get_at Tm.d hlt
  rw [Tm.d_eq] at hg
  have hc:=ih x.args[k] (zM hlt)
  have hs:=XE Tm.o hlt
  rw [Tm.o_eq] at hs
  rcases zX k with h0 | h0
  ·subst h0
   obtain rfl:i=0:=hi
   rw [xE,zU,xC] at hs
   simp (disch:=omega) only [go_sem,Ab,hni,hg,hc,BG,eq_self,if_true,Tm.osv,Tm.obs]
   refine ⟨1,⟨1,rfl,hlt⟩,by omega,?_⟩
   simp (disch:=omega) only [go_sem,Ab,h10,if_false,hs]
  ·have hi0:(i=0)=False:=by simp; omega
   have hi1:(i+1=0)=False:=by simp; omega
   have htl:(x.args.take k).length=k:=by rw [List.length_take]; omega
   simp (disch:=omega) only [go_sem,Ab,hni,hg,hc,BG,hi0,if_false,htl,Tm.osv,Tm.obs]
   refine ⟨i+1,⟨k+1,by omega,hlt⟩,by omega,?_⟩
   simp (disch:=omega) only [go_sem,Ab,hni1,hi1,if_false,hs]
 ·obtain rfl:k=x.args.length:=by omega
  have ht:x.args.take x.args.length=x.args:=List.take_length
  rcases zX x.args.length with h0 | h0
  ·have hx:x.args=[]:=zI h0
   obtain rfl:i=0:=by omega
   simp (disch:=omega) only [go_sem,Ab,hni,hx,eq_self,if_true,zU,yG,Tm.osv,Tm.obs]
  ·have hi0:(i=0)=False:=by simp; omega
   simp (disch:=omega) only [go_sem,Ab,hni,hi0,if_false,ht,hfu,her,Tm.osv,Tm.obs]
theorem V6 (x:Tm) (hn:x.nodes≤1099511627776):E 43 [x.sv] []=some (x.osv,x.obs) :=
 XF x hn fun y hy=>V6 y (by have:=Tm.nodes_mem hy; have:=Tm.nodes_eq x; omega)
termination_by SizeOf.sizeOf x
decreasing_by exact Tm.lt_of_mem hy
def XG:List Bd→ByteArray→Nat
 | [],_=>0
 | x :: xs,n=>if strLt x.var n then XG xs n+1 else 0
noncomputable def YM (xs:List Bd) (n:ByteArray):Bool:=match xs[XG xs n]? with
 | none=>false
 | some b=>dec (b.var=n)
theorem YN {xs:List Bd} {n:ByteArray} (h:YM xs n=true):XG xs n<xs.length:=by
 rcases zD (XG xs n) xs.length with h1 | h1
 ·exact h1
 ·unfold YM at h; rw [List.getElem?_eq_none h1] at h; cases h
noncomputable def Sb.look (x:Sb) (n:ByteArray):Option Tm:=if h:YM x.binds n=true then some (x.binds[XG x.binds n]'(YN h)).term else none
noncomputable def Z4 (s:Sb) (x:Tm):Bool:=s.ok&&(x.expr&&(x.ap s.look).small)
noncomputable def Jt (s:Sb) (x:Tm):Tm:=if Z4 s x then x.ap s.look else .mk ⟨#[]⟩ []
def Qau (x y:Bd):Bool:=!strLt y.var x.var
noncomputable def Z5 (u:Sb) (b:Bd):Option Bd:=bif dec ((b.term.ap u.look).name=b.var) then none else some ⟨b.var,b.term.ap u.look⟩
noncomputable def ZV (s u:Sb):List Bd:=s.binds.filterMap (Z5 u)
noncomputable def ZW (s u:Sb):List Bd:=u.binds.filter fun b=>!YM s.binds b.var
noncomputable def Z6 (s u:Sb):List Bd:=ZV s u++ZW s u
noncomputable def ZX (s u:Sb):Sb:=⟨(Z6 s u).mergeSort Qau⟩
def St.wtS (xs:List ByteArray):Nat:=xs.length
noncomputable def St.mkS:List ByteArray→Int→List ByteArray × Int
 | [],k=>([],k)
 | _ :: xs,k=>(BS k :: (St.mkS xs (k+1)).1,(St.mkS xs (k+1)).2)
theorem St.mkS_end:∀ (xs:List ByteArray) (k:Int),(St.mkS xs k).2=k+St.wtS xs
 | [],k=>by simp [St.mkS,St.wtS]
 | x :: xs,k=>by
  have h:=St.mkS_end xs (k+1)
  unfold St.wtS at h ⊢
  rw [St.mkS]
  simp only [zF]
  omega
theorem St.mkS_len:∀ (xs:List ByteArray) (k:Int),(St.mkS xs k).1.length=xs.length
 | [],k=>by rw [St.mkS]
 | x :: xs,k=>by rw [St.mkS]; simp only [zF]; rw [St.mkS_len xs]
theorem St.wtS_bulk (xs:List ByteArray):St.wtS xs≤5*(xs.length+Rz xs):=by
 unfold St.wtS
 omega
def F5:SC:=(.seq (.reg [⟨some 4,none,.mv (.c (.int .i64 0))⟩]) (.seq (.seq (.reg [⟨some 5,none,.mv (.c (.int .i64 0))⟩]) (.block 0 (.loop [1,1,0,0,0,1,0,0,0,0,0,0,0,0,0,0,0,0,0,0] (.seq (.seq (.reg [⟨some 6,none,.mv (.t 5)⟩,⟨some 7,none,.mv (.t 0)⟩,⟨some 8,none,.len false (.t 7)⟩,⟨some 9,none,.bin .lss false (.t 6) (.t 8)⟩]) (.cond (.t 9) .skip (.exit 0))) (.seq (.block 1 (.seq (.reg [⟨some 12,none,.mv (.t 0)⟩,⟨some 13,none,.mv (.t 5)⟩,⟨some 14,none,.mv (.t 1)⟩,⟨some 15,none,.call 33 [(.t 14)]⟩,⟨some 16,none,.iaddr 1 (.t 12) (.t 13)⟩,⟨none,none,(.store 1 (.t 16) (.t 15))⟩]) (.reg [⟨some 17,none,.mv (.t 1)⟩,⟨some 18,none,.bin .add false (.t 17) (.c (.int .i64 1))⟩,⟨some 1,none,.mv (.t 18)⟩]))) (.reg [⟨some 10,none,.mv (.t 5)⟩,⟨some 11,none,.bin .add false (.t 10) (.c (.int .i64 1))⟩,⟨some 5,none,.mv (.t 11)⟩])))))) (.seq (.reg [⟨some 19,none,.mv (.t 1)⟩,⟨some 4,none,.mv (.t 19)⟩]) .ret)))
theorem Ki:Ap Tryz.prog 34=some ⟨20,F5,[(.tmp 4)]⟩:=by kernel_rfl
theorem F6:modes 34=⟨[true],.asis,none,true⟩:=by unfold modes; rfl
abbrev Pd (xs:List ByteArray):Prop:=∀ (k:Int) (ob:List Ob),1≤k→k+St.wtS xs≤1099511627776→toTree ob=[.tree (xs.map (fun s=>[OT.str s])) []]→E 34 [.ref 0,.int .i64 k] ob=some (.int .i64 (St.mkS xs k).2,[.tree ((St.mkS xs k).1.map (fun s=>[OT.str s])) []])
theorem Pe (xs:List ByteArray):Pd xs:=by
 intro k0 ob h1 h2 hob
 have hlen:ob.length=1:=by rw [←Ek,hob]; rfl
 have hwt:St.wtS xs=xs.length:=rfl
 refine Ai Ki F6 (of_decide_eq_true rfl) ?_
 simp (disch:=omega) only [F5,go_sem,Ab,hob,hlen]
 refine go_loop (α:=Int × (Int) × (List ByteArray)) (fun a=>⟨slots 20 0 [(0,.ref 0),(1,.int .i64 (a.2.1)),(5,.int .i64 (a.1))],[.tree (((a.2.2)++xs.drop (a.1).toNat).map (fun s=>[OT.str s])) []]⟩) (fun a=>∃ k:Nat,a.1=k∧k≤(xs).length∧(a.2.2).length=k∧(a.2.1)=k0+k∧St.mkS xs k0=((a.2.2)++(St.mkS (xs.drop k) (a.2.1)).1,(St.mkS (xs.drop k) (a.2.1)).2)) (fun a=>(xs).length-(a.1).toNat) (0,k0,[]) ⟨0,rfl,zK _,rfl,by simp,by simp⟩ (by simp (disch:=omega) only [go_sem,Ab,z7]) ?_
 rintro ⟨i,kk,dn⟩ ⟨k,hi,hk,hR⟩
 dsimp only at hi hR
 have hni:i.toNat=k:=by omega
 have hni1:(i+1).toNat=k+1:=by omega
 rcases zD k (xs).length with hlt | hge
 ·obtain ⟨hd,hk1,hm⟩:=hR
  have hdr:xs.drop k=xs[k] :: xs.drop (k+1):=zB hlt
  have hel:(dn++xs.drop k).length=xs.length:=by simp; omega
  have hg:(yX (fun s=>[OT.str s]) (dn++xs.drop k))[k]?=some [OT.str xs[k]]:=by
   rw [hdr,z6,zR (by omega),hd,yL]; rfl
  rw [hdr,St.mkS] at hm
  have tx:=Bt (k:=kk) (by omega) (by omega)
  have hs:=FT (fun s=>[OT.str s]) dn (xs.drop (k+1)) xs[k] (BS kk) hd
  rw [←hdr] at hs
  have hgs:∀ a,((yX (fun s=>[OT.str s]) (dn++xs.drop k)).set k a)[k]?=some a:=fun a=>yC (by rw [zZ,hel]; exact hlt)
  simp (disch:=omega) only [go_sem,Ab,hni,hel,hg,hgs,yQ,xA,hs,tx,Bz]
  refine ⟨(i+1,kk+1,dn++[BS kk]),⟨k+1,by dsimp only; omega,hlt,by dsimp only; simp [hd],by dsimp only; omega,by rw [hm]; simp⟩,by dsimp only; omega,?_⟩
  dsimp only
  rw [hni1]
  try first | rfl | simp only [and_self]
 ·obtain ⟨hd,hk1,hm⟩:=hR
  have hdr:xs.drop k=[]:=zE hge
  rw [hdr,St.mkS] at hm
  rw [hm]
  simp (disch:=omega) only [go_sem,Ab,hni,hdr,yE]
mutual
def Tm.wt:Tm→Nat
 | .mk name args=>1+Tm.wtS args
def Tm.wtS:List Tm→Nat
 | []=>0
 | x :: xs=>Tm.wt x+Tm.wtS xs
end
theorem Tm.wt_eq (x:Tm):x.wt=1+Tm.wtS x.args:=by
 obtain ⟨name,args⟩:=x
 rw [Tm.wt]; rfl
mutual
noncomputable def Tm.mk1:Tm→Int→Tm × Int
 | .mk name args,k=>((Tm.mk (BS k) ((Tm.mkS args (k+1)).1)),(Tm.mkS args (k+1)).2)
noncomputable def Tm.mkS:List Tm→Int→List Tm × Int
 | [],k=>([],k)
 | x :: xs,k=>((Tm.mk1 x k).1 :: (Tm.mkS xs (Tm.mk1 x k).2).1,(Tm.mkS xs (Tm.mk1 x k).2).2)
end
theorem Tm.mk1_eq (x:Tm) (k:Int):x.mk1 k=((Tm.mk (BS k) ((Tm.mkS x.args (k+1)).1)),(Tm.mkS x.args (k+1)).2):=by
 obtain ⟨name,args⟩:=x
 rw [Tm.mk1]; rfl
theorem Tm.mk1_d (x:Tm) (k:Int):Tm.d (x.mk1 k).1=[.str (BS k),.arr ((Tm.mkS x.args (k+1)).1.map Tm.d)]:=by
 rw [Tm.mk1_eq,Tm.d_eq]
 try rfl
theorem Tm.mk1_o (x:Tm) (k:Int):Tm.o (x.mk1 k).1=[.str (BS k),.ow ((Tm.mkS x.args (k+1)).1.map Tm.o)]:=by
 rw [Tm.mk1_eq,Tm.o_eq]
 try rfl
theorem Tm.mkS_end_of:∀ (xs:List Tm) (k:Int),(∀ x∈xs,∀ k,(x.mk1 k).2=k+x.wt)→(Tm.mkS xs k).2=k+Tm.wtS xs
 | [],k,_=>by simp [Tm.mkS,Tm.wtS]
 | x :: xs,k,h=>by
  rw [Tm.mkS,Tm.wtS]
  have h1:=h x (by simp) k
  have h2:=Tm.mkS_end_of xs (x.mk1 k).2 fun y hy=>h y (by simp [hy])
  dsimp only
  omega
theorem Tm.mk1_end (x:Tm) (k:Int):(x.mk1 k).2=k+x.wt:=by
 rw [Tm.mk1_eq,Tm.wt_eq]
 have h:=fun k=>Tm.mkS_end_of x.args k fun y hy k=>Tm.mk1_end y k
 simp only [h]
 omega
termination_by SizeOf.sizeOf x
decreasing_by exact Tm.lt_of_mem hy
theorem Tm.mkS_end (xs:List Tm) (k:Int):(Tm.mkS xs k).2=k+Tm.wtS xs:=Tm.mkS_end_of xs k fun x _ k=>Tm.mk1_end x k
theorem Tm.wtS_of:∀ xs:List Tm,(∀ x∈xs,x.wt≤5*(1+x.bulk))→Tm.wtS xs≤5*(xs.length+Tm.sumB xs)
 | [],_=>by simp [Tm.wtS]
 | x :: xs,h=>by
  have h1:=h x (by simp)
  have h2:=Tm.wtS_of xs fun y hy=>h y (by simp [hy])
  rw [Tm.wtS,Tm.sumB]; simp only [zF]; omega
theorem Tm.wt_bulk (x:Tm):x.wt≤5*(1+x.bulk):=by
 rw [Tm.wt_eq,Tm.bulk_eq]
 have h:=Tm.wtS_of x.args fun y hy=>Tm.wt_bulk y
 omega
termination_by SizeOf.sizeOf x
decreasing_by exact Tm.lt_of_mem hy
theorem Tm.wtS_bulk (xs:List Tm):Tm.wtS xs≤5*(xs.length+Tm.sumB xs):=Tm.wtS_of xs fun x _=>Tm.wt_bulk x
theorem Tm.length_wt:∀ xs:List Tm,xs.length≤Tm.wtS xs
 | []=>zP _
 | x :: xs=>by
  have:=Tm.length_wt xs
  have:=Tm.wt_eq x
  rw [Tm.wtS]; simp only [zF]; omega
def GZ:SC:=(.seq (.reg [⟨some 4,none,.mv (.c (.int .i64 0))⟩]) (.seq (.seq (.reg [⟨some 5,none,.mv (.c (.int .i64 0))⟩]) (.block 0 (.loop [1,1,0,0,0,1,0,0,0,0,0,0,0,0,0,0,0,0,0,0,0,0,0,0,0,0,0,0] (.seq (.seq (.reg [⟨some 6,none,.mv (.t 5)⟩,⟨some 7,none,.mv (.t 0)⟩,⟨some 8,none,.len false (.t 7)⟩,⟨some 9,none,.bin .lss false (.t 6) (.t 8)⟩]) (.cond (.t 9) .skip (.exit 0))) (.seq (.block 1 (.seq (.reg [⟨some 12,none,.mv (.t 0)⟩,⟨some 13,none,.mv (.t 5)⟩,⟨some 14,none,.mv (.t 1)⟩,⟨some 15,none,.call 33 [(.t 14)]⟩,⟨some 16,none,.iaddr 2 (.t 12) (.t 13)⟩,⟨some 17,none,.faddr 0 (.t 16)⟩,⟨none,none,(.store 1 (.t 17) (.t 15))⟩]) (.seq (.reg [⟨some 18,none,.mv (.t 1)⟩,⟨some 19,none,.bin .add false (.t 18) (.c (.int .i64 1))⟩,⟨some 1,none,.mv (.t 19)⟩]) (.reg [⟨some 20,none,.mv (.t 0)⟩,⟨some 21,none,.mv (.t 5)⟩,⟨some 22,none,.iaddr 2 (.t 20) (.t 21)⟩,⟨some 23,none,.faddr 1 (.t 22)⟩,⟨some 24,none,.load false 1 (.t 23)⟩,⟨some 25,none,.mv (.t 1)⟩,⟨some 26,none,.call 35 [(.t 24),(.t 25)]⟩,⟨some 1,none,.mv (.t 26)⟩])))) (.reg [⟨some 10,none,.mv (.t 5)⟩,⟨some 11,none,.bin .add false (.t 10) (.c (.int .i64 1))⟩,⟨some 5,none,.mv (.t 11)⟩])))))) (.seq (.reg [⟨some 27,none,.mv (.t 1)⟩,⟨some 4,none,.mv (.t 27)⟩]) .ret)))
theorem LO:Ap Tryz.prog 35=some ⟨28,GZ,[(.tmp 4)]⟩:=by kernel_rfl
theorem Cy:modes 35=⟨[true],.asis,none,true⟩:=by unfold modes; rfl
abbrev Ga (xs:List Tm):Prop:=∀ (k:Int) (ob:List Ob),1≤k→k+Tm.wtS xs≤1099511627776→toTree ob=[.tree (xs.map Tm.o) []]→E 35 [.ref 0,.int .i64 k] ob=some (.int .i64 (Tm.mkS xs k).2,[.tree ((Tm.mkS xs k).1.map Tm.o) []])
theorem I6 (xs:List Tm) (ih:∀ x∈xs,Ga x.args):Ga xs:=by
 intro k0 ob h1 h2 hob
 have hlen:ob.length=1:=by rw [←Ek,hob]; rfl
 have hL:=Tm.length_wt xs
 refine Ai LO Cy (of_decide_eq_true rfl) ?_
 simp (disch:=omega) only [GZ,go_sem,Ab,hob,hlen]
 refine go_loop (α:=Int × (Int) × (List Tm)) (fun a=>⟨slots 28 0 [(0,.ref 0),(1,.int .i64 (a.2.1)),(5,.int .i64 (a.1))],[.tree (((a.2.2)++xs.drop (a.1).toNat).map Tm.o) []]⟩) (fun a=>∃ k:Nat,a.1=k∧k≤(xs).length∧(a.2.2).length=k∧1≤(a.2.1)∧(a.2.1)+Tm.wtS (xs.drop k)=k0+Tm.wtS xs∧Tm.mkS xs k0=((a.2.2)++(Tm.mkS (xs.drop k) (a.2.1)).1,(Tm.mkS (xs.drop k) (a.2.1)).2)) (fun a=>(xs).length-(a.1).toNat) (0,k0,[]) ⟨0,rfl,zK _,rfl,h1,by rw [zC],by simp⟩ (by simp (disch:=omega) only [go_sem,Ab,z7]) ?_
 rintro ⟨i,kk,dn⟩ ⟨k,hi,hk,hR⟩
 dsimp only at hi hR
 have hni:i.toNat=k:=by omega
 have hni1:(i+1).toNat=k+1:=by omega
 rcases zD k (xs).length with hlt | hge
 ·obtain ⟨hd,hk1,hkn,hm⟩:=hR
  have hdr:xs.drop k=xs[k] :: xs.drop (k+1):=zB hlt
  have hel:(dn++xs.drop k).length=xs.length:=by simp; omega
  have hg:(yX Tm.o (dn++xs.drop k))[k]?=some [.str xs[k].name,.ow (xs[k].args.map Tm.o)]:=by
   rw [←Tm.o_eq,hdr,z6,zR (by omega),hd,yL]; rfl
  rw [hdr,Tm.wtS] at hkn
  rw [hdr,Tm.mkS] at hm
  have hn1:=Tm.wt_eq xs[k]
  have e1:=Tm.mkS_end xs[k].args ((kk+1))
  have t0:=Bt (k:=kk) (by omega) (by omega)
  have c58:=ih xs[k] (zM hlt) ((kk+1)) [.tree (xs[k].args.map Tm.o) []] (by omega) (by omega) rfl
  have hs:=FT Tm.o dn (xs.drop (k+1)) xs[k] (xs[k].mk1 kk).1 hd
  rw [Tm.mk1_o,← hdr] at hs
  have hgs:∀ a,((yX Tm.o (dn++xs.drop k)).set k a)[k]?=some a:=fun a=>yC (by rw [zZ,hel]; exact hlt)
  have he:=Tm.mk1_end xs[k] kk
  have three:∀ z:Int,dec ((3:Int)=0)=false:=fun _=>Aj (by omega)
  simp (disch:=omega) only [go_sem,Ab,hni,hel,hg,t0,c58,Cy,Bz,hgs,yQ,xA,hs,three 0]
  refine ⟨(i+1,(xs[k].mk1 kk).2,dn++[(xs[k].mk1 kk).1]),⟨k+1,by dsimp only; omega,hlt,by dsimp only; simp [hd],by dsimp only; omega,by dsimp only; omega,by rw [hm]; simp⟩,by dsimp only; omega,?_⟩
  dsimp only
  rw [hni1,Tm.mk1_eq]
  refine ⟨⟨?_,rfl⟩,rfl⟩
  first | rfl | omega
 ·obtain ⟨hd,hk1,hkn,hm⟩:=hR
  have hdr:xs.drop k=[]:=zE hge
  rw [hdr,Tm.mkS] at hm
  rw [hm]
  simp (disch:=omega) only [go_sem,Ab,hni,hdr,yE]
theorem KI (x:Tm):Ga x.args:=I6 x.args fun y hy=>KI y
termination_by SizeOf.sizeOf x
decreasing_by exact Tm.lt_of_mem hy
theorem I7 (xs:List Tm):Ga xs:=I6 xs fun y _=>KI y
mutual
def Fm.wt:Fm→Nat
 | .mk op atom var parts=>3+Tm.wtS atom.args+Fm.wtS parts
def Fm.wtS:List Fm→Nat
 | []=>0
 | x :: xs=>Fm.wt x+Fm.wtS xs
end
theorem Fm.wt_eq (x:Fm):x.wt=3+Tm.wtS x.atom.args+Fm.wtS x.parts:=by
 obtain ⟨op,atom,var,parts⟩:=x
 rw [Fm.wt]; rfl
mutual
noncomputable def Fm.mk1:Fm→Int→Fm × Int
 | .mk op atom var parts,k=>((Fm.mk (k) (Tm.mk (BS (k+1)) ((Tm.mkS atom.args (k+1+1)).1)) (BS (Tm.mkS atom.args (k+1+1)).2) ((Fm.mkS parts ((Tm.mkS atom.args (k+1+1)).2+1)).1)),(Fm.mkS parts ((Tm.mkS atom.args (k+1+1)).2+1)).2)
noncomputable def Fm.mkS:List Fm→Int→List Fm × Int
 | [],k=>([],k)
 | x :: xs,k=>((Fm.mk1 x k).1 :: (Fm.mkS xs (Fm.mk1 x k).2).1,(Fm.mkS xs (Fm.mk1 x k).2).2)
end
theorem Fm.mk1_eq (x:Fm) (k:Int):x.mk1 k=((Fm.mk (k) (Tm.mk (BS (k+1)) ((Tm.mkS x.atom.args (k+1+1)).1)) (BS (Tm.mkS x.atom.args (k+1+1)).2) ((Fm.mkS x.parts ((Tm.mkS x.atom.args (k+1+1)).2+1)).1)),(Fm.mkS x.parts ((Tm.mkS x.atom.args (k+1+1)).2+1)).2):=by
 obtain ⟨op,atom,var,parts⟩:=x
 rw [Fm.mk1]; rfl
theorem Fm.mk1_d (x:Fm) (k:Int):Fm.d (x.mk1 k).1=[.int k,.str (BS (k+1)),.arr ((Tm.mkS x.atom.args (k+1+1)).1.map Tm.d),.str (BS (Tm.mkS x.atom.args (k+1+1)).2),.arr ((Fm.mkS x.parts ((Tm.mkS x.atom.args (k+1+1)).2+1)).1.map Fm.d)]:=by
 rw [Fm.mk1_eq,Fm.d_eq]
 try rfl
theorem Fm.mk1_o (x:Fm) (k:Int):Fm.o (x.mk1 k).1=[.int k,.str (BS (k+1)),.ow ((Tm.mkS x.atom.args (k+1+1)).1.map Tm.o),.str (BS (Tm.mkS x.atom.args (k+1+1)).2),.ow ((Fm.mkS x.parts ((Tm.mkS x.atom.args (k+1+1)).2+1)).1.map Fm.o)]:=by
 rw [Fm.mk1_eq,Fm.o_eq]
 try rfl
theorem Fm.mkS_end_of:∀ (xs:List Fm) (k:Int),(∀ x∈xs,∀ k,(x.mk1 k).2=k+x.wt)→(Fm.mkS xs k).2=k+Fm.wtS xs
 | [],k,_=>by simp [Fm.mkS,Fm.wtS]
 | x :: xs,k,h=>by
  rw [Fm.mkS,Fm.wtS]
  have h1:=h x (by simp) k
  have h2:=Fm.mkS_end_of xs (x.mk1 k).2 fun y hy=>h y (by simp [hy])
  dsimp only
  omega
theorem Fm.mk1_end (x:Fm) (k:Int):(x.mk1 k).2=k+x.wt:=by
 rw [Fm.mk1_eq,Fm.wt_eq]
 have h:=fun k=>Fm.mkS_end_of x.parts k fun y hy k=>Fm.mk1_end y k
 simp only [h,Tm.mkS_end]
 omega
termination_by SizeOf.sizeOf x
decreasing_by exact Fm.lt_of_mem hy
theorem Fm.mkS_end (xs:List Fm) (k:Int):(Fm.mkS xs k).2=k+Fm.wtS xs:=Fm.mkS_end_of xs k fun x _ k=>Fm.mk1_end x k
theorem Fm.wtS_of:∀ xs:List Fm,(∀ x∈xs,x.wt≤5*(1+x.bulk))→Fm.wtS xs≤5*(xs.length+Fm.sumB xs)
 | [],_=>by simp [Fm.wtS]
 | x :: xs,h=>by
  have h1:=h x (by simp)
  have h2:=Fm.wtS_of xs fun y hy=>h y (by simp [hy])
  rw [Fm.wtS,Fm.sumB]; simp only [zF]; omega
theorem Fm.wt_bulk (x:Fm):x.wt≤5*(1+x.bulk):=by
 rw [Fm.wt_eq,Fm.bulk_eq]
 have h:=Fm.wtS_of x.parts fun y hy=>Fm.wt_bulk y
 have h0:=Tm.wtS_bulk x.atom.args
 have q1:=Tm.bulk_eq x.atom
 omega
termination_by SizeOf.sizeOf x
decreasing_by exact Fm.lt_of_mem hy
theorem Fm.wtS_bulk (xs:List Fm):Fm.wtS xs≤5*(xs.length+Fm.sumB xs):=Fm.wtS_of xs fun x _=>Fm.wt_bulk x
theorem Fm.length_wt:∀ xs:List Fm,xs.length≤Fm.wtS xs
 | []=>zP _
 | x :: xs=>by
  have:=Fm.length_wt xs
  have:=Fm.wt_eq x
  rw [Fm.wtS]; simp only [zF]; omega
def EP:SC:=(.seq (.reg [⟨some 4,none,.mv (.c (.int .i64 0))⟩]) (.seq (.seq (.reg [⟨some 5,none,.mv (.c (.int .i64 0))⟩]) (.block 0 (.loop [1,1,0,0,0,1,0,0,0,0,0,0,0,0,0,0,0,0,0,0,0,0,0,0,0,0,0,0,0,0,0,0,0,0,0,0,0,0,0,0,0,0,0,0,0,0,0,0,0,0,0,0] (.seq (.seq (.reg [⟨some 6,none,.mv (.t 5)⟩,⟨some 7,none,.mv (.t 0)⟩,⟨some 8,none,.len false (.t 7)⟩,⟨some 9,none,.bin .lss false (.t 6) (.t 8)⟩]) (.cond (.t 9) .skip (.exit 0))) (.seq (.block 1 (.seq (.reg [⟨some 12,none,.mv (.t 0)⟩,⟨some 13,none,.mv (.t 5)⟩,⟨some 14,none,.mv (.t 1)⟩,⟨some 15,none,.iaddr 5 (.t 12) (.t 13)⟩,⟨some 16,none,.faddr 0 (.t 15)⟩,⟨none,none,(.store 1 (.t 16) (.t 14))⟩]) (.seq (.reg [⟨some 17,none,.mv (.t 1)⟩,⟨some 18,none,.bin .add false (.t 17) (.c (.int .i64 1))⟩,⟨some 1,none,.mv (.t 18)⟩]) (.seq (.reg [⟨some 19,none,.mv (.t 0)⟩,⟨some 20,none,.mv (.t 5)⟩,⟨some 21,none,.mv (.t 1)⟩,⟨some 22,none,.call 33 [(.t 21)]⟩,⟨some 23,none,.iaddr 5 (.t 19) (.t 20)⟩,⟨some 24,none,.faddr 1 (.t 23)⟩,⟨some 25,none,.faddr 0 (.t 24)⟩,⟨none,none,(.store 1 (.t 25) (.t 22))⟩]) (.seq (.reg [⟨some 26,none,.mv (.t 1)⟩,⟨some 27,none,.bin .add false (.t 26) (.c (.int .i64 1))⟩,⟨some 1,none,.mv (.t 27)⟩]) (.seq (.reg [⟨some 28,none,.mv (.t 0)⟩,⟨some 29,none,.mv (.t 5)⟩,⟨some 30,none,.iaddr 5 (.t 28) (.t 29)⟩,⟨some 31,none,.faddr 1 (.t 30)⟩,⟨some 32,none,.faddr 1 (.t 31)⟩,⟨some 33,none,.load false 1 (.t 32)⟩,⟨some 34,none,.mv (.t 1)⟩,⟨some 35,none,.call 35 [(.t 33),(.t 34)]⟩,⟨some 1,none,.mv (.t 35)⟩]) (.seq (.reg [⟨some 36,none,.mv (.t 0)⟩,⟨some 37,none,.mv (.t 5)⟩,⟨some 38,none,.mv (.t 1)⟩,⟨some 39,none,.call 33 [(.t 38)]⟩,⟨some 40,none,.iaddr 5 (.t 36) (.t 37)⟩,⟨some 41,none,.faddr 3 (.t 40)⟩,⟨none,none,(.store 1 (.t 41) (.t 39))⟩]) (.seq (.reg [⟨some 42,none,.mv (.t 1)⟩,⟨some 43,none,.bin .add false (.t 42) (.c (.int .i64 1))⟩,⟨some 1,none,.mv (.t 43)⟩]) (.reg [⟨some 44,none,.mv (.t 0)⟩,⟨some 45,none,.mv (.t 5)⟩,⟨some 46,none,.iaddr 5 (.t 44) (.t 45)⟩,⟨some 47,none,.faddr 4 (.t 46)⟩,⟨some 48,none,.load false 1 (.t 47)⟩,⟨some 49,none,.mv (.t 1)⟩,⟨some 50,none,.call 32 [(.t 48),(.t 49)]⟩,⟨some 1,none,.mv (.t 50)⟩]))))))))) (.reg [⟨some 10,none,.mv (.t 5)⟩,⟨some 11,none,.bin .add false (.t 10) (.c (.int .i64 1))⟩,⟨some 5,none,.mv (.t 11)⟩])))))) (.seq (.reg [⟨some 51,none,.mv (.t 1)⟩,⟨some 4,none,.mv (.t 51)⟩]) .ret)))
theorem Ju:Ap Tryz.prog 32=some ⟨52,EP,[(.tmp 4)]⟩:=by kernel_rfl
theorem Ct:modes 32=⟨[true],.asis,none,true⟩:=by unfold modes; rfl
abbrev DR (xs:List Fm):Prop:=∀ (k:Int) (ob:List Ob),1≤k→k+Fm.wtS xs≤1099511627776→toTree ob=[.tree (xs.map Fm.o) []]→E 32 [.ref 0,.int .i64 k] ob=some (.int .i64 (Fm.mkS xs k).2,[.tree ((Fm.mkS xs k).1.map Fm.o) []])
theorem Gb (xs:List Fm) (ih:∀ x∈xs,DR x.parts):DR xs:=by
 intro k0 ob h1 h2 hob
 have hlen:ob.length=1:=by rw [←Ek,hob]; rfl
 have hL:=Fm.length_wt xs
 refine Ai Ju Ct (of_decide_eq_true rfl) ?_
 simp (disch:=omega) only [EP,go_sem,Ab,hob,hlen]
 refine go_loop (α:=Int × (Int) × (List Fm)) (fun a=>⟨slots 52 0 [(0,.ref 0),(1,.int .i64 (a.2.1)),(5,.int .i64 (a.1))],[.tree (((a.2.2)++xs.drop (a.1).toNat).map Fm.o) []]⟩) (fun a=>∃ k:Nat,a.1=k∧k≤(xs).length∧(a.2.2).length=k∧1≤(a.2.1)∧(a.2.1)+Fm.wtS (xs.drop k)=k0+Fm.wtS xs∧Fm.mkS xs k0=((a.2.2)++(Fm.mkS (xs.drop k) (a.2.1)).1,(Fm.mkS (xs.drop k) (a.2.1)).2)) (fun a=>(xs).length-(a.1).toNat) (0,k0,[]) ⟨0,rfl,zK _,rfl,h1,by rw [zC],by simp⟩ (by simp (disch:=omega) only [go_sem,Ab,z7]) ?_
 rintro ⟨i,kk,dn⟩ ⟨k,hi,hk,hR⟩
 dsimp only at hi hR
 have hni:i.toNat=k:=by omega
 have hni1:(i+1).toNat=k+1:=by omega
 rcases zD k (xs).length with hlt | hge
 ·obtain ⟨hd,hk1,hkn,hm⟩:=hR
  have hdr:xs.drop k=xs[k] :: xs.drop (k+1):=zB hlt
  have hel:(dn++xs.drop k).length=xs.length:=by simp; omega
  have hg:(yX Fm.o (dn++xs.drop k))[k]?=some [.int xs[k].op,.str xs[k].atom.name,.ow (xs[k].atom.args.map Tm.o),.str xs[k].var,.ow (xs[k].parts.map Fm.o)]:=by
   rw [←Fm.o_eq,hdr,z6,zR (by omega),hd,yL]; rfl
  rw [hdr,Fm.wtS] at hkn
  rw [hdr,Fm.mkS] at hm
  have hn1:=Fm.wt_eq xs[k]
  have e2:=Tm.mkS_end xs[k].atom.args ((kk+1+1))
  have e4:=Fm.mkS_end xs[k].parts (((Tm.mkS xs[k].atom.args (kk+1+1)).2+1))
  have t0:=Bt (k:=(kk+1)) (by omega) (by omega)
  have c64:=I7 xs[k].atom.args ((kk+1+1)) [.tree (xs[k].atom.args.map Tm.o) []] (by omega) (by omega) rfl
  have t187:=Bt (k:=(Tm.mkS xs[k].atom.args (kk+1+1)).2) (by omega) (by omega)
  have c284:=ih xs[k] (zM hlt) (((Tm.mkS xs[k].atom.args (kk+1+1)).2+1)) [.tree (xs[k].parts.map Fm.o) []] (by omega) (by omega) rfl
  have hs:=FT Fm.o dn (xs.drop (k+1)) xs[k] (xs[k].mk1 kk).1 hd
  rw [Fm.mk1_o,← hdr] at hs
  have hgs:∀ a,((yX Fm.o (dn++xs.drop k)).set k a)[k]?=some a:=fun a=>yC (by rw [zZ,hel]; exact hlt)
  have he:=Fm.mk1_end xs[k] kk
  have three:∀ z:Int,dec ((3:Int)=0)=false:=fun _=>Aj (by omega)
  simp (disch:=omega) only [go_sem,Ab,hni,hel,hg,t0,c64,Cy,t187,c284,Ct,Bz,hgs,yQ,xA,hs,three 0]
  refine ⟨(i+1,(xs[k].mk1 kk).2,dn++[(xs[k].mk1 kk).1]),⟨k+1,by dsimp only; omega,hlt,by dsimp only; simp [hd],by dsimp only; omega,by dsimp only; omega,by rw [hm]; simp⟩,by dsimp only; omega,?_⟩
  dsimp only
  rw [hni1,Fm.mk1_eq]
  refine ⟨⟨?_,rfl⟩,rfl⟩
  first | rfl | omega
 ·obtain ⟨hd,hk1,hkn,hm⟩:=hR
  have hdr:xs.drop k=[]:=zE hge
  rw [hdr,Fm.mkS] at hm
  rw [hm]
  simp (disch:=omega) only [go_sem,Ab,hni,hdr,yE]
theorem HK (x:Fm):DR x.parts:=Gb x.parts fun y hy=>HK y
termination_by SizeOf.sizeOf x
decreasing_by exact Fm.lt_of_mem hy
theorem I8 (xs:List Fm):DR xs:=Gb xs fun y _=>HK y
def Df.wt (x:Df):Nat:=4+St.wtS x.vars+Tm.wtS x.form.atom.args+Fm.wtS x.form.parts
theorem Df.wt_eq (x:Df):x.wt=4+St.wtS x.vars+Tm.wtS x.form.atom.args+Fm.wtS x.form.parts:=rfl
noncomputable def Df.mk1 (x:Df) (k:Int):Df × Int:=((Df.mk (BS k) ((St.mkS x.vars (k+1)).1) (Fm.mk ((St.mkS x.vars (k+1)).2) (Tm.mk (BS ((St.mkS x.vars (k+1)).2+1)) ((Tm.mkS x.form.atom.args ((St.mkS x.vars (k+1)).2+1+1)).1)) (BS (Tm.mkS x.form.atom.args ((St.mkS x.vars (k+1)).2+1+1)).2) ((Fm.mkS x.form.parts ((Tm.mkS x.form.atom.args ((St.mkS x.vars (k+1)).2+1+1)).2+1)).1))),(Fm.mkS x.form.parts ((Tm.mkS x.form.atom.args ((St.mkS x.vars (k+1)).2+1+1)).2+1)).2)
theorem Df.mk1_eq (x:Df) (k:Int):x.mk1 k=((Df.mk (BS k) ((St.mkS x.vars (k+1)).1) (Fm.mk ((St.mkS x.vars (k+1)).2) (Tm.mk (BS ((St.mkS x.vars (k+1)).2+1)) ((Tm.mkS x.form.atom.args ((St.mkS x.vars (k+1)).2+1+1)).1)) (BS (Tm.mkS x.form.atom.args ((St.mkS x.vars (k+1)).2+1+1)).2) ((Fm.mkS x.form.parts ((Tm.mkS x.form.atom.args ((St.mkS x.vars (k+1)).2+1+1)).2+1)).1))),(Fm.mkS x.form.parts ((Tm.mkS x.form.atom.args ((St.mkS x.vars (k+1)).2+1+1)).2+1)).2):=rfl
def Df.wtS:List Df→Nat
 | []=>0
 | x :: xs=>Df.wt x+Df.wtS xs
noncomputable def Df.mkS:List Df→Int→List Df × Int
 | [],k=>([],k)
 | x :: xs,k=>((Df.mk1 x k).1 :: (Df.mkS xs (Df.mk1 x k).2).1,(Df.mkS xs (Df.mk1 x k).2).2)
theorem Df.mk1_d (x:Df) (k:Int):Df.d (x.mk1 k).1=[.str (BS k),.arr ((St.mkS x.vars (k+1)).1.map (fun s=>[D.str s])),.int (St.mkS x.vars (k+1)).2,.str (BS ((St.mkS x.vars (k+1)).2+1)),.arr ((Tm.mkS x.form.atom.args ((St.mkS x.vars (k+1)).2+1+1)).1.map Tm.d),.str (BS (Tm.mkS x.form.atom.args ((St.mkS x.vars (k+1)).2+1+1)).2),.arr ((Fm.mkS x.form.parts ((Tm.mkS x.form.atom.args ((St.mkS x.vars (k+1)).2+1+1)).2+1)).1.map Fm.d)]:=by
 rw [Df.mk1_eq,Df.d_eq]
 try rfl
theorem Df.mk1_o (x:Df) (k:Int):Df.o (x.mk1 k).1=[.str (BS k),.ow ((St.mkS x.vars (k+1)).1.map (fun s=>[OT.str s])),.int (St.mkS x.vars (k+1)).2,.str (BS ((St.mkS x.vars (k+1)).2+1)),.ow ((Tm.mkS x.form.atom.args ((St.mkS x.vars (k+1)).2+1+1)).1.map Tm.o),.str (BS (Tm.mkS x.form.atom.args ((St.mkS x.vars (k+1)).2+1+1)).2),.ow ((Fm.mkS x.form.parts ((Tm.mkS x.form.atom.args ((St.mkS x.vars (k+1)).2+1+1)).2+1)).1.map Fm.o)]:=by
 rw [Df.mk1_eq,Df.o_eq]
 try rfl
theorem Df.mk1_end (x:Df) (k:Int):(x.mk1 k).2=k+x.wt:=by
 rw [Df.mk1_eq,Df.wt_eq]
 first
  |omega
  |(simp only [Fm.mkS_end,St.mkS_end,Tm.mkS_end]; done)
  |(simp only [Fm.mkS_end,St.mkS_end,Tm.mkS_end]; omega)
  |simp
theorem Df.mkS_end:∀ (xs:List Df) (k:Int),(Df.mkS xs k).2=k+Df.wtS xs
 | [],k=>by simp [Df.mkS,Df.wtS]
 | x :: xs,k=>by
  rw [Df.mkS,Df.wtS]
  have h1:=Df.mk1_end x k
  have h2:=Df.mkS_end xs (x.mk1 k).2
  dsimp only
  omega
theorem Df.wt_bulk (x:Df):x.wt≤5*(1+x.bulk):=by
 rw [Df.wt_eq,Df.bulk_eq]
 have h0:=St.wtS_bulk x.vars
 have h1:=Tm.wtS_bulk x.form.atom.args
 have h2:=Fm.wtS_bulk x.form.parts
 have q2:=Fm.bulk_eq x.form
 have q2_1:=Tm.bulk_eq x.form.atom
 omega
theorem Df.wtS_bulk:∀ xs:List Df,Df.wtS xs≤5*(xs.length+Df.sumB xs)
 | []=>by simp [Df.wtS]
 | x :: xs=>by
  have h1:=Df.wt_bulk x
  have h2:=Df.wtS_bulk xs
  rw [Df.wtS,Df.sumB]; simp only [zF]; omega
theorem Df.length_wt:∀ xs:List Df,xs.length≤Df.wtS xs
 | []=>zP _
 | x :: xs=>by
  have:=Df.length_wt xs
  have:=Df.wt_eq x
  rw [Df.wtS]; simp only [zF]; omega
def DS:SC:=(.seq (.reg [⟨some 4,none,.mv (.c (.int .i64 0))⟩]) (.seq (.seq (.reg [⟨some 5,none,.mv (.c (.int .i64 0))⟩]) (.block 0 (.loop [1,1,0,0,0,1,0,0,0,0,0,0,0,0,0,0,0,0,0,0,0,0,0,0,0,0,0,0,0,0,0,0,0,0,0,0,0,0,0,0,0,0,0,0,0,0,0,0,0,0,0,0,0,0,0,0,0,0,0,0,0,0,0,0,0,0,0,0,0,0,0,0] (.seq (.seq (.reg [⟨some 6,none,.mv (.t 5)⟩,⟨some 7,none,.mv (.t 0)⟩,⟨some 8,none,.len false (.t 7)⟩,⟨some 9,none,.bin .lss false (.t 6) (.t 8)⟩]) (.cond (.t 9) .skip (.exit 0))) (.seq (.block 1 (.seq (.reg [⟨some 12,none,.mv (.t 0)⟩,⟨some 13,none,.mv (.t 5)⟩,⟨some 14,none,.mv (.t 1)⟩,⟨some 15,none,.call 33 [(.t 14)]⟩,⟨some 16,none,.iaddr 7 (.t 12) (.t 13)⟩,⟨some 17,none,.faddr 0 (.t 16)⟩,⟨none,none,(.store 1 (.t 17) (.t 15))⟩]) (.seq (.reg [⟨some 18,none,.mv (.t 1)⟩,⟨some 19,none,.bin .add false (.t 18) (.c (.int .i64 1))⟩,⟨some 1,none,.mv (.t 19)⟩]) (.seq (.reg [⟨some 20,none,.mv (.t 0)⟩,⟨some 21,none,.mv (.t 5)⟩,⟨some 22,none,.iaddr 7 (.t 20) (.t 21)⟩,⟨some 23,none,.faddr 1 (.t 22)⟩,⟨some 24,none,.load false 1 (.t 23)⟩,⟨some 25,none,.mv (.t 1)⟩,⟨some 26,none,.call 34 [(.t 24),(.t 25)]⟩,⟨some 1,none,.mv (.t 26)⟩]) (.seq (.reg [⟨some 27,none,.mv (.t 0)⟩,⟨some 28,none,.mv (.t 5)⟩,⟨some 29,none,.mv (.t 1)⟩,⟨some 30,none,.iaddr 7 (.t 27) (.t 28)⟩,⟨some 31,none,.faddr 2 (.t 30)⟩,⟨some 32,none,.faddr 0 (.t 31)⟩,⟨none,none,(.store 1 (.t 32) (.t 29))⟩]) (.seq (.reg [⟨some 33,none,.mv (.t 1)⟩,⟨some 34,none,.bin .add false (.t 33) (.c (.int .i64 1))⟩,⟨some 1,none,.mv (.t 34)⟩]) (.seq (.reg [⟨some 35,none,.mv (.t 0)⟩,⟨some 36,none,.mv (.t 5)⟩,⟨some 37,none,.mv (.t 1)⟩,⟨some 38,none,.call 33 [(.t 37)]⟩,⟨some 39,none,.iaddr 7 (.t 35) (.t 36)⟩,⟨some 40,none,.faddr 2 (.t 39)⟩,⟨some 41,none,.faddr 1 (.t 40)⟩,⟨some 42,none,.faddr 0 (.t 41)⟩,⟨none,none,(.store 1 (.t 42) (.t 38))⟩]) (.seq (.reg [⟨some 43,none,.mv (.t 1)⟩,⟨some 44,none,.bin .add false (.t 43) (.c (.int .i64 1))⟩,⟨some 1,none,.mv (.t 44)⟩]) (.seq (.reg [⟨some 45,none,.mv (.t 0)⟩,⟨some 46,none,.mv (.t 5)⟩,⟨some 47,none,.iaddr 7 (.t 45) (.t 46)⟩,⟨some 48,none,.faddr 2 (.t 47)⟩,⟨some 49,none,.faddr 1 (.t 48)⟩,⟨some 50,none,.faddr 1 (.t 49)⟩,⟨some 51,none,.load false 1 (.t 50)⟩,⟨some 52,none,.mv (.t 1)⟩,⟨some 53,none,.call 35 [(.t 51),(.t 52)]⟩,⟨some 1,none,.mv (.t 53)⟩]) (.seq (.reg [⟨some 54,none,.mv (.t 0)⟩,⟨some 55,none,.mv (.t 5)⟩,⟨some 56,none,.mv (.t 1)⟩,⟨some 57,none,.call 33 [(.t 56)]⟩,⟨some 58,none,.iaddr 7 (.t 54) (.t 55)⟩,⟨some 59,none,.faddr 2 (.t 58)⟩,⟨some 60,none,.faddr 3 (.t 59)⟩,⟨none,none,(.store 1 (.t 60) (.t 57))⟩]) (.seq (.reg [⟨some 61,none,.mv (.t 1)⟩,⟨some 62,none,.bin .add false (.t 61) (.c (.int .i64 1))⟩,⟨some 1,none,.mv (.t 62)⟩]) (.reg [⟨some 63,none,.mv (.t 0)⟩,⟨some 64,none,.mv (.t 5)⟩,⟨some 65,none,.iaddr 7 (.t 63) (.t 64)⟩,⟨some 66,none,.faddr 2 (.t 65)⟩,⟨some 67,none,.faddr 4 (.t 66)⟩,⟨some 68,none,.load false 1 (.t 67)⟩,⟨some 69,none,.mv (.t 1)⟩,⟨some 70,none,.call 32 [(.t 68),(.t 69)]⟩,⟨some 1,none,.mv (.t 70)⟩])))))))))))) (.reg [⟨some 10,none,.mv (.t 5)⟩,⟨some 11,none,.bin .add false (.t 10) (.c (.int .i64 1))⟩,⟨some 5,none,.mv (.t 11)⟩])))))) (.seq (.reg [⟨some 71,none,.mv (.t 1)⟩,⟨some 4,none,.mv (.t 71)⟩]) .ret)))
theorem H8:Ap Tryz.prog 11=some ⟨72,DS,[(.tmp 4)]⟩:=by kernel_rfl
theorem Bv:modes 11=⟨[true],.asis,none,true⟩:=by unfold modes; rfl
abbrev Gc (xs:List Df):Prop:=∀ (k:Int) (ob:List Ob),1≤k→k+Df.wtS xs≤1099511627776→toTree ob=[.tree (xs.map Df.o) []]→E 11 [.ref 0,.int .i64 k] ob=some (.int .i64 (Df.mkS xs k).2,[.tree ((Df.mkS xs k).1.map Df.o) []])
theorem I9 (xs:List Df):Gc xs:=by
 intro k0 ob h1 h2 hob
 have hlen:ob.length=1:=by rw [←Ek,hob]; rfl
 have hL:=Df.length_wt xs
 refine Ai H8 Bv (of_decide_eq_true rfl) ?_
 simp (disch:=omega) only [DS,go_sem,Ab,hob,hlen]
 refine go_loop (α:=Int × (Int) × (List Df)) (fun a=>⟨slots 72 0 [(0,.ref 0),(1,.int .i64 (a.2.1)),(5,.int .i64 (a.1))],[.tree (((a.2.2)++xs.drop (a.1).toNat).map Df.o) []]⟩) (fun a=>∃ k:Nat,a.1=k∧k≤(xs).length∧(a.2.2).length=k∧1≤(a.2.1)∧(a.2.1)+Df.wtS (xs.drop k)=k0+Df.wtS xs∧Df.mkS xs k0=((a.2.2)++(Df.mkS (xs.drop k) (a.2.1)).1,(Df.mkS (xs.drop k) (a.2.1)).2)) (fun a=>(xs).length-(a.1).toNat) (0,k0,[]) ⟨0,rfl,zK _,rfl,h1,by rw [zC],by simp⟩ (by simp (disch:=omega) only [go_sem,Ab,z7]) ?_
 rintro ⟨i,kk,dn⟩ ⟨k,hi,hk,hR⟩
 dsimp only at hi hR
 have hni:i.toNat=k:=by omega
 have hni1:(i+1).toNat=k+1:=by omega
 rcases zD k (xs).length with hlt | hge
 ·obtain ⟨hd,hk1,hkn,hm⟩:=hR
  have hdr:xs.drop k=xs[k] :: xs.drop (k+1):=zB hlt
  have hel:(dn++xs.drop k).length=xs.length:=by simp; omega
  have hg:(yX Df.o (dn++xs.drop k))[k]?=some [.str xs[k].name,.ow (xs[k].vars.map fun s=>[OT.str s]),.int xs[k].form.op,.str xs[k].form.atom.name,.ow (xs[k].form.atom.args.map Tm.o),.str xs[k].form.var,.ow (xs[k].form.parts.map Fm.o)]:=by
   rw [←Df.o_eq,hdr,z6,zR (by omega),hd,yL]; rfl
  rw [hdr,Df.wtS] at hkn
  rw [hdr,Df.mkS] at hm
  have hn1:=Df.wt_eq xs[k]
  have e1:=St.mkS_end xs[k].vars ((kk+1))
  have e4:=Tm.mkS_end xs[k].form.atom.args (((St.mkS xs[k].vars (kk+1)).2+1+1))
  have e6:=Fm.mkS_end xs[k].form.parts (((Tm.mkS xs[k].form.atom.args ((St.mkS xs[k].vars (kk+1)).2+1+1)).2+1))
  have t0:=Bt (k:=kk) (by omega) (by omega)
  have c58:=Pe xs[k].vars ((kk+1)) [.tree (xs[k].vars.map (fun s=>[OT.str s])) []] (by omega) (by omega) rfl
  have t186:=Bt (k:=((St.mkS xs[k].vars (kk+1)).2+1)) (by omega) (by omega)
  have c280:=I7 xs[k].form.atom.args (((St.mkS xs[k].vars (kk+1)).2+1+1)) [.tree (xs[k].form.atom.args.map Tm.o) []] (by omega) (by omega) rfl
  have t442:=Bt (k:=(Tm.mkS xs[k].form.atom.args ((St.mkS xs[k].vars (kk+1)).2+1+1)).2) (by omega) (by omega)
  have c572:=I8 xs[k].form.parts (((Tm.mkS xs[k].form.atom.args ((St.mkS xs[k].vars (kk+1)).2+1+1)).2+1)) [.tree (xs[k].form.parts.map Fm.o) []] (by omega) (by omega) rfl
  have hs:=FT Df.o dn (xs.drop (k+1)) xs[k] (xs[k].mk1 kk).1 hd
  rw [Df.mk1_o,← hdr] at hs
  have hgs:∀ a,((yX Df.o (dn++xs.drop k)).set k a)[k]?=some a:=fun a=>yC (by rw [zZ,hel]; exact hlt)
  have he:=Df.mk1_end xs[k] kk
  have three:∀ z:Int,dec ((3:Int)=0)=false:=fun _=>Aj (by omega)
  simp (disch:=omega) only [go_sem,Ab,hni,hel,hg,t0,c58,F6,t186,c280,Cy,t442,c572,Ct,Bz,hgs,yQ,xA,hs,three 0]
  refine ⟨(i+1,(xs[k].mk1 kk).2,dn++[(xs[k].mk1 kk).1]),⟨k+1,by dsimp only; omega,hlt,by dsimp only; simp [hd],by dsimp only; omega,by dsimp only; omega,by rw [hm]; simp⟩,by dsimp only; omega,?_⟩
  dsimp only
  rw [hni1,Df.mk1_eq]
  refine ⟨⟨?_,rfl⟩,rfl⟩
  first | rfl | omega
 ·obtain ⟨hd,hk1,hkn,hm⟩:=hR
  have hdr:xs.drop k=[]:=zE hge
  rw [hdr,Df.mkS] at hm
  rw [hm]
  simp (disch:=omega) only [go_sem,Ab,hni,hdr,yE]
theorem KJ (xs:List Df):Gc xs:=I9 xs
def F7:SC:=(.seq (.reg [⟨some 4,none,.mv (.c (.int .i64 0))⟩]) (.seq (.seq (.reg [⟨some 5,none,.mv (.c (.int .i64 0))⟩]) (.block 0 (.loop [1,1,0,0,0,1,0,0,0,0,0,0,0,0,0,0,0,0,0,0,0,0] (.seq (.seq (.reg [⟨some 6,none,.mv (.t 5)⟩,⟨some 7,none,.mv (.t 0)⟩,⟨some 8,none,.len false (.t 7)⟩,⟨some 9,none,.bin .lss false (.t 6) (.t 8)⟩]) (.cond (.t 9) .skip (.exit 0))) (.seq (.block 1 (.seq (.seq (.dreg [[],[],[0,1],[2,0,1],[],[4],[3,2,0,1,5,4]] [⟨some 12,none,.mv (.t 0)⟩,⟨some 13,none,.mv (.t 5)⟩,⟨some 14,none,.iaddr 1 (.t 12) (.t 13)⟩,⟨some 15,none,.load false 1 (.t 14)⟩,⟨some 16,none,.mv (.t 1)⟩,⟨some 17,none,.call 33 [(.t 16)]⟩,⟨some 18,none,.bin .neq false (.t 15) (.t 17)⟩]) (.cond (.t 18) (.seq (.reg [⟨some 4,none,.mv (.c (.int .i64 (-(0+1))))⟩]) .ret) .skip)) (.reg [⟨some 19,none,.mv (.t 1)⟩,⟨some 20,none,.bin .add false (.t 19) (.c (.int .i64 1))⟩,⟨some 1,none,.mv (.t 20)⟩]))) (.reg [⟨some 10,none,.mv (.t 5)⟩,⟨some 11,none,.bin .add false (.t 10) (.c (.int .i64 1))⟩,⟨some 5,none,.mv (.t 11)⟩])))))) (.seq (.reg [⟨some 21,none,.mv (.t 1)⟩,⟨some 4,none,.mv (.t 21)⟩]) .ret)))
theorem Kj:Ap Tryz.prog 38=some ⟨22,F7,[(.tmp 4)]⟩:=by kernel_rfl
theorem F8:modes 38=⟨[],.asis,none,false⟩:=by unfold modes; rfl
theorem Pf (xs:List ByteArray):∀ k:Int,1≤k→k+St.wtS xs≤1099511627776→E 38 [.arr ((St.mkS xs k).1.map (fun s=>[D.str s])),.int .i64 k] []=some (.int .i64 (St.mkS xs k).2,[]):=by
 intro k0 h1 h2
 obtain ⟨ys,hys⟩:∃ ys,ys=(St.mkS xs k0).1:=⟨_,rfl⟩
 have hyl:ys.length=xs.length:=by rw [hys,St.mkS_len]
 rw [←hys]
 have hwt:St.wtS xs=xs.length:=rfl
 refine Ai Kj F8 (of_decide_eq_true rfl) ?_
 simp (disch:=omega) only [F7,go_sem,Ab]
 refine go_loop (α:=Int × (Int)) (fun a=>⟨slots 22 0 [(0,.arr (ys.map (fun s=>[D.str s]))),(1,.int .i64 (a.2)),(5,.int .i64 (a.1))],[]⟩) (fun a=>∃ k:Nat,a.1=k∧k≤(ys).length∧(a.2)=k0+k∧ys.drop k=(St.mkS (xs.drop k) (a.2)).1∧(St.mkS xs k0).2=(St.mkS (xs.drop k) (a.2)).2) (fun a=>(ys).length-(a.1).toNat) (0,k0) ⟨0,rfl,zK _,by simp,by rw [zC,zC,hys],by rw [zC]⟩ (by simp (disch:=omega) only [go_sem,Ab]) ?_
 rintro ⟨i,kk⟩ ⟨k,hi,hk,hR⟩
 dsimp only at hi hR
 have hni:i.toNat=k:=by omega
 have hni1:(i+1).toNat=k+1:=by omega
 rcases zD k (ys).length with hlt | hge
 ·obtain ⟨hk1,hy,hm⟩:=hR
  have hlx:k<xs.length:=by omega
  have hdr:xs.drop k=xs[k] :: xs.drop (k+1):=zB hlx
  have hdy:=zB hlt
  rw [hdr,St.mkS] at hm
  rw [hdr,St.mkS,hdy] at hy
  dsimp only at hy hm
  obtain ⟨hy1,hy2⟩:=y6 hy
  have hg:=get_at (fun s=>[D.str s]) hlt
  rw [hy1] at hg
  have tx:=Bt (k:=kk) (by omega) (by omega)
  simp (disch:=omega) only [go_sem,Ab,hni,hg,Cw,tx,Bz]
  exact ⟨(i+1,kk+1),⟨k+1,by dsimp only; omega,hlt,by dsimp only; omega,hy2,hm⟩,by dsimp only; omega,by first | trivial | rfl | exact ⟨rfl,rfl⟩⟩
 ·obtain ⟨hk1,hy,hm⟩:=hR
  have hdr:xs.drop k=[]:=zE (by omega)
  rw [hdr,St.mkS] at hm
  rw [hm]
  simp (disch:=omega) only [go_sem,Ab,hni]
def Ha:SC:=(.seq (.reg [⟨some 4,none,.mv (.c (.int .i64 0))⟩]) (.seq (.seq (.reg [⟨some 5,none,.mv (.c (.int .i64 0))⟩]) (.block 0 (.loop [1,1,0,0,0,1,0,0,0,0,0,0,0,0,0,0,0,0,0,0,0,0,0,0,0,0,0,0,0,0,0,0] (.seq (.seq (.reg [⟨some 6,none,.mv (.t 5)⟩,⟨some 7,none,.mv (.t 0)⟩,⟨some 8,none,.len false (.t 7)⟩,⟨some 9,none,.bin .lss false (.t 6) (.t 8)⟩]) (.cond (.t 9) .skip (.exit 0))) (.seq (.block 1 (.seq (.seq (.dreg [[],[],[0,1],[2,0,1],[3,2,0,1],[],[5],[4,3,2,0,1,6,5]] [⟨some 12,none,.mv (.t 0)⟩,⟨some 13,none,.mv (.t 5)⟩,⟨some 14,none,.iaddr 2 (.t 12) (.t 13)⟩,⟨some 15,none,.faddr 0 (.t 14)⟩,⟨some 16,none,.load false 1 (.t 15)⟩,⟨some 17,none,.mv (.t 1)⟩,⟨some 18,none,.call 33 [(.t 17)]⟩,⟨some 19,none,.bin .neq false (.t 16) (.t 18)⟩]) (.cond (.t 19) (.seq (.reg [⟨some 4,none,.mv (.c (.int .i64 (-(0+1))))⟩]) .ret) .skip)) (.seq (.reg [⟨some 20,none,.mv (.t 1)⟩,⟨some 21,none,.bin .add false (.t 20) (.c (.int .i64 1))⟩,⟨some 1,none,.mv (.t 21)⟩]) (.seq (.reg [⟨some 22,none,.mv (.t 0)⟩,⟨some 23,none,.mv (.t 5)⟩,⟨some 24,none,.iaddr 2 (.t 22) (.t 23)⟩,⟨some 25,none,.faddr 1 (.t 24)⟩,⟨some 26,none,.load false 1 (.t 25)⟩,⟨some 27,none,.mv (.t 1)⟩,⟨some 28,none,.call 39 [(.t 26),(.t 27)]⟩,⟨some 1,none,.mv (.t 28)⟩]) (.seq (.reg [⟨some 29,none,.mv (.t 1)⟩,⟨some 30,none,.bin .lss false (.t 29) (.c (.int .i64 0))⟩]) (.cond (.t 30) (.seq (.reg [⟨some 4,none,.mv (.c (.int .i64 (-(0+1))))⟩]) .ret) .skip)))))) (.reg [⟨some 10,none,.mv (.t 5)⟩,⟨some 11,none,.bin .add false (.t 10) (.c (.int .i64 1))⟩,⟨some 5,none,.mv (.t 11)⟩])))))) (.seq (.reg [⟨some 31,none,.mv (.t 1)⟩,⟨some 4,none,.mv (.t 31)⟩]) .ret)))
theorem LP:Ap Tryz.prog 39=some ⟨32,Ha,[(.tmp 4)]⟩:=by kernel_rfl
theorem Cz:modes 39=⟨[],.asis,none,false⟩:=by unfold modes; rfl
theorem Tm.mkS_len:∀ (xs:List Tm) (k:Int),(Tm.mkS xs k).1.length=xs.length
 | [],k=>by rw [Tm.mkS]
 | x :: xs,k=>by rw [Tm.mkS]; simp only [zF]; rw [Tm.mkS_len xs]
abbrev Gd (xs:List Tm):Prop:=∀ k:Int,1≤k→k+Tm.wtS xs≤1099511627776→E 39 [.arr ((Tm.mkS xs k).1.map Tm.d),.int .i64 k] []=some (.int .i64 (Tm.mkS xs k).2,[])
theorem IA (xs:List Tm) (ih:∀ x∈xs,Gd x.args):Gd xs:=by
 intro k0 h1 h2
 obtain ⟨ys,hys⟩:∃ ys,ys=(Tm.mkS xs k0).1:=⟨_,rfl⟩
 have hyl:ys.length=xs.length:=by rw [hys,Tm.mkS_len]
 rw [←hys]
 have hL:=Tm.length_wt xs
 refine Ai LP Cz (of_decide_eq_true rfl) ?_
 simp (disch:=omega) only [Ha,go_sem,Ab]
 refine go_loop (α:=Int × (Int)) (fun a=>⟨slots 32 0 [(0,.arr (ys.map Tm.d)),(1,.int .i64 (a.2)),(5,.int .i64 (a.1))],[]⟩) (fun a=>∃ k:Nat,a.1=k∧k≤(ys).length∧1≤(a.2)∧(a.2)+Tm.wtS (xs.drop k)=k0+Tm.wtS xs∧ys.drop k=(Tm.mkS (xs.drop k) (a.2)).1∧(Tm.mkS xs k0).2=(Tm.mkS (xs.drop k) (a.2)).2) (fun a=>(ys).length-(a.1).toNat) (0,k0) ⟨0,rfl,zK _,h1,by rw [zC],by rw [zC,zC,hys],by rw [zC]⟩ (by simp (disch:=omega) only [go_sem,Ab]) ?_
 rintro ⟨i,kk⟩ ⟨k,hi,hk,hR⟩
 dsimp only at hi hR
 have hni:i.toNat=k:=by omega
 have hni1:(i+1).toNat=k+1:=by omega
 rcases zD k (ys).length with hlt | hge
 ·obtain ⟨hk1,hkn,hy,hm⟩:=hR
  have hlx:k<xs.length:=by omega
  have hdr:xs.drop k=xs[k] :: xs.drop (k+1):=zB hlx
  have hdy:=zB hlt
  rw [hdr,Tm.wtS] at hkn
  rw [hdr,Tm.mkS] at hm
  rw [hdr,Tm.mkS,hdy] at hy
  dsimp only at hy hm
  obtain ⟨hy1,hy2⟩:=y6 hy
  have hg:=get_at Tm.d hlt
  rw [hy1,Tm.mk1_d] at hg
  have hn1:=Tm.wt_eq xs[k]
  have e1:=Tm.mkS_end xs[k].args ((kk+1))
  have t0:=Bt (k:=kk) (by omega) (by omega)
  have c58:=ih xs[k] (zM hlx) ((kk+1)) (by omega) (by omega)
  have he:=Tm.mk1_end xs[k] kk
  simp (disch:=omega) only [go_sem,Ab,hni,hg,Bz,Cw,t0,c58,Cz]
  refine ⟨(i+1,(xs[k].mk1 kk).2),⟨k+1,by dsimp only; omega,hlt,by dsimp only; omega,by dsimp only; omega,hy2,hm⟩,by dsimp only; omega,?_⟩
  dsimp only
  rw [Tm.mk1_eq]
  simp only [and_self,and_true,true_and]
  try omega
 ·obtain ⟨hk1,hkn,hy,hm⟩:=hR
  have hdr:xs.drop k=[]:=zE (by omega)
  rw [hdr,Tm.mkS] at hm
  rw [hm]
  simp (disch:=omega) only [go_sem,Ab,hni]
theorem KK (x:Tm):Gd x.args:=IA x.args fun y hy=>KK y
termination_by SizeOf.sizeOf x
decreasing_by exact Tm.lt_of_mem hy
theorem IB (xs:List Tm):Gd xs:=IA xs fun y _=>KK y
def EQ:SC:=(.seq (.reg [⟨some 4,none,.mv (.c (.int .i64 0))⟩]) (.seq (.seq (.reg [⟨some 5,none,.mv (.c (.int .i64 0))⟩]) (.block 0 (.loop [1,1,0,0,0,1,0,0,0,0,0,0,0,0,0,0,0,0,0,0,0,0,0,0,0,0,0,0,0,0,0,0,0,0,0,0,0,0,0,0,0,0,0,0,0,0,0,0,0,0,0,0,0,0,0,0,0,0,0,0,0,0] (.seq (.seq (.reg [⟨some 6,none,.mv (.t 5)⟩,⟨some 7,none,.mv (.t 0)⟩,⟨some 8,none,.len false (.t 7)⟩,⟨some 9,none,.bin .lss false (.t 6) (.t 8)⟩]) (.cond (.t 9) .skip (.exit 0))) (.seq (.block 1 (.seq (.seq (.reg [⟨some 12,none,.mv (.t 0)⟩,⟨some 13,none,.mv (.t 5)⟩,⟨some 14,none,.iaddr 5 (.t 12) (.t 13)⟩,⟨some 15,none,.faddr 0 (.t 14)⟩,⟨some 16,none,.load false 1 (.t 15)⟩,⟨some 17,none,.mv (.t 1)⟩,⟨some 18,none,.bin .neq false (.t 16) (.t 17)⟩]) (.cond (.t 18) (.seq (.reg [⟨some 4,none,.mv (.c (.int .i64 (-(0+1))))⟩]) .ret) .skip)) (.seq (.reg [⟨some 19,none,.mv (.t 1)⟩,⟨some 20,none,.bin .add false (.t 19) (.c (.int .i64 1))⟩,⟨some 1,none,.mv (.t 20)⟩]) (.seq (.seq (.dreg [[],[],[0,1],[2,0,1],[3,2,0,1],[4,3,2,0,1],[],[6],[5,4,3,2,0,1,7,6]] [⟨some 21,none,.mv (.t 0)⟩,⟨some 22,none,.mv (.t 5)⟩,⟨some 23,none,.iaddr 5 (.t 21) (.t 22)⟩,⟨some 24,none,.faddr 1 (.t 23)⟩,⟨some 25,none,.faddr 0 (.t 24)⟩,⟨some 26,none,.load false 1 (.t 25)⟩,⟨some 27,none,.mv (.t 1)⟩,⟨some 28,none,.call 33 [(.t 27)]⟩,⟨some 29,none,.bin .neq false (.t 26) (.t 28)⟩]) (.cond (.t 29) (.seq (.reg [⟨some 4,none,.mv (.c (.int .i64 (-(0+1))))⟩]) .ret) .skip)) (.seq (.reg [⟨some 30,none,.mv (.t 1)⟩,⟨some 31,none,.bin .add false (.t 30) (.c (.int .i64 1))⟩,⟨some 1,none,.mv (.t 31)⟩]) (.seq (.reg [⟨some 32,none,.mv (.t 0)⟩,⟨some 33,none,.mv (.t 5)⟩,⟨some 34,none,.iaddr 5 (.t 32) (.t 33)⟩,⟨some 35,none,.faddr 1 (.t 34)⟩,⟨some 36,none,.faddr 1 (.t 35)⟩,⟨some 37,none,.load false 1 (.t 36)⟩,⟨some 38,none,.mv (.t 1)⟩,⟨some 39,none,.call 39 [(.t 37),(.t 38)]⟩,⟨some 1,none,.mv (.t 39)⟩]) (.seq (.seq (.reg [⟨some 40,none,.mv (.t 1)⟩,⟨some 41,none,.bin .lss false (.t 40) (.c (.int .i64 0))⟩]) (.cond (.t 41) (.seq (.reg [⟨some 4,none,.mv (.c (.int .i64 (-(0+1))))⟩]) .ret) .skip)) (.seq (.seq (.dreg [[],[],[0,1],[2,0,1],[3,2,0,1],[],[5],[4,3,2,0,1,6,5]] [⟨some 42,none,.mv (.t 0)⟩,⟨some 43,none,.mv (.t 5)⟩,⟨some 44,none,.iaddr 5 (.t 42) (.t 43)⟩,⟨some 45,none,.faddr 3 (.t 44)⟩,⟨some 46,none,.load false 1 (.t 45)⟩,⟨some 47,none,.mv (.t 1)⟩,⟨some 48,none,.call 33 [(.t 47)]⟩,⟨some 49,none,.bin .neq false (.t 46) (.t 48)⟩]) (.cond (.t 49) (.seq (.reg [⟨some 4,none,.mv (.c (.int .i64 (-(0+1))))⟩]) .ret) .skip)) (.seq (.reg [⟨some 50,none,.mv (.t 1)⟩,⟨some 51,none,.bin .add false (.t 50) (.c (.int .i64 1))⟩,⟨some 1,none,.mv (.t 51)⟩]) (.seq (.reg [⟨some 52,none,.mv (.t 0)⟩,⟨some 53,none,.mv (.t 5)⟩,⟨some 54,none,.iaddr 5 (.t 52) (.t 53)⟩,⟨some 55,none,.faddr 4 (.t 54)⟩,⟨some 56,none,.load false 1 (.t 55)⟩,⟨some 57,none,.mv (.t 1)⟩,⟨some 58,none,.call 37 [(.t 56),(.t 57)]⟩,⟨some 1,none,.mv (.t 58)⟩]) (.seq (.reg [⟨some 59,none,.mv (.t 1)⟩,⟨some 60,none,.bin .lss false (.t 59) (.c (.int .i64 0))⟩]) (.cond (.t 60) (.seq (.reg [⟨some 4,none,.mv (.c (.int .i64 (-(0+1))))⟩]) .ret) .skip)))))))))))) (.reg [⟨some 10,none,.mv (.t 5)⟩,⟨some 11,none,.bin .add false (.t 10) (.c (.int .i64 1))⟩,⟨some 5,none,.mv (.t 11)⟩])))))) (.seq (.reg [⟨some 61,none,.mv (.t 1)⟩,⟨some 4,none,.mv (.t 61)⟩]) .ret)))
theorem Jv:Ap Tryz.prog 37=some ⟨62,EQ,[(.tmp 4)]⟩:=by kernel_rfl
theorem Cu:modes 37=⟨[],.asis,none,false⟩:=by unfold modes; rfl
theorem Fm.mkS_len:∀ (xs:List Fm) (k:Int),(Fm.mkS xs k).1.length=xs.length
 | [],k=>by rw [Fm.mkS]
 | x :: xs,k=>by rw [Fm.mkS]; simp only [zF]; rw [Fm.mkS_len xs]
abbrev DT (xs:List Fm):Prop:=∀ k:Int,1≤k→k+Fm.wtS xs≤1099511627776→E 37 [.arr ((Fm.mkS xs k).1.map Fm.d),.int .i64 k] []=some (.int .i64 (Fm.mkS xs k).2,[])
theorem Ge (xs:List Fm) (ih:∀ x∈xs,DT x.parts):DT xs:=by
 intro k0 h1 h2
 obtain ⟨ys,hys⟩:∃ ys,ys=(Fm.mkS xs k0).1:=⟨_,rfl⟩
 have hyl:ys.length=xs.length:=by rw [hys,Fm.mkS_len]
 rw [←hys]
 have hL:=Fm.length_wt xs
 refine Ai Jv Cu (of_decide_eq_true rfl) ?_
 simp (disch:=omega) only [EQ,go_sem,Ab]
 refine go_loop (α:=Int × (Int)) (fun a=>⟨slots 62 0 [(0,.arr (ys.map Fm.d)),(1,.int .i64 (a.2)),(5,.int .i64 (a.1))],[]⟩) (fun a=>∃ k:Nat,a.1=k∧k≤(ys).length∧1≤(a.2)∧(a.2)+Fm.wtS (xs.drop k)=k0+Fm.wtS xs∧ys.drop k=(Fm.mkS (xs.drop k) (a.2)).1∧(Fm.mkS xs k0).2=(Fm.mkS (xs.drop k) (a.2)).2) (fun a=>(ys).length-(a.1).toNat) (0,k0) ⟨0,rfl,zK _,h1,by rw [zC],by rw [zC,zC,hys],by rw [zC]⟩ (by simp (disch:=omega) only [go_sem,Ab]) ?_
 rintro ⟨i,kk⟩ ⟨k,hi,hk,hR⟩
 dsimp only at hi hR
 have hni:i.toNat=k:=by omega
 have hni1:(i+1).toNat=k+1:=by omega
 rcases zD k (ys).length with hlt | hge
 ·obtain ⟨hk1,hkn,hy,hm⟩:=hR
  have hlx:k<xs.length:=by omega
  have hdr:xs.drop k=xs[k] :: xs.drop (k+1):=zB hlx
  have hdy:=zB hlt
  rw [hdr,Fm.wtS] at hkn
  rw [hdr,Fm.mkS] at hm
  rw [hdr,Fm.mkS,hdy] at hy
  dsimp only at hy hm
  obtain ⟨hy1,hy2⟩:=y6 hy
  have hg:=get_at Fm.d hlt
  rw [hy1,Fm.mk1_d] at hg
  have hn1:=Fm.wt_eq xs[k]
  have e2:=Tm.mkS_end xs[k].atom.args ((kk+1+1))
  have e4:=Fm.mkS_end xs[k].parts (((Tm.mkS xs[k].atom.args (kk+1+1)).2+1))
  have t0:=Bt (k:=(kk+1)) (by omega) (by omega)
  have c64:=IB xs[k].atom.args ((kk+1+1)) (by omega) (by omega)
  have t145:=Bt (k:=(Tm.mkS xs[k].atom.args (kk+1+1)).2) (by omega) (by omega)
  have c242:=ih xs[k] (zM hlx) (((Tm.mkS xs[k].atom.args (kk+1+1)).2+1)) (by omega) (by omega)
  have he:=Fm.mk1_end xs[k] kk
  simp (disch:=omega) only [go_sem,Ab,hni,hg,Bz,Cw,t0,c64,Cz,t145,c242,Cu]
  refine ⟨(i+1,(xs[k].mk1 kk).2),⟨k+1,by dsimp only; omega,hlt,by dsimp only; omega,by dsimp only; omega,hy2,hm⟩,by dsimp only; omega,?_⟩
  dsimp only
  rw [Fm.mk1_eq]
  simp only [and_self,and_true,true_and]
  try omega
 ·obtain ⟨hk1,hkn,hy,hm⟩:=hR
  have hdr:xs.drop k=[]:=zE (by omega)
  rw [hdr,Fm.mkS] at hm
  rw [hm]
  simp (disch:=omega) only [go_sem,Ab,hni]
theorem HL (x:Fm):DT x.parts:=Ge x.parts fun y hy=>HL y
termination_by SizeOf.sizeOf x
decreasing_by exact Fm.lt_of_mem hy
theorem IC (xs:List Fm):DT xs:=Ge xs fun y _=>HL y
def DU:SC:=(.seq (.reg [⟨some 4,none,.mv (.c (.int .i64 0))⟩]) (.seq (.seq (.reg [⟨some 5,none,.mv (.c (.int .i64 0))⟩]) (.block 0 (.loop [1,1,0,0,0,1,0,0,0,0,0,0,0,0,0,0,0,0,0,0,0,0,0,0,0,0,0,0,0,0,0,0,0,0,0,0,0,0,0,0,0,0,0,0,0,0,0,0,0,0,0,0,0,0,0,0,0,0,0,0,0,0,0,0,0,0,0,0,0,0,0,0,0,0,0,0,0,0,0,0,0,0,0,0,0,0] (.seq (.seq (.reg [⟨some 6,none,.mv (.t 5)⟩,⟨some 7,none,.mv (.t 0)⟩,⟨some 8,none,.len false (.t 7)⟩,⟨some 9,none,.bin .lss false (.t 6) (.t 8)⟩]) (.cond (.t 9) .skip (.exit 0))) (.seq (.block 1 (.seq (.seq (.dreg [[],[],[0,1],[2,0,1],[3,2,0,1],[],[5],[4,3,2,0,1,6,5]] [⟨some 12,none,.mv (.t 0)⟩,⟨some 13,none,.mv (.t 5)⟩,⟨some 14,none,.iaddr 7 (.t 12) (.t 13)⟩,⟨some 15,none,.faddr 0 (.t 14)⟩,⟨some 16,none,.load false 1 (.t 15)⟩,⟨some 17,none,.mv (.t 1)⟩,⟨some 18,none,.call 33 [(.t 17)]⟩,⟨some 19,none,.bin .neq false (.t 16) (.t 18)⟩]) (.cond (.t 19) (.seq (.reg [⟨some 4,none,.mv (.c (.int .i64 (-(0+1))))⟩]) .ret) .skip)) (.seq (.reg [⟨some 20,none,.mv (.t 1)⟩,⟨some 21,none,.bin .add false (.t 20) (.c (.int .i64 1))⟩,⟨some 1,none,.mv (.t 21)⟩]) (.seq (.reg [⟨some 22,none,.mv (.t 0)⟩,⟨some 23,none,.mv (.t 5)⟩,⟨some 24,none,.iaddr 7 (.t 22) (.t 23)⟩,⟨some 25,none,.faddr 1 (.t 24)⟩,⟨some 26,none,.load false 1 (.t 25)⟩,⟨some 27,none,.mv (.t 1)⟩,⟨some 28,none,.call 38 [(.t 26),(.t 27)]⟩,⟨some 1,none,.mv (.t 28)⟩]) (.seq (.seq (.reg [⟨some 29,none,.mv (.t 1)⟩,⟨some 30,none,.bin .lss false (.t 29) (.c (.int .i64 0))⟩]) (.cond (.t 30) (.seq (.reg [⟨some 4,none,.mv (.c (.int .i64 (-(0+1))))⟩]) .ret) .skip)) (.seq (.seq (.reg [⟨some 31,none,.mv (.t 0)⟩,⟨some 32,none,.mv (.t 5)⟩,⟨some 33,none,.iaddr 7 (.t 31) (.t 32)⟩,⟨some 34,none,.faddr 2 (.t 33)⟩,⟨some 35,none,.faddr 0 (.t 34)⟩,⟨some 36,none,.load false 1 (.t 35)⟩,⟨some 37,none,.mv (.t 1)⟩,⟨some 38,none,.bin .neq false (.t 36) (.t 37)⟩]) (.cond (.t 38) (.seq (.reg [⟨some 4,none,.mv (.c (.int .i64 (-(0+1))))⟩]) .ret) .skip)) (.seq (.reg [⟨some 39,none,.mv (.t 1)⟩,⟨some 40,none,.bin .add false (.t 39) (.c (.int .i64 1))⟩,⟨some 1,none,.mv (.t 40)⟩]) (.seq (.seq (.dreg [[],[],[0,1],[2,0,1],[3,2,0,1],[4,3,2,0,1],[5,4,3,2,0,1],[],[7],[6,5,4,3,2,0,1,8,7]] [⟨some 41,none,.mv (.t 0)⟩,⟨some 42,none,.mv (.t 5)⟩,⟨some 43,none,.iaddr 7 (.t 41) (.t 42)⟩,⟨some 44,none,.faddr 2 (.t 43)⟩,⟨some 45,none,.faddr 1 (.t 44)⟩,⟨some 46,none,.faddr 0 (.t 45)⟩,⟨some 47,none,.load false 1 (.t 46)⟩,⟨some 48,none,.mv (.t 1)⟩,⟨some 49,none,.call 33 [(.t 48)]⟩,⟨some 50,none,.bin .neq false (.t 47) (.t 49)⟩]) (.cond (.t 50) (.seq (.reg [⟨some 4,none,.mv (.c (.int .i64 (-(0+1))))⟩]) .ret) .skip)) (.seq (.reg [⟨some 51,none,.mv (.t 1)⟩,⟨some 52,none,.bin .add false (.t 51) (.c (.int .i64 1))⟩,⟨some 1,none,.mv (.t 52)⟩]) (.seq (.reg [⟨some 53,none,.mv (.t 0)⟩,⟨some 54,none,.mv (.t 5)⟩,⟨some 55,none,.iaddr 7 (.t 53) (.t 54)⟩,⟨some 56,none,.faddr 2 (.t 55)⟩,⟨some 57,none,.faddr 1 (.t 56)⟩,⟨some 58,none,.faddr 1 (.t 57)⟩,⟨some 59,none,.load false 1 (.t 58)⟩,⟨some 60,none,.mv (.t 1)⟩,⟨some 61,none,.call 39 [(.t 59),(.t 60)]⟩,⟨some 1,none,.mv (.t 61)⟩]) (.seq (.seq (.reg [⟨some 62,none,.mv (.t 1)⟩,⟨some 63,none,.bin .lss false (.t 62) (.c (.int .i64 0))⟩]) (.cond (.t 63) (.seq (.reg [⟨some 4,none,.mv (.c (.int .i64 (-(0+1))))⟩]) .ret) .skip)) (.seq (.seq (.dreg [[],[],[0,1],[2,0,1],[3,2,0,1],[4,3,2,0,1],[],[6],[5,4,3,2,0,1,7,6]] [⟨some 64,none,.mv (.t 0)⟩,⟨some 65,none,.mv (.t 5)⟩,⟨some 66,none,.iaddr 7 (.t 64) (.t 65)⟩,⟨some 67,none,.faddr 2 (.t 66)⟩,⟨some 68,none,.faddr 3 (.t 67)⟩,⟨some 69,none,.load false 1 (.t 68)⟩,⟨some 70,none,.mv (.t 1)⟩,⟨some 71,none,.call 33 [(.t 70)]⟩,⟨some 72,none,.bin .neq false (.t 69) (.t 71)⟩]) (.cond (.t 72) (.seq (.reg [⟨some 4,none,.mv (.c (.int .i64 (-(0+1))))⟩]) .ret) .skip)) (.seq (.reg [⟨some 73,none,.mv (.t 1)⟩,⟨some 74,none,.bin .add false (.t 73) (.c (.int .i64 1))⟩,⟨some 1,none,.mv (.t 74)⟩]) (.seq (.reg [⟨some 75,none,.mv (.t 0)⟩,⟨some 76,none,.mv (.t 5)⟩,⟨some 77,none,.iaddr 7 (.t 75) (.t 76)⟩,⟨some 78,none,.faddr 2 (.t 77)⟩,⟨some 79,none,.faddr 4 (.t 78)⟩,⟨some 80,none,.load false 1 (.t 79)⟩,⟨some 81,none,.mv (.t 1)⟩,⟨some 82,none,.call 37 [(.t 80),(.t 81)]⟩,⟨some 1,none,.mv (.t 82)⟩]) (.seq (.reg [⟨some 83,none,.mv (.t 1)⟩,⟨some 84,none,.bin .lss false (.t 83) (.c (.int .i64 0))⟩]) (.cond (.t 84) (.seq (.reg [⟨some 4,none,.mv (.c (.int .i64 (-(0+1))))⟩]) .ret) .skip)))))))))))))))) (.reg [⟨some 10,none,.mv (.t 5)⟩,⟨some 11,none,.bin .add false (.t 10) (.c (.int .i64 1))⟩,⟨some 5,none,.mv (.t 11)⟩])))))) (.seq (.reg [⟨some 85,none,.mv (.t 1)⟩,⟨some 4,none,.mv (.t 85)⟩]) .ret)))
theorem H9:Ap Tryz.prog 13=some ⟨86,DU,[(.tmp 4)]⟩:=by kernel_rfl
theorem Bw:modes 13=⟨[],.asis,none,false⟩:=by unfold modes; rfl
theorem Df.mkS_len:∀ (xs:List Df) (k:Int),(Df.mkS xs k).1.length=xs.length
 | [],k=>by rw [Df.mkS]
 | x :: xs,k=>by rw [Df.mkS]; simp only [zF]; rw [Df.mkS_len xs]
abbrev Gf (xs:List Df):Prop:=∀ k:Int,1≤k→k+Df.wtS xs≤1099511627776→E 13 [.arr ((Df.mkS xs k).1.map Df.d),.int .i64 k] []=some (.int .i64 (Df.mkS xs k).2,[])
theorem ID (xs:List Df):Gf xs:=by
 intro k0 h1 h2
 obtain ⟨ys,hys⟩:∃ ys,ys=(Df.mkS xs k0).1:=⟨_,rfl⟩
 have hyl:ys.length=xs.length:=by rw [hys,Df.mkS_len]
 rw [←hys]
 have hL:=Df.length_wt xs
 refine Ai H9 Bw (of_decide_eq_true rfl) ?_
 simp (disch:=omega) only [DU,go_sem,Ab]
 refine go_loop (α:=Int × (Int)) (fun a=>⟨slots 86 0 [(0,.arr (ys.map Df.d)),(1,.int .i64 (a.2)),(5,.int .i64 (a.1))],[]⟩) (fun a=>∃ k:Nat,a.1=k∧k≤(ys).length∧1≤(a.2)∧(a.2)+Df.wtS (xs.drop k)=k0+Df.wtS xs∧ys.drop k=(Df.mkS (xs.drop k) (a.2)).1∧(Df.mkS xs k0).2=(Df.mkS (xs.drop k) (a.2)).2) (fun a=>(ys).length-(a.1).toNat) (0,k0) ⟨0,rfl,zK _,h1,by rw [zC],by rw [zC,zC,hys],by rw [zC]⟩ (by simp (disch:=omega) only [go_sem,Ab]) ?_
 rintro ⟨i,kk⟩ ⟨k,hi,hk,hR⟩
 dsimp only at hi hR
 have hni:i.toNat=k:=by omega
 have hni1:(i+1).toNat=k+1:=by omega
 rcases zD k (ys).length with hlt | hge
 ·obtain ⟨hk1,hkn,hy,hm⟩:=hR
  have hlx:k<xs.length:=by omega
  have hdr:xs.drop k=xs[k] :: xs.drop (k+1):=zB hlx
  have hdy:=zB hlt
  rw [hdr,Df.wtS] at hkn
  rw [hdr,Df.mkS] at hm
  rw [hdr,Df.mkS,hdy] at hy
  dsimp only at hy hm
  obtain ⟨hy1,hy2⟩:=y6 hy
  have hg:=get_at Df.d hlt
  rw [hy1,Df.mk1_d] at hg
  have hn1:=Df.wt_eq xs[k]
  have e1:=St.mkS_end xs[k].vars ((kk+1))
  have e4:=Tm.mkS_end xs[k].form.atom.args (((St.mkS xs[k].vars (kk+1)).2+1+1))
  have e6:=Fm.mkS_end xs[k].form.parts (((Tm.mkS xs[k].form.atom.args ((St.mkS xs[k].vars (kk+1)).2+1+1)).2+1))
  have t0:=Bt (k:=kk) (by omega) (by omega)
  have c58:=Pf xs[k].vars ((kk+1)) (by omega) (by omega)
  have t132:=Bt (k:=((St.mkS xs[k].vars (kk+1)).2+1)) (by omega) (by omega)
  have c226:=IB xs[k].form.atom.args (((St.mkS xs[k].vars (kk+1)).2+1+1)) (by omega) (by omega)
  have t341:=Bt (k:=(Tm.mkS xs[k].form.atom.args ((St.mkS xs[k].vars (kk+1)).2+1+1)).2) (by omega) (by omega)
  have c471:=IC xs[k].form.parts (((Tm.mkS xs[k].form.atom.args ((St.mkS xs[k].vars (kk+1)).2+1+1)).2+1)) (by omega) (by omega)
  have he:=Df.mk1_end xs[k] kk
  simp (disch:=omega) only [go_sem,Ab,hni,hg,Bz,Cw,t0,c58,F8,t132,c226,Cz,t341,c471,Cu]
  refine ⟨(i+1,(xs[k].mk1 kk).2),⟨k+1,by dsimp only; omega,hlt,by dsimp only; omega,by dsimp only; omega,hy2,hm⟩,by dsimp only; omega,?_⟩
  dsimp only
  rw [Df.mk1_eq]
  simp only [and_self,and_true,true_and]
  try omega
 ·obtain ⟨hk1,hkn,hy,hm⟩:=hR
  have hdr:xs.drop k=[]:=zE (by omega)
  rw [hdr,Df.mkS] at hm
  rw [hm]
  simp (disch:=omega) only [go_sem,Ab,hni]
theorem KL (xs:List Df):Gf xs:=ID xs
end Go.Proofs.YtbcljemengiocaaGreatDoor
