/-
  Texts of this claim, one behind the other, each built on those ahead of it. No condition.
-/
import Derived.Test.YtibdknkacmimgaaGreatDoorK50a
import Derived.Test.YtibdknkacmimgaaGreatDoorK50b
import Derived.Shelf.GgSortFunc.InsertionK
import Derived.Shelf.Sort.Plain
import Derived.Sort.EncStr
import Derived.Shelf.SlLaysF0
import Derived.Test.YtibdknkacmimgaaGreatDoorChecked
import Derived.Shelf.SlSortCmp.NoneTotal
import Derived.Lib.QuietBelow
import Derived.Deep.LoopGhost
import Derived.Lib.SliceRun
import Derived.Shelf.Abstract
import Derived.Shelf.Spec.SlicesGrow
import Derived.Shelf.RegionOpenPlain
import Derived.Deep.RegionLaw
import Derived.Shelf.LaysM
import Derived.Shelf.Strconv.Itoa3
set_option maxHeartbeats 16000000
open List renaming getElem?_eq_getElem → zA, length_map → zE, map_cons → zF, getElem_mem → zI, drop_eq_getElem_cons → zK, mem_cons → zL, drop_eq_nil_of_le → zN, drop_zero → zR, getElem_map → zT, pairwise_iff_getElem → zW, pairwise_cons → zZ, finRange → z8, eq_nil_of_length_eq_zero → yA, range → yE, mem_range → yH, getElem?_eq_some_iff → yJ, getElem_cons_succ → yL, getElem_inj → yO, length_cons → yP, getElem_toArray → yR, mem_of_getElem? → yS, map_append → yU, take_succ_cons → yV, drop_succ_cons → yW, map_nil → yX, size_toArray → yZ, take_zero → y5, drop_nil → y7, any_cons → y8
open Bool renaming and_eq_true → zB, and_self → zH, and_true → zO, false_and → z7, false_eq_true → yB, or_eq_false_iff → yF, true_and → yQ, or_eq_true → yT, and_false → yY, not_false → y6, not_true → y9
open Option.some renaming injEq → zC, inj → zD
open Prod.mk renaming injEq → zG, inj → zY
open Nat renaming lt_or_ge → zJ, le_refl → zQ, lt_of_lt_of_le → zS, zero_le → zU, mul_le_mul_right → yG, add_zero → yI, eq_zero_or_pos → yK, zero_add → y2
open Array renaming getD_eq_getD_getElem? → zM, getElem?_eq_getElem → zP, getElem?_eq_some_iff → zV, getElem?_setIfInBounds → zX, getElem?_modify → yM
open Option renaming isSome_none → yC, getD_some → yN, map_some → y4
open List.cons renaming injEq → yD
open Int renaming lt_or_le → y3
set_option maxRecDepth 100000
set_option linter.unusedSimpArgs false
set_option linter.unusedVariables false
set_option linter.unusedSectionVars false
namespace Go.Proofs.YtibdknkacmimgaaGreatDoor
open Go.RowKit
theorem Y9 (b n c:Nat) (f:Nat→ByteArray) (x:ByteArray) (w:World) (hn:n≤9223372036854775807)
  (hc:∀ k,k<n→w.cell? ⟨b,k,none⟩=some (.string (f k))):Calls Tryz.prog 179 #[.slice (some ⟨b,0,none⟩) n c,.string x] w (Same w (.int .i64 (VQ (fun k=>x.toList == (f k).toList) n))):=by
 go_enter Tryz.func179,Tryz.ntmps179
 go_wp2
 go_loopw [8] (fun i wr=>Cnt w n (fun k=>∀ j,j<k→(x.toList == (f j).toList)=false) i wr) (fun i _=>n-(intOf i).toNat)
 case atStart=>exact ⟨0,zU _,rfl,fun j hj=>absurd hj (by omega),rfl⟩
 case round =>
  obtain ⟨k,hk,rfl,hok,rfl⟩:=hrel
  have Hok:=Lib.hid hok
  clear hok
  by_cases hlt:k<n
  ·have hck:=hc k (by omega)
   go_wp2_with fail
   ·go_ret
    exact Same.mk' _ (by rw [VR hlt Hok.out (by assumption)]; rfl)
   ·go_roundw
    case rel=>exact ⟨_,hlt,by go_num,VS Hok.out (by assumption),rfl⟩
    case measure=>exact Kq hlt
  ·obtain rfl:k=n:=by omega
   go_wp2_with fail
   go_ret
   exact Same.mk' _ (by rw [Tu Hok.out]; rfl)
theorem SJ (b n c:Nat) (f:Nat→ByteArray) (x:ByteArray) (w:World) (hn:n≤9223372036854775807)
  (hc:∀ k,k<n→w.cell? ⟨b,k,none⟩=some (.string (f k))):Calls Tryz.prog 157 #[.slice (some ⟨b,0,none⟩) n c,.string x] w (Same w (.bool (QbP (fun k=>x.toList == (f k).toList) n))):=by
 have Hc:=Lib.hid hc
 clear hc
 go_enter Tryz.func157,Tryz.ntmps157
 go_wp2_with (first
  |(go_at_call 179; refine (Y9 _ _ _ f _ _ hn Hc.out).mono ?_; rintro e w' ⟨rfl,rfl⟩))
 go_ret
 exact Same.mk' _ (by rw [←QdA]; rfl)
theorem UL (w:World):Calls Tryz.prog 178 #[] w fun e w'=>e=.returned (.slice (some ⟨w.heap.size,0,none⟩) 8 8)∧w'=w.alloc (.cells ((words.map fun l=>Value.string ⟨l.toArray⟩).toArray) 9):=by
 go_enter Tryz.func178,Tryz.ntmps178
 go_wp2
 go_ret
 exact ⟨rfl,rfl⟩
theorem WE (w:World):∀ k,k<8→(w.alloc (.cells ((words.map fun l=>Value.string ⟨l.toArray⟩).toArray) 9)).cell? ⟨w.heap.size,k,none⟩=some (.string ⟨(words.getD k []).toArray⟩):=by
 intro k hk
 have hh:(w.alloc (.cells ((words.map fun l=>Value.string ⟨l.toArray⟩).toArray) 9)).heap[w.heap.size]?=some (.cells ((words.map fun l=>Value.string ⟨l.toArray⟩).toArray) 9):=heap_alloc_new w _
 unfold World.cell?
 rw [hh]
 match k,hk with
 | 0,_=>rfl
 | 1,_=>rfl
 | 2,_=>rfl
 | 3,_=>rfl
 | 4,_=>rfl
 | 5,_=>rfl
 | 6,_=>rfl
 | 7,_=>rfl
theorem UM (s:ByteArray) (w:World) (hs:s.size≤9223372036854775807):Calls Tryz.prog 153 #[.string s] w (Ret w (.bool (ET s))):=by
  go_enter Tryz.func153,Tryz.ntmps153
  go_wp2
  go_loopw [6] (fun i wr=>Cnt w s.size (fun k=>Fw K8 s k=true) i wr) (fun i _=>s.size-(intOf i).toNat)
  case atStart=>exact ⟨0,zU _,rfl,rfl,rfl⟩
  case round =>
    obtain ⟨k,hk,rfl,hok,rfl⟩:=hrel
    have Hok:=Lib.hid hok
    clear hok
    by_cases hlt:k<s.size
    · have Hb:=Lib.hid (F6 hlt)
      rcases yK k with rfl | hpos
      all_goals
        go_wp2_with (first
          | (go_at_call 176; refine (Pw _ _).mono ?_; rintro e w' ⟨rfl,rfl⟩)
          | (go_at_call 177; refine (Px _ _).mono ?_; rintro e w' ⟨rfl,rfl⟩))
        all_goals first
          | (go_ret
             refine Ret.same _ ?_
             unfold ET
             rw [F7 hlt (by rw [←Hb.out]; simp_all [K8,J2] <;> omega)]
             rfl)
          | (go_roundw
             case rel=>exact ⟨_,hlt,by go_num,J3 Hok.out (by rw [←Hb.out]; simp_all [K8,J2] <;> omega),rfl⟩
             case measure=>first | exact Kq hlt | (simp [intOf]; omega))
    · obtain rfl:k=s.size:=by omega
      cases hin:inB s.size 1 6
      · go_wp2_with (first
          | (go_at_call 86; refine (M8 _ _ _ _).mono ?_; rintro e w' ⟨rfl,rfl⟩))
        go_ret
        exact Ret.same _ (by unfold ET; rw [hin]; simp)
      · go_wp2_with (first
          | (go_at_call 86; refine (M8 _ _ _ _).mono ?_; rintro e w' ⟨rfl,rfl⟩)
          | (go_at_call 178; refine (UL _).mono ?_; rintro e w' ⟨rfl,rfl⟩)
          | (go_at_call 157; refine (SJ _ _ _ (fun k=>⟨(words.getD k []).toArray⟩) _ _ (by omega) (WE w)).mono ?_; rintro e w' ⟨rfl,rfl⟩))
        go_ret
        refine Ret.bel ?_ ((Below.refl _ _).alloc (zQ _) _)
        unfold ET Qcw
        rw [hin,Hok.out]
        simp
theorem Qbg (s:ByteArray) (w:World) (hs:s.size≤9223372036854775807):Calls Tryz.prog 77 #[.string s] w (Same w (.bool (Aq s))):=by
  cases hin:inB s.size 1 4
  · go_enter Tryz.func77,Tryz.ntmps77
    go_wp2_with (first
      | (go_at_call 49; refine (K7 _ _ _ _).mono ?_; rintro e w' ⟨rfl,rfl⟩))
    go_ret
    exact Same.mk' _ (by unfold Aq; rw [hin]; simp)
  · have hpos:0<s.size:=by simp [inB] at hin; omega
    have Hb:=Lib.hid (F6 hpos)
    go_enter Tryz.func77,Tryz.ntmps77
    go_wp2_with (first
      | (go_at_call 49; refine (K7 _ _ _ _).mono ?_; rintro e w' ⟨rfl,rfl⟩))
    all_goals first
      | (go_ret
         refine Same.mk' _ ?_
         unfold Aq
         rw [F7 hpos (by rw [←Hb.out]; simp [JQ,QZ]; omega)]
         rfl)
      | skip
    · go_loopw [3] (fun i wr=>Cnt w s.size (fun k=>1≤k∧Fw JQ s k=true) i wr) (fun i _=>s.size-(intOf i).toNat)
      case atStart=>exact ⟨1,hpos,rfl,⟨zQ _,by rw [Ha,← Hb.out]; simp [Fw,JQ,QZ]; omega⟩,rfl⟩
      case round =>
        obtain ⟨k,hk,rfl,⟨hk1,hok⟩,rfl⟩:=hrel
        have Hok:=Lib.hid hok
        clear hok
        by_cases hlt:k<s.size
        · have Hbk:=Lib.hid (F6 hlt)
          have hk0:k≠0:=by omega
          go_wp2_with (first
            | (go_at_call 112; refine (Py _ _).mono ?_; rintro e w' ⟨rfl,rfl⟩))
          all_goals first
            | (go_ret
               refine Same.mk' _ ?_
               unfold Aq
               rw [F7 hlt (by rw [←Hbk.out]; simp_all [JQ] <;> omega)]
               rfl)
            | (go_roundw
               case rel=>exact ⟨_,hlt,by go_num,⟨by omega,J3 Hok.out (by rw [←Hbk.out]; simp_all [JQ] <;> omega)⟩,rfl⟩
               case measure=>first | exact Kq hlt | (simp [intOf]; omega))
        · obtain rfl:k=s.size:=by omega
          go_wp2_with fail
          go_ret
          exact Same.mk' _ (by unfold Aq; rw [Hok.out,hin]; rfl)
theorem Qaj (s:ByteArray):Qcw s=(s.toList == [116,114,117,101] || s.toList == [102,97,108,115,101] || s.toList == [116,114,117,116,104] || s.toList == [98,111,116,104] || s.toList == [101,105,116,104,101,114] || s.toList == [105,102] || s.toList == [97,108,108] || s.toList == [115,111,109,101]):=by
 unfold Qcw QbP words
 simp [yE,List.range.loop,Bool.or_assoc]
theorem UN (s:ByteArray) (w:World) (hs:s.size≤9223372036854775807):Calls Tryz.prog 105 #[.string s] w (Same w (.bool (ET s))):=by
  cases hin:inB s.size 1 6
  · go_enter Tryz.func105,Tryz.ntmps105
    go_wp2_with (first
      | (go_at_call 49; refine (K7 _ _ _ _).mono ?_; rintro e w' ⟨rfl,rfl⟩))
    go_ret
    exact Same.mk' _ (by unfold ET; rw [hin]; simp)
  · have hpos:0<s.size:=by simp [inB] at hin; omega
    have Hb:=Lib.hid (F6 hpos)
    cases hres:Qcw s
    case true =>
      have Hres:=Lib.hid hres
      rw [Qaj] at hres
      go_enter Tryz.func105,Tryz.ntmps105
      go_wp2_with (first
        | (go_at_call 49; refine (K7 _ _ _ _).mono ?_; rintro e w' ⟨rfl,rfl⟩))
      all_goals first
        | (go_ret
           refine Same.mk' _ ?_
           unfold ET
           rw [Hres.out]; simp)
        | (exfalso; simp_all; done)
    have Hres:=Lib.hid hres
    rw [Qaj] at hres
    simp only [yF] at hres
    obtain ⟨⟨⟨⟨⟨⟨⟨e1,e2⟩,e3⟩,e4⟩,e5⟩,e6⟩,e7⟩,e8⟩:=hres
    go_enter Tryz.func105,Tryz.ntmps105
    go_wp2_with (first
      | (go_at_call 49; refine (K7 _ _ _ _).mono ?_; rintro e w' ⟨rfl,rfl⟩))
    all_goals first
      | (go_ret
         refine Same.mk' _ ?_
         unfold ET
         rw [F7 hpos (by rw [←Hb.out]; simp [K8,UK]; omega)]; rfl)
      | skip
    go_loopw [3] (fun i wr=>Cnt w s.size (fun k=>1≤k∧Fw K8 s k=true) i wr) (fun i _=>s.size-(intOf i).toNat)
    case atStart=>exact ⟨1,hpos,rfl,⟨zQ _,by rw [Ha,← Hb.out]; simp [Fw,K8,J2,UK]; omega⟩,rfl⟩
    case round =>
      obtain ⟨k,hk,rfl,⟨hk1,hok⟩,rfl⟩:=hrel
      have Hok:=Lib.hid hok
      clear hok
      by_cases hlt:k<s.size
      · have Hbk:=Lib.hid (F6 hlt)
        have hk0:k≠0:=by omega
        go_wp2_with (first
          | (go_at_call 112; refine (Py _ _).mono ?_; rintro e w' ⟨rfl,rfl⟩))
        all_goals first
          | (go_ret
             refine Same.mk' _ ?_
             unfold ET
             rw [F7 hlt (by rw [←Hbk.out]; simp_all [K8] <;> omega)]
             rfl)
          | (go_roundw
             case rel=>exact ⟨_,hlt,by go_num,⟨by omega,J3 Hok.out (by rw [←Hbk.out]; simp_all [K8] <;> omega)⟩,rfl⟩
             case measure=>first | exact Kq hlt | (simp [intOf]; omega))
      · obtain rfl:k=s.size:=by omega
        go_wp2_with fail
        go_ret
        exact Same.mk' _ (by unfold ET; rw [Hok.out,hin,Hres.out]; rfl)
end Go.Proofs.YtibdknkacmimgaaGreatDoor
set_option maxRecDepth 100000
set_option linter.unusedSimpArgs false
set_option linter.unusedVariables false
set_option linter.unusedSectionVars false
namespace Go.Proofs.YtibdknkacmimgaaGreatDoor
open Go.RowKit Go.Shelf Go.Lib Go.Sort
theorem Qak {w w':World} {I:Nat→Prop} {V:Nat→Option Value} {B:Nat→Nat→Prop} {t:TypeId} {sz:Nat} {es es':List (List OT)} {b cap:Nat} {cur cur':Array Value} (Sub:Nat→Nat→Nat→Prop)
  (hwf:Wf w I V B (Ao [.row t sz es])) (hv:V 0=some (.slice (some ⟨b,0,none⟩) es.length cap)) (hn:es'.length=es.length) (hs:B 0 b) (hb:w.heap[b]?=some (.cells cur t (0,0)))
  (h1:es.length≤cap) (h2:cap≤9223372036854775807) (h3:cur.size=cap*sz) (h4:∀ i (h:i<es'.length),es'[i].length=sz) (h5:∀ i j x,Sub i j x→B 0 x∧x≠b)
  (h6:∀ i j i' j' x,Sub i j x→Sub i' j' x→i=i'∧j=j')
  (hos:w'.os=w.os) (htape:TapeOk w w') (hout:w'.output=w.output) (hsz:w.heap.size≤w'.heap.size) (hblk:∀ x,x<w.heap.size→x≠b→w'.heap[x]?=w.heap[x]?)
  (hb':w'.heap[b]?=some (.cells cur' t (0,0))) (hcs:cur'.size=cur.size)
  (h7:∀ i j (h:i<es'.length) (h':j<es'[i].length),ORep w' I (Sub i j) (es'[i][j]) (cur'.getD (i*sz+j) undef)) :
  FunPost w I V B [.row t sz es] [.row t sz es'] w' I V B:=by
 have g0:∀ (e:List (List OT)),Ao [Ob.row t sz e] 0=.row t sz e:=fun _=>rfl
 have gS:∀ (e:List (List OT)) (g:Nat),Ao [Ob.row t sz e] (g+1)=.free:=fun _ _=>rfl
 have lv:∀ (e e':List (List OT)) (g:Nat),(Ao [Ob.row t sz e] g).live→(Ao [Ob.row t sz e'] g).live:=fun e e' g h=>by
  cases g with
  | zero=>trivial
  | succ g=>rw [gS] at h; exact h.elim
 have hbS:∀ x,B 0 x→HB B [Ob.row t sz es] x:=fun x hx=>⟨0,trivial,hx⟩
 refine ⟨⟨hos,htape,hout,hsz,fun x hx hn=>hblk x hx fun e=>hn (hbS x (e▸hs))⟩,fun _ h=>h,fun _ h=>.inl h,VLe.refl _,?_,fun g x hl hx=>.inl ⟨g,lv _ _ g hl,hx⟩⟩
 refine ⟨fun x hx=>zS (hwf.ilt x hx) hsz,fun g hl=>?_,fun g x hl hx=>zS (hwf.lt g x (lv _ _ g hl) hx) hsz,fun g x hl hx=>hwf.dI g x (lv _ _ g hl) hx,fun g g' x hl hl' hx hx'=>hwf.dO g g' x (lv _ _ g hl) (lv _ _ g' hl') hx hx',fun g hf=>?_,hwf.gl.keep ⟨hsz,fun x hx hlt=>hblk x hlt fun e=>hwf.dI 0 x trivial (e▸hs) hx⟩ fun _ h=>h⟩
 ·cases g with
  | zero =>
   refine ⟨_,hv,.inr ⟨b,cap,cur',Sub,by rw [hn],hs,hb',by rw [hn]; exact h1,h2,by rw [hcs]; exact h3,h4,h5,h6,h7⟩⟩
  | succ g=>rw [gS] at hl; exact hl.elim
 ·cases g with
  | zero=>cases hf
  | succ g=>exact hwf.fr (g+1) rfl
theorem K9 {w:World} {I:Nat→Prop} {V:Nat→Option Value} {B:Nat→Nat→Prop} {ob:List Ob} (hwf:Wf w I V B (Ao ob)):FunPost w I V B ob ob w I V B :=
 ⟨⟨rfl,TapeOk.mk' rfl rfl,rfl,zQ _,fun _ _ _=>rfl⟩,fun _ h=>h,fun _ h=>.inl h,VLe.refl _,hwf,fun g b hl hb=>.inl ⟨g,hl,hb⟩⟩
theorem TP:∀ x:List UInt8,Op.bytesLess x x=false
 | []=>rfl
 | a :: x=>by simp [Op.bytesLess,TP x]
theorem Rb:∀ x y z:List UInt8,Op.bytesLess x y=true→Op.bytesLess y z=true→Op.bytesLess x z=true
 | [],_,[],_,h=>by cases ‹List UInt8› <;> simp [Op.bytesLess] at *
 | [],_,_ :: _,_,_=>rfl
 | _ :: _,[],_,h,_=>by simp [Op.bytesLess] at h
 | _ :: _,_ :: _,[],_,h=>by simp [Op.bytesLess] at h
 | a :: x,b :: y,c :: z,h,k=>by
  simp only [Op.bytesLess,yT,decide_eq_true_eq,zB,beq_iff_eq] at h k ⊢
  rcases h with h | ⟨rfl,h⟩
  ·rcases k with k | ⟨rfl,k⟩
   ·exact .inl (UInt8.lt_trans h k)
   ·exact .inl h
  ·rcases k with k | ⟨rfl,k⟩
   ·exact .inl k
   ·exact .inr ⟨rfl,Rb x y z h k⟩
theorem YA:∀ x y:List UInt8,Op.bytesLess x y=false→Op.bytesLess y x=false→x=y
 | [],[],_,_=>rfl
 | [],_ :: _,h,_=>by simp [Op.bytesLess] at h
 | _ :: _,[],_,h=>by simp [Op.bytesLess] at h
 | a :: x,b :: y,h,k=>by
  simp only [Op.bytesLess,yF,decide_eq_false_iff_not] at h k
  have hab:a=b:=by
   have h1:=h.1; have h2:=k.1
   rw [UInt8.lt_iff_toNat_lt] at h1 h2
   exact UInt8.toNat_inj.1 (by omega)
  subst hab
  have h1:Op.bytesLess x y=false:=by simpa using h.2
  have h2:Op.bytesLess y x=false:=by simpa using k.2
  rw [YA x y h1 h2]
theorem Qbh (x y z:List UInt8) (h:Op.bytesLess x y=false) (k:Op.bytesLess y z=false):Op.bytesLess x z=false:=by
 cases hz:Op.bytesLess x z with
 | false=>rfl
 | true =>
  cases hyx:Op.bytesLess y x with
  | true=>rw [Rb y x z hyx hz] at k; cases k
  | false=>rw [YA x y h hyx] at hz; rw [hz] at k; cases k
def cmpL (x y:List UInt8):Int:=if Op.bytesLess x y then -1 else if x == y then 0 else 1
def WF:List OT→ByteArray
 | .str s :: _=>s
 | _=>⟨#[]⟩
def rowLe (x y:List OT):Bool:=!Op.bytesLess (WF y).toList (WF x).toList
theorem ORep.oneCell {w:World} {I S:Nat→Prop} {o:OT} {v:Value} (h:ORep w I S o v):v.oneCell'=true:=by
 cases h with
 | int S n=>rfl
 | bool S b=>rfl
 | str S s h=>rfl
 | sh S es v h=>obtain ⟨a,c,rfl,_⟩:=h.slice_form; rfl
 | nil S=>rfl
 | hole S v h=>exact h
 | row S t sz es b cap cur Sub hS hb h1 h2 h3 h4 h5 h6 h7=>rfl
theorem ORep.strV {w:World} {I S:Nat→Prop} {s:ByteArray} {v:Value} (h:ORep w I S (.str s) v):v=.string s:=by cases h; rfl
theorem ORep.owV {w:World} {I S:Nat→Prop} {es:List (List OT)} {v:Value} (h:ORep w I S (.ow es) v):∃ a n c,v=.slice a n c:=by
 cases h with
 | nil=>exact ⟨_,_,_,rfl⟩
 | row=>exact ⟨_,_,_,rfl⟩
theorem J4 {α:Type} [Inhabited α] (enc:α→List Value) (k:Nat) (w:World) (b m:Nat) (dk:Array α) (os:Array Obj) (x:Nat) (hx:x<w.heap.size) :
  (sortWorldK enc k w b 0 m dk os).heap[x]?=if b=x then (w.heap[x]?).map (onCells (putCells id 0 (flatK enc k dk))) else w.heap[x]?:=by
 unfold sortWorldK grow putRowK putRow mapBlock Sort.ahead
 have hx':x<(w.heap.modify b (onCells (putCells id 0 (flatK enc k dk)))).size:=by simpa using hx
 simp only [Array.getElem?_append,Array.size_modify,hx,if_true,yM]
theorem Pz {α:Type} [Inhabited α] (enc:α→List Value) (k:Nat) (w:World) (b m:Nat) (dk:Array α) (os:Array Obj) {cur:Array Value} {t:TypeId} {fr:Nat × Nat} (hb:w.heap[b]?=some (.cells cur t fr)) :
  (sortWorldK enc k w b 0 m dk os).heap[b]?=some (.cells (putCells id 0 (flatK enc k dk) cur) t fr):=by
 rw [J4 enc k w b m dk os b (zV.1 hb).1,if_pos rfl,hb]
 rfl
theorem P0 {α:Type} [Inhabited α] (enc:α→List Value) (k:Nat) (dk:Array α) (cur:Array Value) {i j:Nat} (hi:i<dk.size) (hj:j<k) (hc:dk.size*k≤cur.size) :
  (putCells id 0 (flatK enc k dk) cur).getD (i*k+j) undef=(enc dk[i]!)[j]!:=by
 have hlt:i*k+j<dk.size*k:=mul_lt hi hj
 have e1:(i*k+j) / k=i:=by rw [Nat.mul_comm,Nat.mul_add_div (by omega),Nat.div_eq_of_lt hj,yI]
 have e2:(i*k+j) % k=j:=by rw [Nat.mul_comm,Nat.mul_add_mod,Nat.mod_eq_of_lt hj]
 have h:=get_flatK enc k dk (i*k+j) hlt
 rw [e1,e2] at h
 have hlt2:i*k+j<cur.size:=zS hlt hc
 simp only [putCells,zM,Array.getElem?_mapIdx,zP hlt2,y4,yN,zU,true_and,size_flatK,y2,hlt,if_true,Nat.sub_zero,id]
 exact h
end Go.Proofs.YtibdknkacmimgaaGreatDoor
set_option maxRecDepth 100000
namespace Go.Proofs.YtibdknkacmimgaaGreatDoor
open Go.Shelf
def so_SortB_ren:Go.Shelf.Ren:=⟨fun | 6=>134 | 15=>167 | 14=>166 | 28=>192 | 29=>193 | 20=>184 | 21=>185 | 22=>186 | 23=>187 | 24=>188 | 25=>189 | 26=>190 | 27=>191 | 46=>200 | 47=>201 | 48=>202 | 49=>203 | 50=>204 | 57=>215 | n=>n,fun | 22=>74 | 24=>139 | 25=>144 | 3=>3 | 39=>164 | 0=>0 | 53=>187 | 55=>174 | 4=>4 | 46=>181 | 45=>180 | 50=>158 | 5=>5 | 9=>9 | 66=>193 | 70=>197 | 76=>204 | 77=>205 | n=>n,fun | n=>n⟩
theorem Rc:Go.Proofs.SlLaysF0.n6 Tryz.prog so_SortB_ren:={
 mixed:=by kernel_rfl,
 f6:=⟨Tryz.f134.name,by decide,Tryz.func134.trans (congrArg some (by kernel_rfl))⟩,
 f14:=⟨Tryz.f166.name,by decide,Tryz.func166.trans (congrArg some (by kernel_rfl))⟩,
 f15:=Tryz.func167.trans (congrArg some (by kernel_rfl)),
 f20:=⟨Tryz.f184.name,by decide,Tryz.func184.trans (congrArg some (by kernel_rfl))⟩,
 f21:=⟨Tryz.f185.name,by decide,Tryz.func185.trans (congrArg some (by kernel_rfl))⟩,
 f22:=⟨Tryz.f186.name,by decide,Tryz.func186.trans (congrArg some (by kernel_rfl))⟩,
 f23:=⟨Tryz.f187.name,by decide,Tryz.func187.trans (congrArg some (by kernel_rfl))⟩,
 f24:=⟨Tryz.f188.name,by decide,Tryz.func188.trans (congrArg some (by kernel_rfl))⟩,
 f25:=⟨Tryz.f189.name,by decide,Tryz.func189.trans (congrArg some (by kernel_rfl))⟩,
 f26:=⟨Tryz.f190.name,by decide,Tryz.func190.trans (congrArg some (by kernel_rfl))⟩,
 f27:=⟨Tryz.f191.name,by decide,Tryz.func191.trans (congrArg some (by kernel_rfl))⟩,
 f28:=Tryz.func192.trans (congrArg some (by kernel_rfl)),
 f29:=Tryz.func193.trans (congrArg some (by kernel_rfl)),
 f46:=⟨Tryz.f200.name,by decide,Tryz.func200.trans (congrArg some (by kernel_rfl))⟩,
 f47:=Tryz.func201.trans (congrArg some (by kernel_rfl)),
 f48:=Tryz.func202.trans (congrArg some (by kernel_rfl)),
 f49:=⟨Tryz.f203.name,by decide,Tryz.func203.trans (congrArg some (by kernel_rfl))⟩,
 f50:=⟨Tryz.f204.name,by decide,Tryz.func204.trans (congrArg some (by kernel_rfl))⟩,
 f57:=⟨Tryz.f215.name,by decide,Tryz.func215.trans (congrArg some (by kernel_rfl))⟩,
 t0:=Tryz.underlying0,
 a0:=Tryz.isAgg0,
 z0:=Tryz.sizeOf0,
 v0:=Tryz.zeroValue0,
 t3:=Tryz.underlying3,
 a3:=Tryz.isAgg3,
 z3:=Tryz.sizeOf3,
 v3:=Tryz.zeroValue3,
 t4:=Tryz.underlying4,
 a4:=Tryz.isAgg4,
 z4:=Tryz.sizeOf4,
 v4:=Tryz.zeroValue4,
 t5:=Tryz.underlying5,
 a5:=Tryz.isAgg5,
 z5:=Tryz.sizeOf5,
 v5:=Tryz.zeroValue5,
 t9:=Tryz.underlying9,
 a9:=Tryz.isAgg9,
 z9:=Tryz.sizeOf9,
 v9:=Tryz.zeroValue9,
 t22:=Tryz.underlying74,
 a22:=Tryz.isAgg74,
 z22:=Tryz.sizeOf74,
 v22:=Tryz.zeroValue74,
 t25:=Tryz.underlying144,
 a25:=Tryz.isAgg144,
 z25:=Tryz.sizeOf144,
 v25:=Tryz.zeroValue144,
 t39:=Tryz.underlying164,
 a39:=Tryz.isAgg164,
 z39:=Tryz.sizeOf164,
 v39:=Tryz.zeroValue164,
 t45:=Tryz.underlying180,
 a45:=Tryz.isAgg180,
 z45:=Tryz.sizeOf180,
 v45:=Tryz.zeroValue180,
 t46:=Tryz.underlying181,
 a46:=Tryz.isAgg181,
 z46:=Tryz.sizeOf181,
 v46:=Tryz.zeroValue181,
 t50:=Tryz.underlying158,
 a50:=Tryz.isAgg158,
 z50:=Tryz.sizeOf158,
 v50:=Tryz.zeroValue158,
 t53:=Tryz.underlying187,
 a53:=Tryz.isAgg187,
 z53:=Tryz.sizeOf187,
 v53:=Tryz.zeroValue187,
 t55:=Tryz.underlying174,
 a55:=Tryz.isAgg174,
 z55:=Tryz.sizeOf174,
 v55:=Tryz.zeroValue174,
 t66:=Tryz.underlying193,
 a66:=Tryz.isAgg193,
 z66:=Tryz.sizeOf193,
 v66:=Tryz.zeroValue193,
 t70:=Tryz.underlying197,
 a70:=Tryz.isAgg197,
 z70:=Tryz.sizeOf197,
 v70:=Tryz.zeroValue197,
 t76:=Tryz.underlying204,
 a76:=Tryz.isAgg204,
 z76:=Tryz.sizeOf204,
 v76:=Tryz.zeroValue204,
 t77:=Tryz.underlying205,
 a77:=Tryz.isAgg205,
 z77:=Tryz.sizeOf205,
 v77:=Tryz.zeroValue205 }
end Go.Proofs.YtibdknkacmimgaaGreatDoor
set_option maxRecDepth 100000
set_option linter.unusedSimpArgs false
set_option linter.unusedVariables false
set_option linter.unusedSectionVars false
namespace Go.Proofs.YtibdknkacmimgaaGreatDoor
open Go.RowKit Go.Shelf Go.Lib Go.Sort
theorem WG (x:ByteArray) (w:World):Calls Tryz.prog 168 #[.string x] w (Same w (.bool false)):=by
 go_enter Tryz.func168,Tryz.ntmps168
 go_wp2
 go_ret
 exact Same.mk' _ (by simp)
theorem YB (x y:ByteArray) (w:World):Calls Tryz.prog 136 #[.string x,.string y] w (Same w (.int .i64 (cmpL x.toList y.toList))):=by
 cases h1:Op.bytesLess x.toList y.toList
 ·cases h2:(x.toList == y.toList)
  all_goals
   go_enter Tryz.func136,Tryz.ntmps136
   go_wp2_with (first
    |(go_at_call 168; refine (WG _ _).mono ?_; rintro e w' ⟨rfl,rfl⟩))
   go_ret
   exact Same.mk' _ (by unfold cmpL; rw [h1,h2]; rfl)
 ·go_enter Tryz.func136,Tryz.ntmps136
  go_wp2_with (first
   |(go_at_call 168; refine (WG _ _).mono ?_; rintro e w' ⟨rfl,rfl⟩))
  go_ret
  exact Same.mk' _ (by unfold cmpL; rw [h1]; rfl)
theorem SK (s n s' n':ByteArray) (a a':Option Addr) (l c l' c':Nat) (W:World):Calls Tryz.prog 135 #[.agg #[.string s,.string n,.slice a l c],.agg #[.string s',.string n',.slice a' l' c']] W
  fun e w'=>e=.returned (.int .i64 (cmpL s.toList s'.toList))∧∃ q os',w'=Sort.grow (W.drewN q) os':=by
 generalize hr:cmpL s.toList s'.toList=r
 have hcon:∀ W',Calls Tryz.prog 136 #[.string s,.string s'] W' fun e w'=>e=.returned (.int .i64 r)∧w'=W':=fun W'=>(YB s s' W').mono fun e w' h=>⟨by rw [←hr]; exact h.1,h.2.symm⟩
 clear hr
 go_enter Tryz.func135,Tryz.ntmps135
 go_wp2_with (go_at_call 136; refine (hcon _).mono ?_; rintro e w' ⟨rfl,rfl⟩)
 go_ret
 exact ⟨rfl,0,_,by rw [alloc_eq_grow,alloc_eq_grow,grow_grow]; rfl⟩
def keyed (es:List (List OT)):Prop:=(∀ e∈es,∃ s n us,e=[.str s,.str n,.ow us])∧(es.map WF).Nodup∧es.length≤1099511627776
noncomputable def Dv (xs:List SV) (ob:List Ob):Option (SV × List Ob) :=
 match xs,ob with
 | [.ref 0,.fn f []],[.row t sz es]=>bif dec (f=135∧sz=3∧keyed es) then some (.tup [],[.row t sz (es.mergeSort rowLe)]) else none
 | [.nil,.fn f []],[]=>bif dec (f=135) then some (.tup [],[]) else none
 | _,_=>none
theorem Qcx (a b:List UInt8):decide (cmpL a b<0)=Op.bytesLess a b:=by
 unfold cmpL
 cases h:Op.bytesLess a b with
 | true=>rfl
 | false =>
  simp only [yB,if_false]
  split <;> rfl
theorem Nn (n:Nat) (key:_root_.Fin n→List UInt8) (x y:_root_.Fin n):ltOf (fun x y=>cmpL (key x) (key y)) x y=Op.bytesLess (key x) (key y):=Qcx _ _
theorem Qf2 (n:Nat) (key:_root_.Fin n→List UInt8):SWO (ltOf fun x y=>cmpL (key x) (key y)):=by
 refine ⟨fun x=>by rw [Nn]; exact TP _,fun x y z h k=>?_,fun x y z h k=>?_⟩
 ·rw [Nn] at *; exact Rb _ _ _ h k
 ·rw [Nn] at *; exact Qbh _ _ _ h k
theorem O0 {xs:List SV} {ob:List Ob} {r:SV} {ob':List Ob} (h:Dv xs ob=some (r,ob')):Fun Tryz.prog 134 xs ob r ob':=by
 unfold Dv at h
 split at h
 ·rename_i f t sz es
  obtain ⟨h1,h2⟩:=Ap h
  obtain ⟨rfl,rfl,hk1,hk2,hk3⟩:=Ax.1 h1
  simp only [zC,zG] at h2
  obtain ⟨rfl,rfl⟩:=h2
  intro w I V B vs hwf hvs
  obtain ⟨v,q,rfl,hv,hvs⟩:=Bf hvs
  obtain ⟨v2,q,rfl,hv2,hvs⟩:=Bf hvs
  obtain rfl:=HN hvs
  simp only [RepV] at hv hv2
  obtain ⟨vs2,rfl,hv2⟩:=hv2
  simp only [RepVs] at hv2
  subst hv2
  obtain ⟨val,hval,hrow⟩:=hwf.obj 0 trivial
  rw [hv.1] at hval
  obtain rfl:=zD hval
  have hv0:=hv.1
  have hrow:RowR w I (B 0) t 3 es v:=hrow
  rcases yK es.length with h0 | h0
  ·have he:es=[]:=yA h0
   subst he
   obtain ⟨a,c,rfl,_⟩:=hrow.form
   have hcon:=AnyF.slices_SortFunc_none Rc a c (.func (.func 135) #[] #[]) w
   change Calls Tryz.prog 134 _ _ _ at hcon
   refine hcon.mono ?_
   rintro e w' ⟨rfl,rfl⟩
   rw [List.mergeSort_nil]
   exact ⟨_,I,V,B,rfl,by simp only [RepV,RepVs]; exact ⟨[],rfl,rfl⟩,K9 hwf⟩
  ·rcases hrow with ⟨he,_⟩ | ⟨b,cap,cur,Sub,rfl,hs,hb,g1,g2,g3,g4,g5,g6,g7⟩
   ·subst he; simp at h0
   have hblt:=(zV.1 hb).1
   haveI:Inhabited (_root_.Fin es.length):=⟨⟨0,h0⟩⟩
   let cell:Nat→Nat→Value:=fun i j=>cur.getD (i*3+j) undef
   let enc:_root_.Fin es.length→List Value:=fun i=>[cell i 0,cell i 1,cell i 2]
   let key:_root_.Fin es.length→List UInt8:=fun i=>(WF es[i]).toList
   let d:Array (_root_.Fin es.length):=(z8 es.length).toArray
   have hdsz:d.size=es.length:=by simp [d]
   have hdget:∀ i (hi:i<es.length),d[i]! = ⟨i,hi⟩:=fun i hi=>by
    rw [getElem!_pos d i (by rw [hdsz]; exact hi)]
    simp [d]
   have lp:∀ i (hi:i<es.length) j (hj:j<3),ORep w I (Sub i j) (es[i][j]'(by rw [g4 i hi]; exact hj)) (cell i j):=fun i hi j hj=>g7 i j hi (by rw [g4 i hi]; exact hj)
   have forms:∀ i:_root_.Fin es.length,∃ (n:ByteArray) (a:Option Addr) (l c:Nat),enc i=[.string (WF es[i]),.string n,.slice a l c]:=fun i=>by
    obtain ⟨s,n,us,he⟩:=hk1 es[i] (zI _)
    have l0:=lp i i.2 0 (by omega)
    have l1:=lp i i.2 1 (by omega)
    have l2:=lp i i.2 2 (by omega)
    have he':es[i.val]'i.2=[.str s,.str n,.ow us]:=he
    simp only [he',List.getElem_cons_zero,yL] at l0 l1 l2
    obtain ⟨a,l,c,e2⟩:=l2.owV
    refine ⟨n,a,l,c,?_⟩
    show [cell i 0,cell i 1,cell i 2]=_
    rw [l0.strV,l1.strV,e2,he]
    rfl
   have hlen:∀ x,(enc x).length=3:=fun _=>rfl
   have hone:∀ x,∀ v∈enc x,v.oneCell'=true:=fun x v hv=>by
    obtain ⟨n,a,l,c,e⟩:=forms x
    rw [e] at hv
    simp only [zL,List.not_mem_nil,or_false] at hv
    rcases hv with rfl | rfl | rfl <;> rfl
   have hH:HoldsK enc 3 w b 0 d:=by
    intro j hj
    rw [size_flatK] at hj
    have hq:j / 3<d.size:=by omega
    have hq':j / 3<es.length:=by rw [←hdsz]; exact hq
    have hlt:j<cur.size:=by rw [g3]; have:=yG 3 g1; omega
    refine ⟨?_,?_⟩
    ·rw [y2,cell_of_row w b _ _ _ _ hb,get_flatK enc 3 d j hj,hdget _ hq']
     show cur[j]?=some ([cell (j / 3) 0,cell (j / 3) 1,cell (j / 3) 2][j % 3]!)
     have hm:j % 3=0∨j % 3=1∨j % 3=2:=by omega
     have e:cur[j]?=some (cell (j / 3) (j % 3)):=by
      show cur[j]?=some (cur.getD (j / 3*3+j % 3) undef)
      rw [show j / 3*3+j % 3=j by omega,zP hlt]
      simp [zM,hlt]
     rw [e]
     rcases hm with hm | hm | hm <;> rw [hm] <;> rfl
    ·unfold World.frozen?
     rw [hb]
     simp
   have hcmp:CmpLays Tryz.prog 135 #[] enc 3 (fun x y=>cmpL (key x) (key y)) b 0 d.size w:=by
    intro m os dk _ x y
    obtain ⟨n,a,l,c,e⟩:=forms x
    obtain ⟨n',a',l',c',e'⟩:=forms y
    rw [e,e']
    exact SK _ n _ n' a a' l c l' c' _
   have eg:∀ args w,(callFunc 135 args).run Tryz.prog w=.ok (.enter 135 args) w:=enters_of Tryz.func135 (by kernel_rfl) rfl
   have hT:∀ x y,ltOf (fun x y=>cmpL (key x) (key y)) x y=false→ltOf (fun x y=>cmpL (key x) (key y)) y x=false→x=y:=fun x y h h'=>by
    rw [Nn] at h h'
    have e:=Or (YA _ _ h h')
    have hi:x.val<(es.map WF).length:=by simp
    have hi':y.val<(es.map WF).length:=by simp
    have:=(yO (h₀:=hi) (h₁:=hi') hk2).1 (by simpa using e)
    exact _root_.Fin.ext this
   have hcon:=AnyQ.slices_SortFunc_total Rc 3 Tryz.isAgg139 Tryz.sizeOf139 enc hlen hone (fun x y=>cmpL (key x) (key y)) (Qf2 _ key) 135 #[] b 0 cap d w eg hcmp hH hblt (by rw [hdsz]; omega) hT
   change Calls Tryz.prog 134 _ _ _ at hcon
   rw [hdsz] at hcon
   refine hcon.mono ?_
   rintro e w' ⟨rfl,m,os,rfl⟩
   refine ⟨_,I,V,B,rfl,by simp only [RepV,RepVs]; exact ⟨[],rfl,rfl⟩,?_⟩
   let L:List (_root_.Fin es.length):=d.toList.mergeSort fun x y=>!(ltOf fun x y=>cmpL (key x) (key y)) y x
   have hdl:d.toList=z8 es.length:=rfl
   have hLp:L.Perm (z8 es.length):=by rw [←hdl]; exact List.mergeSort_perm _ _
   have hLl:L.length=es.length:=by rw [hLp.length_eq]; simp
   have hLn:L.Nodup:=hLp.nodup_iff.2 (List.nodup_finRange _)
   have hes:es.mergeSort rowLe=L.map fun i=>es[i]:=by
    have e:es=(z8 es.length).map fun i=>es[i]:=by
     apply List.ext_getElem
     ·simp
     ·intro i h1 h2; simp
    have k:=List.map_mergeSort (r:=fun x y=>!(ltOf fun x y=>cmpL (key x) (key y)) y x) (s:=rowLe) (f:=fun i:_root_.Fin es.length=>es[i]) (l:=z8 es.length) (fun a _ b _=>by
     rw [Nn]; rfl)
    rw [←e] at k
    exact k.symm
   rw [hes]
   have hg:∀ i (hi:i<L.length) (j:Nat),j<3→(putCells id 0 (flatK enc 3 L.toArray) cur).getD (i*3+j) undef=cell L[i] j:=fun i hi j hj=>by
    have:=P0 enc 3 L.toArray cur (i:=i) (j:=j) (by simpa using hi) hj (by rw [g3]; simp only [yZ,hLl]; exact yG 3 g1)
    rw [this,getElem!_pos L.toArray i (by simpa using hi)]
    simp only [yR]
    show [cell L[i] 0,cell L[i] 1,cell L[i] 2][j]! = _
    have hm:j=0∨j=1∨j=2:=by omega
    rcases hm with rfl | rfl | rfl <;> rfl
   have hgrow:∀ x,x<w.heap.size→x≠b→(sortWorldK enc 3 w b 0 m L.toArray os).heap[x]?=w.heap[x]?:=fun x hx hne=>by
    rw [J4 enc 3 w b m _ os x hx,if_neg (fun e=>hne e.symm)]
   refine Qak (fun i j x=>∃ h:i<L.length,Sub (L[i]).val j x) hwf hv0 (by rw [zE,hLl]) hs hb g1 g2 g3 (fun i hi=>by rw [zT]; exact g4 _ _) (fun i j x h=>g5 _ _ _ h.2) (fun i j i' j' x h h'=>?_) rfl ⟨rfl,fun h=>False.elim h⟩ rfl (size_sortWorldK_c enc 3 w b 0 m _ os) hgrow (Pz enc 3 w b m _ os hb) (by simp [putCells]) (fun i j hi hj=>?_)
   ·obtain ⟨a1,a2⟩:=h
    obtain ⟨b1,b2⟩:=h'
    obtain ⟨c1,c2⟩:=g6 _ _ _ _ _ a2 b2
    exact ⟨(yO hLn).1 (_root_.Fin.ext c1),c2⟩
   ·have hi':i<L.length:=by simpa using hi
    have hj':j<3:=by simpa [g4] using hj
    rw [hg i hi' j hj']
    have:=lp L[i] (L[i]).2 j hj'
    have hk:KeepS I w (sortWorldK enc 3 w b 0 m L.toArray os):=⟨size_sortWorldK_c enc 3 w b 0 m _ os,fun x hx hlt=>hgrow x hlt fun e=>hwf.dI 0 x trivial (e▸hs) hx⟩
    have h2:=(this.keep hk (fun _ h=>h) (fun x hx hlt=>hgrow x hlt (g5 _ _ _ hx).2)).up (S':=fun x=>∃ h:i<L.length,Sub (L[i]).val j x) (fun x hx=>⟨hi',hx⟩)
    simp only [zT]
    exact h2
 ·rename_i f
  obtain ⟨h1,h2⟩:=Ap h
  obtain rfl:=Ax.1 h1
  simp only [zC,zG] at h2
  obtain ⟨rfl,rfl⟩:=h2
  intro w I V B vs hwf hvs
  obtain ⟨v,q,rfl,hv,hvs⟩:=Bf hvs
  obtain ⟨v2,q,rfl,hv2,hvs⟩:=Bf hvs
  obtain rfl:=HN hvs
  simp only [RepV] at hv hv2
  obtain ⟨vs2,rfl,hv2⟩:=hv2
  simp only [RepVs] at hv2
  subst hv2
  subst hv
  have hcon:=AnyF.slices_SortFunc_none Rc none 0 (.func (.func 135) #[] #[]) w
  change Calls Tryz.prog 134 _ _ _ at hcon
  refine hcon.mono ?_
  rintro e w' ⟨rfl,rfl⟩
  exact ⟨_,I,V,B,rfl,by simp only [RepV,RepVs]; exact ⟨[],rfl,rfl⟩,K9 hwf⟩
 ·cases h
end Go.Proofs.YtibdknkacmimgaaGreatDoor
set_option maxRecDepth 100000
set_option linter.unusedSimpArgs false
set_option linter.unusedVariables false
set_option linter.unusedSectionVars false
namespace Go.Proofs.YtibdknkacmimgaaGreatDoor
open Go.RowKit
noncomputable def EK (a b:ByteArray):Int:=bif strLt a b then -1 else bif dec (a=b) then 0 else 1
noncomputable def Hd (a b:Int):Int:=bif dec (a<b) then -1 else bif dec (b<a) then 1 else 0
def orZ (x y:Int):Int:=if x=0 then y else x
mutual
noncomputable def Tm.cmp:Tm→Tm→Int
 | .mk n xs,y=>if Aq n&&!Aq y.name then -1 else if Aq y.name&&!Aq n then 1 else orZ (orZ (EK n y.name) (Hd xs.length y.args.length)) (Tm.cmpL xs y.args)
noncomputable def Tm.cmpL:List Tm→List Tm→Int
 | [],[]=>0
 | [],_ :: _=>-1
 | _ :: _,[]=>1
 | x :: xs,y :: ys=>orZ (Tm.cmp x y) (Tm.cmpL xs ys)
end
theorem Tm.UO (x y:Tm):x.cmp y=if Aq x.name&&!Aq y.name then -1 else if Aq y.name&&!Aq x.name then 1 else orZ (orZ (EK x.name y.name) (Hd x.args.length y.args.length)) (Tm.cmpL x.args y.args):=by
 obtain ⟨n,xs⟩:=x
 rw [Tm.cmp]; rfl
def KA (s:ByteArray):Bool:=decide (0<s.size)&&(QZ (JP s 0) == Aq s)
mutual
def Tm.cok:Tm→Bool
 | .mk n xs=>KA n&&Tm.SL xs
def Tm.SL:List Tm→Bool
 | []=>true
 | x :: xs=>Tm.cok x&&Tm.SL xs
end
theorem Tm.KB (x:Tm):x.cok=(KA x.name&&Tm.SL x.args):=by
 obtain ⟨n,xs⟩:=x
 rw [Tm.cok]; rfl
theorem Tm.He {xs:List Tm} (h:Tm.SL xs=true) {y:Tm} (hy:y∈xs):y.cok=true:=by
 induction xs with
 | nil=>cases hy
 | cons x xs ih =>
  rw [Tm.SL,zB] at h
  rcases zL.1 hy with rfl | hy
  ·exact h.1
  ·exact ih h.2 hy
def Hf (b:Bool):Int:=if b then 1 else 0
noncomputable def Lt.cmp (x y:Lt):Int:=orZ (x.atom.cmp y.atom) (Hd (Hf x.pos) (Hf y.pos))
theorem O1:∀ x:List UInt8,Op.bytesLess x x=false
 | []=>rfl
 | a :: x=>by simp [Op.bytesLess,O1 x]
theorem Rd:∀ x y z:List UInt8,Op.bytesLess x y=true→Op.bytesLess y z=true→Op.bytesLess x z=true
 | [],_,[],_,h=>by cases ‹List UInt8› <;> simp [Op.bytesLess] at *
 | [],_,_ :: _,_,_=>rfl
 | _ :: _,[],_,h,_=>by simp [Op.bytesLess] at h
 | _ :: _,_ :: _,[],_,h=>by simp [Op.bytesLess] at h
 | a :: x,b :: y,c :: z,h,k=>by
  simp only [Op.bytesLess,yT,decide_eq_true_eq,zB,beq_iff_eq] at h k ⊢
  rcases h with h | ⟨rfl,h⟩
  ·rcases k with k | ⟨rfl,k⟩
   ·exact .inl (UInt8.lt_trans h k)
   ·exact .inl h
  ·rcases k with k | ⟨rfl,k⟩
   ·exact .inl k
   ·exact .inr ⟨rfl,Rd x y z h k⟩
theorem Qcy:∀ x y:List UInt8,Op.bytesLess x y=false→Op.bytesLess y x=false→x=y
 | [],[],_,_=>rfl
 | [],_ :: _,h,_=>by simp [Op.bytesLess] at h
 | _ :: _,[],_,h=>by simp [Op.bytesLess] at h
 | a :: x,b :: y,h,k=>by
  simp only [Op.bytesLess,yF,decide_eq_false_iff_not] at h k
  have hab:a=b:=by
   have h1:=h.1; have h2:=k.1
   rw [UInt8.lt_iff_toNat_lt] at h1 h2
   exact UInt8.toNat_inj.1 (by omega)
  subst hab
  have h1:Op.bytesLess x y=false:=by simpa using h.2
  have h2:Op.bytesLess y x=false:=by simpa using k.2
  rw [Qcy x y h1 h2]
theorem Qcz {a b:ByteArray} (h:a.toList=b.toList):a=b:=by
 rw [ByteArray.toList_eq,ByteArray.toList_eq] at h
 obtain ⟨⟨x⟩⟩:=a
 obtain ⟨⟨y⟩⟩:=b
 simp at h
 rw [h]
structure Ord3 {α:Type} (c:α→α→Int) (a b d:α):Prop where
 anti:c b a=- c a b
 zero:c a b=0 ↔ a=b
 trans:c a b<0→c b d<0→c a d<0
theorem Re (a b d:ByteArray):Ord3 EK a b d:=by
 have key:∀ x y:ByteArray,(EK x y=-1∧strLt x y=true∧x≠y)∨(EK x y=0∧x=y)∨(EK x y=1∧strLt y x=true∧strLt x y=false∧x≠y):=by
  intro x y
  unfold EK
  cases h:strLt x y with
  | true =>
   refine .inl ⟨rfl,rfl,?_⟩
   rintro rfl
   unfold strLt at h
   rw [O1] at h; cases h
  | false =>
   by_cases e:x=y
   ·refine .inr (.inl ⟨?_,e⟩)
    rw [As e]; rfl
   ·refine .inr (.inr ⟨?_,?_,rfl,e⟩)
    ·rw [Az e]; rfl
    ·cases h2:strLt y x with
     | true=>rfl
     | false=>exact absurd (Qcz (Qcy _ _ h h2)) e
 have asy:∀ x y:ByteArray,strLt x y=true→strLt y x=true→False:=fun x y h k=>by
  have:=Rd _ _ _ h k
  rw [O1] at this; cases this
 refine ⟨?_,?_,?_⟩
 ·rcases key a b with ⟨h,h1,h2⟩ | ⟨h,rfl⟩ | ⟨h,h1,h2,h3⟩
  ·rcases key b a with ⟨k,k1,k2⟩ | ⟨k,rfl⟩ | ⟨k,k1,k2,k3⟩
   ·exact (asy _ _ h1 k1).elim
   ·exact absurd rfl h2
   ·rw [h,k]; rfl
  ·rw [h]; rfl
  ·rcases key b a with ⟨k,k1,k2⟩ | ⟨k,rfl⟩ | ⟨k,k1,k2,k3⟩
   ·rw [h,k]
   ·exact absurd rfl h3
   ·exact (asy _ _ h1 k1).elim
 ·rcases key a b with ⟨h,h1,h2⟩ | ⟨h,rfl⟩ | ⟨h,h1,h2,h3⟩
  ·rw [h]; constructor
   ·intro e; cases e
   ·intro e; exact absurd e h2
  ·rw [h]; simp
  ·rw [h]; constructor
   ·intro e; cases e
   ·intro e; exact absurd e h3
 ·intro h k
  rcases key a b with ⟨_,h1,h2⟩ | ⟨e,_⟩ | ⟨e,_⟩
  ·rcases key b d with ⟨_,k1,k2⟩ | ⟨e,_⟩ | ⟨e,_⟩
   ·have:=Rd _ _ _ h1 k1
    have e:strLt a d=true:=this
    unfold EK
    rw [e]; exact (by decide:(-1:Int)<0)
   ·omega
   ·omega
  ·omega
  ·omega
theorem EX (a b d:Int):Ord3 Hd a b d:=by
 have key:∀ x y:Int,Hd x y=if x<y then -1 else if y<x then 1 else 0:=fun x y=>by
  unfold Hd
  by_cases h:x<y
  ·rw [As h,if_pos h]; rfl
  ·rw [Az h,if_neg h]
   by_cases h2:y<x
   ·rw [As h2,if_pos h2]; rfl
   ·rw [Az h2,if_neg h2]; rfl
 refine ⟨?_,?_,?_⟩ <;> simp only [key]
 ·split <;> split <;> omega
 ·split
  ·constructor <;> omega
  ·split <;> constructor <;> omega
 ·split <;> split <;> split <;> omega
theorem KC {a b a' b':Int} (h:a'=-a) (k:b'=-b):orZ a' b'=- orZ a b:=by
 unfold orZ
 subst h k
 split <;> split <;> omega
theorem KD {a b:Int}:orZ a b=0 ↔ a=0∧b=0:=by
 unfold orZ
 split
 ·rename_i h; simp [h]
 ·rename_i h; simp [h]
theorem Qh {a b:Int}:orZ a b<0 ↔ a<0∨(a=0∧b<0):=by
 unfold orZ
 split <;> omega
theorem No {α:Type} {c:α→α→Int} (hc:∀ a b d,Ord3 c a b d) {a b d:α} {p q r:Int} (hk:p<0→q<0→r<0) (h1:orZ (c a b) p<0) (h2:orZ (c b d) q<0):orZ (c a d) r<0:=by
 rw [Qh] at h1 h2 ⊢
 rcases h1 with h1 | ⟨h1,h3⟩
 ·rcases h2 with h2 | ⟨h2,h4⟩
  ·exact .inl ((hc a b d).trans h1 h2)
  ·have e:=(hc b d d).zero.1 h2
   subst e
   exact .inl h1
 ·have e:=(hc a b d).zero.1 h1
  subst e
  rcases h2 with h2 | ⟨h2,h4⟩
  ·exact .inl h2
  ·exact .inr ⟨h2,hk h3 h4⟩
def kvZ (n:ByteArray):Int:=if Aq n then 0 else 1
theorem Tm.O2 (x y:Tm):x.cmp y=orZ (Hd (kvZ x.name) (kvZ y.name)) (orZ (EK x.name y.name) (orZ (Hd x.args.length y.args.length) (Tm.cmpL x.args y.args))):=by
 rw [Tm.UO]
 have hI:∀ p q:Int,Hd p q=if p<q then -1 else if q<p then 1 else 0:=fun x y=>by
  unfold Hd
  by_cases h:x<y
  ·rw [As h,if_pos h]; rfl
  ·rw [Az h,if_neg h]
   by_cases h2:y<x
   ·rw [As h2,if_pos h2]; rfl
   ·rw [Az h2,if_neg h2]; rfl
 rw [hI (kvZ _) (kvZ _)]
 have e:∀ p q r:Int,orZ (orZ p q) r=orZ p (orZ q r):=fun p q r=>by
  unfold orZ
  by_cases h:p=0
  ·simp [h]
  ·simp [h]
 unfold kvZ
 cases Aq x.name <;> cases Aq y.name <;> simp [e] <;> rfl
mutual
theorem Tm.Rf:∀ x y:Tm,y.cmp x=- x.cmp y
 | .mk n xs,.mk m ys=>by
  rw [Tm.O2,Tm.O2 (.mk n xs)]
  exact KC (EX _ _ 0).anti (KC (Re _ _ m).anti (KC (EX _ _ 0).anti (Tm.TQ xs ys)))
theorem Tm.TQ:∀ xs ys:List Tm,Tm.cmpL ys xs=- Tm.cmpL xs ys
 | [],[]=>rfl
 | [],y :: ys=>by rw [Tm.cmpL,Tm.cmpL]; rfl
 | x :: xs,[]=>by rw [Tm.cmpL,Tm.cmpL]
 | x :: xs,y :: ys=>by
  rw [Tm.cmpL,Tm.cmpL]
  exact KC (Tm.Rf x y) (Tm.TQ xs ys)
end
mutual
theorem Tm.Np:∀ x y:Tm,x.cmp y=0 ↔ x=y
 | .mk n xs,.mk m ys=>by
  rw [Tm.O2,KD,KD,KD,(EX _ _ 0).zero,(Re _ _ m).zero,(EX _ _ 0).zero,show Tm.cmpL (Tm.mk n xs).args (Tm.mk m ys).args=0 ↔ xs=ys from Tm.TR xs ys]
  constructor
  ·rintro ⟨_,h1,_,h2⟩
   have h1:n=m:=h1
   rw [h1,h2]
  ·intro h
   injection h with h1 h2
   subst h1 h2
   exact ⟨rfl,rfl,rfl,rfl⟩
theorem Tm.TR:∀ xs ys:List Tm,Tm.cmpL xs ys=0 ↔ xs=ys
 | [],[]=>by rw [Tm.cmpL]; simp
 | [],y :: ys=>by rw [Tm.cmpL]; simp
 | x :: xs,[]=>by rw [Tm.cmpL]; simp
 | x :: xs,y :: ys=>by rw [Tm.cmpL,KD,Tm.Np x y,Tm.TR xs ys,yD]
end
mutual
theorem Tm.TS:∀ x y z:Tm,x.cmp y<0→y.cmp z<0→x.cmp z<0
 | .mk n xs,.mk m ys,.mk k zs=>by
  rw [Tm.O2,Tm.O2 (.mk m ys),Tm.O2 (.mk n xs)]
  exact No EX (No Re (No EX (Tm.Rg xs ys zs)))
theorem Tm.Rg:∀ xs ys zs:List Tm,Tm.cmpL xs ys<0→Tm.cmpL ys zs<0→Tm.cmpL xs zs<0
 | [],[],zs=>by rw [Tm.cmpL]; intro h; omega
 | [],y :: ys,[]=>by intro _ h; rw [Tm.cmpL] at h; omega
 | [],y :: ys,z :: zs=>by intro _ _; rw [Tm.cmpL]; omega
 | x :: xs,[],zs=>by intro h; rw [Tm.cmpL] at h; omega
 | x :: xs,y :: ys,[]=>by intro _ h; rw [Tm.cmpL] at h; omega
 | x :: xs,y :: ys,z :: zs=>by
  rw [Tm.cmpL,Tm.cmpL,Tm.cmpL,Qh,Qh,Qh]
  intro h1 h2
  rcases h1 with h1 | ⟨h1,h3⟩
  ·rcases h2 with h2 | ⟨h2,h4⟩
   ·exact .inl (Tm.TS x y z h1 h2)
   ·obtain rfl:=(Tm.Np y z).1 h2
    exact .inl h1
  ·obtain rfl:=(Tm.Np x y).1 h1
   rcases h2 with h2 | ⟨h2,h4⟩
   ·exact .inl h2
   ·exact .inr ⟨h2,Tm.Rg xs ys zs h3 h4⟩
end
theorem Tm.cmp_ord (x y z:Tm):Ord3 Tm.cmp x y z:=⟨Tm.Rf x y,Tm.Np x y,Tm.TS x y z⟩
theorem Qbi {a b:Bool}:Hf a=Hf b ↔ a=b:=by cases a <;> cases b <;> decide
theorem Lt.cmp_ord (x y z:Lt):Ord3 Lt.cmp x y z:=by
 refine ⟨KC (Tm.Rf _ _) (EX _ _ 0).anti,?_,?_⟩
 ·unfold Lt.cmp
  rw [KD,(Tm.cmp_ord _ _ x.atom).zero,(EX _ _ 0).zero,Qbi]
  cases x; cases y
  simp [and_comm]
 ·exact No Tm.cmp_ord fun h k=>(EX _ _ _).trans h k
abbrev Tm.sv (x:Tm):SV:=.agg [.str x.name,.arr (x.args.map Tm.d)]
mutual
def Tm.o:Tm→List OT
 | .mk name args=>[.str name,.ow (Tm.os args)]
def Tm.os:List Tm→List (List OT)
 | []=>[]
 | x :: xs=>Tm.o x :: Tm.os xs
end
theorem Tm.os_eq:∀ xs:List Tm,Tm.os xs=xs.map Tm.o
 | []=>rfl
 | x :: xs=>by rw [Tm.os,Tm.os_eq xs]; rfl
theorem Tm.o_eq (x:Tm):Tm.o x=[.str x.name,.ow (x.args.map Tm.o)]:=by
 obtain ⟨name,args⟩:=x
 rw [Tm.o,Tm.os_eq]; rfl
theorem Tm.YC:∀ xs:List Tm,(∀ x∈xs,OT.ers (Tm.o x)=Tm.d x)→OT.erss (xs.map Tm.o)=xs.map Tm.d
 | [],_=>rfl
 | x :: xs,h=>by
  simp only [zF,OT.erss]
  rw [h x (by simp),Tm.YC xs fun y hy=>h y (by simp [hy])]
theorem Tm.er (x:Tm):OT.ers (Tm.o x)=Tm.d x:=by
 have h:=Tm.YC x.args fun y hy=>Tm.er y
 rw [Tm.o_eq,Tm.d_eq]
 simp only [OT.ers,OT.er,h]
termination_by SizeOf.sizeOf x
decreasing_by exact Tm.Aw hy
theorem Tm.erss (xs:List Tm):OT.erss (xs.map Tm.o)=xs.map Tm.d:=Tm.YC xs fun x _=>Tm.er x
theorem Tm.YD:∀ xs:List Tm,(∀ x∈xs,OT.ER (Tm.o x)=true)→OT.Cx (xs.map Tm.o)=true
 | [],_=>rfl
 | x :: xs,h=>by
  simp only [zF,OT.Cx]
  rw [h x (by simp),Tm.YD xs fun y hy=>h y (by simp [hy])]; rfl
theorem Tm.no (x:Tm):OT.ER (Tm.o x)=true:=by
 have h:=Tm.YD x.args fun y hy=>Tm.no y
 rw [Tm.o_eq]
 simp only [OT.ER,OT.noSh,h,zH,zO]
termination_by SizeOf.sizeOf x
decreasing_by exact Tm.Aw hy
theorem Tm.noss (xs:List Tm):OT.Cx (xs.map Tm.o)=true:=Tm.YD xs fun x _=>Tm.no x
abbrev Tm.osv (x:Tm):SV:=.agg [.str x.name,.ref 0]
abbrev Tm.obs (x:Tm):List Ob:=[.row 71 2 (x.args.map Tm.o)]
abbrev Lt.sv (x:Lt):SV:=.agg [.bool x.pos,.str x.atom.name,.arr (x.atom.args.map Tm.d)]
def Lt.o (x:Lt):List OT:=[.bool x.pos,.str x.atom.name,.ow (x.atom.args.map Tm.o)]
theorem Lt.o_eq (x:Lt):Lt.o x=[.bool x.pos,.str x.atom.name,.ow (x.atom.args.map Tm.o)]:=rfl
theorem Lt.er (x:Lt):OT.ers (Lt.o x)=Lt.d x:=by
 simp only [Lt.o,Lt.d,OT.ers,OT.er,Tm.erss]
theorem Lt.erss:∀ xs:List Lt,OT.erss (xs.map Lt.o)=xs.map Lt.d
 | []=>rfl
 | x :: xs=>by simp only [zF,OT.erss,Lt.er,Lt.erss xs]
theorem Lt.no (x:Lt):OT.ER (Lt.o x)=true:=by
 simp only [Lt.o,OT.ER,OT.noSh,Tm.noss,zH,zO]
theorem Lt.noss:∀ xs:List Lt,OT.Cx (xs.map Lt.o)=true
 | []=>rfl
 | x :: xs=>by simp only [zF,OT.Cx,Lt.no,Lt.noss xs,zH]
abbrev Lt.osv (x:Lt):SV:=.agg [.bool x.pos,.str x.atom.name,.ref 0]
abbrev Lt.obs (x:Lt):List Ob:=[.row 71 2 (x.atom.args.map Tm.o)]
abbrev Cl.sv (x:Cl):SV:=.agg [.arr (x.lits.map Lt.d)]
def Cl.o (x:Cl):List OT:=[.ow (x.lits.map Lt.o)]
theorem Cl.o_eq (x:Cl):Cl.o x=[.ow (x.lits.map Lt.o)]:=rfl
theorem Cl.er (x:Cl):OT.ers (Cl.o x)=Cl.d x:=by
 simp only [Cl.o,Cl.d,OT.ers,OT.er,Lt.erss]
theorem Cl.erss:∀ xs:List Cl,OT.erss (xs.map Cl.o)=xs.map Cl.d
 | []=>rfl
 | x :: xs=>by simp only [zF,OT.erss,Cl.er,Cl.erss xs]
theorem Cl.no (x:Cl):OT.ER (Cl.o x)=true:=by
 simp only [Cl.o,OT.ER,OT.noSh,Lt.noss,zH,zO]
theorem Cl.noss:∀ xs:List Cl,OT.Cx (xs.map Cl.o)=true
 | []=>rfl
 | x :: xs=>by simp only [zF,OT.Cx,Cl.no,Cl.noss xs,zH]
abbrev Cl.osv (x:Cl):SV:=.agg [.ref 0]
abbrev Cl.obs (x:Cl):List Ob:=[.row 73 3 (x.lits.map Lt.o)]
abbrev Bd.sv (x:Bd):SV:=.agg [.str x.var,.str x.term.name,.arr (x.term.args.map Tm.d)]
def Bd.o (x:Bd):List OT:=[.str x.var,.str x.term.name,.ow (x.term.args.map Tm.o)]
theorem Bd.er (x:Bd):OT.ers (Bd.o x)=Bd.d x:=by
 simp only [Bd.o,Bd.d,OT.ers,OT.er,Tm.erss]
theorem Bd.erss:∀ xs:List Bd,OT.erss (xs.map Bd.o)=xs.map Bd.d
 | []=>rfl
 | x :: xs=>by simp only [zF,OT.erss,Bd.er,Bd.erss xs]
theorem Bd.no (x:Bd):OT.ER (Bd.o x)=true:=by
 simp only [Bd.o,OT.ER,OT.noSh,Tm.noss,zH,zO]
theorem Bd.noss:∀ xs:List Bd,OT.Cx (xs.map Bd.o)=true
 | []=>rfl
 | x :: xs=>by simp only [zF,OT.Cx,Bd.no,Bd.noss xs,zH]
abbrev Sb.sv (x:Sb):SV:=.agg [.arr (x.binds.map Bd.d)]
def Sb.o (x:Sb):List OT:=[.ow (x.binds.map Bd.o)]
theorem Sb.er (x:Sb):OT.ers (Sb.o x)=Sb.d x:=by
 simp only [Sb.o,Sb.d,OT.ers,OT.er,Bd.erss]
theorem Sb.erss:∀ xs:List Sb,OT.erss (xs.map Sb.o)=xs.map Sb.d
 | []=>rfl
 | x :: xs=>by simp only [zF,OT.erss,Sb.er,Sb.erss xs]
theorem Sb.no (x:Sb):OT.ER (Sb.o x)=true:=by
 simp only [Sb.o,OT.ER,OT.noSh,Bd.noss,zH,zO]
theorem Sb.noss:∀ xs:List Sb,OT.Cx (xs.map Sb.o)=true
 | []=>rfl
 | x :: xs=>by simp only [zF,OT.Cx,Sb.no,Sb.noss xs,zH]
abbrev Sb.osv (x:Sb):SV:=.agg [.ref 0]
abbrev Sb.obs (x:Sb):List Ob:=[.row 139 3 (x.binds.map Bd.o)]
end Go.Proofs.YtibdknkacmimgaaGreatDoor
set_option maxRecDepth 100000
namespace Go.Proofs.YtibdknkacmimgaaGreatDoor
open Go.Shelf
def so_SortL_ren:Go.Shelf.Ren:=⟨fun | 6=>170 | 15=>167 | 14=>194 | 28=>192 | 29=>193 | 20=>205 | 21=>206 | 22=>207 | 23=>208 | 24=>209 | 25=>210 | 26=>211 | 27=>212 | 46=>216 | 47=>201 | 48=>202 | 49=>217 | 50=>218 | 57=>219 | n=>n,fun | 22=>26 | 24=>73 | 25=>93 | 3=>3 | 39=>164 | 0=>0 | 53=>187 | 55=>174 | 4=>4 | 46=>181 | 45=>180 | 50=>158 | 5=>5 | 9=>9 | 66=>193 | 70=>197 | 76=>204 | 77=>205 | n=>n,fun | n=>n⟩
theorem Rh:Go.Proofs.SlLaysF0.n6 Tryz.prog so_SortL_ren:={
 mixed:=by kernel_rfl,
 f6:=⟨Tryz.f170.name,by decide,Tryz.func170.trans (congrArg some (by kernel_rfl))⟩,
 f14:=⟨Tryz.f194.name,by decide,Tryz.func194.trans (congrArg some (by kernel_rfl))⟩,
 f15:=Tryz.func167.trans (congrArg some (by kernel_rfl)),
 f20:=⟨Tryz.f205.name,by decide,Tryz.func205.trans (congrArg some (by kernel_rfl))⟩,
 f21:=⟨Tryz.f206.name,by decide,Tryz.func206.trans (congrArg some (by kernel_rfl))⟩,
 f22:=⟨Tryz.f207.name,by decide,Tryz.func207.trans (congrArg some (by kernel_rfl))⟩,
 f23:=⟨Tryz.f208.name,by decide,Tryz.func208.trans (congrArg some (by kernel_rfl))⟩,
 f24:=⟨Tryz.f209.name,by decide,Tryz.func209.trans (congrArg some (by kernel_rfl))⟩,
 f25:=⟨Tryz.f210.name,by decide,Tryz.func210.trans (congrArg some (by kernel_rfl))⟩,
 f26:=⟨Tryz.f211.name,by decide,Tryz.func211.trans (congrArg some (by kernel_rfl))⟩,
 f27:=⟨Tryz.f212.name,by decide,Tryz.func212.trans (congrArg some (by kernel_rfl))⟩,
 f28:=Tryz.func192.trans (congrArg some (by kernel_rfl)),
 f29:=Tryz.func193.trans (congrArg some (by kernel_rfl)),
 f46:=⟨Tryz.f216.name,by decide,Tryz.func216.trans (congrArg some (by kernel_rfl))⟩,
 f47:=Tryz.func201.trans (congrArg some (by kernel_rfl)),
 f48:=Tryz.func202.trans (congrArg some (by kernel_rfl)),
 f49:=⟨Tryz.f217.name,by decide,Tryz.func217.trans (congrArg some (by kernel_rfl))⟩,
 f50:=⟨Tryz.f218.name,by decide,Tryz.func218.trans (congrArg some (by kernel_rfl))⟩,
 f57:=⟨Tryz.f219.name,by decide,Tryz.func219.trans (congrArg some (by kernel_rfl))⟩,
 t0:=Tryz.underlying0,
 a0:=Tryz.isAgg0,
 z0:=Tryz.sizeOf0,
 v0:=Tryz.zeroValue0,
 t3:=Tryz.underlying3,
 a3:=Tryz.isAgg3,
 z3:=Tryz.sizeOf3,
 v3:=Tryz.zeroValue3,
 t4:=Tryz.underlying4,
 a4:=Tryz.isAgg4,
 z4:=Tryz.sizeOf4,
 v4:=Tryz.zeroValue4,
 t5:=Tryz.underlying5,
 a5:=Tryz.isAgg5,
 z5:=Tryz.sizeOf5,
 v5:=Tryz.zeroValue5,
 t9:=Tryz.underlying9,
 a9:=Tryz.isAgg9,
 z9:=Tryz.sizeOf9,
 v9:=Tryz.zeroValue9,
 t22:=Tryz.underlying26,
 a22:=Tryz.isAgg26,
 z22:=Tryz.sizeOf26,
 v22:=Tryz.zeroValue26,
 t25:=Tryz.underlying93,
 a25:=Tryz.isAgg93,
 z25:=Tryz.sizeOf93,
 v25:=Tryz.zeroValue93,
 t39:=Tryz.underlying164,
 a39:=Tryz.isAgg164,
 z39:=Tryz.sizeOf164,
 v39:=Tryz.zeroValue164,
 t45:=Tryz.underlying180,
 a45:=Tryz.isAgg180,
 z45:=Tryz.sizeOf180,
 v45:=Tryz.zeroValue180,
 t46:=Tryz.underlying181,
 a46:=Tryz.isAgg181,
 z46:=Tryz.sizeOf181,
 v46:=Tryz.zeroValue181,
 t50:=Tryz.underlying158,
 a50:=Tryz.isAgg158,
 z50:=Tryz.sizeOf158,
 v50:=Tryz.zeroValue158,
 t53:=Tryz.underlying187,
 a53:=Tryz.isAgg187,
 z53:=Tryz.sizeOf187,
 v53:=Tryz.zeroValue187,
 t55:=Tryz.underlying174,
 a55:=Tryz.isAgg174,
 z55:=Tryz.sizeOf174,
 v55:=Tryz.zeroValue174,
 t66:=Tryz.underlying193,
 a66:=Tryz.isAgg193,
 z66:=Tryz.sizeOf193,
 v66:=Tryz.zeroValue193,
 t70:=Tryz.underlying197,
 a70:=Tryz.isAgg197,
 z70:=Tryz.sizeOf197,
 v70:=Tryz.zeroValue197,
 t76:=Tryz.underlying204,
 a76:=Tryz.isAgg204,
 z76:=Tryz.sizeOf204,
 v76:=Tryz.zeroValue204,
 t77:=Tryz.underlying205,
 a77:=Tryz.isAgg205,
 z77:=Tryz.sizeOf205,
 v77:=Tryz.zeroValue205 }
end Go.Proofs.YtibdknkacmimgaaGreatDoor
set_option maxRecDepth 100000
set_option linter.unusedSimpArgs false
set_option linter.unusedVariables false
set_option linter.unusedSectionVars false
namespace Go.Proofs.YtibdknkacmimgaaGreatDoor
open Go.RowKit Go.Shelf Go.Lib Go.Sort
mutual
theorem Tm.o_inj:∀ x y:Tm,Tm.o x=Tm.o y→x=y
 | .mk n xs,.mk m ys,h=>by
  rw [Tm.o_eq,Tm.o_eq] at h
  simp only [yD,OT.str.injEq,OT.ow.injEq,and_true] at h
  have h1:n=m:=h.1
  rw [h1,Tm.os_inj xs ys h.2]
theorem Tm.os_inj:∀ xs ys:List Tm,xs.map Tm.o=ys.map Tm.o→xs=ys
 | [],[],_=>rfl
 | [],y :: ys,h=>by simp at h
 | x :: xs,[],h=>by simp at h
 | x :: xs,y :: ys,h=>by
  simp only [zF,yD] at h
  rw [Tm.o_inj x y h.1,Tm.os_inj xs ys h.2]
end
theorem Lt.o_inj (x y:Lt) (h:Lt.o x=Lt.o y):x=y:=by
 rw [Lt.o_eq,Lt.o_eq] at h
 simp only [yD,OT.bool.injEq,OT.str.injEq,OT.ow.injEq,and_true] at h
 obtain ⟨p,⟨n,xs⟩⟩:=x
 obtain ⟨q,⟨m,ys⟩⟩:=y
 obtain ⟨h1,h2,h3⟩:=h
 have h1:p=q:=h1
 have h2:n=m:=h2
 rw [h1,h2,Tm.os_inj xs ys h3]
theorem Lt.os_inj:∀ {xs ys:List Lt},xs.map Lt.o=ys.map Lt.o→xs=ys
 | [],[],_=>rfl
 | [],y :: ys,h=>by simp at h
 | x :: xs,[],h=>by simp at h
 | x :: xs,y :: ys,h=>by
  simp only [zF,yD] at h
  rw [Lt.o_inj x y h.1,Lt.os_inj h.2]
theorem YE:∀ xs:List Tm,(∀ x∈xs,OT.Dr (Tm.o x)=true)→OT.AM (xs.map Tm.o)=true
 | [],_=>rfl
 | x :: xs,h=>by
  simp only [zF,OT.AM]
  rw [h x (by simp),YE xs fun y hy=>h y (by simp [hy])]; rfl
theorem lfu (x:Tm):OT.Dr (Tm.o x)=true:=by
 have h:=YE x.args fun y hy=>lfu y
 rw [Tm.o_eq]
 simp only [OT.Dr,OT.full,h,zH,zO]
termination_by SizeOf.sizeOf x
decreasing_by exact Tm.Aw hy
noncomputable def unL (es:List (List OT)):List Lt:=match Classical.propDecidable (∃ xs:List Lt,es=xs.map Lt.o) with
 | .isTrue h=>Classical.choose h
 | .isFalse _=>[]
theorem Qi (xs:List Lt):unL (xs.map Lt.o)=xs:=by
 unfold unL
 split
 ·rename_i h _
  exact (Lt.os_inj (Classical.choose_spec h)).symm
 ·rename_i h _
  exact absurd ⟨xs,rfl⟩ h
theorem Lt.Nq {x y z:Lt} (h:x.cmp y≤0) (k:y.cmp z≤0):x.cmp z≤0:=by
 by_cases h0:x.cmp y=0
 ·rw [(Lt.cmp_ord x y z).zero.1 h0]; exact k
 ·by_cases k0:y.cmp z=0
  ·rw [←(Lt.cmp_ord y z z).zero.1 k0]; exact h
  ·have:=(Lt.cmp_ord x y z).trans (by omega) (by omega)
   omega
noncomputable def Nr (xs:List Lt):List Lt:=xs.mergeSort fun x y=>decide (x.cmp y≤0)
def Ns (xs:List Lt):Prop:=xs.Pairwise fun x y=>x.cmp y≤0
theorem Nt:∀ {xs ys:List Lt},xs.Perm ys→Ns xs→Ns ys→xs=ys
 | [],ys,h,_,_=>(List.nil_perm.1 h).symm
 | x :: xs,[],h,_,_=>by simp at h
 | x :: xs,y :: ys,h,h1,h2=>by
  have hx:x.cmp y≤0:=by
   have hm:y∈x :: xs:=h.mem_iff.2 (by simp)
   rcases zL.1 hm with e | hm
   ·subst e
    have:=(Lt.cmp_ord y y y).zero.2 rfl
    omega
   ·exact (zZ.1 h1).1 y hm
  have hy:y.cmp x≤0:=by
   have hm:x∈y :: ys:=h.mem_iff.1 (by simp)
   rcases zL.1 hm with e | hm
   ·subst e
    have:=(Lt.cmp_ord x x x).zero.2 rfl
    omega
   ·exact (zZ.1 h2).1 x hm
  have ha:=(Lt.cmp_ord x y y).anti
  have e:x=y:=(Lt.cmp_ord x y y).zero.1 (by omega)
  subst e
  rw [Nt ((List.perm_cons x).1 h) (zZ.1 h1).2 (zZ.1 h2).2]
theorem GK (xs:List Lt):(Nr xs).Perm xs:=List.mergeSort_perm _ _
theorem P1 (xs:List Lt):Ns (Nr xs):=by
 have h:=List.pairwise_mergeSort (le:=fun x y:Lt=>decide (x.cmp y≤0)) (fun a b c h k=>by
  simp only [decide_eq_true_eq] at h k ⊢
  exact Lt.Nq h k) (fun a b=>by
  have:=(Lt.cmp_ord a b b).anti
  simp only [yT,decide_eq_true_eq]
  omega) xs
 exact h.imp fun h=>by simpa using h
theorem WH (g:Nat):¬ (Ao ([]:List Ob) g).live:=fun h=>by
 have e:Ao ([]:List Ob) g=.free:=rfl
 rw [e] at h
 exact h
theorem Qeh {W:World} {J:Nat→Prop} (h:∀ b,J b→b<W.heap.size) (hg:GL W J):Wf W J (fun _=>none) (fun _ _=>False) (Ao []) :=
 ⟨h,fun g hl=>(WH g hl).elim,fun g b hl=>(WH g hl).elim,fun g b hl=>(WH g hl).elim,fun g g' b hl=>(WH g hl).elim,fun g _=>rfl,hg⟩
theorem grown_of {W w':World} (h:Below W.heap.size W w') (hd:W.drawn≤w'.drawn):∃ q os',w'=Sort.grow (W.drewN q) os':=by
 obtain ⟨⟨d,os⟩,e⟩:=regrown_of_below h
 refine ⟨d-W.drawn,os,?_⟩
 have hd':w'.drawn=d:=by rw [e]; rfl
 have e2:redrawn W d=W.drewN (d-W.drawn):=by
  unfold redrawn World.drewN
  rw [show W.drawn+(d-W.drawn)=d by omega]
 rw [e]
 show Sort.grow (redrawn W d) os=_
 rw [e2]
theorem TT [Flag] {f:FuncId} {x y z:SV} (hF:Fun Tryz.prog f [x,y] [] z []) {W:World} {J:Nat→Prop} (hJ:∀ b,J b→b<W.heap.size) (hg:GL W J) {vx vy:Value} (hx:RepV W J (fun _=>none) x vx) (hy:RepV W J (fun _=>none) y vy) :
  Calls Tryz.prog f #[vx,vy] W fun e w'=>(∃ v I' V',e=.returned v∧RepV w' I' V' z v)∧Below W.heap.size W w'∧(Flag.d→W.drawn≤w'.drawn):=by
 have h:=hF W J (fun _=>none) (fun _ _=>False) [vx,vy] (Qeh hJ hg) (by simp only [RepVs]; exact ⟨vx,_,rfl,hx,vy,_,rfl,hy,rfl⟩)
 refine h.mono ?_
 rintro e w' ⟨v,I',V',B',rfl,hr,hp⟩
 exact ⟨⟨v,I',V',rfl,hr⟩,⟨hp.fr.os,hp.fr.tape.1,hp.fr.output,hp.fr.size,fun b hb=>hp.fr.block b hb fun ⟨g,hl,_⟩=>WH g hl⟩,hp.fr.tape.2⟩
theorem Qei {f:FuncId} {x y:SV} {z:Int} (hF:Qea Tryz.prog f [x,y] [] (.int .i64 z) []) {W:World} {J:Nat→Prop} (hJ:∀ b,J b→b<W.heap.size) (hg:GL W J) {vx vy:Value} (hx:RepV W J (fun _=>none) x vx) (hy:RepV W J (fun _=>none) y vy) :
  Calls Tryz.prog f #[vx,vy] W fun e w'=>e=.returned (.int .i64 z)∧∃ q os',w'=Sort.grow (W.drewN q) os':=by
 refine (@TT Qf f x y _ hF W J hJ hg vx vy hx hy).mono ?_
 rintro e w' ⟨⟨v,I',V',rfl,hr⟩,hb,hd⟩
 simp only [RepV] at hr
 subst hr
 exact ⟨rfl,grown_of hb (hd trivial)⟩
theorem QeW {f:FuncId} {x y:SV} {z:Bool} (hF:Fun Tryz.prog f [x,y] [] (.bool z) []) {W:World} {J:Nat→Prop} (hJ:∀ b,J b→b<W.heap.size) (hg:GL W J) {vx vy:Value} (hx:RepV W J (fun _=>none) x vx) (hy:RepV W J (fun _=>none) y vy) :
  Calls Tryz.prog f #[vx,vy] W (Ret W (.bool z)):=by
 refine (TT hF hJ hg hx hy).mono ?_
 rintro e w' ⟨⟨v,I',V',rfl,hr⟩,hb,_⟩
 simp only [RepV] at hr
 subst hr
 exact ⟨rfl,hb⟩
theorem Qal {α:Type} (d:Array α) (n:Nat) (h:d.size=n):d.extract 0 n=d:=by
 subst h
 exact Array.extract_size
theorem Qc0 {w:World} {I S:Nat→Prop} {b:Nat} {cur:Array Value} {Sub:Nat→Nat→Nat→Prop} {xs:List Lt}
  (h5:∀ i j x,Sub i j x→S x∧x≠b) (h7:∀ i j (h:i<(xs.map Lt.o).length) (h':j<(xs.map Lt.o)[i].length),ORep w I (Sub i j) ((xs.map Lt.o)[i][j]) (cur.getD (i*3+j) undef)) (i:Nat) (hi:i<xs.length) :
  ∃ (a:Option Addr) (l c:Nat),cur.getD (i*3+0) undef=.bool xs[i].pos∧cur.getD (i*3+1) undef=.string xs[i].atom.name∧cur.getD (i*3+2) undef=.slice a l c ∧
   RepV w (fun x=>I x∨(S x∧x≠b)) (fun _=>none) xs[i].sv (.agg #[.bool xs[i].pos,.string xs[i].atom.name,.slice a l c]):=by
 have hi':i<(xs.map Lt.o).length:=by simpa using hi
 have he:(xs.map Lt.o)[i]=[.bool xs[i].pos,.str xs[i].atom.name,.ow (xs[i].atom.args.map Tm.o)]:=by rw [zT,Lt.o_eq]
 have l0:=h7 i 0 hi' (by rw [he]; simp)
 have l1:=h7 i 1 hi' (by rw [he]; simp)
 have l2:=h7 i 2 hi' (by rw [he]; simp)
 simp only [he,List.getElem_cons_zero,yL] at l0 l1 l2
 obtain ⟨a,l,c,e2⟩:=l2.owV
 have e0:cur.getD (i*3+0) undef=.bool xs[i].pos:=by cases h:cur.getD (i*3+0) undef <;> rw [h] at l0 <;> cases l0 <;> rfl
 have e1:cur.getD (i*3+1) undef=.string xs[i].atom.name∧xs[i].atom.name.size≤9223372036854775807:=by
  cases h:cur.getD (i*3+1) undef <;> rw [h] at l1 <;> cases l1
  exact ⟨rfl,by assumption⟩
 refine ⟨a,l,c,e0,e1.1,e2,?_⟩
 rw [e2] at l2
 have hd:=l2.er (T:=fun x=>I x∨(S x∧x≠b)) (fun x hx=>.inr (h5 _ _ _ hx)) (fun x hx=>.inl hx) (by
  simp only [OT.full]
  exact YE _ fun y _=>lfu y)
 simp only [OT.er,Tm.erss] at hd
 simp only [RepV,RepVs]
 exact ⟨_,rfl,_,_,rfl,rfl,_,_,rfl,⟨rfl,e1.2⟩,_,_,rfl,hd,rfl⟩
noncomputable def HP (xs:List SV) (ob:List Ob):Option (SV × List Ob) :=
 match xs,ob with
 | [.ref 0,.fn f []],[.row t sz es]=>bif dec (f=83∧sz=3∧es.length≤1099511627776∧∃ xs:List Lt,es=xs.map Lt.o∧∀ x∈xs,∀ y∈xs,Qea Tryz.prog f [x.sv,y.sv] [] (.int .i64 (x.cmp y)) []) then some (.tup [],[.row t sz ((Nr (unL es)).map Lt.o)]) else none
 | [.nil,.fn f []],[]=>bif dec (f=83) then some (.tup [],[]) else none
 | _,_=>none
theorem Qf3 (n:Nat) (key:_root_.Fin n→Lt):SWO (ltOf fun x y=>(key x).cmp (key y)):=by
 refine ⟨fun x=>?_,fun x y z h k=>?_,fun x y z h k=>?_⟩
 ·show decide ((key x).cmp (key x)<0)=false
  rw [(Lt.cmp_ord (key x) (key x) (key x)).zero.2 rfl]; rfl
 ·unfold ltOf at *
  simp only [decide_eq_true_eq] at *
  exact (Lt.cmp_ord _ _ _).trans h k
 ·unfold ltOf at *
  simp only [decide_eq_false_iff_not] at *
  have a1:=(Lt.cmp_ord (key x) (key y) (key y)).anti
  have a2:=(Lt.cmp_ord (key y) (key z) (key z)).anti
  have a3:=(Lt.cmp_ord (key x) (key z) (key z)).anti
  have:=Lt.Nq (x:=key z) (y:=key y) (z:=key x) (by omega) (by omega)
  omega
theorem UP {xs:List SV} {ob:List Ob} {r:SV} {ob':List Ob} (h:HP xs ob=some (r,ob')):Fun Tryz.prog 170 xs ob r ob':=by
 unfold HP at h
 split at h
 ·rename_i f t sz es
  obtain ⟨h1,h2⟩:=Ap h
  obtain ⟨rfl,rfl,hk3,xs,rfl,hF⟩:=Ax.1 h1
  simp only [zC,zG] at h2
  obtain ⟨rfl,rfl⟩:=h2
  rw [Qi]
  rw [zE] at hk3
  intro w I V B vs hwf hvs
  obtain ⟨v,q,rfl,hv,hvs⟩:=Bf hvs
  obtain ⟨v2,q,rfl,hv2,hvs⟩:=Bf hvs
  obtain rfl:=HN hvs
  simp only [RepV] at hv hv2
  obtain ⟨vs2,rfl,hv2⟩:=hv2
  simp only [RepVs] at hv2
  subst hv2
  obtain ⟨val,hval,hrow⟩:=hwf.obj 0 trivial
  rw [hv.1] at hval
  obtain rfl:=zD hval
  have hv0:=hv.1
  have hrow:RowR w I (B 0) t 3 (xs.map Lt.o) v:=hrow
  rcases yK xs.length with h0 | h0
  ·have he:xs=[]:=yA h0
   subst he
   obtain ⟨a,c,rfl,_⟩:=hrow.form
   have hcon:=AnyF.slices_SortFunc_none Rh a c (.func (.func 83) #[] #[]) w
   change Calls Tryz.prog 170 _ _ _ at hcon
   refine hcon.mono ?_
   rintro e w' ⟨rfl,rfl⟩
   have e0:Nr []=[]:=List.mergeSort_nil
   rw [e0]
   exact ⟨_,I,V,B,rfl,by simp only [RepV,RepVs]; exact ⟨[],rfl,rfl⟩,K9 hwf⟩
  ·rcases hrow with ⟨he,_⟩ | ⟨b,cap,cur,Sub,rfl,hs,hb,g1,g2,g3,g4,g5,g6,g7⟩
   ·simp only [List.map_eq_nil_iff] at he
    subst he; simp at h0
   have hblt:=(zV.1 hb).1
   have view:=fun i hi=>Qc0 (xs:=xs) (S:=B 0) g5 g7 i hi
   rw [zE] at g1
   haveI:Inhabited (_root_.Fin xs.length):=⟨⟨0,h0⟩⟩
   let cell:Nat→Nat→Value:=fun i j=>cur.getD (i*3+j) undef
   let enc:_root_.Fin xs.length→List Value:=fun i=>[cell i 0,cell i 1,cell i 2]
   let d:Array (_root_.Fin xs.length):=(z8 xs.length).toArray
   have hdsz:d.size=xs.length:=by simp [d]
   have hdget:∀ i (hi:i<xs.length),d[i]! = ⟨i,hi⟩:=fun i hi=>by
    rw [getElem!_pos d i (by rw [hdsz]; exact hi)]
    simp [d]
   have hJb:∀ x,(I x∨(B 0 x∧x≠b))→x≠b:=fun x hx=>by
    rcases hx with hx | hx
    ·intro e; subst e; exact hwf.dI 0 x trivial hs hx
    ·exact hx.2
   have hJl:∀ x,(I x∨(B 0 x∧x≠b))→x<w.heap.size:=fun x hx=>by
    rcases hx with hx | hx
    ·exact hwf.ilt x hx
    ·exact hwf.lt 0 x trivial hx.1
   have forms:∀ i:_root_.Fin xs.length,∃ (a:Option Addr) (l c:Nat),enc i=[.bool xs[i].pos,.string xs[i].atom.name,.slice a l c]∧RepV w (fun x=>I x∨(B 0 x∧x≠b)) (fun _=>none) xs[i].sv (.agg #[.bool xs[i].pos,.string xs[i].atom.name,.slice a l c]):=fun i=>by
    obtain ⟨a,l,c,e0,e1,e2,hr⟩:=view i i.2
    refine ⟨a,l,c,?_,hr⟩
    show [cell i 0,cell i 1,cell i 2]=_
    rw [show cell i 0=_ from e0,show cell i 1=_ from e1,show cell i 2=_ from e2]
    rfl
   have hlen:∀ x,(enc x).length=3:=fun _=>rfl
   have hone:∀ x,∀ v∈enc x,v.oneCell'=true:=fun x v hv=>by
    obtain ⟨a,l,c,e,_⟩:=forms x
    rw [e] at hv
    simp only [zL,List.not_mem_nil,or_false] at hv
    rcases hv with rfl | rfl | rfl <;> rfl
   have hH:HoldsK enc 3 w b 0 d:=by
    intro j hj
    rw [size_flatK] at hj
    have hq:j / 3<d.size:=by omega
    have hq':j / 3<xs.length:=by rw [←hdsz]; exact hq
    have hlt:j<cur.size:=by rw [g3]; have:=yG 3 g1; omega
    refine ⟨?_,?_⟩
    ·rw [y2,cell_of_row w b _ _ _ _ hb,get_flatK enc 3 d j hj,hdget _ hq']
     show cur[j]?=some ([cell (j / 3) 0,cell (j / 3) 1,cell (j / 3) 2][j % 3]!)
     have hm:j % 3=0∨j % 3=1∨j % 3=2:=by omega
     have e:cur[j]?=some (cell (j / 3) (j % 3)):=by
      show cur[j]?=some (cur.getD (j / 3*3+j % 3) undef)
      rw [show j / 3*3+j % 3=j by omega,zP hlt]
      simp [zM,hlt]
     rw [e]
     rcases hm with hm | hm | hm <;> rw [hm] <;> rfl
    ·unfold World.frozen?
     rw [hb]
     simp
   have hcmp:CmpLays Tryz.prog 83 #[] enc 3 (fun x y=>xs[x].cmp xs[y]) b 0 d.size w:=by
    intro m os dk _ x y
    obtain ⟨a,l,c,e,hrx⟩:=forms x
    obtain ⟨a',l',c',e',hry⟩:=forms y
    have hsz:=size_sortWorldK_c enc 3 w b 0 m dk os
    have hk:KeepS (fun x=>I x∨(B 0 x∧x≠b)) w (sortWorldK enc 3 w b 0 m dk os):=⟨hsz,fun x hx hlt=>by rw [J4 enc 3 w b m _ os x hlt,if_neg (fun e=>hJb x hx e.symm)]⟩
    have hc:=Qei (hF xs[x] (zI _) xs[y] (zI _)) (W:=sortWorldK enc 3 w b 0 m dk os) (J:=fun x=>I x∨(B 0 x∧x≠b)) (fun x hx=>zS (hJl x hx) hsz) (hwf.gl.keep ⟨hsz,fun x hx hlt=>hk.block x (.inl hx) hlt⟩ fun x hx=>.inl hx) (RepV.mono hk (fun _ h=>h) (VLe.refl _) _ _ hrx) (RepV.mono hk (fun _ h=>h) (VLe.refl _) _ _ hry)
    rw [e,e']
    exact hc
   have eg:∀ args w,(callFunc 83 args).run Tryz.prog w=.ok (.enter 83 args) w:=enters_of Tryz.func83 (by kernel_rfl) rfl
   have hcon:=AnyQ.slices_SortFunc Rh 3 Tryz.isAgg73 Tryz.sizeOf73 enc hlen hone (fun x y=>xs[x].cmp xs[y]) (Qf3 _ fun i=>xs[i]) 83 #[] b 0 cap d w eg hcmp hH hblt (by rw [hdsz]; omega)
   change Calls Tryz.prog 170 _ _ _ at hcon
   rw [hdsz] at hcon
   rw [zE]
   refine hcon.mono ?_
   rintro e w' ⟨rfl,d',m,os,hp,hsd,rfl⟩
   refine ⟨_,I,V,B,rfl,by simp only [RepV,RepVs]; exact ⟨[],rfl,rfl⟩,?_⟩
   obtain ⟨hp1,_,hp3⟩:=hp
   rw [hdsz] at hp1
   obtain ⟨L,rfl⟩:∃ L:List (_root_.Fin xs.length),d'=L.toArray:=⟨d'.toList,by simp⟩
   have hLp:L.Perm (z8 xs.length):=by
    rw [Qal _ _ hp1,Qal d _ hdsz] at hp3
    exact hp3
   have hLl:L.length=xs.length:=by rw [hLp.length_eq]; simp
   have hLn:L.Nodup:=hLp.nodup_iff.2 (List.nodup_finRange _)
   have hes:Nr xs=L.map fun i=>xs[i]:=by
    have e:(z8 xs.length).map (fun i=>xs[i])=xs:=by
     apply List.ext_getElem
     ·simp
     ·intro i h1 h2; simp
    refine (Nt ?_ ?_ (P1 xs)).symm
    ·refine List.Perm.trans (hLp.map _) ?_
     rw [e]
     exact (GK xs).symm
    ·unfold Ns
     rw [List.pairwise_map,zW]
     intro i j hi hj hij
     have:=hsd i j (zU _) hij (by omega)
     rw [getElem!_pos L.toArray i (by simpa using hi),getElem!_pos L.toArray j (by simpa using hj)] at this
     simp only [yR,ltOf,decide_eq_false_iff_not] at this
     have a1:=(Lt.cmp_ord xs[L[i]] xs[L[j]] xs[L[j]]).anti
     omega
   rw [hes]
   have hg:∀ i (hi:i<L.length) (j:Nat),j<3→(putCells id 0 (flatK enc 3 L.toArray) cur).getD (i*3+j) undef=cell L[i] j:=fun i hi j hj=>by
    have:=P0 enc 3 L.toArray cur (i:=i) (j:=j) (by simpa using hi) hj (by rw [g3]; simp only [yZ,hLl]; exact yG 3 g1)
    rw [this,getElem!_pos L.toArray i (by simpa using hi)]
    simp only [yR]
    show [cell L[i] 0,cell L[i] 1,cell L[i] 2][j]! = _
    have hm:j=0∨j=1∨j=2:=by omega
    rcases hm with rfl | rfl | rfl <;> rfl
   have hgrow:∀ x,x<w.heap.size→x≠b→(sortWorldK enc 3 w b 0 m L.toArray os).heap[x]?=w.heap[x]?:=fun x hx hne=>by
    rw [J4 enc 3 w b m _ os x hx,if_neg (fun e=>hne e.symm)]
   have hlx:∀ i:_root_.Fin xs.length,(Lt.o xs[i]).length=3:=fun i=>by rw [Lt.o_eq]; rfl
   refine Qak (es':=(L.map fun i=>xs[i]).map Lt.o) (fun i j x=>∃ h:i<L.length,Sub (L[i]).val j x) hwf hv0 (by rw [zE,zE,zE,hLl]) hs hb (by rw [zE]; exact g1) g2 g3 (fun i hi=>by rw [zT,zT]; exact hlx _) (fun i j x h=>g5 _ _ _ h.2) (fun i j i' j' x h h'=>?_) rfl ⟨rfl,fun h=>False.elim h⟩ rfl (size_sortWorldK_c enc 3 w b 0 m L.toArray os) hgrow (Pz enc 3 w b m L.toArray os hb) (by simp [putCells]) (fun i j hi hj=>?_)
   ·obtain ⟨a1,a2⟩:=h
    obtain ⟨b1,b2⟩:=h'
    obtain ⟨c1,c2⟩:=g6 _ _ _ _ _ a2 b2
    exact ⟨(yO hLn).1 (_root_.Fin.ext c1),c2⟩
   ·have hi':i<L.length:=by simpa using hi
    have e1:((L.map fun i=>xs[i]).map Lt.o)[i]=(xs.map Lt.o)[(L[i]).val]'(by rw [zE]; exact (L[i]).2):=by simp only [zT]; rfl
    have hj':j<3:=by rw [e1] at hj; have:=g4 (L[i]).val (by rw [zE]; exact (L[i]).2); omega
    rw [hg i hi' j hj']
    have:=g7 (L[i]).val j (by rw [zE]; exact (L[i]).2) (by rw [g4]; exact hj')
    have hk:KeepS I w (sortWorldK enc 3 w b 0 m L.toArray os):=⟨size_sortWorldK_c enc 3 w b 0 m _ os,fun x hx hlt=>hgrow x hlt fun e=>hwf.dI 0 x trivial (e▸hs) hx⟩
    have h2:=(this.keep hk (fun _ h=>h) (fun x hx hlt=>hgrow x hlt (g5 _ _ _ hx).2)).up (S':=fun x=>∃ h:i<L.length,Sub (L[i]).val j x) (fun x hx=>⟨hi',hx⟩)
    simp only [e1]
    exact h2
 ·rename_i f
  obtain ⟨h1,h2⟩:=Ap h
  obtain rfl:=Ax.1 h1
  simp only [zC,zG] at h2
  obtain ⟨rfl,rfl⟩:=h2
  intro w I V B vs hwf hvs
  obtain ⟨v,q,rfl,hv,hvs⟩:=Bf hvs
  obtain ⟨v2,q,rfl,hv2,hvs⟩:=Bf hvs
  obtain rfl:=HN hvs
  simp only [RepV] at hv hv2
  obtain ⟨vs2,rfl,hv2⟩:=hv2
  simp only [RepVs] at hv2
  subst hv2 hv
  have hcon:=AnyF.slices_SortFunc_none Rh none 0 (.func (.func 83) #[] #[]) w
  change Calls Tryz.prog 170 _ _ _ at hcon
  refine hcon.mono ?_
  rintro e w' ⟨rfl,rfl⟩
  exact ⟨_,I,V,B,rfl,by simp only [RepV,RepVs]; exact ⟨[],rfl,rfl⟩,K9 hwf⟩
 ·cases h
end Go.Proofs.YtibdknkacmimgaaGreatDoor
set_option maxRecDepth 100000
set_option linter.unusedSimpArgs false
set_option linter.unusedVariables false
set_option linter.unusedSectionVars false
namespace Go.Proofs.YtibdknkacmimgaaGreatDoor
open Go.RowKit Go.Shelf
def DQ (eq:Nat→Nat→Bool) (i:Nat):Bool:=i == 0 || !eq i (i-1)
def kept (eq:Nat→Nat→Bool) (m:Nat):List Nat:=(yE m).filter (DQ eq)
theorem O3 (eq:Nat→Nat→Bool) (m:Nat):kept eq (m+1)=if DQ eq m then kept eq m++[m] else kept eq m:=by
 unfold kept
 rw [List.range_succ,List.filter_append]
 cases h:DQ eq m <;> simp [h]
theorem Qam (eq:Nat→Nat→Bool) (m:Nat):(kept eq m).length≤m:=by
 have:=List.length_filter_le (DQ eq) (yE m)
 simpa [kept] using this
theorem Ri {eq:Nat→Nat→Bool} {m:Nat} (h:∀ i,i<m→DQ eq i=true):kept eq m=yE m:=by
 unfold kept
 exact List.filter_eq_self.2 fun i hi=>h i (yH.1 hi)
structure RowOnly (w:World) (b:Nat) (t:TypeId) (cur:Array Value) (w':World):Prop where
 os:w'.os=w.os
 tape:w'.tape=w.tape
 output:w'.output=w.output
 size:w.heap.size≤w'.heap.size
 block:∀ x,x<w.heap.size→x≠b→w'.heap[x]?=w.heap[x]?
 row:w'.heap[b]?=some (.cells cur t (0,0))
structure CompI (eq:Nat→Nat→Bool) (cur:Array Value) (m kk:Nat) (cur2:Array Value):Prop where
 len:kk=(kept eq m).length
 lt:kk<m
 size:cur2.size=cur.size
 low:∀ p (hp:p<(kept eq m).length) j,j<3→cur2.getD (p*3+j) undef=cur.getD ((kept eq m)[p]*3+j) undef
 high:∀ {q},kk*3≤q→cur2.getD q undef=cur.getD q undef
theorem CompI.start {eq:Nat→Nat→Bool} {cur:Array Value} {k:Nat} (h:kept eq (k+1)=yE k):CompI eq cur (k+1) k cur :=
 ⟨by rw [h]; simp,by omega,rfl,fun p hp j hj=>by simp only [h,List.getElem_range],fun _=>rfl⟩
theorem CompI.skip {eq:Nat→Nat→Bool} {cur cur2:Array Value} {m kk:Nat} (h:CompI eq cur m kk cur2) (hk:DQ eq m=false):CompI eq cur (m+1) kk cur2:=by
 have e:kept eq (m+1)=kept eq m:=by rw [O3,if_neg (by rw [hk]; simp)]
 exact ⟨by rw [e]; exact h.len,by have:=h.lt; omega,h.size,fun p hp j hj=>by simp only [e] at hp ⊢; exact h.low p hp j hj,h.high⟩
theorem RowOnly.below {w w1 w2:World} {b:Nat} {t:TypeId} {cur:Array Value} (h:RowOnly w b t cur w1) (k:Below w1.heap.size w1 w2) (hb:b<w1.heap.size):RowOnly w b t cur w2 :=
 ⟨k.os.trans h.os,k.tape.trans h.tape,k.output.trans h.output,Nat.le_trans h.size k.size,fun x hx hne=>by rw [k.block x (zS hx h.size),h.block x hx hne],by rw [k.block b hb]; exact h.row⟩
theorem UQ {w:World} {b:Nat} {cur:Array Value} {t:TypeId} (hb:w.heap[b]?=some (.cells cur t (0,0))) (o:Nat):w.frozen? ⟨b,o,none⟩=false:=by
 unfold World.frozen?
 rw [hb]
 simp
theorem Qc1 {w:World} {b:Nat} {cur:Array Value} {t:TypeId} (hb:w.heap[b]?=some (.cells cur t (0,0))) {i j:Nat} (hlt:i*3+j<cur.size):w.cell? ⟨b,i*3+j,none⟩=some cur[i*3+j]:=by
 unfold World.cell?
 simp only [hb,yC,if_false]
 rw [zP hlt]
 rfl
theorem CompI.keep {eq:Nat→Nat→Bool} {cur cur2:Array Value} {m kk:Nat} (h:CompI eq cur m kk cur2) (hk:DQ eq m=true) (hs:kk*3+2<cur2.size) {v0 v1 v2:Value} (e0:cur.getD (m*3+0) undef=v0) (e1:cur.getD (m*3+1) undef=v1) (e2:cur.getD (m*3+2) undef=v2) :
  CompI eq cur (m+1) (kk+1) (((cur2.setIfInBounds (kk*3) v0).setIfInBounds (kk*3+1) v1).setIfInBounds (kk*3+2) v2):=by
 have e:kept eq (m+1)=kept eq m++[m]:=by rw [O3,if_pos hk]
 have hl:=h.len
 have hget:∀ q,(((cur2.setIfInBounds (kk*3) v0).setIfInBounds (kk*3+1) v1).setIfInBounds (kk*3+2) v2).getD q undef=if q=kk*3+2 then v2 else if q=kk*3+1 then v1 else if q=kk*3 then v0 else cur2.getD q undef:=fun q=>by
  simp only [zM,zX,Array.size_setIfInBounds]
  by_cases h2:kk*3+2=q
  ·subst h2; simp [hs]
  ·rw [if_neg h2,if_neg (show ¬ q=kk*3+2 from fun e=>h2 e.symm)]
   by_cases h1:kk*3+1=q
   ·subst h1; simp [show kk*3+1<cur2.size by omega]
   ·rw [if_neg h1,if_neg (show ¬ q=kk*3+1 from fun e=>h1 e.symm)]
    by_cases h0:kk*3=q
    ·subst h0; simp [show kk*3<cur2.size by omega]
    ·rw [if_neg h0,if_neg (show ¬ q=kk*3 from fun e=>h0 e.symm)]
 refine ⟨by rw [e]; simp [hl],by have:=h.lt; omega,by simp [h.size],fun p hp j hj=>?_,fun {q} hq=>?_⟩
 ·simp only [e,List.length_append,List.length_singleton] at hp
  rw [hget]
  rcases zJ p (kept eq m).length with hlt | hge
  ·rw [if_neg (by omega),if_neg (by omega),if_neg (by omega)]
   simp only [e,List.getElem_append_left hlt]
   exact h.low p hlt j hj
  ·have hp2:p=kk:=by omega
   subst hp2
   have eg:(kept eq (m+1))[p]'(by rw [e]; simpa using hp)=m:=by
    simp only [e]
    rw [List.getElem_append_right (by omega)]
    simp [hl]
   rw [eg]
   have hj3:j=0∨j=1∨j=2:=by omega
   rcases hj3 with rfl | rfl | rfl
   ·rw [if_neg (by omega),if_neg (by omega),if_pos (by omega),e0]
   ·rw [if_neg (by omega),if_pos (by omega),e1]
   ·rw [if_pos (by omega),e2]
 ·rw [hget,if_neg (by omega),if_neg (by omega),if_neg (by omega)]
  exact h.high (by omega)
theorem RowOnly.set {w V:World} {b:Nat} {t:TypeId} {cur:Array Value} (h:RowOnly w b t cur V) (o:Nat) (v:Value):RowOnly w b t (cur.setIfInBounds o v) (V.setCell ⟨b,o,none⟩ v):=by
 refine ⟨h.os,h.tape,h.output,by simpa [World.setCell] using h.size,fun x hx hne=>?_,?_⟩
 ·simp only [World.setCell,yM]
  rw [if_neg (fun e=>hne e.symm)]
  exact h.block x hx hne
 ·simp only [World.setCell,yM,if_true,h.row,y4,yC,if_false]
  rfl
theorem RowOnly.setCells {w:World} {b:Nat} {t:TypeId}:∀ (vs:List Value) (o:Nat) {V:World} {cur:Array Value},RowOnly w b t cur V→∃ cur',RowOnly w b t cur' (V.setCells b o vs)∧cur'.size=cur.size∧∀ q,q<o→cur'.getD q undef=cur.getD q undef
 | [],o,V,cur,h=>⟨cur,h,rfl,fun _ _=>rfl⟩
 | v :: r,o,V,cur,h=>by
  obtain ⟨cur',h1,h2,h3⟩:=RowOnly.setCells r (o+1) (h.set o v)
  refine ⟨cur',h1,by simpa using h2,fun q hq=>?_⟩
  rw [h3 q (by omega)]
  simp only [zM,zX]
  rw [if_neg (by omega)]
def Gs (n:Nat):List Value:=(Builtin.zeroCells #[.bool false,.string ⟨#[]⟩,.slice none 0 0] n).toList
theorem YF {n:Nat} {v:Value} (h:v∈Gs n):v.oneCell'=true:=by
 unfold Gs Builtin.zeroCells at h
 simp only [Array.toList_map,List.mem_map,Array.toList_range,yH] at h
 obtain ⟨i,_,rfl⟩:=h
 have hm:i % 3=0∨i % 3=1∨i % 3=2:=by omega
 show (#[Value.bool false,.string ⟨#[]⟩,.slice none 0 0][i % 3]!).oneCell'=true
 rcases hm with e | e | e <;> rw [e] <;> rfl
theorem Rj (n:Nat):(Gs n).length=n*3:=by
 unfold Gs Builtin.zeroCells
 simp
theorem Rk (ty:TypeId) {w:World} {b:Nat} {cur:Array Value} {t:TypeId} {o n c:Nat} (hb:w.heap[b]?=some (.cells cur t (0,0))) (hn:0<n) (hl:o+n*3≤cur.size) :
  (Builtin.clear_ #[26] ty #[.slice (some ⟨b,o,none⟩) n c]).run Tryz.prog w=.ok (.tuple #[]) (w.setCells b o (Gs n)):=by
 have hv:=fun w=>Tryz.zeroValue73 w
 have hst:=run_storeCells_cells (P:=Tryz.prog) b o (Gs n) 0 w (fun j hj=>by
  rw [Rj] at hj
  have:o+j<cur.size:=by omega
  unfold World.cell?
  simp only [hb,yC,if_false,yI]
  rw [zP this]
  rfl) (fun j hj=>UQ hb _) (fun v hv=>YF hv)
 simp only [yI] at hst
 obtain ⟨m,rfl⟩:∃ m,n=m+1:=⟨n-1,by omega⟩
 unfold Gs at hst ⊢
 simp [Builtin.clear_,Tryz.underlying26,hv,Value.cells,hst]
theorem JR {w:World} {b:Nat} {cur:Array Value} {t:TypeId} (hb:w.heap[b]?=some (.cells cur t (0,0))) {i j:Nat} {v:Value} (hlt:i*3+j<cur.size) (hv:True) (h:cur.getD (i*3+j) undef=v):w.cell? ⟨b,i*3+j,none⟩=some v:=by
 unfold World.cell?
 simp only [hb,yC,if_false]
 rw [zM,zP hlt,yN] at h
 rw [zP hlt,h]
 rfl
theorem PK (n:Nat) (eq:Nat→Nat→Bool) (w:World) (b cap:Nat) (cur:Array Value) (t:TypeId) (hb:w.heap[b]?=some (.cells cur t (0,0))) (hsz:cur.size=cap*3) (hn:n≤cap) (hcap:cap≤9223372036854775807)
  (pB:Nat→Bool) (pS:Nat→ByteArray) (pA:Nat→Option Addr) (pL pC:Nat→Nat)
  (hc:∀ i,i<n→cur.getD (i*3+0) undef=.bool (pB i)∧cur.getD (i*3+1) undef=.string (pS i)∧cur.getD (i*3+2) undef=.slice (pA i) (pL i) (pC i))
  (hcall:∀ i j,i<n→j<n→∀ W,w.heap.size≤W.heap.size→(∀ x,x<w.heap.size→x≠b→W.heap[x]?=w.heap[x]?)→Calls Tryz.prog 101 #[.agg #[.bool (pB i),.string (pS i),.slice (pA i) (pL i) (pC i)],.agg #[.bool (pB j),.string (pS j),.slice (pA j) (pL j) (pC j)]] W (Ret W (.bool (eq i j)))) :
  Calls Tryz.prog 171 #[.slice (some ⟨b,0,none⟩) n cap,.func (.func 101) #[] #[]] w fun e w'=>e=.returned (.slice (some ⟨b,0,none⟩) (kept eq n).length cap)∧∃ cur',RowOnly w b t cur' w'∧cur'.size=cur.size∧∀ p (hp:p<(kept eq n).length) j,j<3→cur'.getD (p*3+j) undef=cur.getD ((kept eq n)[p]*3+j) undef:=by
 have hF:∀ (args:Array Value) (W:World),(callFunc 101 args).run Tryz.prog W=.ok (.enter 101 args) W:=enters_of Tryz.func101 (by kernel_rfl) rfl
 have hblt:=(zV.1 hb).1
 have HC:=Lib.hid hcall
 clear hcall
 have HE:=Lib.hid hc
 clear hc
 by_cases h2:n<2
 ·have hk:kept eq n=yE n:=Ri fun i hi=>by
   have:i=0:=by omega
   subst this; rfl
  rw [hk]
  go_enter Tryz.func171,Tryz.ntmps171
  go_wp2
  go_ret
  refine ⟨by simp,cur,⟨rfl,rfl,rfl,zQ _,fun _ _ _=>rfl,hb⟩,rfl,fun p hp j hj=>?_⟩
  simp
 ·go_enter Tryz.func171,Tryz.ntmps171
  go_wp2
  go_loopg [5] n (fun g s5 wr=>∃ k:Nat,1≤k∧k≤n∧n-k≤g∧s5=.int .i64 k∧Below w.heap.size w wr∧∀ j,j<k→DQ eq j=true)
  case atStart =>
   refine ⟨1,zQ _,by omega,by omega,rfl,Below.refl _ _,fun j hj=>?_⟩
   obtain rfl:j=0:=by omega
   rfl
  case round =>
   have HB0:=Lib.hid hb
   obtain ⟨k,hk1,hk,hg,rfl,hbw,hall⟩:=hrel
   have HA:=Lib.hid hall
   clear hall
   have hzw:=hbw.size
   by_cases hlt:k<n
   ·obtain ⟨e0,e1,e2⟩:=HE.out k hlt
    obtain ⟨d0,d1,d2⟩:=HE.out (k-1) (by omega)
    have hbr:wr.heap[b]?=some (.cells cur t (0,0)):=by rw [hbw.block b hblt]; exact hb
    have q0:=JR hbr (i:=k) (j:=0) (by omega) trivial e0
    have q1:=JR hbr (i:=k) (j:=1) (by omega) trivial e1
    have q2:=JR hbr (i:=k) (j:=2) (by omega) trivial e2
    have r0:=JR hbr (i:=k-1) (j:=0) (by omega) trivial d0
    have r1:=JR hbr (i:=k-1) (j:=1) (by omega) trivial d1
    have r2:=JR hbr (i:=k-1) (j:=2) (by omega) trivial d2
    have hbrz:b<wr.heap.size:=by omega
    simp only [yI] at q0 r0
    have z1:IntKind.i64.wrap ((k:Int)-1)=(k:Int)-1:=IntWalk.i64_in _ (by omega)
    have z2:(0:Int)≤(k:Int)-1:=by omega
    have z3:(1:Int)≤(k:Int):=by omega
    have z4:(k:Int)-1<(n:Int):=by omega
    have z5:((k:Int)-1).toNat=k-1:=by omega
    have HB:=Lib.hid hb
    clear hb hbr e0 e1 e2 d0 d1 d2
    go_wp2
    refine Flow.wp_region_flow 11 [(10,.fixed (.bool (eq k (k-1))))] [] (by kernel_rfl) (by kernel_rfl) (MT rfl) ?_
    intro hgrow
    simp only [yV,y5]
    repeat (first | ((with_reducible refine Flow.flow_quiet ?_ ?_ ?_); (focus (exact rfl)); (focus (exact rfl)); intro K hK; go_simp; refine hK _ ?_; clear hK K) | ((with_reducible refine Flow.flow_pass ?_); intro K hK; go_simp; (first | refine hK _ ?_ | (refine ⟨?_,hK _ ?_⟩; (focus (simp [undef]; done)))); clear hK K))
    refine Flow.flow_exact _ rfl (by go_simp) (fun W hW=>VP (by go_simp) (HC.out k (k-1) hlt (by omega) _ (by have:=hW.size; omega) (fun x hx _=>by rw [hW.block x (by omega),hbw.block x hx]))) ?_
    repeat (first | ((with_reducible refine Flow.flow_quiet ?_ ?_ ?_); (focus (exact rfl)); (focus (exact rfl)); intro K hK; go_simp; refine hK _ ?_; clear hK K) | ((with_reducible refine Flow.flow_pass ?_); intro K hK; go_simp; (first | refine hK _ ?_ | (refine ⟨?_,hK _ ?_⟩; (focus (simp [undef]; done)))); clear hK K))
    with_reducible refine Flow.flow_nil ?_
    clear hgrow
    intro W hW _
    have hzW:=hW.size
    try simp at hzW
    obtain ⟨hcW,hfW⟩:=QeA hW
    simp only [yW,zR,y7]
    have hWb:Below w.heap.size w W:=hbw.trans (hW.mono hzw)
    cases heq:eq k (k-1) with
    | false =>
     go_wp2
     go_roundg (n-(k+1))
     case measure=>omega
     case rel =>
      refine ⟨k+1,by omega,by omega,zQ _,by go_num,hWb,fun j hj=>?_⟩
      by_cases e:j=k
      ·subst e; unfold DQ; rw [heq]; simp
      ·exact HA.out j (by omega)
    | true =>
     have hkk:kept eq (k+1)=yE k:=by
      rw [O3,Ri HA.out]
      unfold DQ
      rw [heq]
      simp; omega
     have hb2:W.heap[b]?=some (.cells cur t (0,0)):=by rw [hWb.block b hblt]; exact HB.out
     clear q0 q1 q2 r0 r1 r2 z1 z2 z3 z4 z5 hcW hfW hzW hW
     go_wp2
     go_loopg [5,7] n (fun g s5 s7 wr2=>∃ (kk k2:Nat) (cur2:Array Value),s5=.int .i64 kk∧s7=.int .i64 k2∧1≤k2∧k+k2≤n∧n-(k+k2)≤g∧RowOnly w b t cur2 wr2∧CompI eq cur (k+k2) kk cur2)
     case atStart=>exact ⟨k,1,cur,rfl,rfl,zQ _,by omega,by omega,⟨hWb.os,hWb.tape,hWb.output,hWb.size,fun x hx _=>hWb.block x hx,hb2⟩,CompI.start hkk⟩
     case round =>
      obtain ⟨kk,k2,cur2,rfl,rfl,hk2,hle,hg2,hro,hI⟩:=hrel
      have HI:=Lib.hid hI
      have HR:=Lib.hid hro
      have hkl:=hI.lt
      have hs2:=hI.size
      have hzr:=hro.size
      by_cases hlt2:k+k2<n
      ·have hrow:=hro.row
       obtain ⟨e0,e1,e2⟩:=HE.out (k+k2) hlt2
       obtain ⟨d0,d1,d2⟩:=HE.out (k+k2-1) (by omega)
       rw [←hI.high (by omega)] at e0 e1 e2 d0 d1 d2
       have q0:=JR hrow (i:=k+k2) (j:=0) (by omega) trivial e0
       have q1:=JR hrow (i:=k+k2) (j:=1) (by omega) trivial e1
       have q2:=JR hrow (i:=k+k2) (j:=2) (by omega) trivial e2
       have r0:=JR hrow (i:=k+k2-1) (j:=0) (by omega) trivial d0
       have r1:=JR hrow (i:=k+k2-1) (j:=1) (by omega) trivial d1
       have r2:=JR hrow (i:=k+k2-1) (j:=2) (by omega) trivial d2
       rw [show (k+k2)*3=k*3+k2*3 by omega] at q0 q1 q2
       rw [show (k+k2-1)*3=k*3+(k2-1)*3 by omega] at r0 r1 r2
       simp only [yI] at q0 r0
       have hbz:b<wr.heap.size:=by omega
       have z1:IntKind.i64.wrap ((k2:Int)-1)=(k2:Int)-1:=IntWalk.i64_in _ (by omega)
       have z2:(0:Int)≤(k2:Int)-1:=by omega
       have z3:(1:Int)≤(k2:Int):=by omega
       have z4:(k2:Int)-1<((n-k:Nat):Int):=by omega
       have z5:((k2:Int)-1).toNat=k2-1:=by omega
       clear hI hro hrow e0 e1 e2 d0 d1 d2 hb2
       go_wp2
       refine Flow.wp_region_flow 12 [(10,.fixed (.bool (eq (k+k2) (k+k2-1))))] [] (by kernel_rfl) (by kernel_rfl) (MT rfl) ?_
       intro hgrow
       simp only [yV,y5]
       repeat (first | ((with_reducible refine Flow.flow_quiet ?_ ?_ ?_); (focus (exact rfl)); (focus (exact rfl)); intro K hK; go_simp; refine hK _ ?_; clear hK K) | ((with_reducible refine Flow.flow_pass ?_); intro K hK; go_simp; (first | refine hK _ ?_ | (refine ⟨?_,hK _ ?_⟩; (focus (simp [undef]; done)))); clear hK K))
       refine Flow.flow_exact _ rfl (by go_simp) (fun W hW=>VP (by go_simp) (HC.out (k+k2) (k+k2-1) hlt2 (by omega) _ (by have:=hW.size; omega) (fun x hx hxb=>by rw [hW.block x (by omega),HR.out.block x hx hxb]))) ?_
       repeat (first | ((with_reducible refine Flow.flow_quiet ?_ ?_ ?_); (focus (exact rfl)); (focus (exact rfl)); intro K hK; go_simp; refine hK _ ?_; clear hK K) | ((with_reducible refine Flow.flow_pass ?_); intro K hK; go_simp; (first | refine hK _ ?_ | (refine ⟨?_,hK _ ?_⟩; (focus (simp [undef]; done)))); clear hK K))
       with_reducible refine Flow.flow_nil ?_
       clear hgrow
       intro V hV _
       have hzV:=hV.size
       try simp at hzV
       obtain ⟨hcV,hfV⟩:=QeA hV
       simp only [yW,zR,y7]
       have hVR:RowOnly w b t cur2 V:=HR.out.below hV (by omega)
       have f0:∀ o,wr.frozen? ⟨b,o,none⟩=false:=fun o=>UQ HR.out.row o
       cases heq2:eq (k+k2) (k+k2-1) with
       | true =>
        go_wp2
        go_roundg (n-(k+(k2+1)))
        case measure=>omega
        case rel=>exact ⟨kk,k2+1,cur2,rfl,by go_num,by omega,by omega,zQ _,hVR,HI.out.skip (by unfold DQ; rw [heq2]; simp; omega)⟩
       | false =>
        have w0:=Qc1 HR.out.row (i:=kk) (j:=0) (by omega)
        have w1:=Qc1 HR.out.row (i:=kk) (j:=1) (by omega)
        have w2:=Qc1 HR.out.row (i:=kk) (j:=2) (by omega)
        simp only [yI] at w0
        have g0:=f0 (kk*3)
        have g1:=f0 (kk*3+1)
        have g2:=f0 (kk*3+2)
        have zz:kk<n:=by omega
        have HVR:=Lib.hid hVR
        clear hVR f0
        go_wp2
        go_roundg (n-(k+(k2+1)))
        case measure=>omega
        case rel =>
         refine ⟨kk+1,k2+1,_,by go_num,by go_num,by omega,by omega,zQ _,((HVR.out.set _ _).set _ _).set _ _,?_⟩
         obtain ⟨e0,e1,e2⟩:=HE.out (k+k2) hlt2
         exact HI.out.keep (by unfold DQ; rw [heq2]; simp) (by omega) e0 e1 e2
      ·have hend:k+k2=n:=by omega
       have hcl:∀ ty,(Builtin.clear_ #[26] ty #[.slice (some ⟨b,kk*3,none⟩) (n-kk) (cap-kk)]).run Tryz.prog wr=.ok (.tuple #[]) (wr.setCells b (kk*3) (Gs (n-kk))):=fun ty=>Rk ty hro.row (by omega) (by omega)
       clear hI hro
       go_wp2
       go_ret
       have hI:=HI.out
       rw [hend] at hI
       obtain ⟨cur3,h1,h2,h3⟩:=HR.out.setCells (Gs (n-kk)) (kk*3)
       refine ⟨by rw [hI.len]; rfl,cur3,h1,by rw [h2,hI.size],fun p hp j hj=>?_⟩
       have:=hI.len
       rw [h3 _ (by omega)]
       exact hI.low p hp j hj
   ·obtain rfl:k=n:=by omega
    have hk:kept eq k=yE k:=Ri HA.out
    clear hb
    go_wp2
    go_ret
    rw [hk]
    refine ⟨by simp,cur,⟨hbw.os,hbw.tape,hbw.output,hbw.size,fun x hx _=>hbw.block x hx,by rw [hbw.block b hblt]; exact HB0.out⟩,rfl,fun p hp j hj=>?_⟩
    simp
end Go.Proofs.YtibdknkacmimgaaGreatDoor
set_option maxRecDepth 100000
set_option linter.unusedSimpArgs false
set_option linter.unusedVariables false
set_option linter.unusedSectionVars false
namespace Go.Proofs.YtibdknkacmimgaaGreatDoor
open Go.RowKit Go.Shelf
noncomputable def Hg (xs:List Lt) (i j:Nat):Bool:=dec (xs[i]?=xs[j]?)
noncomputable def Hh (xs:List Lt):List Lt:=(kept (Hg xs) xs.length).filterMap fun i=>xs[i]?
theorem Nu {eq:Nat→Nat→Bool} {m i:Nat} (h:i∈kept eq m):i<m∧DQ eq i=true:=by
 unfold kept at h
 rw [List.mem_filter,yH] at h
 exact h
theorem WI {eq:Nat→Nat→Bool} {m i:Nat} (h:i<m) (hk:DQ eq i=true):i∈kept eq m:=by
 unfold kept
 rw [List.mem_filter,yH]
 exact ⟨h,hk⟩
theorem P2 (eq:Nat→Nat→Bool) (m:Nat):(kept eq m).Pairwise (· < ·):=(List.pairwise_lt_range (n:=m)).filter _
theorem YG (eq:Nat→Nat→Bool) (m:Nat):(kept eq m).Nodup:=(P2 eq m).imp fun h e=>absurd e (Nat.ne_of_lt h)
theorem I1 (xs:List Lt):∀ l:List Nat,(∀ i∈l,i<xs.length)→(l.filterMap fun i=>xs[i]?).length=l.length∧∀ p i:Nat,l[p]?=some i→(l.filterMap fun i=>xs[i]?)[p]?=xs[i]?
 | [],_=>⟨rfl,fun p i h=>by simp at h⟩
 | i :: l,hl=>by
  have hi:=hl i (by simp)
  obtain ⟨h1,h2⟩:=I1 xs l fun j hj=>hl j (by simp [hj])
  have e:((i :: l).filterMap fun i=>xs[i]?)=xs[i] :: l.filterMap fun i=>xs[i]?:=by
   rw [List.filterMap_cons,zA hi]
  refine ⟨by rw [e]; simp [h1],fun p j hp=>?_⟩
  rw [e]
  cases p with
  | zero =>
   simp only [List.getElem?_cons_zero,zC] at hp ⊢
   subst hp
   exact (zA hi).symm
  | succ p =>
   simp only [List.getElem?_cons_succ] at hp ⊢
   exact h2 p j hp
theorem O4 (xs:List Lt):(Hh xs).length=(kept (Hg xs) xs.length).length:=(I1 xs _ fun i hi=>(Nu hi).1).1
theorem O5 (xs:List Lt) {p i:Nat} (h:(kept (Hg xs) xs.length)[p]?=some i) (hp:p<(Hh xs).length):∃ hi:i<xs.length,(Hh xs)[p]=xs[i]:=by
 have hi:=(Nu (yS h)).1
 have:=(I1 xs _ fun i hi=>(Nu hi).1).2 p i h
 refine ⟨hi,?_⟩
 have e:(Hh xs)[p]?=xs[i]?:=this
 rw [zA hp,zA hi] at e
 exact zD e
def Dy (xs:List Lt):Prop:=xs.Pairwise fun x y=>x.cmp y<0
theorem J5:∀ {xs ys:List Lt},Dy xs→Dy ys→(∀ z,z∈xs ↔ z∈ys)→xs=ys
 | [],[],_,_,_=>rfl
 | [],y :: ys,_,_,h=>by simpa using (h y).2 (by simp)
 | x :: xs,[],_,_,h=>by simpa using (h x).1 (by simp)
 | x :: xs,y :: ys,h1,h2,h=>by
  obtain ⟨a1,a2⟩:=zZ.1 h1
  obtain ⟨b1,b2⟩:=zZ.1 h2
  have irr:∀ z:Lt,¬ z.cmp z<0:=fun z hz=>by
   have:=(Lt.cmp_ord z z z).zero.2 rfl
   omega
  have e:x=y:=by
   rcases zL.1 ((h x).1 (by simp)) with e | hx
   ·exact e
   ·rcases zL.1 ((h y).2 (by simp)) with e | hy
    ·exact e.symm
    ·exact (irr x ((Lt.cmp_ord x y x).trans (a1 y hy) (b1 x hx))).elim
  subst e
  rw [J5 a2 b2 fun z=>?_]
  constructor
  ·intro hz
   rcases zL.1 ((h z).1 (by simp [hz])) with e | hz'
   ·subst e; exact (irr _ (a1 _ hz)).elim
   ·exact hz'
  ·intro hz
   rcases zL.1 ((h z).2 (by simp [hz])) with e | hz'
   ·subst e; exact (irr _ (b1 _ hz)).elim
   ·exact hz'
theorem UR {xs:List Lt} (hs:Ns xs):Dy (Hh xs):=by
 unfold Dy
 rw [zW]
 intro p q hp hq hpq
 have e1:=O4 xs
 obtain ⟨i,hpi⟩:∃ i,(kept (Hg xs) xs.length)[p]?=some i:=⟨_,zA (by omega)⟩
 obtain ⟨j,hqj⟩:∃ j,(kept (Hg xs) xs.length)[q]?=some j:=⟨_,zA (by omega)⟩
 have hlt:=zW.1 (P2 (Hg xs) xs.length) p q (by omega) (by omega) hpq
 rw [(yJ.1 hpi).2,(yJ.1 hqj).2] at hlt
 obtain ⟨hi,e2⟩:=O5 xs hpi hp
 obtain ⟨hj,e3⟩:=O5 xs hqj hq
 rw [e2,e3]
 have hkq:=(Nu (yS hqj)).2
 have hne:xs[j-1]≠xs[j]:=fun e=>by
  unfold DQ Hg at hkq
  rw [zA hj,zA (show j-1<xs.length by omega),e,As rfl] at hkq
  simp at hkq
  omega
 have h2:xs[j-1].cmp xs[j]≤0:=zW.1 hs (j-1) j (by omega) hj (by omega)
 have h3:xs[j-1].cmp xs[j]<0:=by
  have:=(Lt.cmp_ord xs[j-1] xs[j] xs[j]).zero
  have:xs[j-1].cmp xs[j]≠0:=fun e=>hne (this.1 e)
  omega
 rcases zJ i (j-1) with h4 | h4
 ·have h5:xs[i].cmp xs[j-1]≤0:=zW.1 hs i (j-1) (by omega) (by omega) h4
  by_cases h6:xs[i].cmp xs[j-1]=0
  ·rw [(Lt.cmp_ord xs[i] xs[j-1] xs[j]).zero.1 h6]; exact h3
  ·exact (Lt.cmp_ord xs[i] xs[j-1] xs[j]).trans (by omega) h3
 ·have:i=j-1:=by omega
  subst this
  exact h3
theorem Qbj (xs:List Lt) (z:Lt):z∈Hh xs ↔ z∈xs:=by
 constructor
 ·intro h
  unfold Hh at h
  obtain ⟨i,_,h2⟩:=List.mem_filterMap.1 h
  exact yS h2
 ·intro h
  obtain ⟨i,hi,rfl⟩:=List.getElem_of_mem h
  have key:∀ i (hi:i<xs.length),∃ j,j∈kept (Hg xs) xs.length∧xs[j]?=some xs[i]:=by
   intro i
   induction i with
   | zero=>intro hi; exact ⟨0,WI hi rfl,zA hi⟩
   | succ i ih =>
    intro hi
    cases hk:DQ (Hg xs) (i+1) with
    | true=>exact ⟨i+1,WI hi hk,zA hi⟩
    | false =>
     obtain ⟨j,h1,h2⟩:=ih (by omega)
     refine ⟨j,h1,?_⟩
     unfold DQ Hg at hk
     simp only [Nat.add_sub_cancel,yF,Bool.not_eq_false',Ax] at hk
     rw [h2,← zA,← zA]
     exact hk.2.symm
  obtain ⟨j,h1,h2⟩:=key i hi
  exact List.mem_filterMap.2 ⟨j,h1,h2⟩
noncomputable def DR (xs:List SV) (ob:List Ob):Option (SV × List Ob) :=
 match xs,ob with
 | [.ref 0,.fn f []],[.row t sz es]=>bif dec (f=101∧sz=3∧es.length≤1099511627776∧∃ xs:List Lt,es=xs.map Lt.o∧∀ x∈xs,∀ y∈xs,Fun Tryz.prog f [x.sv,y.sv] [] (.bool (dec (x=y))) []) then some (.ref 1,[.gone,.row t sz ((Hh (unL es)).map Lt.o)]) else none
 | [.nil,.fn f []],[]=>bif dec (f=101) then some (.nil,[]) else none
 | _,_=>none
def vB:Value→Bool
 | .bool b=>b
 | _=>false
def vS:Value→ByteArray
 | .string s=>s
 | _=>⟨#[]⟩
def vA:Value→Option Addr × Nat × Nat
 | .slice a n c=>(a,n,c)
 | _=>(none,0,0)
theorem JS (w:World):Calls Tryz.prog 171 #[.slice none 0 0,.func (.func 101) #[] #[]] w fun e w'=>e=.returned (.slice none 0 0)∧w'=w:=by
 go_enter Tryz.func171,Tryz.ntmps171
 go_wp2
 go_ret
 exact ⟨rfl,rfl⟩
theorem Rl {w w':World} {I:Nat→Prop} {V:Nat→Option Value} {B:Nat→Nat→Prop} {t:TypeId} {es es':List (List OT)} {v':Value} (hwf:Wf w I V B (Ao [.row t 3 es]))
  (hos:w'.os=w.os) (htape:TapeOk w w') (hout:w'.output=w.output) (hsz:w.heap.size≤w'.heap.size) (hblk:∀ x,x<w.heap.size→¬ B 0 x→w'.heap[x]?=w.heap[x]?) (hrow:RowR w' I (B 0) t 3 es' v') :
  FunPost w I V B [.row t 3 es] [.gone,.row t 3 es'] w' I (fun g=>if g=1 then some v' else V g) (fun g=>if g=1 then B 0 else B g):=by
 have hB0:∀ x,B 0 x→HB B [Ob.row t 3 es] x:=fun x hx=>⟨0,trivial,hx⟩
 have hlv:∀ g,(Ao [Ob.gone,.row t 3 es'] g).live→g=1:=fun g h=>by
  match g with
  | 0=>exact h.elim
  | 1=>rfl
  | g+2=>exact h.elim
 refine ⟨⟨hos,htape,hout,hsz,fun x hx hn=>hblk x hx fun h=>hn (hB0 x h)⟩,fun _ h=>h,fun _ h=>.inl h,fun g u hu=>?_,?_,fun g x hl hx=>?_⟩
 ·by_cases e:g=1
  ·subst e
   rw [hwf.fr 1 rfl] at hu; cases hu
  ·simp only [e,if_false]; exact hu
 ·refine ⟨fun x hx=>zS (hwf.ilt x hx) hsz,fun g hl=>?_,fun g x hl hx=>?_,fun g x hl hx=>?_,fun g g' x hl hl' _ _=>by rw [hlv g hl,hlv g' hl'],fun g hf=>?_,hwf.gl.keep ⟨hsz,fun x hx hlt=>hblk x hlt fun h=>hwf.dI 0 x trivial h hx⟩ fun _ h=>h⟩
  ·obtain rfl:=hlv g hl
   exact ⟨v',by simp,hrow⟩
  ·obtain rfl:=hlv g hl
   simp only [if_true] at hx
   exact zS (hwf.lt 0 x trivial hx) hsz
  ·obtain rfl:=hlv g hl
   simp only [if_true] at hx
   exact hwf.dI 0 x trivial hx
  ·match g with
   | 0=>cases hf
   | 1=>cases hf
   | g+2 =>
    have e:¬ g+2=1:=by omega
    simp only [e,if_false]
    exact hwf.fr (g+2) rfl
 ·obtain rfl:=hlv g hl
  simp only [if_true] at hx
  exact .inl (hB0 x hx)
theorem PL {xs:List SV} {ob:List Ob} {r:SV} {ob':List Ob} (h:DR xs ob=some (r,ob')):Fun Tryz.prog 171 xs ob r ob':=by
 unfold DR at h
 split at h
 ·rename_i f t sz es
  obtain ⟨h1,h2⟩:=Ap h
  obtain ⟨rfl,rfl,hk3,xs,rfl,hF⟩:=Ax.1 h1
  simp only [zC,zG] at h2
  obtain ⟨rfl,rfl⟩:=h2
  clear h h1
  rw [Qi]
  rw [zE] at hk3
  intro w I V B vs hwf hvs
  obtain ⟨v,q,rfl,hv,hvs⟩:=Bf hvs
  obtain ⟨v2,q,rfl,hv2,hvs⟩:=Bf hvs
  obtain rfl:=HN hvs
  simp only [RepV] at hv hv2
  obtain ⟨vs2,rfl,hv2⟩:=hv2
  simp only [RepVs] at hv2
  subst hv2
  obtain ⟨val,hval,hrow⟩:=hwf.obj 0 trivial
  rw [hv.1] at hval
  obtain rfl:=zD hval
  have hv0:=hv.1
  have hrow:RowR w I (B 0) t 3 (xs.map Lt.o) v:=hrow
  have hrow0:=hrow
  rcases hrow with ⟨he,rfl⟩ | ⟨b,cap,cur,Sub,rfl,hs,hb,g1,g2,g3,g4,g5,g6,g7⟩
  ·simp only [List.map_eq_nil_iff] at he
   subst he
   refine (JS w).mono ?_
   rintro e w' ⟨rfl,rfl⟩
   have e0:Hh []=[]:=rfl
   rw [e0]
   exact ⟨_,I,_,_,rfl,by simp only [RepV]; exact ⟨rfl,rfl⟩,Rl hwf rfl (TapeOk.mk' rfl rfl) rfl (zQ _) (fun _ _ _=>rfl) (.inl ⟨rfl,rfl⟩)⟩
  ·have hblt:=(zV.1 hb).1
   have view:=fun i hi=>Qc0 (xs:=xs) (S:=B 0) g5 g7 i hi
   rw [zE] at g1
   have hJb:∀ x,(I x∨(B 0 x∧x≠b))→x≠b:=fun x hx=>by
    rcases hx with hx | hx
    ·intro e; subst e; exact hwf.dI 0 x trivial hs hx
    ·exact hx.2
   have hJl:∀ x,(I x∨(B 0 x∧x≠b))→x<w.heap.size:=fun x hx=>by
    rcases hx with hx | hx
    ·exact hwf.ilt x hx
    ·exact hwf.lt 0 x trivial hx.1
   have hcon:=PK xs.length (Hg xs) w b cap cur t hb g3 g1 g2 (fun i=>vB (cur.getD (i*3+0) undef)) (fun i=>vS (cur.getD (i*3+1) undef)) (fun i=>(vA (cur.getD (i*3+2) undef)).1) (fun i=>(vA (cur.getD (i*3+2) undef)).2.1) (fun i=>(vA (cur.getD (i*3+2) undef)).2.2)
    (fun i hi=>by
     obtain ⟨a,l,c,e0,e1,e2,_⟩:=view i hi
     rw [e0,e1,e2]
     exact ⟨rfl,rfl,rfl⟩)
    (fun i j hi hj W hW1 hW2=>by
     obtain ⟨a,l,c,e0,e1,e2,hrx⟩:=view i hi
     obtain ⟨a',l',c',e0',e1',e2',hry⟩:=view j hj
     have hk:KeepS (fun x=>I x∨(B 0 x∧x≠b)) w W:=⟨hW1,fun x hx hlt=>hW2 x hlt (hJb x hx)⟩
     have hc:=QeW (hF xs[i] (zI _) xs[j] (zI _)) (W:=W) (J:=fun x=>I x∨(B 0 x∧x≠b)) (fun x hx=>zS (hJl x hx) hW1) (hwf.gl.keep ⟨hW1,fun x hx hlt=>hk.block x (.inl hx) hlt⟩ fun x hx=>.inl hx) (RepV.mono hk (fun _ h=>h) (VLe.refl _) _ _ hrx) (RepV.mono hk (fun _ h=>h) (VLe.refl _) _ _ hry)
     rw [e0,e1,e2,e0',e1',e2']
     have e:Hg xs i j=dec (xs[i]=xs[j]):=by
      unfold Hg
      rw [zA hi,zA hj]
      by_cases h:xs[i]=xs[j]
      ·rw [As h,As (by rw [h])]
      ·rw [Az h,Az (fun e=>h (zD e))]
     rw [e]
     exact hc)
   rw [zE]
   refine hcon.mono ?_
   rintro e w' ⟨rfl,cur',hro,hcs,hcell⟩
   have c1:=O4 xs
   have hkl:=Qam (Hg xs) xs.length
   refine ⟨_,I,_,_,rfl,by simp only [RepV]; exact ⟨rfl,rfl⟩,Rl hwf hro.os ⟨hro.tape,fun h=>False.elim h⟩ hro.output hro.size (fun x hx hn=>hro.block x hx fun e=>hn (e▸hs)) ?_⟩
   refine .inr ⟨b,cap,cur',fun p j x=>∃ h:p<(kept (Hg xs) xs.length).length,Sub ((kept (Hg xs) xs.length)[p]) j x,by rw [zE,c1],hs,hro.row,by rw [zE,c1]; omega,g2,by rw [hcs]; exact g3,fun i hi=>by rw [zT,Lt.o_eq]; rfl,fun i j x h=>g5 _ _ _ h.2,fun i j i' j' x h h'=>?_,fun i j hi hj=>?_⟩
   ·obtain ⟨a1,a2⟩:=h
    obtain ⟨b1,b2⟩:=h'
    obtain ⟨d1,d2⟩:=g6 _ _ _ _ _ a2 b2
    exact ⟨(yO (YG _ _)).1 d1,d2⟩
   ·have hi':i<(kept (Hg xs) xs.length).length:=by rw [←c1]; simpa using hi
    have hlt:=(Nu (zI hi')).1
    have e1:((Hh xs).map Lt.o)[i]=(xs.map Lt.o)[(kept (Hg xs) xs.length)[i]]'(by rw [zE]; exact hlt):=by
     obtain ⟨_,c2⟩:=O5 xs (zA hi') (by rw [c1]; exact hi')
     rw [zT,c2,zT]
    have hj':j<3:=by rw [e1] at hj; have:=g4 _ (show (kept (Hg xs) xs.length)[i]<(xs.map Lt.o).length by rw [zE]; exact hlt); omega
    rw [hcell i hi' j hj']
    have h7:=g7 ((kept (Hg xs) xs.length)[i]) j (by rw [zE]; exact hlt) (by rw [g4]; exact hj')
    have hk:KeepS I w w':=⟨hro.size,fun x hx hlt=>hro.block x hlt fun e=>hwf.dI 0 x trivial (e▸hs) hx⟩
    have h2:=(h7.keep hk (fun _ h=>h) (fun x hx hlt=>hro.block x hlt (g5 _ _ _ hx).2)).up (S':=fun x=>∃ h:i<(kept (Hg xs) xs.length).length,Sub ((kept (Hg xs) xs.length)[i]) j x) (fun x hx=>⟨hi',hx⟩)
    simp only [e1]
    exact h2
 ·rename_i f
  obtain ⟨h1,h2⟩:=Ap h
  obtain rfl:=Ax.1 h1
  simp only [zC,zG] at h2
  obtain ⟨rfl,rfl⟩:=h2
  intro w I V B vs hwf hvs
  obtain ⟨v,q,rfl,hv,hvs⟩:=Bf hvs
  obtain ⟨v2,q,rfl,hv2,hvs⟩:=Bf hvs
  obtain rfl:=HN hvs
  simp only [RepV] at hv hv2
  obtain ⟨vs2,rfl,hv2⟩:=hv2
  simp only [RepVs] at hv2
  subst hv2 hv
  refine (JS w).mono ?_
  rintro e w' ⟨rfl,rfl⟩
  exact ⟨_,I,V,B,rfl,by simp only [RepV],K9 hwf⟩
 ·cases h
end Go.Proofs.YtibdknkacmimgaaGreatDoor
set_option maxRecDepth 100000
set_option linter.unusedSimpArgs false
set_option linter.unusedVariables false
set_option linter.unusedSectionVars false
namespace Go.Proofs.YtibdknkacmimgaaGreatDoor
open Go.RowKit Go.Shelf
theorem Qbk {w w':World} {I:Nat→Prop} {V:Nat→Option Value} {B:Nat→Nat→Prop} {t:TypeId} {sz:Nat} {es:List (List OT)} {v':Value} {S:Nat→Prop} (hwf:Wf w I V B (Ao []))
  (hos:w'.os=w.os) (htape:TapeOk w w') (hout:w'.output=w.output) (hsz:w.heap.size≤w'.heap.size) (hblk:∀ x,x<w.heap.size→w'.heap[x]?=w.heap[x]?) (hS:∀ x,S x→w.heap.size≤x∧x<w'.heap.size) (hrow:RowR w' I S t sz es v') :
  FunPost w I V B [] [.row t sz es] w' I (fun g=>if g=0 then some v' else V g) (fun g=>if g=0 then S else B g):=by
 have hlv:∀ g,(Ao [Ob.row t sz es] g).live→g=0:=fun g h=>by
  match g with
  | 0=>rfl
  | g+1=>exact h.elim
 refine ⟨⟨hos,htape,hout,hsz,fun x hx hn=>hblk x hx⟩,fun _ h=>h,fun _ h=>.inl h,fun g u hu=>?_,?_,fun g x hl hx=>?_⟩
 ·rw [hwf.fr g rfl] at hu; cases hu
 ·refine ⟨fun x hx=>zS (hwf.ilt x hx) hsz,fun g hl=>?_,fun g x hl hx=>?_,fun g x hl hx hI=>?_,fun g g' x hl hl' _ _=>by rw [hlv g hl,hlv g' hl'],fun g hf=>?_,hwf.gl.keep ⟨hsz,fun x _ hlt=>hblk x hlt⟩ fun _ h=>h⟩
  ·obtain rfl:=hlv g hl
   exact ⟨v',by simp,hrow⟩
  ·obtain rfl:=hlv g hl
   simp only [if_true] at hx
   exact (hS x hx).2
  ·obtain rfl:=hlv g hl
   simp only [if_true] at hx
   have:=hwf.ilt x hI
   have:=(hS x hx).1
   omega
  ·match g with
   | 0=>cases hf
   | g+1 =>
    have e:¬ g+1=0:=by omega
    simp only [e,if_false]
    exact hwf.fr (g+1) rfl
 ·obtain rfl:=hlv g hl
  simp only [if_true] at hx
  exact .inr (hS x hx).1
theorem QeX {w:World} {I S T:Nat→Prop} {d:D} {v:Value} (h:DRep false w T d v) (hT:∀ x,T x→I x):ORep w I S d.ot v:=by
 cases h with
 | int _ n=>exact .int S n
 | bool _ b=>exact .bool S b
 | str _ s h=>exact .str S s h
 | arr _ sz es a cap f Sub h1 h2 h3 h4 h5 h6 h7=>exact .sh S es _ ((DRep.arr _ sz es a cap f Sub h1 h2 h3 h4 h5 h6 h7).up hT)
theorem WJ:∃ (i:TypeInfo) (z:Value),Tryz.prog.info? 73=some i∧i.zero=some z∧i.size=3∧z.cells.size=3∧i.bytes=48:=by
 have h:(match Tryz.prog.info? 73 with
  | some i=>match i.zero with
   | some z=>i.size == 3&&z.cells.size == 3&&i.bytes == 48
   | none=>false
  | none=>false)=true:=by kernel_rfl
 split at h
 ·rename_i i hi
  split at h
  ·rename_i z hz
   rw [zB,zB,beq_iff_eq,beq_iff_eq,beq_iff_eq] at h
   exact ⟨i,z,hi,hz,h.1.1,h.1.2,h.2⟩
  ·cases h
 ·cases h
noncomputable def O6 (xs:List SV) (ob:List Ob):Option (SV × List Ob) :=
 match xs,ob with
 | [.arr es],[]=>bif dec (es≠[]∧es.length≤1048576∧∀ e∈es,e.length=3) then some (.ref 0,[.row 73 3 (es.map fun e=>e.map D.ot)]) else none
 | _,_=>none
theorem YH (b off n c:Nat) (hn:0<n) (w w':World) (v':Value)
  (hap:∀ ty,(Builtin.append_ #[26,26] ty #[.slice (some ⟨w.heap.size,0,none⟩) 0 0,.slice (some ⟨b,off,none⟩) n c]).run Tryz.prog (w.alloc (.cells #[] 73))=.ok v' w') :
  Calls Tryz.prog 95 #[.slice (some ⟨b,off,none⟩) n c] w fun e w2=>e=.returned v'∧w2=w':=by
 have hq:∀ W,(binOp .eql 26 (.slice (some ⟨b,off,none⟩) n c) (.slice none 0 0)).run Tryz.prog W=.ok (.bool false) W:=fun W=>Lib.run_eql_slice_nil W _ _ _ n c 0 0 Tryz.underlying26
 go_enter Tryz.func95,Tryz.ntmps95
 go_wp2_with (at_builtin; refine Lib.wpList_append_run _ rfl _ _ _ _ rfl _ _ rfl rfl _ _ (hap _) ?_)
 go_ret
 exact ⟨rfl,rfl⟩
noncomputable def Qf6 (xs:List SV) (ob:List Ob):Option (SV × List Ob) :=
 match xs,ob with
 | [.nil,.int .i64 n],[]=>bif dec (n=0) then some (.nil,[]) else bif dec (0 < n∧n≤1048576) then some (.ref 0,[.row 73 3 []]) else none
 | _,_=>none
theorem WK {xs:List SV} {ob:List Ob} {r:SV} {ob':List Ob} (h:O6 xs ob=some (r,ob')):Fun Tryz.prog 95 xs ob r ob':=by
 unfold O6 at h
 split at h
 ·rename_i es
  obtain ⟨h1,h2⟩:=Ap h
  obtain ⟨k1,k2,k3⟩:=Ax.1 h1
  simp only [zC,zG] at h2
  obtain ⟨rfl,rfl⟩:=h2
  intro w I V B vs hwf hvs
  obtain ⟨v,q,rfl,hv,hvs⟩:=Bf hvs
  obtain rfl:=HN hvs
  simp only [RepV] at hv
  have hpos:0<es.length:=List.length_pos_iff.2 k1
  cases hv with
  | arr S sz es a cap f Sub g1 g2 g3 g4 g5 g6 g7 =>
   rcases g3 with g3 | ⟨b,off,rfl,hS,hlt,hc,_⟩
   ·omega
   have hsz3:sz=3:=by rw [←g4 0 hpos]; exact k3 _ (zI hpos)
   subst hsz3
   obtain ⟨i0,z,hi0,hz0,hs0,hzc,hby⟩:=WJ
   obtain ⟨W0,hW0⟩:∃ W,W=w.alloc (.cells #[] 73):=⟨_,rfl⟩
   have hb0:W0.heap[w.heap.size]?=some (.cells #[] 73 (0,0)):=by rw [hW0]; exact heap_alloc_new w _
   have hbl0:∀ x,x<w.heap.size→W0.heap[x]?=w.heap[x]?:=fun x hx=>by rw [hW0]; exact Below.heap_alloc w _ x hx
   have hz0':W0.heap.size=w.heap.size+1:=by rw [hW0]; simp
   have hk0:KeepS I w W0:=⟨by omega,fun x _ hlt=>hbl0 x hlt⟩
   have hc0:∀ i j,i<es.length→j<3→W0.cell? ⟨b,off+i*3+j,none⟩=some (f i j):=fun i j hi hj=>by
    rw [←hc i j hi hj]
    unfold World.cell?
    rw [hbl0 b hlt]
   obtain ⟨v',w',S',hrun,hrow,hS',o1,o2,o3,o4,o5⟩:=M0 (P:=Tryz.prog) (w:=W0) (I:=I) (S:=fun x=>x=w.heap.size) (T:=fun _=>False) (t:=73) (es:=[]) (new:=es.map fun e=>e.map D.ot) (tr:=26) (ty:=26) (val:=f) (Sub':=fun _ _ _=>False) (a:=some ⟨b,off,none⟩) (cp:=cap) (v:=.slice (some ⟨w.heap.size,0,none⟩) 0 0) Tryz.underlying26 hi0 hz0 hs0 hzc (by omega)
    (fun x hx hI=>by have:=hwf.ilt x hI; omega)
    (.inr ⟨w.heap.size,0,#[],fun _ _ _=>False,rfl,rfl,hb0,zQ _,by omega,by simp,fun i hi=>absurd hi (by simp),fun _ _ _ h=>h.elim,fun _ _ _ _ _ h=>h.elim,fun i j hi=>absurd hi (by simp)⟩)
    (fun _=>⟨b,off,rfl,fun i j hi hj=>hc0 i j (by simpa using hi) hj⟩)
    (fun i hi=>by rw [zT,zE]; exact g4 i (by simpa using hi)) (fun _ _ _ h=>h.elim) (fun _ h=>h.elim) (fun _ _ h=>h.elim) (fun _ _ _ _ _ h=>h.elim)
    (fun i j hi hj=>by
     have hi':i<es.length:=by simpa using hi
     have hj':j<es[i].length:=by simpa using hj
     simp only [zT]
     exact QeX ((g7 i j hi' hj').keep ⟨by omega,fun x _ hlt=>hbl0 x hlt⟩) fun x hx=>g5 i j x hx)
    (by simp; omega) (by rw [hby]; simp; omega)
   rw [zE] at hrun
   rw [List.nil_append] at hrow
   have hcon:=YH b off es.length cap hpos w w' v' (fun ty=>by
    rw [←hW0]
    exact hrun)
   have hone:v'.oneCell'=true:=by
    obtain ⟨a,n,e,_⟩:=hrow.form
    rw [e]; rfl
   refine hcon.mono ?_
   rintro e w2 ⟨rfl,rfl⟩
   refine ⟨_,I,_,_,rfl,by simp only [RepV]; exact ⟨rfl,hone⟩,Qbk (S:=fun x=>w.heap.size≤x∧x<w2.heap.size) hwf (by rw [o1,hW0]; rfl) (TapeOk.trans o2 (by rw [hW0]; exact TapeOk.mk' rfl rfl)) (by rw [o3,hW0]; rfl) (by omega) (fun x hx=>by rw [o5 x (by omega) (by omega),hbl0 x hx]) (fun x hx=>hx) (hrow.up fun x hx=>?_)⟩
   have hw0:w.heap.size<w2.heap.size:=by omega
   rcases hS' x hx with h | h | h
   ·omega
   ·exact h.elim
   ·omega
 ·cases h
end Go.Proofs.YtibdknkacmimgaaGreatDoor
set_option maxRecDepth 100000
set_option linter.unusedSimpArgs false
set_option linter.unusedVariables false
set_option linter.unusedSectionVars false
namespace Go.Proofs.YtibdknkacmimgaaGreatDoor
open Go.RowKit Go.Shelf
theorem RowOnly.cells {w:World} {b:Nat} {t:TypeId}:∀ (vs:List Value) (o:Nat) {V:World} {cur:Array Value},RowOnly w b t cur V→o+vs.length≤cur.size→∃ cur',RowOnly w b t cur' (V.setCells b o vs)∧cur'.size=cur.size∧∀ q,cur'.getD q undef=if o≤q∧q<o+vs.length then vs.getD (q-o) undef else cur.getD q undef
 | [],o,V,cur,h,_=>⟨cur,h,rfl,fun q=>by
  have e:¬ (o≤q∧q<o+([]:List Value).length):=by simp only [List.length_nil]; omega
  rw [if_neg e]⟩
 | v :: r,o,V,cur,h,hl=>by
  simp only [yP] at hl
  obtain ⟨cur',h1,h2,h3⟩:=RowOnly.cells r (o+1) (h.set o v) (by simp; omega)
  refine ⟨cur',h1,by simpa using h2,fun q=>?_⟩
  rw [h3 q]
  simp only [yP]
  by_cases e:q=o
  ·subst e
   rw [if_neg (by omega),if_pos (by omega),Nat.sub_self]
   simp [zM,zX,show q<cur.size by omega]
  ·by_cases h4:o+1≤q∧q<o+1+r.length
   ·rw [if_pos h4,if_pos (by omega),show q-o=(q-(o+1))+1 by omega]; rfl
   ·rw [if_neg h4,if_neg (by omega)]
    simp only [zM,zX]
    rw [if_neg (fun h=>e h.symm)]
theorem QeE {w:World} {b:Nat} {cur:Array Value} {t:TypeId} (hb:w.heap[b]?=some (.cells cur t (0,0))) {q:Nat} (hlt:q<cur.size):w.cell? ⟨b,q,none⟩=some (cur.getD q undef):=by
 unfold World.cell?
 simp only [hb,yC,if_false]
 rw [zM,zP hlt]
 rfl
theorem WL (n i:Nat) (hin:i<n) (w:World) (b cap:Nat) (cur:Array Value) (t:TypeId) (hb:w.heap[b]?=some (.cells cur t (0,0))) (hsz:cur.size=cap*3) (hn:n≤cap) (hcap:cap≤9223372036854775807)
  (hone:∀ q,q<n*3→(cur.getD q undef).oneCell'=true) :
  Calls Tryz.prog 94 #[.slice (some ⟨b,0,none⟩) n cap,.int .i64 (i:Int),.int .i64 ((i+1:Nat):Int)] w fun e w'=>e=.returned (.slice (some ⟨b,0,none⟩) (n-1) cap)∧∃ cur',RowOnly w b t cur' w'∧cur'.size=cur.size∧∀ p,p<n-1→∀ j,j<3→cur'.getD (p*3+j) undef=cur.getD ((if p<i then p else p+1)*3+j) undef:=by
 obtain ⟨i0,z,hi0,hz0,hs0,hzc,hby⟩:=WJ
 obtain ⟨m,hm⟩:∃ m,m=n-(i+1):=⟨_,rfl⟩
 obtain ⟨news,hnews⟩:∃ news,news=(yE (m*3)).map fun q=>cur.getD ((i+1)*3+q) undef:=⟨_,rfl⟩
 have hlen:news.length=m*3:=by rw [hnews]; simp
 have hget:∀ q,q<m*3→news[q]?=some (cur.getD ((i+1)*3+q) undef):=fun q hq=>by
  rw [hnews,List.getElem?_map,List.getElem?_range hq]; rfl
 have hrowD:w.drew.heap[b]?=some (.cells cur t (0,0)):=hb
 obtain ⟨A,hA,hsrc⟩:∃ A:Addr,(if cap=i+1 then (some (⟨b,0,none⟩:Addr)) else some ⟨b,(i+1)*3,none⟩)=some A∧Hid (∀ q u,news[q]?=some u→w.drew.cell? (A.add q)=some u):=by
  by_cases h:cap=i+1
  ·refine ⟨⟨b,0,none⟩,by simp [h],fun q u hu=>?_⟩
   have h0:news.length=0:=by rw [hlen]; omega
   rw [List.length_eq_zero_iff.1 h0] at hu
   simp at hu
  ·refine ⟨⟨b,(i+1)*3,none⟩,by simp [h],fun q u hu=>?_⟩
   have hq:q<m*3:=by
    have:=(yJ.1 hu).1
    rwa [hlen] at this
   rw [hget q hq] at hu
   rw [Addr.add_lit,← hu]
   exact QeE hrowD (by omega)
 have s1:Hid (news.length=m*3):=hlen
 have s2:Hid (∀ u∈news,u.oneCell'=true):=by
  intro u hu
  rw [hnews] at hu
  obtain ⟨q,hq,rfl⟩:=List.mem_map.1 hu
  rw [yH] at hq
  exact hone _ (by omega)
 have s3:Hid (∀ q,q<news.length→(w.drew.cell? ⟨b,0+i*3+q,none⟩).isSome=true∧w.drew.frozen? ⟨b,0+i*3+q,none⟩=false):=by
  intro q hq
  rw [hlen] at hq
  refine ⟨?_,UQ hrowD _⟩
  rw [QeE hrowD (by omega)]; rfl
 obtain ⟨W1,hW1⟩:∃ W1,W1=w.drew.setCells b (0+i*3) news:=⟨_,rfl⟩
 have hr0:RowOnly w b t cur w.drew:=⟨rfl,rfl,rfl,zQ _,fun _ _ _=>rfl,hb⟩
 obtain ⟨cur1,hr1,hz1,hg1⟩:=hr0.cells news (0+i*3) (by rw [hlen]; omega)
 rw [←hW1] at hr1
 have hcl:∀ ty,(Builtin.clear_ #[26] ty #[.slice (some ⟨b,(i+m)*3,none⟩) (n-(i+m)) (cap-(i+m))]).run Tryz.prog W1=.ok (.tuple #[]) (W1.setCells b ((i+m)*3) (Gs (n-(i+m)))):=fun ty=>Rk ty hr1.row (by omega) (by omega)
 obtain ⟨cur2,hr2,hz2,hg2⟩:=hr1.cells (Gs (n-(i+m))) ((i+m)*3) (by rw [Rj]; omega)
 have hfin:Hid (∃ cur',RowOnly w b t cur' (W1.setCells b ((i+m)*3) (Gs (n-(i+m))))∧cur'.size=cur.size∧∀ p,p<n-1→∀ j,j<3→cur'.getD (p*3+j) undef=cur.getD ((if p<i then p else p+1)*3+j) undef):=by
  refine ⟨cur2,hr2,by rw [hz2,hz1],fun p hp j hj=>?_⟩
  rw [hg2,if_neg (by omega),hg1,hlen]
  by_cases h:p<i
  ·rw [if_neg (by omega),if_pos h]
  ·rw [if_pos (by omega),if_neg h,List.getD_eq_getElem?_getD,hget _ (by omega),yN]
   congr 1
   omega
 have hW:Hid (W1=w.drew.setCells b (0+i*3) news):=hW1
 have hic:i≤cap:=by omega
 have hjc:i+1≤cap:=by omega
 have mixed:Tryz.prog.follows .mixedOrders=true:=by kernel_rfl
 have z1:(0:Int)≤(i:Int)+1:=by omega
 have z2:(i:Int)+1≤(n:Int):=by omega
 subst hm
 clear hW1 hr1 hr2 hr0 hg1 hg2 hget hnews hlen hrowD hone hz1 hz2 hb hsz
 go_enter Tryz.func94,Tryz.ntmps94
 go_wp2_with fail
 go_region_law_o (refine step_append_room rfl (.tmp 22) (.tmp 25) 26 rfl 73 i0 3 Tryz.underlying26 hi0 hs0 b 0 i cap (by simp [Act.eval,Act.put]) A (n-(i+1)) (cap-(i+1)) news (by simp [Act.eval,Act.put]) s1.out hsrc.out s2.out (by omega) s3.out ?_; rw [←hW.out])
 go_wp2
 go_ret
 refine ⟨by rw [show n-1=i+(n-(i+1)) by omega]; rfl,?_⟩
 exact hfin.out
noncomputable def LC (xs:List SV) (ob:List Ob):Option (SV × List Ob) :=
 match xs,ob with
 | [.ref 0,.int .i64 i,.int .i64 j],[.row t sz es]=>bif dec (sz=3∧0≤i∧i.toNat < es.length∧j=i+1∧es.length≤1099511627776) then some (.ref 1,[.gone,.row t sz (es.eraseIdx i.toNat)]) else none
 | _,_=>none
theorem US {xs:List SV} {ob:List Ob} {r:SV} {ob':List Ob} (h:LC xs ob=some (r,ob')):Fun Tryz.prog 94 xs ob r ob':=by
 unfold LC at h
 split at h
 ·rename_i i j t sz es
  obtain ⟨h1,h2⟩:=Ap h
  obtain ⟨rfl,k1,k2,rfl,k3⟩:=Ax.1 h1
  simp only [zC,zG] at h2
  obtain ⟨rfl,rfl⟩:=h2
  clear h h1
  obtain ⟨m,rfl⟩:∃ m:Nat,i=m:=⟨i.toNat,by omega⟩
  rw [Int.toNat_natCast] at k2 ⊢
  intro w I V B vs hwf hvs
  obtain ⟨v,q,rfl,hv,hvs⟩:=Bf hvs
  obtain ⟨v2,q,rfl,hv2,hvs⟩:=Bf hvs
  obtain ⟨v3,q,rfl,hv3,hvs⟩:=Bf hvs
  obtain rfl:=HN hvs
  simp only [RepV] at hv hv2 hv3
  subst hv2 hv3
  obtain ⟨val,hval,hrow⟩:=hwf.obj 0 trivial
  rw [hv.1] at hval
  obtain rfl:=zD hval
  have hrow:RowR w I (B 0) t 3 es v:=hrow
  rcases hrow with ⟨he,rfl⟩ | ⟨b,cap,cur,Sub,rfl,hs,hb,g1,g2,g3,g4,g5,g6,g7⟩
  ·subst he; simp at k2
  ·have hcon:=WL es.length m k2 w b cap cur t hb g3 g1 g2 (fun q hq=>by
    have hq1:q / 3<es.length:=by omega
    have:=g7 (q / 3) (q % 3) hq1 (by rw [g4 _ hq1]; omega)
    rw [show q / 3*3+q % 3=q by omega] at this
    exact this.oneCell)
   refine hcon.mono ?_
   rintro e w' ⟨rfl,cur',hro,hcs,hcell⟩
   have hlen:(es.eraseIdx m).length=es.length-1:=by rw [List.length_eraseIdx,if_pos k2]
   have eg:∀ p (hp:p<(es.eraseIdx m).length),∃ hq:(if p<m then p else p+1)<es.length,(es.eraseIdx m)[p]=es[if p<m then p else p+1]:=fun p hp=>by
    have hq:(if p<m then p else p+1)<es.length:=by split <;> omega
    refine ⟨hq,?_⟩
    rw [List.getElem_eraseIdx]
    split <;> simp only [*,if_true,if_false]
   refine ⟨_,I,_,_,rfl,by simp only [RepV]; exact ⟨rfl,rfl⟩,Rl hwf hro.os ⟨hro.tape,fun h=>False.elim h⟩ hro.output hro.size (fun x hx hn=>hro.block x hx fun e=>hn (e▸hs)) ?_⟩
   refine .inr ⟨b,cap,cur',fun p j x=>Sub (if p<m then p else p+1) j x,by rw [hlen],hs,hro.row,by rw [hlen]; omega,g2,by rw [hcs]; exact g3,fun p hp=>by obtain ⟨hq,e⟩:=eg p hp; rw [e]; exact g4 _ hq,fun p j x h=>g5 _ _ _ h,fun p j p' j' x h h'=>?_,fun p j hp hj=>?_⟩
   ·obtain ⟨c1,c2⟩:=g6 _ _ _ _ _ h h'
    refine ⟨?_,c2⟩
    revert c1
    split <;> split <;> omega
   ·obtain ⟨hq,e⟩:=eg p hp
    have hj':j<3:=by rw [e] at hj; have:=g4 _ hq; omega
    rw [hcell p (by omega) j hj']
    have h7:=g7 _ j hq (by rw [g4 _ hq]; exact hj')
    have h2:=h7.keep (w':=w') ⟨hro.size,fun x hx hlt=>hro.block x hlt fun e=>hwf.dI 0 x trivial (e▸hs) hx⟩ (fun _ h=>h) (fun x hx hlt=>hro.block x hlt (g5 _ _ _ hx).2)
    simp only [e]
    exact h2
 ·cases h
end Go.Proofs.YtibdknkacmimgaaGreatDoor
set_option maxRecDepth 100000
namespace Go.Proofs.YtibdknkacmimgaaGreatDoor
open Go.Shelf
def so_Itoa_ren:Go.Shelf.Ren:=⟨fun | 171=>85 | 243=>125 | 246=>158 | 283=>180 | 284=>181 | 285=>182 | 286=>183 | 129=>193 | 317=>196 | 318=>197 | 319=>198 | 320=>199 | 337=>213 | 338=>214 | n=>n,fun | 3=>3 | 9=>9 | 2=>2 | 4=>4 | 171=>173 | 0=>0 | 53=>174 | 37=>115 | 5=>5 | 173=>177 | 212=>191 | 51=>187 | 20=>20 | 213=>192 | 46=>164 | 232=>209 | 233=>210 | n=>n,fun | 17=>0 | 18=>1 | 19=>2 | n=>n⟩
theorem Qej:Go.Proofs.LaysM.n171 Tryz.prog so_Itoa_ren:={
 mixed:=by kernel_rfl,
 f129:=Tryz.func193.trans (congrArg some (by kernel_rfl)),
 f171:=Tryz.func85.trans (congrArg some (by kernel_rfl)),
 f243:=Tryz.func125.trans (congrArg some (by kernel_rfl)),
 f246:=Tryz.func158.trans (congrArg some (by kernel_rfl)),
 f283:=Tryz.func180.trans (congrArg some (by kernel_rfl)),
 f284:=Tryz.func181.trans (congrArg some (by kernel_rfl)),
 f285:=Tryz.func182.trans (congrArg some (by kernel_rfl)),
 f286:=Tryz.func183.trans (congrArg some (by kernel_rfl)),
 f317:=Tryz.func196.trans (congrArg some (by kernel_rfl)),
 f318:=Tryz.func197.trans (congrArg some (by kernel_rfl)),
 f319:=Tryz.func198.trans (congrArg some (by kernel_rfl)),
 f320:=Tryz.func199.trans (congrArg some (by kernel_rfl)),
 f337:=Tryz.func213.trans (congrArg some (by kernel_rfl)),
 f338:=Tryz.func214.trans (congrArg some (by kernel_rfl)),
 t0:=Tryz.underlying0,
 a0:=Tryz.isAgg0,
 z0:=Tryz.sizeOf0,
 v0:=Tryz.zeroValue0,
 t2:=Tryz.underlying2,
 a2:=Tryz.isAgg2,
 z2:=Tryz.sizeOf2,
 v2:=Tryz.zeroValue2,
 t3:=Tryz.underlying3,
 a3:=Tryz.isAgg3,
 z3:=Tryz.sizeOf3,
 v3:=Tryz.zeroValue3,
 t4:=Tryz.underlying4,
 a4:=Tryz.isAgg4,
 z4:=Tryz.sizeOf4,
 v4:=Tryz.zeroValue4,
 t5:=Tryz.underlying5,
 a5:=Tryz.isAgg5,
 z5:=Tryz.sizeOf5,
 v5:=Tryz.zeroValue5,
 t9:=Tryz.underlying9,
 a9:=Tryz.isAgg9,
 z9:=Tryz.sizeOf9,
 v9:=Tryz.zeroValue9,
 t20:=Tryz.underlying20,
 a20:=Tryz.isAgg20,
 z20:=Tryz.sizeOf20,
 v20:=Tryz.zeroValue20,
 t37:=Tryz.underlying115,
 a37:=Tryz.isAgg115,
 z37:=Tryz.sizeOf115,
 v37:=Tryz.zeroValue115,
 t46:=Tryz.underlying164,
 a46:=Tryz.isAgg164,
 z46:=Tryz.sizeOf164,
 v46:=Tryz.zeroValue164,
 t51:=Tryz.underlying187,
 a51:=Tryz.isAgg187,
 z51:=Tryz.sizeOf187,
 v51:=Tryz.zeroValue187,
 t53:=Tryz.underlying174,
 a53:=Tryz.isAgg174,
 z53:=Tryz.sizeOf174,
 v53:=Tryz.zeroValue174,
 t171:=Tryz.underlying173,
 a171:=Tryz.isAgg173,
 z171:=Tryz.sizeOf173,
 v171:=Tryz.zeroValue173,
 t173:=Tryz.underlying177,
 a173:=Tryz.isAgg177,
 z173:=Tryz.sizeOf177,
 v173:=Tryz.zeroValue177,
 t212:=Tryz.underlying191,
 a212:=Tryz.isAgg191,
 z212:=Tryz.sizeOf191,
 v212:=Tryz.zeroValue191,
 t213:=Tryz.underlying192,
 a213:=Tryz.isAgg192,
 z213:=Tryz.sizeOf192,
 t232:=Tryz.underlying209,
 a232:=Tryz.isAgg209,
 z232:=Tryz.sizeOf209,
 v232:=Tryz.zeroValue209,
 t233:=Tryz.underlying210,
 a233:=Tryz.isAgg210,
 z233:=Tryz.sizeOf210,
 v233:=Tryz.zeroValue210,
 g17:=by kernel_rfl,
 g18:=by kernel_rfl,
 g19:=by kernel_rfl,
 i0:=by kernel_rfl,
 i2:=by kernel_rfl,
 i3:=by kernel_rfl,
 i4:=by kernel_rfl,
 i5:=by kernel_rfl,
 i9:=by kernel_rfl,
 i20:=by kernel_rfl,
 i37:=by kernel_rfl,
 i46:=by kernel_rfl,
 i51:=by kernel_rfl,
 i53:=by kernel_rfl,
 i171:=by kernel_rfl,
 i173:=by kernel_rfl,
 i212:=by kernel_rfl,
 i232:=by kernel_rfl,
 i233:=by kernel_rfl,
 m17:=by kernel_rfl,
 m18:=by kernel_rfl,
 m19:=by kernel_rfl }
end Go.Proofs.YtibdknkacmimgaaGreatDoor
set_option maxRecDepth 100000
set_option linter.unusedSimpArgs false
set_option linter.unusedVariables false
set_option linter.unusedSectionVars false
namespace Go.Proofs.YtibdknkacmimgaaGreatDoor
open Go.RowKit
def GD (n:Int):ByteArray:=⟨(Lib.itoa n).toArray⟩
noncomputable def TU:List SV→Option SV
 | [.int .i64 n]=>bif dec (0≤n∧n≤1099511627776) then some (.str (GD n)) else none
 | _=>none
theorem GM {n:Int} (h0:0≤n) (h1:n≤1099511627776):(GD n).size≤20:=by
 obtain ⟨u,rfl⟩:∃ u:Nat,n=u:=⟨n.toNat,by omega⟩
 show (Lib.itoa u).toArray.size≤20
 rw [Lib.itoa_nonneg,yZ,Lib.decDigits_length]
 rcases yK u with rfl | hu
 ·rw [Lib.nDigits_small (by omega)]; omega
 ·have:=Lib.numDigits_eq u hu (by omega)
  split at this <;> omega
theorem YI {xs:List SV} {r:SV} (h:TU xs=some r):Fun Tryz.prog 85 xs [] r []:=by
 unfold TU at h
 split at h
 ·rename_i n
  obtain ⟨h1,h2⟩:=Ap h
  obtain ⟨k1,k2⟩:=Ax.1 h1
  obtain rfl:=zD h2
  intro w I V B vs hwf hvs
  obtain ⟨v,q,rfl,hv,hvs⟩:=Bf hvs
  obtain rfl:=HN hvs
  obtain rfl:=Qai hv
  have hcon:=Any.strconv_Itoa Qej n (by omega) (by omega) w hwf.gl.2.2
  change Calls Tryz.prog 85 _ _ _ at hcon
  refine hcon.mono ?_
  rintro e w' ⟨rfl,k,os,rfl⟩
  have hsz:w.heap.size≤(Sort.grow (w.drewN k) os).heap.size:=by simp [Sort.grow,World.drewN]
  have hbl:∀ x,x<w.heap.size→(Sort.grow (w.drewN k) os).heap[x]?=w.heap[x]?:=fun x hx=>by
   simp only [Sort.grow,World.drewN]
   rw [Array.getElem?_append_left hx]
  have hno:∀ g,¬ (Ao ([]:List Ob) g).live:=fun g h=>by
   have e:Ao ([]:List Ob) g=.free:=rfl
   rw [e] at h
   exact h
  refine ⟨_,I,V,B,rfl,?_,⟨⟨rfl,⟨rfl,fun h=>False.elim h⟩,rfl,hsz,fun x hx _=>hbl x hx⟩,fun _ h=>h,fun _ h=>.inl h,VLe.refl _,⟨fun x hx=>zS (hwf.ilt x hx) hsz,fun g hl=>(hno g hl).elim,fun g x hl=>(hno g hl).elim,fun g x hl=>(hno g hl).elim,fun g g' x hl=>(hno g hl).elim,fun g hg=>hwf.fr g rfl,hwf.gl.keep ⟨hsz,fun x _ hx=>hbl x hx⟩ fun _ h=>h⟩,fun g x hl=>(hno g hl).elim⟩⟩
  have:=GM k1 k2
  simp only [RepV]
  exact ⟨rfl,by omega⟩
 ·cases h
def Qan:List (Nat × FM)→Nat→FM
 | [],_=>⟨[],.asis,none,false⟩
 | (f,m) :: r,g=>bif f == g then m else Qan r g
theorem Qbl {l:List (Nat × FM)} {f:Nat} {g:List SV→List Ob→Option (SV × List Ob)} (h:(Qan l f).ext=some g):∃ m,(f,m)∈l∧m.ext=some g:=by
 induction l with
 | nil=>cases h
 | cons x r ih =>
  obtain ⟨f',m⟩:=x
  simp only [Qan] at h
  cases e:f' == f with
  | true =>
   rw [e] at h
   obtain rfl:f'=f:=by simpa using e
   exact ⟨m,by simp,h⟩
  | false =>
   rw [e] at h
   obtain ⟨m',h1,h2⟩:=ih h
   exact ⟨m',by simp [h1],h2⟩
noncomputable def TV:List SV→Option SV
 | [.int .i64 k]=>bif dec (1≤k)&&dec (k≤1099511627776) then some (.str (HO k)) else none
 | _=>none
theorem YJ {xs:List SV} {r:SV} (h:TV xs=some r):Fun Tryz.prog 61 xs [] r []:=by
 unfold TV at h
 split at h
 ·rename_i k
  obtain ⟨h1,h2⟩:=Ap h
  rw [zB,Ax,Ax] at h1
  obtain rfl:=zD h2
  obtain ⟨n,rfl⟩:∃ n:Nat,k=n:=⟨k.toNat,by omega⟩
  refine Fun.Y6 (rv:=.string (HO n)) (fun w I V=>by simp only [RepV,true_and]; exact Y7 (by omega) (by omega)) fun w I V vs h=>?_
  obtain ⟨v,r,rfl,h3,h⟩:=Bf h
  obtain rfl:=HN h
  obtain rfl:=Qai h3
  exact UJ n w (by omega) (by omega)
 ·cases h
def Qc2:List SV→Option SV
 | [.str s]=>some (.bool (Aq s))
 | _=>none
theorem Qbm {xs:List SV} {r:SV} (h:Qc2 xs=some r):Fun Tryz.prog 162 xs [] r []:=by
 unfold Qc2 at h
 split at h
 ·rename_i s
  obtain rfl:=zD h
  refine Fun.of_same (rv:=.bool (Aq s)) (fun w I V=>by simp only [RepV]) fun w I V vs h=>?_
  obtain ⟨v,r,rfl,h3,h⟩:=Bf h
  obtain rfl:=HN h
  obtain ⟨rfl,h4⟩:=Qg h3
  exact Ra s w h4
 ·cases h
def Qc3:List SV→Option SV
 | [.str s]=>some (.bool (Aq s))
 | _=>none
theorem Qbn {xs:List SV} {r:SV} (h:Qc3 xs=some r):Fun Tryz.prog 77 xs [] r []:=by
 unfold Qc3 at h
 split at h
 ·rename_i s
  obtain rfl:=zD h
  refine Fun.of_same (rv:=.bool (Aq s)) (fun w I V=>by simp only [RepV]) fun w I V vs h=>?_
  obtain ⟨v,r,rfl,h3,h⟩:=Bf h
  obtain rfl:=HN h
  obtain ⟨rfl,h4⟩:=Qg h3
  exact Qbg s w h4
 ·cases h
def Qc4:List SV→Option SV
 | [.str s]=>some (.bool (ET s))
 | _=>none
theorem Qbo {xs:List SV} {r:SV} (h:Qc4 xs=some r):Fun Tryz.prog 153 xs [] r []:=by
 unfold Qc4 at h
 split at h
 ·rename_i s
  obtain rfl:=zD h
  refine Fun.Y6 (rv:=.bool (ET s)) (fun w I V=>by simp only [RepV]) fun w I V vs h=>?_
  obtain ⟨v,r,rfl,h3,h⟩:=Bf h
  obtain rfl:=HN h
  obtain ⟨rfl,h4⟩:=Qg h3
  exact UM s w h4
 ·cases h
def Qc5:List SV→Option SV
 | [.str s]=>some (.bool (ET s))
 | _=>none
theorem Qbp {xs:List SV} {r:SV} (h:Qc5 xs=some r):Fun Tryz.prog 105 xs [] r []:=by
 unfold Qc5 at h
 split at h
 ·rename_i s
  obtain rfl:=zD h
  refine Fun.of_same (rv:=.bool (ET s)) (fun w I V=>by simp only [RepV]) fun w I V vs h=>?_
  obtain ⟨v,r,rfl,h3,h⟩:=Bf h
  obtain rfl:=HN h
  obtain ⟨rfl,h4⟩:=Qg h3
  exact UN s w h4
 ·cases h
noncomputable def modes:FuncId→FM:=Qan [(61,⟨[],.asis,some (LQ TV),false⟩),(162,⟨[],.asis,some (LQ Qc2),false⟩),(77,⟨[],.asis,some (LQ Qc3),false⟩),(153,⟨[],.asis,some (LQ Qc4),false⟩),(105,⟨[],.asis,some (LQ Qc5),false⟩),(134,⟨[true],.asis,some Dv,false⟩),(85,⟨[],.asis,some (LQ TU),false⟩),(170,⟨[true],.asis,some HP,false⟩),(171,⟨[true],.asis,some DR,false⟩),(95,⟨[],.asis,some O6,false⟩),(94,⟨[true],.asis,some LC,false⟩),(62,⟨[true],.asis,none,true⟩),(35,⟨[true],.asis,none,true⟩),(26,⟨[true],.asis,none,true⟩),(13,⟨[true],.asis,none,false⟩),(165,⟨[],.own [some (71,2)],none,false⟩),(126,⟨[],.own [none,some (71,2)],none,false⟩),(87,⟨[],.late,none,false⟩),(91,⟨[],.own [some (139,3),none],none,false⟩),(148,⟨[],.frz,none,false⟩),(111,⟨[],.frz,none,false⟩),(76,⟨[],.frz,none,false⟩),(132,⟨[],.frz,none,false⟩),(116,⟨[],.frz,none,false⟩),(150,⟨[],.frz,none,false⟩),(115,⟨[],.frz,none,false⟩),(173,⟨[],.frz,none,false⟩),(114,⟨[],.frz,none,false⟩),(124,⟨[true],.asis,none,false⟩),(57,⟨[],.own [some (139,3),none],none,false⟩),(90,⟨[],.frz,none,false⟩),(78,⟨[],.frz,none,false⟩),(50,⟨[],.frz,none,false⟩),(140,⟨[],.frz,none,false⟩),(143,⟨[],.own [none,some (71,2)],none,false⟩),(142,⟨[],.frz,none,false⟩),(169,⟨[],.own [none,none,some (71,2)],none,false⟩),(138,⟨[],.own [some (73,3)],none,false⟩),(139,⟨[],.own [some (73,3)],none,false⟩),(93,⟨[],.own [some (73,3)],none,false⟩),(98,⟨[],.own [some (73,3)],none,false⟩),(137,⟨[true],.own [some (73,3),none],none,false⟩),(92,⟨[],.own [some (73,3),none],none,false⟩),(117,⟨[],.frl [10],none,false⟩),(79,⟨[],.frz,none,false⟩),(97,⟨[],.frz,none,false⟩),(80,⟨[],.frz,none,false⟩),(59,⟨[],.own [some (73,3)],none,false⟩),(58,⟨[],.own [some (73,3),none],none,false⟩),(33,⟨[],.own [some (73,3),none],none,false⟩),(25,⟨[],.own [some (28,1),none],none,false⟩),(108,⟨[false,true],.asis,none,false⟩),(51,⟨[],.frz,none,false⟩),(30,⟨[],.frz,none,false⟩),(45,⟨[],.frz,none,false⟩),(24,⟨[],.frz,none,false⟩)]
theorem noExt {l:List (Nat × FM)} (h:(l.all fun p=>p.2.ext.isNone)=true) {f:Nat} {m:FM} {g:List SV→List Ob→Option (SV × List Ob)} (h1:(f,m)∈l) (h2:m.ext=some g):False:=by
 have h3:=List.all_eq_true.1 h _ h1
 rw [h2] at h3
 cases h3
theorem M9:Nm Tryz.prog modes:=by
 intro f g xs ob r ob' hg hx
 obtain ⟨m,h1,h2⟩:=Qbl hg
 rcases zL.1 h1 with h1 | h1
 ·obtain ⟨rfl,rfl⟩:=zY h1
  obtain rfl:=zD h2
  exact GJ YJ hx
 rcases zL.1 h1 with h1 | h1
 ·obtain ⟨rfl,rfl⟩:=zY h1
  obtain rfl:=zD h2
  exact GJ Qbm hx
 rcases zL.1 h1 with h1 | h1
 ·obtain ⟨rfl,rfl⟩:=zY h1
  obtain rfl:=zD h2
  exact GJ Qbn hx
 rcases zL.1 h1 with h1 | h1
 ·obtain ⟨rfl,rfl⟩:=zY h1
  obtain rfl:=zD h2
  exact GJ Qbo hx
 rcases zL.1 h1 with h1 | h1
 ·obtain ⟨rfl,rfl⟩:=zY h1
  obtain rfl:=zD h2
  exact GJ Qbp hx
 rcases zL.1 h1 with h1 | h1
 ·obtain ⟨rfl,rfl⟩:=zY h1
  obtain rfl:=zD h2
  exact O0 hx
 rcases zL.1 h1 with h1 | h1
 ·obtain ⟨rfl,rfl⟩:=zY h1
  obtain rfl:=zD h2
  exact GJ YI hx
 rcases zL.1 h1 with h1 | h1
 ·obtain ⟨rfl,rfl⟩:=zY h1
  obtain rfl:=zD h2
  exact UP hx
 rcases zL.1 h1 with h1 | h1
 ·obtain ⟨rfl,rfl⟩:=zY h1
  obtain rfl:=zD h2
  exact PL hx
 rcases zL.1 h1 with h1 | h1
 ·obtain ⟨rfl,rfl⟩:=zY h1
  obtain rfl:=zD h2
  exact WK hx
 rcases zL.1 h1 with h1 | h1
 ·obtain ⟨rfl,rfl⟩:=zY h1
  obtain rfl:=zD h2
  exact US hx
 exact (noExt rfl h1 h2).elim
noncomputable def E:FEnv:=ev Tryz.prog modes
noncomputable def calls:CallF:=CY modes E
theorem E_told {f:FuncId} {xs:List SV} {ob:List Ob} {r:SV} {ob':List Ob} (h:E f xs ob=some (r,ob')):Fun Tryz.prog f xs ob r ob':=Qah Qck M9 f xs ob r ob' h
noncomputable def run (n0:Nat):SC→St→Option (X × St):=fr Tryz.prog calls (J1 n0)
def go (n0:Nat) (sc:SC) (st:St) (K:X→St→Prop):Prop:=∃ x st',run n0 sc st=some (x,st')∧K x st'
def Rm (n0:Nat) (b:SC) (K:X→St→Prop):X→St→Prop
 | .normal,st=>go n0 b st K
 | .exit i,st=>K (.exit i) st
 | .ret,st=>K .ret st
def blk (id:Nat) (K:X→St→Prop):X→St→Prop
 | .normal,st=>K .normal st
 | .exit i,st=>if i=id then K .normal st else K (.exit i) st
 | .ret,st=>K .ret st
def Rn (r:Option St) (k:X→St→Prop):Prop :=
 match r with
 | some st=>k .normal st
 | none=>False
def Ro (anc:List (List Nat)) (r:Option (List Ent × St)) (k:X→St→Prop):Prop :=
 match r with
 | some (es,st)=>obB anc [] (GB es) 0=true∧k .normal st
 | none=>False
def HQ (v:SV) (a b:Unit→Prop):Prop :=
 match v with
 | .bool true=>a ()
 | .bool false=>b ()
 | _=>False
noncomputable def MA (ops:List SOper) (st:St):Option St:=PJ Tryz.prog calls ops st
noncomputable def MB (ops:List SOper) (acc:List Ent) (st:St):Option (List Ent × St):=Iy Tryz.prog calls ops acc st
section
variable {n0:Nat} {st:St} {K:X→St→Prop}
theorem go_skip:go n0 .skip st K=K .normal st:=by
 refine propext ⟨fun ⟨x,st',h,k⟩=>?_,fun k=>⟨_,_,rfl,k⟩⟩
 obtain ⟨rfl,rfl⟩:X.normal=x∧st=st':=by simpa [run,fr] using h
 exact k
theorem UT {i:Nat}:go n0 (.exit i) st K=K (.exit i) st:=by
 refine propext ⟨fun ⟨x,st',h,k⟩=>?_,fun k=>⟨_,_,rfl,k⟩⟩
 obtain ⟨rfl,rfl⟩:X.exit i=x∧st=st':=by simpa [run,fr] using h
 exact k
theorem go_ret:go n0 .ret st K=K .ret st:=by
 refine propext ⟨fun ⟨x,st',h,k⟩=>?_,fun k=>⟨_,_,rfl,k⟩⟩
 obtain ⟨rfl,rfl⟩:X.ret=x∧st=st':=by simpa [run,fr] using h
 exact k
theorem YK {ops:List SOper}:go n0 (.reg ops) st K=Rn (MA ops st) K:=by
 unfold Rn MA
 refine propext ⟨fun ⟨x,st',h,k⟩=>?_,fun k=>?_⟩
 ·simp only [run,fr] at h
  split at h
  ·rename_i s hs
   simp only [zC,zG] at h
   obtain ⟨rfl,rfl⟩:=h
   first | exact k | (simp only [hs]; exact k)
  ·cases h
 ·split at k
  ·rename_i s hs
   exact ⟨.normal,s,by simp only [run,fr,hs],k⟩
  ·exact k.elim
theorem UU {anc:List (List Nat)} {ops:List SOper}:go n0 (.dreg anc ops) st K=Ro anc (MB ops [] st) K:=by
 unfold Ro MB
 refine propext ⟨fun ⟨x,st',h,k⟩=>?_,fun k=>?_⟩
 ·simp only [run,fr] at h
  split at h
  ·rename_i es s hs
   obtain ⟨h1,h2⟩:=Ap h
   simp only [zC,zG] at h2
   obtain ⟨rfl,rfl⟩:=h2
   first | exact ⟨h1,k⟩ | (simp only [hs]; exact ⟨h1,k⟩)
  ·cases h
 ·split at k
  ·rename_i es s hs
   exact ⟨.normal,s,by simp only [run,fr,hs,k.1,cond_true],k.2⟩
  ·exact k.elim
theorem YL {a b:SC}:go n0 (.seq a b) st K=go n0 a st (Rm n0 b K):=by
 refine propext ⟨fun ⟨x,st',h,k⟩=>?_,fun ⟨x,st',h,k⟩=>?_⟩
 ·simp only [run,fr,C3] at h
  split at h
  ·rename_i s hs
   exact ⟨.normal,s,hs,x,st',h,k⟩
  ·rename_i i s hs
   simp only [zC,zG] at h
   obtain ⟨rfl,rfl⟩:=h
   exact ⟨_,_,hs,k⟩
  ·rename_i s hs
   simp only [zC,zG] at h
   obtain ⟨rfl,rfl⟩:=h
   exact ⟨_,_,hs,k⟩
  ·cases h
 ·simp only [run] at h
  cases x with
  | normal =>
   obtain ⟨x2,st2,h2,k2⟩:=k
   exact ⟨x2,st2,by simp only [run,fr,C3,h]; exact h2,k2⟩
  | exit i=>exact ⟨_,st',by simp only [run,fr,C3,h],k⟩
  | ret=>exact ⟨_,st',by simp only [run,fr,C3,h],k⟩
theorem Rp {id:Nat} {b:SC}:go n0 (.block id b) st K=go n0 b st (blk id K):=by
 refine propext ⟨fun ⟨x,st',h,k⟩=>?_,fun ⟨x,st',h,k⟩=>?_⟩
 ·simp only [run,fr,EV] at h
  split at h
  ·rename_i s hs
   simp only [zC,zG] at h
   obtain ⟨rfl,rfl⟩:=h
   exact ⟨.normal,s,hs,k⟩
  ·rename_i i s hs
   refine ⟨.exit i,s,hs,?_⟩
   simp only [blk]
   by_cases hi:i=id
   ·simp only [if_pos hi,zC,zG] at h ⊢
    obtain ⟨rfl,rfl⟩:=h
    exact k
   ·simp only [if_neg hi,zC,zG] at h ⊢
    obtain ⟨rfl,rfl⟩:=h
    exact k
  ·rename_i s hs
   simp only [zC,zG] at h
   obtain ⟨rfl,rfl⟩:=h
   exact ⟨_,s,hs,k⟩
  ·cases h
 ·simp only [run] at h
  cases x with
  | normal=>exact ⟨_,st',by simp only [run,fr,EV,h],k⟩
  | exit i =>
   simp only [blk] at k
   by_cases hi:i=id
   ·simp only [if_pos hi] at k
    exact ⟨.normal,st',by simp only [run,fr,EV,h,if_pos hi],k⟩
   ·simp only [if_neg hi] at k
    exact ⟨.exit i,st',by simp only [run,fr,EV,h,if_neg hi],k⟩
  | ret=>exact ⟨_,st',by simp only [run,fr,EV,h],k⟩
theorem Aa {q:SX} {a b:SC}:go n0 (.cond q a b) st K=HQ (A3 (gets st.sl) q) (fun _=>go n0 a st K) (fun _=>go n0 b st K):=by
 unfold HQ
 refine propext ⟨fun ⟨x,st',h,k⟩=>?_,fun k=>?_⟩
 ·simp only [run,fr] at h
  split at h
  ·rename_i t ht
   simp only [ht]
   cases t with
   | true=>exact ⟨x,st',h,k⟩
   | false=>exact ⟨x,st',h,k⟩
  ·cases h
 ·split at k
  ·rename_i ht
   obtain ⟨x,st',h,k⟩:=k
   exact ⟨x,st',by simp only [run,fr,ht,cond_true]; exact h,k⟩
  ·rename_i ht
   obtain ⟨x,st',h,k⟩:=k
   exact ⟨x,st',by simp only [run,fr,ht,cond_false]; exact h,k⟩
  ·exact k.elim
theorem UV {a b:Unit→Prop}:HQ (.bool true) a b=a ():=rfl
theorem UW {a b:Unit→Prop}:HQ (.bool false) a b=b ():=rfl
theorem UX {t:Bool} {a b:Unit→Prop}:HQ (.bool (!t)) a b=HQ (.bool t) b a:=by cases t <;> rfl
theorem Qc6 {q:SX} {a b:SC} (h:A3 (gets st.sl) q=.bool true) (k:go n0 a st K):go n0 (.cond q a b) st K:=by rw [Aa,h]; exact k
theorem Qc7 {q:SX} {a b:SC} (h:A3 (gets st.sl) q=.bool false) (k:go n0 b st K):go n0 (.cond q a b) st K:=by rw [Aa,h]; exact k
theorem Dw {t:Bool} {a b:Unit→Prop} (h1:t=true→a ()) (h2:t=false→b ()):HQ (.bool t) a b:=by
 cases t with
 | true=>exact h1 rfl
 | false=>exact h2 rfl
theorem YM {b:SC}:Rm n0 b K .normal st=go n0 b st K:=rfl
theorem YN {b:SC} {i:Nat}:Rm n0 b K (.exit i) st=K (.exit i) st:=rfl
theorem YO {b:SC}:Rm n0 b K .ret st=K .ret st:=rfl
theorem Qc8 {id:Nat}:blk id K .normal st=K .normal st:=rfl
theorem Qc9 {id i:Nat}:blk id K (.exit i) st=if i=id then K .normal st else K (.exit i) st:=rfl
theorem QcA {id:Nat}:blk id K .ret st=K .ret st:=rfl
theorem UY:Rn (some st) K=K .normal st:=rfl
def quiet:List Ent→Bool
 | []=>true
 | ⟨_,_,[],_⟩ :: r=>quiet r
 | ⟨_,_,_ :: _,_⟩ :: _=>false
theorem Hi {anc:List (List Nat)} {rd:List Nat} {j:Nat}:∀ {l:List Ent} {i:Nat},quiet l=true→SB anc rd [] j (GB l) i=true
 | [],i,_=>rfl
 | ⟨_,_,[],rdi⟩ :: r,i,h=>by
  have:=Hi (anc:=anc) (rd:=rd) (j:=j) (l:=r) (i:=i+1) h
  simp only [GB,zF,yX] at this ⊢
  simp only [SB,this,zO]
  have e1:meets [] (rd++[])=false:=rfl
  have e2:meets rdi []=false:=by cases rdi <;> simp [meets]
  rw [e1,e2]; rfl
theorem O7 {l l':List Ent} (h:quiet l=true) (h':quiet l'=true):quiet (l++l')=true:=by
 induction l with
 | nil=>exact h'
 | cons x r ih =>
  obtain ⟨a,b,c,d⟩:=x
  cases c with
  | nil=>exact ih h
  | cons _ _=>cases h
theorem IT {anc:List (List Nat)}:∀ {l pre:List Ent} {j:Nat},quiet pre=true→quiet l=true→obB anc (GB pre) (GB l) j=true
 | [],pre,j,_,_=>rfl
 | ⟨a,b,[],rd⟩ :: r,pre,j,hp,h=>by
  have e:=IT (anc:=anc) (l:=r) (pre:=pre++[⟨a,b,[],rd⟩]) (j:=j+1) (O7 hp rfl) h
  have e2:=Hi (anc:=anc) (rd:=rd) (j:=j) (i:=0) hp
  simp only [GB,yU,zF,yX] at e e2 ⊢
  simp only [obB,e2,e,zH]
theorem UZ {anc:List (List Nat)} {es:List Ent}:Ro anc (some (es,st)) K=match quiet es with
  | true=>K .normal st
  | false=>obB anc [] (GB es) 0=true∧K .normal st:=by
 show (obB anc [] (GB es) 0=true∧K .normal st)=_
 cases h:quiet es with
 | true=>exact propext ⟨fun h=>h.2,fun h'=>⟨IT (pre:=[]) rfl h,h'⟩⟩
 | false=>rfl
noncomputable def YP (r:List SOper) (e:Option (Ent × St)):Option St :=
 match e with
 | some (_,st)=>MA r st
 | none=>none
noncomputable def YQ (r:List SOper) (acc:List Ent) (e:Option (Ent × St)):Option (List Ent × St) :=
 match e with
 | some (x,st)=>MB r (acc++[x]) st
 | none=>none
noncomputable def opF (so:SOp) (sl:List SV) (ob:List Ob):Option R3:=fOp Tryz.prog calls so sl ob
theorem Rq:MA [] st=some st:=rfl
theorem O8 {d:Option Tmp} {so:SOp} {r:List SOper} {sl:List SV} {ob:List Ob}:MA (⟨d,none,so⟩ :: r) ⟨sl,ob⟩=YP r (GT d ⟨sl,ob⟩ (opF so sl ob)):=rfl
noncomputable def gdF (d:Option Tmp) (so:SOp) (want:Bool) (sl:List SV) (ob:List Ob) (v:SV):Option (Ent × St) :=
 match v with
 | .bool b=>bif SE b want then GT d ⟨sl,ob⟩ (opF so sl ob) else some (⟨false,.tup [],[],[]⟩,⟨EI sl d (.tup []),ob⟩)
 | .tup []=>some (⟨false,.tup [],[],[]⟩,⟨EI sl d (.tup []),ob⟩)
 | _=>none
theorem Va {d:Option Tmp} {k:Nat} {want:Bool} {so:SOp} {r:List SOper} {sl:List SV} {ob:List Ob}:MA (⟨d,some (k,want),so⟩ :: r) ⟨sl,ob⟩=YP r (gdF d so want sl ob (gets sl k)):=rfl
theorem Rr {acc:List Ent}:MB [] acc st=some (acc,st):=rfl
theorem O9 {d:Option Tmp} {so:SOp} {r:List SOper} {acc:List Ent} {sl:List SV} {ob:List Ob}:MB (⟨d,none,so⟩ :: r) acc ⟨sl,ob⟩=YQ r acc (GT d ⟨sl,ob⟩ (opF so sl ob)):=rfl
theorem Vb {d:Option Tmp} {k:Nat} {want:Bool} {so:SOp} {r:List SOper} {acc:List Ent} {sl:List SV} {ob:List Ob}:MB (⟨d,some (k,want),so⟩ :: r) acc ⟨sl,ob⟩=YQ r acc (gdF d so want sl ob (gets sl k)):=rfl
theorem YR {r:List SOper} {e:Ent}:YP r (some (e,st))=MA r st:=rfl
theorem YS {r:List SOper} {acc:List Ent} {e:Ent}:YQ r acc (some (e,st))=MB r (acc++[e]) st:=rfl
theorem QcB {d:Option Tmp} {so:SOp} {sl:List SV} {ob:List Ob}:gdF d so true sl ob (.bool true)=GT d ⟨sl,ob⟩ (opF so sl ob):=rfl
theorem YT {d:Option Tmp} {so:SOp} {sl:List SV} {ob:List Ob}:gdF d so false sl ob (.bool false)=GT d ⟨sl,ob⟩ (opF so sl ob):=rfl
theorem YU {d:Option Tmp} {so:SOp} {sl:List SV} {ob:List Ob}:gdF d so true sl ob (.bool false)=some (⟨false,.tup [],[],[]⟩,⟨EI sl d (.tup []),ob⟩):=rfl
theorem YV {d:Option Tmp} {so:SOp} {sl:List SV} {ob:List Ob}:gdF d so false sl ob (.bool true)=some (⟨false,.tup [],[],[]⟩,⟨EI sl d (.tup []),ob⟩):=rfl
theorem QcC {d:Option Tmp} {so:SOp} {want:Bool} {sl:List SV} {ob:List Ob}:gdF d so want sl ob (.tup [])=some (⟨false,.tup [],[],[]⟩,⟨EI sl d (.tup []),ob⟩):=rfl
theorem YW {d:Option Tmp} {x:SV} {rd:List Nat}:GT d st (some (x,[],rd))=some (⟨true,x,[],rd⟩,⟨EI st.sl d x,st.ob⟩):=rfl
theorem YX {d:Option Tmp} {x:SV} {q:Nat × Ob} {u:List (Nat × Ob)} {rd:List Nat}:GT d st (some (x,q :: u,rd))=bif Wy (Ds st.ob (q :: u)).length (q :: u) then some (⟨true,x,q :: u,rd⟩,⟨EI st.sl d x,Ds st.ob (q :: u)⟩) else none:=rfl
def KE (ob:List Ob) (xs:List SV) (sel:List Nat) (r:Option (SV × List Ob)) (n:Nat):Option R3 :=
 match r with
 | some (r,fob')=>bif decide (n≤fob'.length) then some (Ei sel (Bi sel xs) ob.length r fob') else none
 | none=>none
def YY (hd:List Bool) (f:FuncId) (xs:List SV) (ob:List Ob) (sel:List Nat) (e:List SV→List Ob→Option (SV × List Ob)) (b:Option (List Ob)):Option R3 :=
 match b with
 | some fob=>bif nodupB sel&&Iz ob.length sel&&FK fob.length fob then KE ob xs sel (e (Fv hd (Ao ob) sel xs) fob) fob.length else none
 | none=>none
def Rs (hd:List Bool) (f:FuncId) (xs:List SV) (ob:List Ob) (sel:List Nat) (e:List SV→List Ob→Option (SV × List Ob)):Option R3:=YY hd f xs ob sel e (E8 sel ob sel)
theorem Rt {f:FuncId} {xs:List SV} {ob:List Ob}:calls f xs ob=Ey (modes f).res (Rs (modes f).hand f xs ob (reach ob 64 (FY (modes f).hand xs) []) (E f)):=rfl
theorem YZ {r:Option R3}:Ey .asis r=r:=rfl
theorem Za {r:Option R3}:Ey .frz r=r:=rfl
theorem Zb {l:List (Option (Nat × Nat))} {r:Option R3}:Ey (.own l) r=r:=rfl
theorem Zc {l:List (Option (Nat × Nat))} {r:Option R3}:Ey (.tr l) r=r:=rfl
theorem Zd {l:List Nat} {r:Option R3}:Ey (.frl l) r=r:=rfl
theorem Ze {r:R3}:Ey .late (some r)=QK r:=rfl
theorem EM:∀ u:List (Nat × Ob),CT [] u=u
 | []=>rfl
 | (g,o) :: u=>by rw [CT,EM u]; rfl
theorem Zf {m:RM} {b:Bool} {u:List (Nat × Ob)} {rd:List Nat}:Ey m (some (.bool b,u,rd))=some (.bool b,u,rd):=by
 cases m <;> first | rfl | (show some (SV.bool b,CT [] u,rd)=_; rw [EM])
theorem Zg {m:RM} {k:IntKind} {n:Int} {u:List (Nat × Ob)} {rd:List Nat}:Ey m (some (.int k n,u,rd))=some (.int k n,u,rd):=by
 cases m <;> first | rfl | (show some (SV.int k n,CT [] u,rd)=_; rw [EM])
theorem OA {hd:List Bool} {f:FuncId} {xs:List SV} {ob:List Ob} {e:List SV→List Ob→Option (SV × List Ob)}:Rs hd f xs ob [] e=KE ob xs [] (e (Fv hd (Ao ob) [] xs) []) 0:=rfl
theorem MC {hd:List Bool} {f:FuncId} {xs:List SV} {ob:List Ob} {g:Nat} {r:List Nat} {e:List SV→List Ob→Option (SV × List Ob)}:Rs hd f xs ob (g :: r) e=YY hd f xs ob (g :: r) e (E8 (g :: r) ob (g :: r)):=rfl
theorem Vd {ob:List Ob} {xs:List SV} {r:SV} {fob':List Ob}:KE ob xs [] (some (r,fob')) 0=some (Ei [] (Bi [] xs) ob.length r fob'):=rfl
theorem Ve {ob:List Ob} {xs:List SV} {sel:List Nat} {r:SV} {fob':List Ob} {n:Nat}:KE ob xs sel (some (r,fob')) n=bif decide (n≤fob'.length) then some (Ei sel (Bi sel xs) ob.length r fob') else none:=rfl
theorem Zh {hd:List Bool} {f:FuncId} {xs:List SV} {ob:List Ob} {sel:List Nat} {fob:List Ob} {e:List SV→List Ob→Option (SV × List Ob)}:YY hd f xs ob sel e (some fob)=bif nodupB sel&&Iz ob.length sel&&FK fob.length fob then KE ob xs sel (e (Fv hd (Ao ob) sel xs) fob) fob.length else none:=rfl
theorem OB {p:Nat} {r:SV}:Ei [] [] p r []=(r.ren (sgp [] p),[],[]):=rfl
def DS {α:Type} (n0:Nat) (keep:List Nat) (H:α→St) (R:α→Prop) (μ:α→Nat) (a:α) (K:X→St→Prop):X→St→Prop
 | .normal,st'=>∃ y,R y∧μ y < μ a∧canon n0 keep st'=H y
 | .exit i,st'=>K (.exit i) st'
 | .ret,st'=>K .ret st'
theorem Ru {α:Type} {keep:List Nat} {H:α→St} {R:α→Prop} {μ:α→Nat} {a:α} {st':St}:DS n0 keep H R μ a K .normal st'=∃ y,R y∧μ y < μ a∧canon n0 keep st'=H y:=rfl
theorem Rv {α:Type} {keep:List Nat} {H:α→St} {R:α→Prop} {μ:α→Nat} {a:α} {i:Nat} {st':St}:DS n0 keep H R μ a K (.exit i) st'=K (.exit i) st':=rfl
theorem Rw {α:Type} {keep:List Nat} {H:α→St} {R:α→Prop} {μ:α→Nat} {a:α} {st':St}:DS n0 keep H R μ a K .ret st'=K .ret st':=rfl
theorem go_loop {α:Type} {keep:List Nat} {b:SC} (H:α→St) (R:α→Prop) (μ:α→Nat) (a0:α) (hR:R a0) (h0:canon n0 keep st=H a0) (round:∀ a,R a→go n0 b (H a) (DS n0 keep H R μ a K)):go n0 (.loop keep b) st K:=by
 have key:∀ (n:Nat) (a:α) (st:St),μ a≤n→R a→canon n0 keep st=H a→∃ x st',QV n0 keep (run n0 b) st=some (x,st')∧K x st':=by
  intro n
  induction n with
  | zero =>
   intro a st hn hR hc
   obtain ⟨x,st',h,k⟩:=round a hR
   cases x with
   | normal =>
    obtain ⟨y,_,h2,_⟩:=k
    omega
   | exit i=>exact ⟨_,st',by rw [Ez,hc,h]; rfl,k⟩
   | ret=>exact ⟨_,st',by rw [Ez,hc,h]; rfl,k⟩
  | succ n ih =>
   intro a st hn hR hc
   obtain ⟨x,st',h,k⟩:=round a hR
   cases x with
   | normal =>
    obtain ⟨y,h1,h2,h3⟩:=k
    obtain ⟨x2,st2,h4,k2⟩:=ih y st' (by omega) h1 h3
    exact ⟨x2,st2,by rw [Ez,hc,h]; exact h4,k2⟩
   | exit i=>exact ⟨_,st',by rw [Ez,hc,h]; rfl,k⟩
   | ret=>exact ⟨_,st',by rw [Ez,hc,h]; rfl,k⟩
 exact key (μ a0) a0 st (zQ _) hR h0
def J6 (n0:Nat) (keep keepO:List Nat) (H:EL→St) (F:X × St) (p:EL):X→St→Prop
 | .normal,st'=>canon n0 keep st'=H p
 | .exit i,st'=>F=(.exit i,canon n0 keepO st')
 | .ret,st'=>F=(.ret,canon n0 keepO st')
def WM (n0:Nat) (keepO:List Nat) (F:X × St):X→St→Prop
 | .normal,_=>False
 | .exit i,st'=>F=(.exit i,canon n0 keepO st')
 | .ret,st'=>F=(.ret,canon n0 keepO st')
theorem OC {keep keepO:List Nat} {H:EL→St} {F:X × St} {p:EL} {st':St}:J6 n0 keep keepO H F p .normal st'=(canon n0 keep st'=H p):=rfl
theorem OD {keep keepO:List Nat} {H:EL→St} {F:X × St} {p:EL} {i:Nat} {st':St}:J6 n0 keep keepO H F p (.exit i) st'=(F=(.exit i,canon n0 keepO st')):=rfl
theorem OE {keep keepO:List Nat} {H:EL→St} {F:X × St} {p:EL} {st':St}:J6 n0 keep keepO H F p .ret st'=(F=(.ret,canon n0 keepO st')):=rfl
theorem Vf {keepO:List Nat} {F:X × St} {i:Nat} {st':St}:WM n0 keepO F (.exit i) st'=(F=(.exit i,canon n0 keepO st')):=rfl
theorem Vg {keepO:List Nat} {F:X × St} {st':St}:WM n0 keepO F .ret st'=(F=(.ret,canon n0 keepO st')):=rfl
end
def slots:Nat→Nat→List (Nat × SV)→List SV
 | 0,_,_=>[]
 | n+1,k,[]=>.any :: slots n (k+1) []
 | n+1,k,(j,x) :: r=>bif j == k then x :: slots n (k+1) r else .any :: slots n (k+1) ((j,x) :: r)
def SM (res:RM) (n0:Nat) (rs:List RX) (out:SV × List Ob) (x:X) (st:St):Prop:=fin res n0 rs x st=some out
def Zi (res:RM) (n0:Nat) (r:Option (SV × List Ob)):Option (SV × List Ob) :=
 match r with
 | some (r,ob)=>order res n0 r ob
 | none=>none
def Nv (res:RM) (n0:Nat) (ob:List Ob) (r:Option SV):Option (SV × List Ob) :=
 match r with
 | some r0=>Zi res n0 (gc n0 r0 ob)
 | none=>none
theorem Zj {res:RM} {n0:Nat} {rs:List RX} {out:SV × List Ob} {sl:List SV} {ob:List Ob}:SM res n0 rs out .ret ⟨sl,ob⟩=(Nv res n0 ob (Oq ⟨sl,ob⟩ rs)=some out):=rfl
theorem Zk {res:RM} {n0:Nat} {rs:List RX} {out:SV × List Ob} {sl:List SV} {ob:List Ob}:SM res n0 rs out .normal ⟨sl,ob⟩=(Nv res n0 ob (Oq ⟨sl,ob⟩ rs)=some out):=rfl
theorem Vh {res:RM} {n0:Nat} {ob:List Ob} {r:SV}:Nv res n0 ob (some r)=Zi res n0 (gc n0 r ob):=rfl
theorem Zl {n0:Nat} {r:SV} {ob:List Ob} {res:RM}:Zi res n0 (some (r,ob))=order res n0 r ob:=rfl
theorem Af {f:FuncId} {fc:FC} {hand:List Bool} {res:RM} {tr:Bool} {xs:List SV} {ob:List Ob} {out:SV × List Ob} (hc:codeOf Tryz.prog f=some fc) (hr:modes f=⟨hand,res,none,tr⟩) (hn:xs.length≤fc.nt) (h:go ob.length (HM res fc.sc) ⟨xs++LP (fc.nt-xs.length),entry tr ob⟩ (SM res ob.length fc.rs out)):E f xs ob=some out:=by
 obtain ⟨x,st',h1,h2⟩:=h
 unfold E
 rw [Qcv]
 unfold GX
 rw [hc,hr]
 simp only
 rw [decide_eq_true hn,cond_true]
 have h1:fr Tryz.prog (CY modes (ev Tryz.prog modes)) (J1 ob.length) (HM res fc.sc) ⟨xs++LP (fc.nt-xs.length),entry tr ob⟩=some (x,st'):=h1
 rw [h1]
 exact h2
theorem J7 {f:FuncId} {g:List SV→List Ob→Option (SV × List Ob)} {xs:List SV} {ob:List Ob} (hg:(modes f).ext=some g):E f xs ob=g xs ob:=by
 unfold E
 rw [Qcv]
 unfold GX
 rw [hg]
theorem TW {f:FuncId} {g:List SV→Option SV} {xs:List SV} {r:SV} (hg:(modes f).ext=some (LQ g)) (h:g xs=some r):E f xs []=some (r,[]):=by
 rw [J7 hg]
 simp only [LQ,h]
theorem CI:modes 61=⟨[],.asis,some (LQ TV),false⟩:=by unfold modes; rfl
theorem J8 {k:Int} (h1:1≤k) (h2:k≤1099511627776):E 61 [.int .i64 k] []=some (.str (HO k),[]):=by
 refine TW (g:=TV) (by unfold modes; rfl) ?_
 simp only [TV,As h1,As h2,zH,cond_true]
theorem Bn:modes 162=⟨[],.asis,some (LQ Qc2),false⟩:=by unfold modes; rfl
theorem Ej (s:ByteArray):E 162 [.str s] []=some (.bool (Aq s),[]):=TW (g:=Qc2) (congrArg FM.ext Bn) rfl
theorem Ah:modes 77=⟨[],.asis,some (LQ Qc3),false⟩:=by unfold modes; rfl
theorem Am (s:ByteArray):E 77 [.str s] []=some (.bool (Aq s),[]):=TW (g:=Qc3) (congrArg FM.ext Ah) rfl
theorem Bw:modes 153=⟨[],.asis,some (LQ Qc4),false⟩:=by unfold modes; rfl
theorem Rx (s:ByteArray):E 153 [.str s] []=some (.bool (ET s),[]):=TW (g:=Qc4) (congrArg FM.ext Bw) rfl
theorem Bx:modes 105=⟨[],.asis,some (LQ Qc5),false⟩:=by unfold modes; rfl
theorem Ry (s:ByteArray):E 105 [.str s] []=some (.bool (ET s),[]):=TW (g:=Qc5) (congrArg FM.ext Bx) rfl
theorem Qao {n:Int} (h1:-9223372036854775808≤n) (h2:n≤9223372036854775807):dec (inK .i64 n)=true:=As (QdX.2 ⟨h1,h2⟩)
theorem get_at {α β:Type} (f:α→β) {xs:List α} {k:Nat} (h:k<xs.length):(xs.map f)[k]?=some (f xs[k]):=by rw [List.getElem?_map,zA h]; rfl
theorem BJ (left:Int) (n:Nat):((n:Int)≤left∧szR left n=left-n)∨(left<n∧szR left n=-1):=by
 unfold szR; split <;> omega
mutual
def D.fit:D→Prop
 | .int _=>True
 | .bool _=>True
 | .str s=>s.size≤9223372036854775807
 | .arr es=>es.length≤9223372036854775807∧D.WN es
def D.fits:List D→Prop
 | []=>True
 | x :: r=>D.fit x∧D.fits r
def D.WN:List (List D)→Prop
 | []=>True
 | x :: r=>D.fits x∧D.WN r
end
theorem D.Qap:∀ {l:List D},(∀ (j:Nat) (h:j<l.length),D.fit l[j])→D.fits l
 | [],_=>trivial
 | x :: r,h=>⟨h 0 (by simp),D.Qap fun j hj=>h (j+1) (by simpa using hj)⟩
theorem D.WO:∀ {es:List (List D)},(∀ (i:Nat) (h:i<es.length),D.fits es[i])→D.WN es
 | [],_=>trivial
 | x :: r,h=>⟨h 0 (by simp),D.WO fun j hj=>h (j+1) (by simpa using hj)⟩
theorem D.OF {α:Type} {f:α→List D}:∀ {xs:List α},D.WN (xs.map f)→∀ x∈xs,D.fits (f x)
 | [],_,x,h=>by cases h
 | y :: r,h,x,hx=>by
  simp only [zF,D.WN] at h
  rcases zL.1 hx with rfl | hx
  ·exact h.1
  ·exact D.OF h.2 x hx
theorem DRep.fit {own:Bool} {w:World} {S:Nat→Prop} {d:D} {v:Value} (h:DRep own w S d v):D.fit d:=by
 induction h with
 | int=>trivial
 | bool=>trivial
 | str S s h=>exact h
 | arr S sz es a cap f Sub h1 h2 h3 h4 h5 h6 h7 ih=>exact ⟨Nat.le_trans h1 h2,D.WO fun i hi=>D.Qap fun j hj=>ih i j hi hj⟩
theorem QcD:dec True=true:=As trivial
theorem QcE:dec False=false:=Az fun h=>h
attribute [go_sem] Fv T8 SV.isNil Ob.idsB SV.idsB SV.Ng List.getElem?_cons_zero List.getElem?_cons_succ OT.AM OT.Dr OT.full entry toTree W7 TF W6 Gr GI EU ZT Qy Yv OT.erss OT.ers OT.er OT.Cx OT.ER OT.noSh quiet obB SB GB meets Jt go_skip UT go_ret YK UU YL Rp UV UW UX YM YN YO Qc8 Qc9 QcA UY UZ Rq O8 Va Rr O9 Vb YR YS QcB YT YU YV QcC YW YX Rt YZ Za Zb Zc Zd Ze Zf Zg QK TC CT seen OA MC Vd Ve Zh OB Ei Ru Rv Rw Zj Zk Vh Zl order opF fOp F0 Wu Qcl Ws Wt ZS Jy eqK A3 gets Ao Q9 EI Ds M1 PI AO Wy SV.cellsN SV.one Kt splice Er U7 Ks LW DP BB Ch B5 Ku Kv VX eOp.mkEs eOp.addS D.sv OT.sv D.ot Ix nodupB reach SV.refs SV.QI SV.ptrs SV.QJ Ob.refs Ob.liveB FY E8 SV.back SV.Ni Ob.back Iw IN CG Bi Bt Iz FK SV.ren SV.M3 Ob.ren mkU sgp gc Nj names M7 ZX ZY ZZ Ov Qba Qab Qac Qad Qae Qaf Qag SC.mark QP FZ slots Oq Wo rxV LP TB SV.noSh SV.Nf Ob.noSh SV.own SV.SF Gq cond_true cond_false yP List.length_nil zF yX yW zR y7 yV y5 List.take_nil List.append_nil List.nil_append List.cons_append List.all_cons List.all_nil List.getD_cons_zero List.getD_cons_succ y8 List.any_nil List.contains_cons List.contains_nil List.isEmpty_nil List.isEmpty_cons List.flatten_cons List.flatten_nil List.replicate_succ List.replicate_zero List.set_cons_zero List.set_cons_succ yI y2 zQ zU zO yQ zH Bool.or_false Bool.false_or Bool.true_or Bool.or_true y9 y6 z7 yY decide_true decide_false beq_self_eq_true if_true if_false y4 Option.map_none zC yN Option.getD_none Int.toNat_natCast true_and and_true and_self eq_self_iff_true zE yB Bool.true_eq_false zG SV.int.injEq SV.bool.injEq SV.str.injEq SV.agg.injEq SV.tup.injEq SV.arr.injEq yD St.mk.injEq Int.zero_add QcD QcE Qao As Az QeS svK svD QaO svM MV.sv VW Ww QH Wx GR St.app UG MK.sv OC OD OE Vf Vg
attribute [go_sem_proc] Nat.reduceAdd Nat.reduceSub Nat.reduceLT Nat.reduceLeDiff Nat.reduceEqDiff Nat.reduceBEq Nat.reduceBneDiff Nat.reduceMul Int.reduceToNat Int.reduceNeg Int.reduceAdd reduceCtorEq
attribute [go_sem_proc ↓] reduceIte
theorem Qaq:∀ xs:List ByteArray,OT.AM (xs.map fun s=>[OT.str s])=true
 | []=>rfl
 | x :: xs=>by simp only [zF,OT.AM,OT.Dr,OT.full,Qaq xs,zH]
theorem Qar:∀ xs:List Int,OT.AM (xs.map fun n=>[OT.int n])=true
 | []=>rfl
 | x :: xs=>by simp only [zF,OT.AM,OT.Dr,OT.full,Qar xs,zH]
theorem Tm.QcF:∀ xs:List Tm,(∀ x∈xs,OT.Dr (Tm.o x)=true)→OT.AM (xs.map Tm.o)=true
 | [],_=>rfl
 | x :: xs,h=>by
  simp only [zF,OT.AM]
  rw [h x (by simp),Tm.QcF xs fun y hy=>h y (by simp [hy])]; rfl
theorem Tm.fu (x:Tm):OT.Dr (Tm.o x)=true:=by
 have h:=Tm.QcF x.args fun y hy=>Tm.fu y
 rw [Tm.o_eq]
 simp only [OT.Dr,OT.full,h,zH,zO]
termination_by SizeOf.sizeOf x
decreasing_by exact Tm.Aw hy
theorem Tm.fus (xs:List Tm):OT.AM (xs.map Tm.o)=true:=Tm.QcF xs fun x _=>Tm.fu x
theorem Lt.fu (x:Lt):OT.Dr (Lt.o x)=true:=by
 simp only [Lt.o,OT.Dr,OT.full,Tm.fus,zH,zO]
theorem Lt.fus:∀ xs:List Lt,OT.AM (xs.map Lt.o)=true
 | []=>rfl
 | x :: xs=>by simp only [zF,OT.AM,Lt.fu,Lt.fus xs,zH]
theorem Cl.fu (x:Cl):OT.Dr (Cl.o x)=true:=by
 simp only [Cl.o,OT.Dr,OT.full,Lt.fus,zH,zO]
theorem Cl.fus:∀ xs:List Cl,OT.AM (xs.map Cl.o)=true
 | []=>rfl
 | x :: xs=>by simp only [zF,OT.AM,Cl.fu,Cl.fus xs,zH]
theorem Bd.fu (x:Bd):OT.Dr (Bd.o x)=true:=by
 simp only [Bd.o,OT.Dr,OT.full,Tm.fus,zH,zO]
theorem Bd.fus:∀ xs:List Bd,OT.AM (xs.map Bd.o)=true
 | []=>rfl
 | x :: xs=>by simp only [zF,OT.AM,Bd.fu,Bd.fus xs,zH]
theorem Sb.fu (x:Sb):OT.Dr (Sb.o x)=true:=by
 simp only [Sb.o,OT.Dr,OT.full,Bd.fus,zH,zO]
theorem Sb.fus:∀ xs:List Sb,OT.AM (xs.map Sb.o)=true
 | []=>rfl
 | x :: xs=>by simp only [zF,OT.AM,Sb.fu,Sb.fus xs,zH]
attribute [go_sem] Qaq Qar Qeb Qec Qed Qee Tm.fus Tm.erss Tm.noss Lt.fus Lt.erss Lt.noss Cl.fus Cl.erss Cl.noss Bd.fus Bd.erss Bd.noss Sb.fus Sb.erss Sb.noss
theorem KF {α β:Type} (f:α→β) (dn rest:List α) (x y:α) {k:Nat} (h:dn.length=k):((dn++x :: rest).map f).set k (f y)=((dn++[y])++rest).map f:=by
 subst h
 rw [yU,List.set_append_right _ _ (by simp)]
 simp
theorem Di {α:Type} (a:α):dec (a=a)=true:=As rfl
def Ga {α β:Type} (f:α→β) (z:β) (xs:List α) (k:Nat):List β:=(xs.take k).map f++List.replicate (xs.length-k) z
section
variable {α β:Type} (f:α→β) (z:β) {xs:List α} {k:Nat}
theorem J9:Ga f z xs 0=List.replicate xs.length z:=by simp [Ga]
theorem LE:(Ga f z xs k).length=xs.length:=by simp [Ga]; omega
theorem LF:Ga f z xs xs.length=xs.map f:=by simp [Ga]
theorem LG (h:k<xs.length):(Ga f z xs k)[k]?=some z:=by
 have hl:((xs.take k).map f).length=k:=by simp; omega
 unfold Ga
 rw [List.getElem?_append_right (by omega),hl,Nat.sub_self,List.getElem?_replicate]
 simp; omega
theorem LH (h:k<xs.length):(Ga f z xs k).set k (f xs[k])=Ga f z xs (k+1):=by
 have hl:((xs.take k).map f).length=k:=by simp; omega
 have e:List.take (k+1) xs=List.take k xs++[xs[k]]:=List.take_succ_eq_append_getElem h
 unfold Ga
 rw [List.set_append_right _ _ (by omega),hl,Nat.sub_self,e,yU,List.append_assoc]
 congr 1
 rw [show xs.length-k=(xs.length-(k+1))+1 by omega,List.replicate_succ,List.set_cons_zero]
 rfl
end
theorem Qek (a b:Int):(bif dec (a<b) then b else a)=max a b:=by
 by_cases h:a<b
 ·rw [As h,cond_true,Int.max_eq_right (by omega)]
 ·rw [Az h,cond_false,Int.max_eq_left (by omega)]
def Ek {α:Type} (p:α→Bool):List α→Int→Int
 | [],_=>-1
 | x :: xs,i=>if p x then i else Ek p xs (i+1)
theorem Nw {α:Type} (p:α→Bool):∀ (xs:List α),dec (0≤Ek p xs 0)=xs.any p:=by
 have key:∀ (xs:List α) (i:Int),0≤i→(0≤Ek p xs i ↔ xs.any p=true):=by
  intro xs
  induction xs with
  | nil=>intro i h; simp [Ek]
  | cons x xs ih =>
   intro i h
   simp only [Ek,y8,yT]
   by_cases hp:p x=true
   ·simp [hp,h]
   ·rw [if_neg hp,ih (i+1) (by omega)]; simp [hp]
 intro xs
 cases h:xs.any p with
 | true=>exact As ((key xs 0 (by omega)).2 h)
 | false=>exact Az fun h'=>by rw [(key xs 0 (by omega)).1 h'] at h; cases h
theorem EY {p q:Prop} (h:p ↔ q):dec p=dec q:=by rw [propext h]
mutual
def Tm.nodes:Tm→Nat
 | .mk _ args=>1+Tm.Bb args
def Tm.Bb:List Tm→Nat
 | []=>0
 | x :: xs=>Tm.nodes x+Tm.Bb xs
end
theorem Tm.An (x:Tm):x.nodes=1+Tm.Bb x.args:=by
 obtain ⟨name,args⟩:=x
 rw [Tm.nodes]; rfl
theorem Tm.LI (x:Tm):1≤x.nodes:=by rw [Tm.An]; omega
theorem Tm.Gb:∀ (xs:List Tm) (k:Nat) (h:k<xs.length),xs[k].nodes≤Tm.Bb xs
 | [],k,h=>absurd h (by simp)
 | x :: xs,0,_=>by rw [Tm.Bb]; simp
 | x :: xs,k+1,h=>by
  have:=Tm.Gb xs k (by simpa using h)
  rw [Tm.Bb]; simp only [yL]; omega
mutual
def Tm.deep:Tm→Nat
 | .mk _ args=>Tm.Es args+1
def Tm.Es:List Tm→Nat
 | []=>0
 | x :: xs=>max (Tm.deep x) (Tm.Es xs)
end
theorem Tm.LJ (x:Tm):x.deep=Tm.Es x.args+1:=by
 obtain ⟨name,args⟩:=x
 rw [Tm.deep]; rfl
theorem Tm.KG:∀ xs:List Tm,(∀ y∈xs,y.deep≤y.nodes)→Tm.Es xs≤Tm.Bb xs
 | [],_=>by simp [Tm.Es]
 | x :: xs,h=>by
  have h1:=h x (by simp)
  have h2:=Tm.KG xs fun y hy=>h y (by simp [hy])
  rw [Tm.Es,Tm.Bb]; omega
theorem Tm.I3 (x:Tm):x.deep≤x.nodes:=by
 rw [Tm.LJ,Tm.An]
 have:=Tm.KG x.args fun y hy=>Tm.I3 y
 omega
termination_by SizeOf.sizeOf x
decreasing_by exact Tm.Aw hy
mutual
def Tm.names:Tm→Bool
 | .mk name args=>if Aq name then args.length == 0 else ET name&&decide (args.length≤4)&&Tm.DT args
def Tm.DT:List Tm→Bool
 | []=>true
 | x :: xs=>Tm.names x&&Tm.DT xs
end
theorem Tm.E0 (x:Tm):x.names=if Aq x.name then x.args.length == 0 else ET x.name&&decide (x.args.length≤4)&&Tm.DT x.args:=by
 obtain ⟨name,args⟩:=x
 rw [Tm.names]; rfl
theorem Tm.Dj:∀ xs:List Tm,Tm.DT xs=xs.all Tm.names
 | []=>rfl
 | x :: xs=>by rw [Tm.DT,Tm.Dj xs]; rfl
theorem Tm.length_le:∀ xs:List Tm,xs.length≤Tm.Bb xs
 | []=>zQ _
 | x :: xs=>by
  have:=Tm.length_le xs
  have:=Tm.LI x
  rw [Tm.Bb]; simp only [yP]; omega
theorem Tm.AU {xs:List Tm} {y:Tm} (h:y∈xs):y.nodes≤Tm.Bb xs:=by
 obtain ⟨k,hk,rfl⟩:=List.getElem_of_mem h
 exact Tm.Gb xs k hk
def Tm.small (x:Tm):Bool:=decide (x.nodes≤30)&&decide (x.deep≤8)
def Tm.valid (x:Tm):Bool:=x.small&&x.names
noncomputable def Tm.eqn (x:Tm):Bool:=dec (x.name=⟨#[61]⟩)
noncomputable def Tm.atom (x:Tm):Bool:=if x.eqn then x.args.length == 2&&x.small&&Tm.DT x.args else ET x.name&&x.valid
theorem TX {xs:List Tm} (h:xs.length=2):Tm.DT xs=((xs[0]'(by omega)).names&&(xs[1]'(by omega)).names):=by
 match xs,h with
 | [a,b],_=>simp [Tm.DT]
mutual
def Tm.cap:Tm→Int
 | .mk _ xs=>Tm.OG xs 1
def Tm.OG:List Tm→Int→Int
 | [],n=>n
 | x :: xs,n=>if 30 < n then n else Tm.OG xs (n+Tm.cap x)
end
theorem Tm.QcG (x:Tm):x.cap=Tm.OG x.args 1:=by
 obtain ⟨n,xs⟩:=x
 rw [Tm.cap]; rfl
theorem Tm.TY:∀ (xs:List Tm) (n:Int),(∀ x∈xs,1≤x.cap∧x.cap≤x.nodes∧(x.cap≤30→x.cap=x.nodes))→1≤n→n≤Tm.OG xs n∧Tm.OG xs n≤n+Tm.Bb xs∧(Tm.OG xs n≤30→Tm.OG xs n=n+Tm.Bb xs)
 | [],n,_,h=>by simp [Tm.OG,Tm.Bb]
 | x :: xs,n,hx,h=>by
  rw [Tm.OG,Tm.Bb]
  have h1:=hx x (by simp)
  split
  ·omega
  ·have:=Tm.TY xs (n+x.cap) (fun y hy=>hx y (by simp [hy])) (by omega)
   omega
theorem Tm.Nx (x:Tm):1≤x.cap∧x.cap≤x.nodes∧(x.cap≤30→x.cap=x.nodes):=by
 rw [Tm.QcG,Tm.An]
 have:=Tm.TY x.args 1 (fun y hy=>Tm.Nx y) (by omega)
 omega
termination_by SizeOf.sizeOf x
decreasing_by exact Tm.Aw hy
mutual
def Tm.many:Tm→Int→Int
 | .mk _ xs,m=>Tm.IU xs m 1
def Tm.IU:List Tm→Int→Int→Int
 | [],_,n=>n
 | x :: xs,m,n=>if n≤m then Tm.IU xs m (n+Tm.many x (m-n)) else n
end
theorem Tm.Qas (x:Tm) (m:Int):x.many m=Tm.IU x.args m 1:=by
 obtain ⟨n,xs⟩:=x
 rw [Tm.many]; rfl
theorem Tm.Rz (m:Int):∀ (xs:List Tm) (n:Int),(∀ x∈xs,∀ m,0≤m→1≤x.many m∧x.many m≤x.nodes∧(x.many m≤m→x.many m=x.nodes))→1≤n→n≤Tm.IU xs m n∧Tm.IU xs m n≤n+Tm.Bb xs∧(Tm.IU xs m n≤m→Tm.IU xs m n=n+Tm.Bb xs)
 | [],n,_,h=>by simp [Tm.IU,Tm.Bb]
 | x :: xs,n,hx,h=>by
  rw [Tm.IU,Tm.Bb]
  split
  ·have h1:=hx x (by simp) (m-n) (by omega)
   have:=Tm.Rz m xs (n+x.many (m-n)) (fun y hy=>hx y (by simp [hy])) (by omega)
   omega
  ·omega
theorem Tm.LK (x:Tm) (m:Int):1≤x.many m∧x.many m≤x.nodes∧(x.many m≤m→x.many m=x.nodes):=by
 rw [Tm.Qas,Tm.An]
 have:=Tm.Rz m x.args 1 (fun y hy m _=>Tm.LK y m) (by omega)
 omega
termination_by SizeOf.sizeOf x
decreasing_by exact Tm.Aw hy
def P3:SC:=(.seq (.reg [⟨some 1,none,.boxv 71 2 (.t 0)⟩,⟨some 2,none,.mv (.c (.int .i64 0))⟩]) (.seq (.reg [⟨some 3,none,.mv (.c (.int .i64 1))⟩]) (.seq (.seq (.reg [⟨some 6,none,.faddr 1 (.t 1)⟩,⟨some 7,none,.load false 1 (.t 6)⟩,⟨some 8,none,.len false (.t 7)⟩,⟨some 9,none,.mv (.c (.int .i64 0))⟩]) (.block 0 (.loop [0,0,0,1,0,0,0,1,1,1,0,0,0,0,0,0,0,0,0,0,0,0] (.seq (.reg [⟨some 10,none,.bin .lss false (.t 9) (.t 8)⟩]) (.seq (.cond (.t 10) .skip (.exit 0)) (.seq (.block 1 (.seq (.reg [⟨some 11,none,.iaddr 2 (.t 7) (.t 9)⟩,⟨some 12,none,.load true 2 (.t 11)⟩,⟨(some 5),none,(.alloc 71 [(.str ⟨#[]⟩),.nil])⟩,⟨none,none,(.store 2 (.t 5) (.t 12))⟩]) (.seq (.seq (.reg [⟨some 13,none,.mv (.t 3)⟩,⟨some 14,none,.bin .gtr false (.t 13) (.c (.int .i64 30))⟩]) (.cond (.t 14) (.seq (.reg [⟨some 15,none,.mv (.t 3)⟩,⟨some 2,none,.mv (.t 15)⟩]) .ret) .skip)) (.reg [⟨some 16,none,.mv (.t 3)⟩,⟨some 17,none,.load true 2 (.t 5)⟩,⟨some 18,none,.call 159 [(.t 17)]⟩,⟨some 19,none,.bin .add false (.t 16) (.t 18)⟩,⟨some 3,none,.mv (.t 19)⟩])))) (.reg [⟨some 20,none,.bin .add false (.t 9) (.c (.int .i64 1))⟩,⟨some 9,none,.mv (.t 20)⟩]))))))) (.seq (.reg [⟨some 21,none,.mv (.t 3)⟩,⟨some 2,none,.mv (.t 21)⟩]) .ret))))
theorem WP:codeOf Tryz.prog 159=some ⟨22,P3,[(.tmp 2)]⟩:=by kernel_rfl
theorem Gc:modes 159=⟨[],.asis,none,false⟩:=by unfold modes; rfl
theorem Qel (x:Tm) (hn:x.nodes≤1099511627776) (ih:∀ y∈x.args,E 159 [y.sv] []=some (.int .i64 y.cap,[])):E 159 [x.sv] []=some (.int .i64 x.cap,[]):=by
 have hl:=Tm.length_le x.args
 have hx:=Tm.An x
 rw [Tm.QcG]
 refine Af WP Gc (of_decide_eq_true rfl) ?_
 simp (disch:=omega) only [P3,go_sem,Aa]
 refine go_loop (α:=Int × Int) (fun a=>⟨slots 22 0 [(3,.int .i64 a.2),(7,.arr (x.args.map Tm.d)),(8,.int .i64 x.args.length),(9,.int .i64 a.1)],[]⟩) (fun a=>∃ k:Nat,a.1=k∧k≤x.args.length∧1≤a.2∧a.2+Tm.Bb (x.args.drop k)≤x.nodes∧Tm.OG (x.args.drop k) a.2=Tm.OG x.args 1) (fun a=>x.args.length-a.1.toNat) (0,1) ⟨0,rfl,zU _,by dsimp only; omega,by rw [zR]; dsimp only; omega,rfl⟩ (by simp (disch:=omega) only [go_sem,Aa]) ?_
 rintro ⟨i,n⟩ ⟨k,hi,hk,hn0,hn1,hs⟩
 dsimp only at hi hn0 hn1 hs
 have hni:i.toNat=k:=by omega
 rcases zJ k x.args.length with hlt | hge
 ·have hg:=get_at Tm.d hlt
  rw [Tm.d_eq] at hg
  have hd:x.args.drop k=x.args[k] :: x.args.drop (k+1):=zK hlt
  have hc:=ih x.args[k] (zI hlt)
  have hp:=Tm.Nx x.args[k]
  rw [hd,Tm.OG] at hs
  rw [hd,Tm.Bb] at hn1
  rcases y3 30 n with h30 | h30
  ·rw [if_pos h30] at hs
   simp (disch:=omega) only [go_sem,Aa,hni,hg,hc,Gc]
   exact hs
  ·rw [if_neg (by omega)] at hs
   simp (disch:=omega) only [go_sem,Aa,hni,hg,hc,Gc]
   refine ⟨(i+1,n+x.args[k].cap),⟨k+1,by dsimp only; omega,hlt,by dsimp only; omega,by dsimp only; omega,hs⟩,by dsimp only; omega,?_⟩
   simp only [and_self]
 ·have hd:x.args.drop k=[]:=zN hge
  rw [hd,Tm.OG] at hs
  simp (disch:=omega) only [go_sem,Aa,hni]
  exact hs
theorem QcH (x:Tm) (hn:x.nodes≤1099511627776):E 159 [x.sv] []=some (.int .i64 x.cap,[]) :=
 Qel x hn fun y hy=>QcH y (by have:=Tm.AU hy; have:=Tm.An x; omega)
termination_by SizeOf.sizeOf x
decreasing_by exact Tm.Aw hy
def LZ:SC:=(.seq (.reg [⟨some 2,none,.boxv 71 2 (.t 0)⟩,⟨some 4,none,.mv (.c (.int .i64 0))⟩]) (.seq (.reg [⟨some 5,none,.mv (.c (.int .i64 1))⟩]) (.seq (.seq (.reg [⟨some 6,none,.mv (.c (.int .i64 0))⟩]) (.block 0 (.loop [0,1,1,0,0,1,1,0,0,0,0,0,0,0,0,0,0,0,0,0,0,0,0,0,0,0,0,0,0,0,0] (.seq (.seq (.reg [⟨some 7,none,.mv (.t 6)⟩,⟨some 8,none,.faddr 1 (.t 2)⟩,⟨some 9,none,.load false 1 (.t 8)⟩,⟨some 10,none,.len false (.t 9)⟩,⟨some 11,none,.bin .lss false (.t 7) (.t 10)⟩,⟨some 12,none,.mv (.t 11)⟩,⟨(some 13),(some (12,true)),(.mv (.t 5))⟩,⟨(some 14),(some (12,true)),(.mv (.t 1))⟩,⟨(some 15),(some (12,true)),(.bin .leq false (.t 13) (.t 14))⟩,⟨some 16,none,.pick (.t 12) (.t 15) (.c (.bool false))⟩]) (.cond (.t 16) .skip (.exit 0))) (.seq (.block 1 (.reg [⟨some 19,none,.mv (.t 5)⟩,⟨some 20,none,.faddr 1 (.t 2)⟩,⟨some 21,none,.load false 1 (.t 20)⟩,⟨some 22,none,.mv (.t 6)⟩,⟨some 23,none,.iaddr 2 (.t 21) (.t 22)⟩,⟨some 24,none,.load true 2 (.t 23)⟩,⟨some 25,none,.mv (.t 1)⟩,⟨some 26,none,.mv (.t 5)⟩,⟨some 27,none,.bin .sub false (.t 25) (.t 26)⟩,⟨some 28,none,.call 144 [(.t 24),(.t 27)]⟩,⟨some 29,none,.bin .add false (.t 19) (.t 28)⟩,⟨some 5,none,.mv (.t 29)⟩])) (.reg [⟨some 17,none,.mv (.t 6)⟩,⟨some 18,none,.bin .add false (.t 17) (.c (.int .i64 1))⟩,⟨some 6,none,.mv (.t 18)⟩])))))) (.seq (.reg [⟨some 30,none,.mv (.t 5)⟩,⟨some 4,none,.mv (.t 30)⟩]) .ret))))
theorem SN:codeOf Tryz.prog 144=some ⟨31,LZ,[(.tmp 4)]⟩:=by kernel_rfl
theorem E1:modes 144=⟨[],.asis,none,false⟩:=by unfold modes; rfl
theorem Qem (x:Tm) (m:Int) (hm:0≤m) (hm1:m≤1099511627776) (hn:x.nodes≤1099511627776) (ih:∀ y∈x.args,∀ m:Int,0≤m→m≤1099511627776→E 144 [y.sv,.int .i64 m] []=some (.int .i64 (y.many m),[])):E 144 [x.sv,.int .i64 m] []=some (.int .i64 (x.many m),[]):=by
 have hl:=Tm.length_le x.args
 have hx:=Tm.An x
 rw [Tm.Qas]
 refine Af SN E1 (of_decide_eq_true rfl) ?_
 simp (disch:=omega) only [LZ,go_sem,Aa]
 refine go_loop (α:=Int × Int) (fun a=>⟨slots 31 0 [(1,.int .i64 m),(2,.ptr 0 0),(5,.int .i64 a.2),(6,.int .i64 a.1)],[.box 71 [.str x.name,.arr (x.args.map Tm.d)]]⟩) (fun a=>∃ k:Nat,a.1=k∧k≤x.args.length∧1≤a.2∧a.2+Tm.Bb (x.args.drop k)≤x.nodes∧Tm.IU (x.args.drop k) m a.2=Tm.IU x.args m 1) (fun a=>x.args.length-a.1.toNat) (0,1) ⟨0,rfl,zU _,by dsimp only; omega,by rw [zR]; dsimp only; omega,rfl⟩ (by simp (disch:=omega) only [go_sem,Aa]) ?_
 rintro ⟨i,n⟩ ⟨k,hi,hk,hn0,hn1,hs⟩
 dsimp only at hi hn0 hn1 hs
 have hni:i.toNat=k:=by omega
 rcases zJ k x.args.length with hlt | hge
 ·have hg:=get_at Tm.d hlt
  rw [Tm.d_eq] at hg
  have hd:x.args.drop k=x.args[k] :: x.args.drop (k+1):=zK hlt
  rw [hd,Tm.IU] at hs
  rw [hd,Tm.Bb] at hn1
  rcases y3 m n with h30 | h30
  ·rw [if_neg (by omega)] at hs
   simp (disch:=omega) only [go_sem,Aa,hni,hg,E1]
   exact hs
  ·rw [if_pos h30] at hs
   have hc:=ih x.args[k] (zI hlt) (m-n) (by omega) (by omega)
   have hp:=Tm.LK x.args[k] (m-n)
   simp (disch:=omega) only [go_sem,Aa,hni,hg,hc,E1]
   refine ⟨(i+1,n+x.args[k].many (m-n)),⟨k+1,by dsimp only; omega,hlt,by dsimp only; omega,by dsimp only; omega,hs⟩,by dsimp only; omega,?_⟩
   simp only [and_self]
 ·have hd:x.args.drop k=[]:=zN hge
  rw [hd,Tm.IU] at hs
  simp (disch:=omega) only [go_sem,Aa,hni]
  exact hs
theorem QcI (x:Tm) (m:Int) (hm:0≤m) (hm1:m≤1099511627776) (hn:x.nodes≤1099511627776):E 144 [x.sv,.int .i64 m] []=some (.int .i64 (x.many m),[]) :=
 Qem x m hm hm1 hn fun y hy m hm hm1=>QcI y m hm hm1 (by have:=Tm.AU hy; have:=Tm.An x; omega)
termination_by SizeOf.sizeOf x
decreasing_by exact Tm.Aw hy
def Ny:SC:=(.seq (.reg [⟨some 1,none,.boxv 71 2 (.t 0)⟩,⟨some 2,none,.mv (.c (.int .i64 0))⟩]) (.seq (.reg [⟨some 3,none,.mv (.c (.int .i64 0))⟩]) (.seq (.seq (.reg [⟨some 6,none,.faddr 1 (.t 1)⟩,⟨some 7,none,.load false 1 (.t 6)⟩,⟨some 8,none,.len false (.t 7)⟩,⟨some 9,none,.mv (.c (.int .i64 0))⟩]) (.block 0 (.loop [0,0,0,1,0,0,0,1,1,1,0,0,0,0,0,0,0,0,0,0] (.seq (.reg [⟨some 10,none,.bin .lss false (.t 9) (.t 8)⟩]) (.seq (.cond (.t 10) .skip (.exit 0)) (.seq (.block 1 (.seq (.reg [⟨some 11,none,.iaddr 2 (.t 7) (.t 9)⟩,⟨some 12,none,.load true 2 (.t 11)⟩,⟨(some 5),none,(.alloc 71 [(.str ⟨#[]⟩),.nil])⟩,⟨none,none,(.store 2 (.t 5) (.t 12))⟩]) (.reg [⟨some 13,none,.mv (.t 3)⟩,⟨some 14,none,.load true 2 (.t 5)⟩,⟨some 15,none,.call 160 [(.t 14)]⟩,⟨some 16,none,.minmax true (.t 13) (.t 15)⟩,⟨some 3,none,.mv (.t 16)⟩]))) (.reg [⟨some 17,none,.bin .add false (.t 9) (.c (.int .i64 1))⟩,⟨some 9,none,.mv (.t 17)⟩]))))))) (.seq (.reg [⟨some 18,none,.mv (.t 3)⟩,⟨some 19,none,.bin .add false (.t 18) (.c (.int .i64 1))⟩,⟨some 2,none,.mv (.t 19)⟩]) .ret))))
theorem Vi:codeOf Tryz.prog 160=some ⟨20,Ny,[(.tmp 2)]⟩:=by kernel_rfl
theorem GE:modes 160=⟨[],.asis,none,false⟩:=by unfold modes; rfl
def Ma:SC:=(.seq (.reg [⟨some 4,none,.mv (.c (.int .i64 0))⟩]) (.seq (.seq (.reg [⟨some 5,none,.mv (.t 0)⟩,⟨some 6,none,.mv (.t 1)⟩,⟨some 7,none,.bin .gtr false (.t 5) (.t 6)⟩]) (.cond (.t 7) (.seq (.reg [⟨some 8,none,.mv (.t 0)⟩,⟨some 4,none,.mv (.t 8)⟩]) .ret) .skip)) (.seq (.reg [⟨some 9,none,.mv (.t 1)⟩,⟨some 4,none,.mv (.t 9)⟩]) .ret)))
theorem SO:codeOf Tryz.prog 172=some ⟨10,Ma,[(.tmp 4)]⟩:=by kernel_rfl
theorem Mb:modes 172=⟨[],.asis,none,false⟩:=by unfold modes; rfl
def KH:SC:=(.seq (.reg [⟨some 1,none,.boxv 71 2 (.t 0)⟩,⟨some 2,none,.mv (.c (.int .i64 0))⟩]) (.seq (.reg [⟨some 3,none,.mv (.c (.int .i64 0))⟩]) (.seq (.seq (.reg [⟨some 4,none,.mv (.c (.int .i64 0))⟩]) (.block 0 (.loop [0,1,0,1,1,0,0,0,0,0,0,0,0,0,0,0,0,0,0,0,0,0] (.seq (.seq (.reg [⟨some 5,none,.mv (.t 4)⟩,⟨some 6,none,.faddr 1 (.t 1)⟩,⟨some 7,none,.load false 1 (.t 6)⟩,⟨some 8,none,.len false (.t 7)⟩,⟨some 9,none,.bin .lss false (.t 5) (.t 8)⟩]) (.cond (.t 9) .skip (.exit 0))) (.seq (.block 1 (.reg [⟨some 12,none,.mv (.t 3)⟩,⟨some 13,none,.faddr 1 (.t 1)⟩,⟨some 14,none,.load false 1 (.t 13)⟩,⟨some 15,none,.mv (.t 4)⟩,⟨some 16,none,.iaddr 2 (.t 14) (.t 15)⟩,⟨some 17,none,.load true 2 (.t 16)⟩,⟨some 18,none,.call 145 [(.t 17)]⟩,⟨some 19,none,.call 172 [(.t 12),(.t 18)]⟩,⟨some 3,none,.mv (.t 19)⟩])) (.reg [⟨some 10,none,.mv (.t 4)⟩,⟨some 11,none,.bin .add false (.t 10) (.c (.int .i64 1))⟩,⟨some 4,none,.mv (.t 11)⟩])))))) (.seq (.reg [⟨some 20,none,.mv (.t 3)⟩,⟨some 21,none,.bin .add false (.t 20) (.c (.int .i64 1))⟩,⟨some 2,none,.mv (.t 21)⟩]) .ret))))
theorem R0:codeOf Tryz.prog 145=some ⟨22,KH,[(.tmp 2)]⟩:=by kernel_rfl
theorem EZ:modes 145=⟨[],.asis,none,false⟩:=by unfold modes; rfl
theorem QcJ (a b:Int):E 172 [.int .i64 a,.int .i64 b] []=some (.int .i64 (max a b),[]):=by
 refine Af SO Mb (of_decide_eq_true rfl) ?_
 simp (disch:=omega) only [Ma,go_sem,Aa]
 repeat' (refine Dw (fun hq=>?_) (fun hq=>?_) <;> (first | replace hq:=Ax.1 hq | replace hq:=CF.1 hq) <;> (try simp (disch:=omega) only [go_sem,Aa]))
 all_goals omega
theorem QcK (x:Tm) (hn:x.nodes≤1099511627776) (ih:∀ y∈x.args,E 160 [y.sv] []=some (.int .i64 y.deep,[])):E 160 [x.sv] []=some (.int .i64 x.deep,[]):=by
 have hl:=Tm.length_le x.args
 have hx:=Tm.An x
 have hd1:=Tm.LJ x
 have hd2:=Tm.I3 x
 refine Af Vi GE (of_decide_eq_true rfl) ?_
 simp (disch:=omega) only [Ny,go_sem,Aa]
 refine go_loop (α:=Int × (Int)) (fun a=>⟨slots 20 0 [(3,.int .i64 (a.2)),(7,.arr (x.args.map Tm.d)),(8,.int .i64 x.args.length),(9,.int .i64 (a.1))],[]⟩) (fun a=>∃ k:Nat,a.1=k∧k≤(x.args).length∧0≤(a.2)∧max (a.2) (Tm.Es (x.args.drop k):Nat)=(Tm.Es x.args:Nat)) (fun a=>(x.args).length-(a.1).toNat) (0,0) ⟨0,rfl,zU _,by dsimp only; omega,by rw [zR]; dsimp only; omega⟩ (by simp (disch:=omega) only [go_sem,Aa]) ?_
 rintro ⟨i,n⟩ ⟨k,hi,hk,hR⟩
 dsimp only at hi hR
 have hni:i.toNat=k:=by omega
 have hni1:(i+1).toNat=k+1:=by omega
 rcases zJ k (x.args).length with hlt | hge
 ·have hg:=get_at Tm.d hlt
  rw [Tm.d_eq] at hg
  have hc:=ih x.args[k] (zI hlt)
  rw [zK hlt,Tm.Es] at hR
  simp (disch:=omega) only [go_sem,Aa,hni,hg,hc,GE,Qek]
  refine ⟨(i+1,max n (x.args[k].deep:Int)),⟨k+1,by dsimp only; omega,hlt,by dsimp only; omega⟩,by dsimp only; omega,?_⟩
  simp only [and_self]
 ·rw [zN hge,Tm.Es] at hR
  simp (disch:=omega) only [go_sem,Aa,hni]
  omega
theorem Qat (x:Tm) (hn:x.nodes≤1099511627776):E 160 [x.sv] []=some (.int .i64 x.deep,[]) :=
 QcK x hn fun y hy=>Qat y (by have:=Tm.AU hy; have:=Tm.An x; omega)
termination_by SizeOf.sizeOf x
decreasing_by exact Tm.Aw hy
theorem Zm (x:Tm) (hn:x.nodes≤1099511627776) (ih:∀ y∈x.args,E 145 [y.sv] []=some (.int .i64 y.deep,[])):E 145 [x.sv] []=some (.int .i64 x.deep,[]):=by
 have hl:=Tm.length_le x.args
 have hx:=Tm.An x
 have hd1:=Tm.LJ x
 have hd2:=Tm.I3 x
 refine Af R0 EZ (of_decide_eq_true rfl) ?_
 simp (disch:=omega) only [KH,go_sem,Aa]
 refine go_loop (α:=Int × (Int)) (fun a=>⟨slots 22 0 [(1,.ptr 0 0),(3,.int .i64 (a.2)),(4,.int .i64 (a.1))],[.box 71 [.str x.name,.arr (x.args.map Tm.d)]]⟩) (fun a=>∃ k:Nat,a.1=k∧k≤(x.args).length∧0≤(a.2)∧max (a.2) (Tm.Es (x.args.drop k):Nat)=(Tm.Es x.args:Nat)) (fun a=>(x.args).length-(a.1).toNat) (0,0) ⟨0,rfl,zU _,by dsimp only; omega,by rw [zR]; dsimp only; omega⟩ (by simp (disch:=omega) only [go_sem,Aa]) ?_
 rintro ⟨i,n⟩ ⟨k,hi,hk,hR⟩
 dsimp only at hi hR
 have hni:i.toNat=k:=by omega
 have hni1:(i+1).toNat=k+1:=by omega
 rcases zJ k (x.args).length with hlt | hge
 ·have hg:=get_at Tm.d hlt
  rw [Tm.d_eq] at hg
  have hc:=ih x.args[k] (zI hlt)
  rw [zK hlt,Tm.Es] at hR
  simp (disch:=omega) only [go_sem,Aa,hni,hg,hc,EZ,QcJ,Mb]
  refine ⟨(i+1,max n (x.args[k].deep:Int)),⟨k+1,by dsimp only; omega,hlt,by dsimp only; omega⟩,by dsimp only; omega,?_⟩
  simp only [and_self]
 ·rw [zN hge,Tm.Es] at hR
  simp (disch:=omega) only [go_sem,Aa,hni]
  omega
theorem TZ (x:Tm) (hn:x.nodes≤1099511627776):E 145 [x.sv] []=some (.int .i64 x.deep,[]) :=
 Zm x hn fun y hy=>TZ y (by have:=Tm.AU hy; have:=Tm.An x; omega)
termination_by SizeOf.sizeOf x
decreasing_by exact Tm.Aw hy
def Co:SC:=(.seq (.reg [⟨some 4,none,.mv (.c (.int .i64 0))⟩]) (.seq (.seq (.reg [⟨some 6,none,.mv (.t 0)⟩,⟨some 7,none,.len false (.t 6)⟩,⟨some 8,none,.mv (.c (.int .i64 0))⟩]) (.block 0 (.loop [1,1,0,0,0,0,0,1,1,0,0,0,0,0,0,0,0,0,0] (.seq (.reg [⟨some 9,none,.bin .lss false (.t 8) (.t 7)⟩]) (.seq (.cond (.t 9) .skip (.exit 0)) (.seq (.block 1 (.seq (.reg [⟨some 10,none,.mv (.t 8)⟩,⟨some 5,none,.mv (.t 10)⟩]) (.seq (.reg [⟨some 11,none,.mv (.t 1)⟩,⟨some 12,none,.mv (.t 0)⟩,⟨some 13,none,.mv (.t 5)⟩,⟨some 14,none,.iaddr 2 (.t 12) (.t 13)⟩,⟨some 15,none,.load true 2 (.t 14)⟩,⟨some 16,none,.callv (.t 11) [(.t 15)]⟩]) (.cond (.t 16) (.seq (.reg [⟨some 17,none,.mv (.t 5)⟩,⟨some 4,none,.mv (.t 17)⟩]) .ret) .skip)))) (.reg [⟨some 18,none,.bin .add false (.t 8) (.c (.int .i64 1))⟩,⟨some 8,none,.mv (.t 18)⟩]))))))) (.seq (.reg [⟨some 4,none,.mv (.c (.int .i64 (-(0+1))))⟩]) .ret)))
theorem DU:codeOf Tryz.prog 195=some ⟨19,Co,[(.tmp 4)]⟩:=by kernel_rfl
theorem Cp:modes 195=⟨[],.asis,none,false⟩:=by unfold modes; rfl
def BU:SC:=(.seq (.reg [⟨some 4,none,.mv (.c (.bool false))⟩]) (.seq (.reg [⟨some 5,none,.mv (.t 0)⟩,⟨some 6,none,.mv (.t 1)⟩,⟨some 7,none,.call 195 [(.t 5),(.t 6)]⟩,⟨some 8,none,.bin .geq false (.t 7) (.c (.int .i64 0))⟩,⟨some 4,none,.mv (.t 8)⟩]) .ret))
theorem D6:codeOf Tryz.prog 174=some ⟨9,BU,[(.tmp 4)]⟩:=by kernel_rfl
theorem BV:modes 174=⟨[],.asis,none,false⟩:=by unfold modes; rfl
theorem PM (fid:Nat) (p:Tm→Bool) (xs:List Tm) (hl:xs.length≤1099511627776) (hg:Kk Tryz.prog fid=true) (hm:(modes fid).hand=[]) (hE:∀ x∈xs,E fid [x.sv] []=some (.bool (p x),[])):E 195 [.arr (xs.map Tm.d),.fn fid []] []=some (.int .i64 (Ek p xs 0),[]):=by
 refine Af DU Cp (of_decide_eq_true rfl) ?_
 simp (disch:=omega) only [Co,go_sem,Aa]
 refine go_loop (α:=Int) (fun a=>⟨slots 19 0 [(0,.arr (xs.map Tm.d)),(1,.fn fid []),(7,.int .i64 xs.length),(8,.int .i64 a)],[]⟩) (fun a=>∃ k:Nat,a=k∧k≤(xs).length∧Ek p (xs.drop k) a=Ek p xs 0) (fun a=>(xs).length-(a).toNat) 0 ⟨0,rfl,zU _,by rw [zR]⟩ (by simp (disch:=omega) only [go_sem,Aa]) ?_
 rintro i ⟨k,hi,hk,hR⟩
 have hni:i.toNat=k:=by omega
 have hni1:(i+1).toNat=k+1:=by omega
 rcases zJ k (xs).length with hlt | hge
 ·have hg':=get_at Tm.d hlt
  rw [Tm.d_eq] at hg'
  have hc:=hE xs[k] (zI hlt)
  rw [zK hlt,Ek] at hR
  cases hp:p xs[k] with
  | true =>
   rw [hp] at hc hR
   simp (disch:=omega) only [go_sem,Aa,hni,hg',hc,hg,hm]
   simpa using hR
  | false =>
   rw [hp] at hc hR
   simp (disch:=omega) only [go_sem,Aa,hni,hg',hc,hg,hm]
   exact ⟨i+1,⟨k+1,by omega,hlt,by simpa using hR⟩,by omega,by first | trivial | rfl⟩
 ·rw [zN hge,Ek] at hR
  simp (disch:=omega) only [go_sem,Aa,hni]
  exact hR
theorem MD (fid:Nat) (p:Tm→Bool) (xs:List Tm) (hl:xs.length≤1099511627776) (hg:Kk Tryz.prog fid=true) (hm:(modes fid).hand=[]) (hE:∀ x∈xs,E fid [x.sv] []=some (.bool (p x),[])):E 174 [.arr (xs.map Tm.d),.fn fid []] []=some (.bool (xs.any p),[]):=by
 have h:=PM fid p xs hl hg hm hE
 refine Af D6 BV (of_decide_eq_true rfl) ?_
 simp (disch:=omega) only [BU,go_sem,Aa,h,Cp]
 rw [Nw]
def D7:SC:=(.seq (.reg [⟨some 1,none,.boxv 71 2 (.t 0)⟩,⟨some 2,none,.mv (.c (.bool false))⟩]) (.seq (.seq (.reg [⟨some 3,none,.faddr 0 (.t 1)⟩,⟨some 4,none,.load false 1 (.t 3)⟩,⟨some 5,none,.call 162 [(.t 4)]⟩]) (.cond (.t 5) (.seq (.reg [⟨some 6,none,.faddr 1 (.t 1)⟩,⟨some 7,none,.load false 1 (.t 6)⟩,⟨some 8,none,.len false (.t 7)⟩,⟨some 9,none,.bin .eql false (.t 8) (.c (.int .i64 0))⟩,⟨some 2,none,.mv (.t 9)⟩]) .ret) .skip)) (.seq (.reg [⟨some 10,none,.faddr 0 (.t 1)⟩,⟨some 11,none,.load false 1 (.t 10)⟩,⟨some 12,none,.call 153 [(.t 11)]⟩,⟨some 13,none,.mv (.t 12)⟩,⟨(some 14),(some (13,true)),(.faddr 1 (.t 1))⟩,⟨(some 15),(some (13,true)),(.load false 1 (.t 14))⟩,⟨(some 16),(some (13,true)),(.len false (.t 15))⟩,⟨(some 17),(some (13,true)),(.bin .leq false (.t 16) (.c (.int .i64 4)))⟩,⟨some 18,none,.pick (.t 13) (.t 17) (.c (.bool false))⟩,⟨some 19,none,.mv (.t 18)⟩,⟨(some 20),(some (19,true)),(.faddr 1 (.t 1))⟩,⟨(some 21),(some (19,true)),(.load false 1 (.t 20))⟩,⟨(some 22),(some (19,true)),(.call 174 [(.t 21),(.c (.fn 175 []))])⟩,⟨(some 23),(some (19,true)),(.un .not (.t 22))⟩,⟨some 24,none,.pick (.t 19) (.t 23) (.c (.bool false))⟩,⟨some 2,none,.mv (.t 24)⟩]) .ret)))
theorem EA:codeOf Tryz.prog 152=some ⟨25,D7,[(.tmp 2)]⟩:=by kernel_rfl
theorem AP:modes 152=⟨[],.asis,none,false⟩:=by unfold modes; rfl
def HS:SC:=(.seq (.reg [⟨some 1,none,.boxv 71 2 (.t 0)⟩,⟨some 2,none,.mv (.c (.bool false))⟩]) (.seq (.reg [⟨some 3,none,.load true 2 (.t 1)⟩,⟨some 4,none,.call 152 [(.t 3)]⟩,⟨some 5,none,.un .not (.t 4)⟩,⟨some 2,none,.mv (.t 5)⟩]) .ret))
theorem Nz:codeOf Tryz.prog 175=some ⟨6,HS,[(.tmp 2)]⟩:=by kernel_rfl
theorem HT:modes 175=⟨[],.asis,none,false⟩:=by unfold modes; rfl
theorem N0:Kk Tryz.prog 175=true:=by kernel_rfl
theorem Tm.Qen (xs:List Tm):(!xs.any fun y=>!y.names)=Tm.DT xs:=by
 rw [Tm.Dj]
 induction xs with
 | nil=>rfl
 | cons x xs ih=>simp only [y8,List.all_cons,Bool.not_or,Bool.not_not,ih]
theorem WQ (x:Tm) (hn:x.nodes≤1099511627776) (ih:∀ y∈x.args,E 152 [y.sv] []=some (.bool y.names,[])):E 152 [x.sv] []=some (.bool x.names,[]):=by
 have hl:=Tm.length_le x.args
 have hx:=Tm.An x
 have h1:∀ y∈x.args,E 175 [y.sv] []=some (.bool (!y.names),[]):=fun y hy=>by
  have h:=ih y hy
  refine Af Nz HT (of_decide_eq_true rfl) ?_
  simp (disch:=omega) only [HS,go_sem,Aa,h,AP]
 have h2:=MD 175 (fun y=>!y.names) x.args (by omega) N0 (by rw [HT]) h1
 rw [Tm.E0,← Tm.Qen]
 cases hv:Aq x.name with
 | true =>
  have h3:=Ej x.name
  rw [hv] at h3
  refine Af EA AP (of_decide_eq_true rfl) ?_
  simp (disch:=omega) only [D7,go_sem,Aa,h3,Bn]
  rw [K0]; cases x.args <;> simp <;> omega
 | false =>
  have h3:=Ej x.name
  rw [hv] at h3
  have h4:=Rx x.name
  cases hs:ET x.name with
  | false =>
   rw [hs] at h4
   refine Af EA AP (of_decide_eq_true rfl) ?_
   simp (disch:=omega) only [D7,go_sem,Aa,h2,h3,h4,Bn,Bw]
  | true =>
   rw [hs] at h4
   rcases zJ 4 x.args.length with h5 | h5
   ·refine Af EA AP (of_decide_eq_true rfl) ?_
    simp (disch:=omega) only [D7,go_sem,Aa,h2,h3,h4,Bn,Bw]
    simp; omega
   ·refine Af EA AP (of_decide_eq_true rfl) ?_
    simp (disch:=omega) only [D7,go_sem,Aa,h2,h3,h4,Bn,Bw,BV]
    simp [h5]
theorem JA (x:Tm) (hn:x.nodes≤1099511627776):E 152 [x.sv] []=some (.bool x.names,[]) :=
 WQ x hn fun y hy=>JA y (by have:=Tm.AU hy; have:=Tm.An x; omega)
termination_by SizeOf.sizeOf x
decreasing_by exact Tm.Aw hy
def DV:SC:=(.seq (.reg [⟨some 1,none,.boxv 71 2 (.t 0)⟩,⟨some 2,none,.mv (.c (.bool false))⟩]) (.seq (.seq (.reg [⟨some 4,none,.faddr 0 (.t 1)⟩,⟨some 5,none,.load false 1 (.t 4)⟩,⟨some 6,none,.call 77 [(.t 5)]⟩]) (.cond (.t 6) (.seq (.reg [⟨some 7,none,.faddr 1 (.t 1)⟩,⟨some 8,none,.load false 1 (.t 7)⟩,⟨some 9,none,.len false (.t 8)⟩,⟨some 10,none,.bin .eql false (.t 9) (.c (.int .i64 0))⟩,⟨some 2,none,.mv (.t 10)⟩]) .ret) .skip)) (.seq (.seq (.reg [⟨some 11,none,.faddr 0 (.t 1)⟩,⟨some 12,none,.load false 1 (.t 11)⟩,⟨some 13,none,.call 105 [(.t 12)]⟩,⟨some 14,none,.un .not (.t 13)⟩,⟨some 15,none,.mv (.t 14)⟩,⟨(some 16),(some (15,false)),(.faddr 1 (.t 1))⟩,⟨(some 17),(some (15,false)),(.load false 1 (.t 16))⟩,⟨(some 18),(some (15,false)),(.len false (.t 17))⟩,⟨(some 19),(some (15,false)),(.bin .gtr false (.t 18) (.c (.int .i64 4)))⟩,⟨some 20,none,.pick (.t 15) (.c (.bool true)) (.t 19)⟩]) (.cond (.t 20) (.seq (.reg [⟨some 2,none,.mv (.c (.bool false))⟩]) .ret) .skip)) (.seq (.seq (.reg [⟨some 3,none,.mv (.c (.int .i64 0))⟩]) (.block 0 (.loop [0,1,0,1,0,0,0,0,0,0,0,0,0,0,0,0,0,0,0,0,0,0,0,0,0,0,0,0,0,0,0,0,0,0,0] (.seq (.seq (.reg [⟨some 21,none,.mv (.t 3)⟩,⟨some 22,none,.faddr 1 (.t 1)⟩,⟨some 23,none,.load false 1 (.t 22)⟩,⟨some 24,none,.len false (.t 23)⟩,⟨some 25,none,.bin .lss false (.t 21) (.t 24)⟩]) (.cond (.t 25) .skip (.exit 0))) (.seq (.block 1 (.seq (.reg [⟨some 28,none,.faddr 1 (.t 1)⟩,⟨some 29,none,.load false 1 (.t 28)⟩,⟨some 30,none,.mv (.t 3)⟩,⟨some 31,none,.iaddr 2 (.t 29) (.t 30)⟩,⟨some 32,none,.load true 2 (.t 31)⟩,⟨some 33,none,.call 104 [(.t 32)]⟩,⟨some 34,none,.un .not (.t 33)⟩]) (.cond (.t 34) (.seq (.reg [⟨some 2,none,.mv (.c (.bool false))⟩]) .ret) .skip))) (.reg [⟨some 26,none,.mv (.t 3)⟩,⟨some 27,none,.bin .add false (.t 26) (.c (.int .i64 1))⟩,⟨some 3,none,.mv (.t 27)⟩])))))) (.seq (.reg [⟨some 2,none,.mv (.c (.bool true))⟩]) .ret)))))
theorem Fa:codeOf Tryz.prog 104=some ⟨35,DV,[(.tmp 2)]⟩:=by kernel_rfl
theorem AQ:modes 104=⟨[],.asis,none,false⟩:=by unfold modes; rfl
theorem Zn (x:Tm) (hn:x.nodes≤1099511627776) (ih:∀ y∈x.args,E 104 [y.sv] []=some (.bool y.names,[])):E 104 [x.sv] []=some (.bool x.names,[]):=by
 have hl:=Tm.length_le x.args
 have hx:=Tm.An x
 have h3:=Am x.name
 have h4:=Ry x.name
 rw [Tm.E0]
 cases hv:Aq x.name with
 | true =>
  rw [hv] at h3
  refine Af Fa AQ (of_decide_eq_true rfl) ?_
  simp (disch:=omega) only [DV,go_sem,Aa,h3,Ah]
  rw [K0]; cases x.args <;> simp <;> omega
 | false =>
  rw [hv] at h3
  cases hs:ET x.name with
  | false =>
   rw [hs] at h4
   refine Af Fa AQ (of_decide_eq_true rfl) ?_
   simp (disch:=omega) only [DV,go_sem,Aa,h3,h4,Ah,Bx]
  | true =>
   rw [hs] at h4
   rcases zJ 4 x.args.length with h5 | h5
   ·refine Af Fa AQ (of_decide_eq_true rfl) ?_
    simp (disch:=omega) only [DV,go_sem,Aa,h3,h4,Ah,Bx]
    simp; omega
   ·refine Af Fa AQ (of_decide_eq_true rfl) ?_
    simp (disch:=omega) only [DV,go_sem,Aa,h3,h4,Ah,Bx]
    refine go_loop (α:=Int) (fun a=>⟨slots 35 0 [(1,.ptr 0 0),(3,.int .i64 a)],[.box 71 [.str x.name,.arr (x.args.map Tm.d)]]⟩) (fun a=>∃ k:Nat,a=k∧k≤(x.args).length∧Tm.DT (x.args.drop k)=Tm.DT x.args) (fun a=>(x.args).length-(a).toNat) 0 ⟨0,rfl,zU _,by rw [zR]⟩ (by simp (disch:=omega) only [go_sem,Aa]) ?_
    rintro i ⟨k,hi,hk,hR⟩
    have hni:i.toNat=k:=by omega
    have hni1:(i+1).toNat=k+1:=by omega
    rcases zJ k (x.args).length with hlt | hge
    ·have hg:=get_at Tm.d hlt
     rw [Tm.d_eq] at hg
     have hc:=ih x.args[k] (zI hlt)
     rw [zK hlt,Tm.DT] at hR
     cases hp:x.args[k].names with
     | true =>
      rw [hp] at hc hR
      simp (disch:=omega) only [go_sem,Aa,hni,hg,hc,AQ]
      exact ⟨i+1,⟨k+1,by omega,hlt,by simpa using hR⟩,by omega,by first | trivial | rfl⟩
     | false =>
      rw [hp] at hc hR
      simp (disch:=omega) only [go_sem,Aa,hni,hg,hc,AQ]
      simp at hR ⊢; exact fun _=>hR
    ·rw [zN hge,Tm.DT] at hR
     simp (disch:=omega) only [go_sem,Aa,hni]
     simp [h5,← hR]
theorem LL (x:Tm) (hn:x.nodes≤1099511627776):E 104 [x.sv] []=some (.bool x.names,[]) :=
 Zn x hn fun y hy=>LL y (by have:=Tm.AU hy; have:=Tm.An x; omega)
termination_by SizeOf.sizeOf x
decreasing_by exact Tm.Aw hy
def Hj:SC:=(.seq (.reg [⟨some 1,none,.boxv 71 2 (.t 0)⟩,⟨some 2,none,.mv (.c (.bool false))⟩]) (.seq (.reg [⟨some 3,none,.load true 2 (.t 1)⟩,⟨some 4,none,.call 159 [(.t 3)]⟩,⟨some 5,none,.bin .leq false (.t 4) (.c (.int .i64 30))⟩,⟨some 6,none,.mv (.t 5)⟩,⟨(some 7),(some (6,true)),(.load true 2 (.t 1))⟩,⟨(some 8),(some (6,true)),(.call 160 [(.t 7)])⟩,⟨(some 9),(some (6,true)),(.bin .leq false (.t 8) (.c (.int .i64 8)))⟩,⟨some 10,none,.pick (.t 6) (.t 9) (.c (.bool false))⟩,⟨some 2,none,.mv (.t 10)⟩]) .ret))
theorem KI:codeOf Tryz.prog 127=some ⟨11,Hj,[(.tmp 2)]⟩:=by kernel_rfl
theorem Bj:modes 127=⟨[],.asis,none,false⟩:=by unfold modes; rfl
def I4:SC:=(.seq (.reg [⟨some 1,none,.boxv 71 2 (.t 0)⟩,⟨some 2,none,.mv (.c (.bool false))⟩]) (.seq (.reg [⟨some 3,none,.load true 2 (.t 1)⟩,⟨some 4,none,.call 144 [(.t 3),(.c (.int .i64 30))]⟩,⟨some 5,none,.bin .leq false (.t 4) (.c (.int .i64 30))⟩,⟨some 6,none,.mv (.t 5)⟩,⟨(some 7),(some (6,true)),(.load true 2 (.t 1))⟩,⟨(some 8),(some (6,true)),(.call 145 [(.t 7)])⟩,⟨(some 9),(some (6,true)),(.bin .leq false (.t 8) (.c (.int .i64 8)))⟩,⟨some 10,none,.pick (.t 6) (.t 9) (.c (.bool false))⟩,⟨some 2,none,.mv (.t 10)⟩]) .ret))
theorem Mc:codeOf Tryz.prog 103=some ⟨11,I4,[(.tmp 2)]⟩:=by kernel_rfl
theorem BH:modes 103=⟨[],.asis,none,false⟩:=by unfold modes; rfl
def EN:SC:=(.seq (.reg [⟨some 1,none,.boxv 71 2 (.t 0)⟩,⟨some 2,none,.mv (.c (.bool false))⟩]) (.seq (.reg [⟨some 3,none,.load true 2 (.t 1)⟩,⟨some 4,none,.call 127 [(.t 3)]⟩,⟨some 5,none,.mv (.t 4)⟩,⟨(some 6),(some (5,true)),(.load true 2 (.t 1))⟩,⟨(some 7),(some (5,true)),(.call 152 [(.t 6)])⟩,⟨some 8,none,.pick (.t 5) (.t 7) (.c (.bool false))⟩,⟨some 2,none,.mv (.t 8)⟩]) .ret))
theorem Hk:codeOf Tryz.prog 154=some ⟨9,EN,[(.tmp 2)]⟩:=by kernel_rfl
theorem AI:modes 154=⟨[],.asis,none,false⟩:=by unfold modes; rfl
def I5:SC:=(.seq (.reg [⟨some 1,none,.boxv 71 2 (.t 0)⟩,⟨some 2,none,.mv (.c (.bool false))⟩]) (.seq (.reg [⟨some 3,none,.load true 2 (.t 1)⟩,⟨some 4,none,.call 103 [(.t 3)]⟩,⟨some 5,none,.mv (.t 4)⟩,⟨(some 6),(some (5,true)),(.load true 2 (.t 1))⟩,⟨(some 7),(some (5,true)),(.call 104 [(.t 6)])⟩,⟨some 8,none,.pick (.t 5) (.t 7) (.c (.bool false))⟩,⟨some 2,none,.mv (.t 8)⟩]) .ret))
theorem Md:codeOf Tryz.prog 106=some ⟨9,I5,[(.tmp 2)]⟩:=by kernel_rfl
theorem Be:modes 106=⟨[],.asis,none,false⟩:=by unfold modes; rfl
def HU:SC:=(.seq (.reg [⟨some 1,none,.boxv 71 2 (.t 0)⟩,⟨some 2,none,.mv (.c (.bool false))⟩]) (.seq (.reg [⟨some 3,none,.faddr 0 (.t 1)⟩,⟨some 4,none,.load false 1 (.t 3)⟩,⟨(some 5),none,(.bin .eql false (.t 4) (.c (.str ⟨#[61]⟩)))⟩,⟨some 2,none,.mv (.t 5)⟩]) .ret))
theorem N1:codeOf Tryz.prog 151=some ⟨6,HU,[(.tmp 2)]⟩:=by kernel_rfl
theorem BK:modes 151=⟨[],.asis,none,false⟩:=by unfold modes; rfl
def B9:SC:=(.seq (.reg [⟨some 1,none,.boxv 71 2 (.t 0)⟩,⟨some 2,none,.mv (.c (.bool false))⟩]) (.seq (.seq (.reg [⟨some 3,none,.load true 2 (.t 1)⟩,⟨some 4,none,.call 151 [(.t 3)]⟩]) (.cond (.t 4) (.seq (.reg [⟨some 5,none,.faddr 1 (.t 1)⟩,⟨some 6,none,.load false 1 (.t 5)⟩,⟨some 7,none,.len false (.t 6)⟩,⟨some 8,none,.bin .eql false (.t 7) (.c (.int .i64 2))⟩,⟨some 9,none,.mv (.t 8)⟩,⟨(some 10),(some (9,true)),(.load true 2 (.t 1))⟩,⟨(some 11),(some (9,true)),(.call 127 [(.t 10)])⟩,⟨some 12,none,.pick (.t 9) (.t 11) (.c (.bool false))⟩,⟨some 13,none,.mv (.t 12)⟩,⟨(some 14),(some (13,true)),(.faddr 1 (.t 1))⟩,⟨(some 15),(some (13,true)),(.load false 1 (.t 14))⟩,⟨(some 16),(some (13,true)),(.iaddr 2 (.t 15) (.c (.int .i64 0)))⟩,⟨(some 17),(some (13,true)),(.load true 2 (.t 16))⟩,⟨(some 18),(some (13,true)),(.call 152 [(.t 17)])⟩,⟨some 19,none,.pick (.t 13) (.t 18) (.c (.bool false))⟩,⟨some 20,none,.mv (.t 19)⟩,⟨(some 21),(some (20,true)),(.faddr 1 (.t 1))⟩,⟨(some 22),(some (20,true)),(.load false 1 (.t 21))⟩,⟨(some 23),(some (20,true)),(.iaddr 2 (.t 22) (.c (.int .i64 1)))⟩,⟨(some 24),(some (20,true)),(.load true 2 (.t 23))⟩,⟨(some 25),(some (20,true)),(.call 152 [(.t 24)])⟩,⟨some 26,none,.pick (.t 20) (.t 25) (.c (.bool false))⟩,⟨some 2,none,.mv (.t 26)⟩]) .ret) .skip)) (.seq (.reg [⟨some 27,none,.faddr 0 (.t 1)⟩,⟨some 28,none,.load false 1 (.t 27)⟩,⟨some 29,none,.call 153 [(.t 28)]⟩,⟨some 30,none,.mv (.t 29)⟩,⟨(some 31),(some (30,true)),(.load true 2 (.t 1))⟩,⟨(some 32),(some (30,true)),(.call 154 [(.t 31)])⟩,⟨some 33,none,.pick (.t 30) (.t 32) (.c (.bool false))⟩,⟨some 2,none,.mv (.t 33)⟩]) .ret)))
theorem Cb:codeOf Tryz.prog 119=some ⟨34,B9,[(.tmp 2)]⟩:=by kernel_rfl
theorem BA:modes 119=⟨[],.asis,none,false⟩:=by unfold modes; rfl
def CU:SC:=(.seq (.reg [⟨some 1,none,.boxv 71 2 (.t 0)⟩,⟨some 2,none,.mv (.c (.bool false))⟩]) (.seq (.seq (.reg [⟨some 3,none,.faddr 0 (.t 1)⟩,⟨some 4,none,.load false 1 (.t 3)⟩,⟨(some 5),none,(.bin .eql false (.t 4) (.c (.str ⟨#[61]⟩)))⟩]) (.cond (.t 5) (.seq (.reg [⟨some 6,none,.faddr 1 (.t 1)⟩,⟨some 7,none,.load false 1 (.t 6)⟩,⟨some 8,none,.len false (.t 7)⟩,⟨some 9,none,.bin .eql false (.t 8) (.c (.int .i64 2))⟩,⟨some 10,none,.mv (.t 9)⟩,⟨(some 11),(some (10,true)),(.load true 2 (.t 1))⟩,⟨(some 12),(some (10,true)),(.call 103 [(.t 11)])⟩,⟨some 13,none,.pick (.t 10) (.t 12) (.c (.bool false))⟩,⟨some 14,none,.mv (.t 13)⟩,⟨(some 15),(some (14,true)),(.faddr 1 (.t 1))⟩,⟨(some 16),(some (14,true)),(.load false 1 (.t 15))⟩,⟨(some 17),(some (14,true)),(.iaddr 2 (.t 16) (.c (.int .i64 0)))⟩,⟨(some 18),(some (14,true)),(.load true 2 (.t 17))⟩,⟨(some 19),(some (14,true)),(.call 104 [(.t 18)])⟩,⟨some 20,none,.pick (.t 14) (.t 19) (.c (.bool false))⟩,⟨some 21,none,.mv (.t 20)⟩,⟨(some 22),(some (21,true)),(.faddr 1 (.t 1))⟩,⟨(some 23),(some (21,true)),(.load false 1 (.t 22))⟩,⟨(some 24),(some (21,true)),(.iaddr 2 (.t 23) (.c (.int .i64 1)))⟩,⟨(some 25),(some (21,true)),(.load true 2 (.t 24))⟩,⟨(some 26),(some (21,true)),(.call 104 [(.t 25)])⟩,⟨some 27,none,.pick (.t 21) (.t 26) (.c (.bool false))⟩,⟨some 2,none,.mv (.t 27)⟩]) .ret) .skip)) (.seq (.reg [⟨some 28,none,.faddr 0 (.t 1)⟩,⟨some 29,none,.load false 1 (.t 28)⟩,⟨some 30,none,.call 105 [(.t 29)]⟩,⟨some 31,none,.mv (.t 30)⟩,⟨(some 32),(some (31,true)),(.load true 2 (.t 1))⟩,⟨(some 33),(some (31,true)),(.call 106 [(.t 32)])⟩,⟨some 34,none,.pick (.t 31) (.t 33) (.c (.bool false))⟩,⟨some 2,none,.mv (.t 34)⟩]) .ret)))
theorem DF:codeOf Tryz.prog 72=some ⟨35,CU,[(.tmp 2)]⟩:=by kernel_rfl
theorem AT:modes 72=⟨[],.asis,none,false⟩:=by unfold modes; rfl
def JB:SC:=(.seq (.reg [⟨some 1,none,.boxv 71 2 (.t 0)⟩,⟨some 2,none,.mv (.c (.bool false))⟩]) (.seq (.reg [⟨some 3,none,.load true 2 (.t 1)⟩,⟨some 4,none,.call 106 [(.t 3)]⟩,⟨some 5,none,.mv (.t 4)⟩,⟨(some 6),(some (5,false)),(.load true 2 (.t 1))⟩,⟨(some 7),(some (5,false)),(.call 72 [(.t 6)])⟩,⟨some 8,none,.pick (.t 5) (.c (.bool true)) (.t 7)⟩,⟨some 2,none,.mv (.t 8)⟩]) .ret))
theorem N2:codeOf Tryz.prog 110=some ⟨9,JB,[(.tmp 2)]⟩:=by kernel_rfl
theorem Fb:modes 110=⟨[],.asis,none,false⟩:=by unfold modes; rfl
theorem LM (x:Tm) (hn:x.nodes≤1099511627776):E 127 [x.sv] []=some (.bool x.small,[]):=by
 have h1:=QcH x hn
 have h2:=Qat x hn
 have h3:=Tm.Nx x
 have h4:=Tm.LK x 30
 unfold Tm.small
 rcases zJ 30 x.nodes with h5 | h5
 ·rw [decide_eq_false (by omega),z7]
  refine Af KI Bj (of_decide_eq_true rfl) ?_
  simp (disch:=omega) only [Hj,go_sem,Aa,h1,h2,Gc,GE]
 ·rw [decide_eq_true h5,yQ]
  refine Af KI Bj (of_decide_eq_true rfl) ?_
  simp (disch:=omega) only [Hj,go_sem,Aa,h1,h2,Gc,GE]
  rcases zJ 8 x.deep with h6 | h6
  ·rw [decide_eq_false (by omega),Az (by omega)]
  ·rw [decide_eq_true h6,As (by omega)]
theorem WR (x:Tm) (hn:x.nodes≤1099511627776):E 103 [x.sv] []=some (.bool x.small,[]):=by
 have h1:=QcI x 30 (by omega) (by omega) hn
 have h2:=TZ x hn
 have h3:=Tm.Nx x
 have h4:=Tm.LK x 30
 unfold Tm.small
 rcases zJ 30 x.nodes with h5 | h5
 ·rw [decide_eq_false (by omega),z7]
  refine Af Mc BH (of_decide_eq_true rfl) ?_
  simp (disch:=omega) only [I4,go_sem,Aa,h1,h2,E1,EZ]
 ·rw [decide_eq_true h5,yQ]
  refine Af Mc BH (of_decide_eq_true rfl) ?_
  simp (disch:=omega) only [I4,go_sem,Aa,h1,h2,E1,EZ]
  rcases zJ 8 x.deep with h6 | h6
  ·rw [decide_eq_false (by omega),Az (by omega)]
  ·rw [decide_eq_true h6,As (by omega)]
theorem Me (x:Tm) (hn:x.nodes≤1099511627776):E 154 [x.sv] []=some (.bool x.valid,[]):=by
 have h1:=LM x hn
 have h2:=JA x hn
 unfold Tm.valid
 cases h3:x.small <;> rw [h3] at h1
 ·refine Af Hk AI (of_decide_eq_true rfl) ?_
  simp (disch:=omega) only [EN,go_sem,Aa,h1,h2,Bj,AP]
 ·refine Af Hk AI (of_decide_eq_true rfl) ?_
  simp (disch:=omega) only [EN,go_sem,Aa,h1,h2,Bj,AP]
theorem R1 (x:Tm) (hn:x.nodes≤1099511627776):E 106 [x.sv] []=some (.bool x.valid,[]):=by
 have h1:=WR x hn
 have h2:=LL x hn
 unfold Tm.valid
 cases h3:x.small <;> rw [h3] at h1
 ·refine Af Md Be (of_decide_eq_true rfl) ?_
  simp (disch:=omega) only [I5,go_sem,Aa,h1,h2,BH,AQ]
 ·refine Af Md Be (of_decide_eq_true rfl) ?_
  simp (disch:=omega) only [I5,go_sem,Aa,h1,h2,BH,AQ]
theorem N3 (x:Tm):E 151 [x.sv] []=some (.bool x.eqn,[]):=by
 unfold Tm.eqn
 refine Af N1 BK (of_decide_eq_true rfl) ?_
 simp (disch:=omega) only [HU,go_sem,Aa]
theorem SP (x:Tm) (hn:x.nodes≤1099511627776):E 119 [x.sv] []=some (.bool x.atom,[]):=by
 have hl:=Tm.length_le x.args
 have hx:=Tm.An x
 have h0:=N3 x
 have h1:=LM x hn
 have h2:=Rx x.name
 have h3:=Me x hn
 have hE:dec (x.name=⟨#[61]⟩)=x.eqn:=rfl
 unfold Tm.atom
 cases he:x.eqn <;> rw [he] at h0 hE
 ·rw [if_neg (by simp)]
  cases hs:ET x.name <;> rw [hs] at h2
  ·refine Af Cb BA (of_decide_eq_true rfl) ?_
   simp (disch:=omega) only [B9,go_sem,Aa,h0,h1,h2,h3,hE,Bj,AP,Bw,AI,BK]
  ·refine Af Cb BA (of_decide_eq_true rfl) ?_
   simp (disch:=omega) only [B9,go_sem,Aa,h0,h1,h2,h3,hE,Bj,AP,Bw,AI,BK]
 ·rw [if_pos rfl]
  by_cases hc:x.args.length=2
  ·have hlt0:0<x.args.length:=by omega
   have hlt1:1<x.args.length:=by omega
   have hg0:=get_at Tm.d hlt0
   have hg1:=get_at Tm.d hlt1
   rw [Tm.d_eq] at hg0 hg1
   have hb0:=Tm.Gb x.args 0 hlt0
   have hb1:=Tm.Gb x.args 1 hlt1
   have hn0:=JA x.args[0] (by omega)
   have hn1:=JA x.args[1] (by omega)
   rw [TX hc,show (x.args.length == 2)=true by simpa using hc]
   cases hs:x.small <;> rw [hs] at h1
   ·refine Af Cb BA (of_decide_eq_true rfl) ?_
    simp (disch:=omega) only [B9,go_sem,Aa,h0,h1,h2,h3,hE,hg0,hg1,hn0,hn1,hc,Bj,AP,Bw,AI,BK]
    try simp
   ·cases hq:(x.args[0]'hlt0).names <;> rw [hq] at hn0
    ·refine Af Cb BA (of_decide_eq_true rfl) ?_
     simp (disch:=omega) only [B9,go_sem,Aa,h0,h1,h2,h3,hE,hg0,hg1,hn0,hn1,hc,Bj,AP,Bw,AI,BK]
     try simp
    ·refine Af Cb BA (of_decide_eq_true rfl) ?_
     simp (disch:=omega) only [B9,go_sem,Aa,h0,h1,h2,h3,hE,hg0,hg1,hn0,hn1,hc,Bj,AP,Bw,AI,BK]
     try simp
  ·refine Af Cb BA (of_decide_eq_true rfl) ?_
   simp (disch:=omega) only [B9,go_sem,Aa,h0,h1,h2,h3,hE,Bj,AP,Bw,AI,BK]
   rw [show (x.args.length == 2)=false by simpa using hc]
   try simp
theorem R2 (x:Tm) (hn:x.nodes≤1099511627776):E 72 [x.sv] []=some (.bool x.atom,[]):=by
 have hl:=Tm.length_le x.args
 have hx:=Tm.An x
 have h0:=N3 x
 have h1:=WR x hn
 have h2:=Ry x.name
 have h3:=R1 x hn
 have hE:dec (x.name=⟨#[61]⟩)=x.eqn:=rfl
 unfold Tm.atom
 cases he:x.eqn <;> rw [he] at h0 hE
 ·rw [if_neg (by simp)]
  cases hs:ET x.name <;> rw [hs] at h2
  ·refine Af DF AT (of_decide_eq_true rfl) ?_
   simp (disch:=omega) only [CU,go_sem,Aa,h0,h1,h2,h3,hE,BH,AQ,Bx,Be]
  ·refine Af DF AT (of_decide_eq_true rfl) ?_
   simp (disch:=omega) only [CU,go_sem,Aa,h0,h1,h2,h3,hE,BH,AQ,Bx,Be]
 ·rw [if_pos rfl]
  by_cases hc:x.args.length=2
  ·have hlt0:0<x.args.length:=by omega
   have hlt1:1<x.args.length:=by omega
   have hg0:=get_at Tm.d hlt0
   have hg1:=get_at Tm.d hlt1
   rw [Tm.d_eq] at hg0 hg1
   have hb0:=Tm.Gb x.args 0 hlt0
   have hb1:=Tm.Gb x.args 1 hlt1
   have hn0:=LL x.args[0] (by omega)
   have hn1:=LL x.args[1] (by omega)
   rw [TX hc,show (x.args.length == 2)=true by simpa using hc]
   cases hs:x.small <;> rw [hs] at h1
   ·refine Af DF AT (of_decide_eq_true rfl) ?_
    simp (disch:=omega) only [CU,go_sem,Aa,h0,h1,h2,h3,hE,hg0,hg1,hn0,hn1,hc,BH,AQ,Bx,Be]
    try simp
   ·cases hq:(x.args[0]'hlt0).names <;> rw [hq] at hn0
    ·refine Af DF AT (of_decide_eq_true rfl) ?_
     simp (disch:=omega) only [CU,go_sem,Aa,h0,h1,h2,h3,hE,hg0,hg1,hn0,hn1,hc,BH,AQ,Bx,Be]
     try simp
    ·refine Af DF AT (of_decide_eq_true rfl) ?_
     simp (disch:=omega) only [CU,go_sem,Aa,h0,h1,h2,h3,hE,hg0,hg1,hn0,hn1,hc,BH,AQ,Bx,Be]
     try simp
  ·refine Af DF AT (of_decide_eq_true rfl) ?_
   simp (disch:=omega) only [CU,go_sem,Aa,h0,h1,h2,h3,hE,BH,AQ,Bx,Be]
   rw [show (x.args.length == 2)=false by simpa using hc]
   try simp
theorem OH {xs ys:List Tm} {k:Nat} (h:k<xs.length) (h':k<ys.length):Tm.cmpL (xs.drop k) (ys.drop k)=orZ (xs[k].cmp ys[k]) (Tm.cmpL (xs.drop (k+1)) (ys.drop (k+1))):=by
 rw [zK h,zK h',Tm.cmpL]
theorem R4 {xs ys:List Tm} {k:Nat} (h:k<xs.length) (h':ys.length≤k):Tm.cmpL (xs.drop k) (ys.drop k)=1:=by
 rw [zK h,zN h',Tm.cmpL]
theorem WS {xs ys:List Tm} {k:Nat} (h:xs.length≤k) (h':k<ys.length):Tm.cmpL (xs.drop k) (ys.drop k)=-1:=by
 rw [zK h',zN h,Tm.cmpL]
theorem OI {xs ys:List Tm} {k:Nat} (h:xs.length≤k) (h':ys.length≤k):Tm.cmpL (xs.drop k) (ys.drop k)=0:=by
 rw [zN h',zN h,Tm.cmpL]
theorem Hl {p:Nat→Int→Bool} {s:ByteArray} (h:Fw p s s.size=true) (hs:0<s.size):p 0 (JP s 0)=true:=by
 unfold Fw at h
 rw [List.all_eq_true] at h
 exact h 0 (yH.2 hs)
theorem Qbq {s:ByteArray} (h:Aq s=true):KA s=true:=by
 have h0:=h
 unfold Aq inB at h
 rw [zB,zB,decide_eq_true_eq,decide_eq_true_eq] at h
 have hs:0<s.size:=by omega
 have h1:=Hl h.1 hs
 unfold JQ at h1
 unfold KA
 rw [h0]
 simp at h1
 simp [hs,h1]
theorem Ua {s:ByteArray} (hs:0<s.size) (h:QZ (JP s 0)=false):KA s=true:=by
 have hv:Aq s=false:=by
  rw [Bool.eq_false_iff]
  intro hv
  unfold Aq at hv
  rw [zB] at hv
  have h1:=Hl hv.1 hs
  unfold JQ at h1
  rw [h] at h1
  simp at h1
 unfold KA
 rw [hv,h]
 simp [hs]
theorem Qbr {s:ByteArray} (h:ET s=true):KA s=true:=by
 unfold ET inB at h
 rw [zB,zB,zB,decide_eq_true_eq,decide_eq_true_eq] at h
 have hs:0<s.size:=by omega
 refine Ua hs ?_
 have h1:=Hl h.1.1 hs
 unfold K8 at h1
 simp at h1
 have h2:=h1.1
 unfold UK at h2
 unfold QZ
 simp at h2 ⊢
 omega
theorem Qbs {s:ByteArray} (h:s.toList=[61]):KA s=true:=by
 have hs:s.size=1:=by
  have:=congrArg List.length h
  rw [ByteArray.toList_eq] at this
  simpa using this
 refine Ua (by omega) ?_
 unfold JP
 rw [h]
 rfl
mutual
theorem Tm.IV:∀ x:Tm,x.names=true→x.cok=true
 | .mk n xs,h=>by
  rw [Tm.names] at h
  rw [Tm.cok,zB]
  split at h
  ·rename_i hv
   have:xs=[]:=by
    rw [beq_iff_eq] at h
    exact yA h
   subst this
   exact ⟨Qbq hv,rfl⟩
  ·rw [zB,zB] at h
   exact ⟨Qbr h.1.1,Tm.ME xs h.2⟩
theorem Tm.ME:∀ xs:List Tm,Tm.DT xs=true→Tm.SL xs=true
 | [],_=>rfl
 | x :: xs,h=>by
  rw [Tm.DT,zB] at h
  rw [Tm.SL,zB]
  exact ⟨Tm.IV x h.1,Tm.ME xs h.2⟩
end
theorem Tm.Hm {x:Tm} (h:x.atom=true):x.cok=true:=by
 unfold Tm.atom at h
 rcases he:x.eqn with _ | _
 ·rw [he,if_neg (by simp),zB] at h
  unfold Tm.valid at h
  rw [zB] at h
  exact Tm.IV x h.2.2
 ·rw [he,if_pos rfl,zB,zB] at h
  unfold Tm.eqn at he
  rw [Ax] at he
  rw [Tm.KB,zB]
  exact ⟨Qbs (by rw [he,ByteArray.toList_eq]),Tm.ME _ h.2⟩
theorem Qbt {s:ByteArray} {k:Nat} (h:k<s.size):Ju s k=JP s k:=by
 rw [←F6 h]
 unfold Ju
 rw [show s[k]?=some s[k] from getElem?_pos s k h]; rfl
theorem Ub {s:ByteArray} (h:KA s=true):0<s.size∧(dec (65≤Ju s 0)&&dec (Ju s 0≤90))=Aq s:=by
 unfold KA at h
 rw [zB,decide_eq_true_eq,beq_iff_eq] at h
 refine ⟨h.1,?_⟩
 rw [←h.2,Qbt h.1,K0,K0]
 unfold QZ
 rfl
theorem Hn (a:ByteArray):strLt a a=false:=by
 unfold strLt
 have key:∀ l:List UInt8,Op.bytesLess l l=false:=by
  intro l
  induction l with
  | nil=>rfl
  | cons x l ih=>simp [Op.bytesLess,ih]
 exact key _
def C6:SC:=(.seq (.reg [⟨some 2,none,.mv (.c (.bool false))⟩]) (.seq (.reg [⟨some 3,none,.mv (.t 0)⟩,⟨some 4,none,.mv (.t 0)⟩,⟨some 5,none,.bin .neq false (.t 3) (.t 4)⟩,⟨some 2,none,.mv (.t 5)⟩]) .ret))
theorem EO:codeOf Tryz.prog 168=some ⟨6,C6,[(.tmp 2)]⟩:=by kernel_rfl
theorem Bg:modes 168=⟨[],.asis,none,false⟩:=by unfold modes; rfl
def D8:SC:=(.seq (.reg [⟨some 2,none,.mv (.c (.bool false))⟩]) (.seq (.reg [⟨some 3,none,.mv (.t 0)⟩,⟨some 4,none,.mv (.t 0)⟩,⟨some 5,none,.bin .neq false (.t 3) (.t 4)⟩,⟨some 2,none,.mv (.t 5)⟩]) .ret))
theorem Gt:codeOf Tryz.prog 156=some ⟨6,D8,[(.tmp 2)]⟩:=by kernel_rfl
theorem B6:modes 156=⟨[],.asis,none,false⟩:=by unfold modes; rfl
def AR:SC:=(.seq (.reg [⟨some 4,none,.mv (.c (.int .i64 0))⟩]) (.seq (.reg [⟨some 7,none,.mv (.t 0)⟩,⟨some 8,none,.call 168 [(.t 7)]⟩,⟨some 5,none,.mv (.t 8)⟩]) (.seq (.reg [⟨some 9,none,.mv (.t 1)⟩,⟨some 10,none,.call 168 [(.t 9)]⟩,⟨some 6,none,.mv (.t 10)⟩]) (.seq (.seq (.reg [⟨some 11,none,.mv (.t 5)⟩]) (.cond (.t 11) (.seq (.seq (.reg [⟨some 12,none,.mv (.t 6)⟩]) (.cond (.t 12) (.seq (.reg [⟨some 4,none,.mv (.c (.int .i64 0))⟩]) .ret) .skip)) (.seq (.reg [⟨some 4,none,.mv (.c (.int .i64 (-(0+1))))⟩]) .ret)) .skip)) (.seq (.seq (.reg [⟨some 13,none,.mv (.t 6)⟩]) (.cond (.t 13) (.seq (.reg [⟨some 4,none,.mv (.c (.int .i64 1))⟩]) .ret) .skip)) (.seq (.seq (.reg [⟨some 14,none,.mv (.t 0)⟩,⟨some 15,none,.mv (.t 1)⟩,⟨some 16,none,.bin .lss false (.t 14) (.t 15)⟩]) (.cond (.t 16) (.seq (.reg [⟨some 4,none,.mv (.c (.int .i64 (-(0+1))))⟩]) .ret) .skip)) (.seq (.seq (.reg [⟨some 17,none,.mv (.t 0)⟩,⟨some 18,none,.mv (.t 1)⟩,⟨some 19,none,.bin .gtr false (.t 17) (.t 18)⟩]) (.cond (.t 19) (.seq (.reg [⟨some 4,none,.mv (.c (.int .i64 1))⟩]) .ret) .skip)) (.seq (.reg [⟨some 4,none,.mv (.c (.int .i64 0))⟩]) .ret))))))))
theorem Bv:codeOf Tryz.prog 136=some ⟨20,AR,[(.tmp 4)]⟩:=by kernel_rfl
theorem AA:modes 136=⟨[],.asis,none,false⟩:=by unfold modes; rfl
def Bo:SC:=(.seq (.reg [⟨some 4,none,.mv (.c (.int .i64 0))⟩]) (.seq (.reg [⟨some 7,none,.mv (.t 0)⟩,⟨some 8,none,.call 156 [(.t 7)]⟩,⟨some 5,none,.mv (.t 8)⟩]) (.seq (.reg [⟨some 9,none,.mv (.t 1)⟩,⟨some 10,none,.call 156 [(.t 9)]⟩,⟨some 6,none,.mv (.t 10)⟩]) (.seq (.seq (.reg [⟨some 11,none,.mv (.t 5)⟩]) (.cond (.t 11) (.seq (.seq (.reg [⟨some 12,none,.mv (.t 6)⟩]) (.cond (.t 12) (.seq (.reg [⟨some 4,none,.mv (.c (.int .i64 0))⟩]) .ret) .skip)) (.seq (.reg [⟨some 4,none,.mv (.c (.int .i64 (-(0+1))))⟩]) .ret)) .skip)) (.seq (.seq (.reg [⟨some 13,none,.mv (.t 6)⟩]) (.cond (.t 13) (.seq (.reg [⟨some 4,none,.mv (.c (.int .i64 1))⟩]) .ret) .skip)) (.seq (.seq (.reg [⟨some 14,none,.mv (.t 0)⟩,⟨some 15,none,.mv (.t 1)⟩,⟨some 16,none,.bin .lss false (.t 14) (.t 15)⟩]) (.cond (.t 16) (.seq (.reg [⟨some 4,none,.mv (.c (.int .i64 (-(0+1))))⟩]) .ret) .skip)) (.seq (.seq (.reg [⟨some 17,none,.mv (.t 0)⟩,⟨some 18,none,.mv (.t 1)⟩,⟨some 19,none,.bin .gtr false (.t 17) (.t 18)⟩]) (.cond (.t 19) (.seq (.reg [⟨some 4,none,.mv (.c (.int .i64 1))⟩]) .ret) .skip)) (.seq (.reg [⟨some 4,none,.mv (.c (.int .i64 0))⟩]) .ret))))))))
theorem BL:codeOf Tryz.prog 122=some ⟨20,Bo,[(.tmp 4)]⟩:=by kernel_rfl
theorem AH:modes 122=⟨[],.asis,none,false⟩:=by unfold modes; rfl
def Fc:SC:=(.seq (.reg [⟨some 2,none,.mv (.c (.int .i64 0))⟩]) (.seq (.reg [⟨some 3,none,.mv (.c (.int .i64 0))⟩]) (.seq (.seq (.reg [⟨some 6,none,.mv (.t 0)⟩,⟨some 7,none,.len false (.t 6)⟩,⟨some 8,none,.mv (.c (.int .i64 0))⟩]) (.block 0 (.loop [0,0,0,1,0,0,1,1,1,0,0,0,0,0,0,0,0,0] (.seq (.reg [⟨some 9,none,.bin .lss false (.t 8) (.t 7)⟩]) (.seq (.cond (.t 9) .skip (.exit 0)) (.seq (.block 1 (.seq (.reg [⟨some 10,none,.iaddr 1 (.t 6) (.t 8)⟩,⟨some 11,none,.load false 1 (.t 10)⟩,⟨some 5,none,.mv (.t 11)⟩]) (.seq (.reg [⟨some 12,none,.mv (.t 5)⟩,⟨some 13,none,.mv (.t 3)⟩,⟨some 14,none,.bin .neq false (.t 12) (.t 13)⟩]) (.cond (.t 14) (.seq (.reg [⟨some 15,none,.mv (.t 5)⟩,⟨some 2,none,.mv (.t 15)⟩]) .ret) .skip)))) (.reg [⟨some 16,none,.bin .add false (.t 8) (.c (.int .i64 1))⟩,⟨some 8,none,.mv (.t 16)⟩]))))))) (.seq (.reg [⟨some 17,none,.mv (.t 3)⟩,⟨some 2,none,.mv (.t 17)⟩]) .ret))))
theorem JC:codeOf Tryz.prog 120=some ⟨18,Fc,[(.tmp 2)]⟩:=by kernel_rfl
theorem Cy:modes 120=⟨[],.asis,none,false⟩:=by unfold modes; rfl
theorem KJ (a:ByteArray):E 168 [.str a] []=some (.bool false,[]):=by
 refine Af EO Bg (of_decide_eq_true rfl) ?_
 simp (disch:=omega) only [C6,go_sem,Aa]
theorem KL (a:Int):E 156 [.int .i64 a] []=some (.bool false,[]):=by
 refine Af Gt B6 (of_decide_eq_true rfl) ?_
 simp (disch:=omega) only [D8,go_sem,Aa]
theorem JD (a b:ByteArray):E 136 [.str a,.str b] []=some (.int .i64 (EK a b),[]):=by
 have h1:=KJ a
 have h2:=KJ b
 unfold EK
 cases h3:strLt a b
 ·cases h4:dec (a=b)
  ·refine Af Bv AA (of_decide_eq_true rfl) ?_
   simp (disch:=omega) only [AR,go_sem,Aa,h1,h2,h3,h4,Bg]
  ·refine Af Bv AA (of_decide_eq_true rfl) ?_
   simp (disch:=omega) only [AR,go_sem,Aa,h1,h2,h3,h4,Bg]
 ·refine Af Bv AA (of_decide_eq_true rfl) ?_
  simp (disch:=omega) only [AR,go_sem,Aa,h1,h2,h3,Bg]
theorem Ho (a b:Int):E 122 [.int .i64 a,.int .i64 b] []=some (.int .i64 (Hd a b),[]):=by
 have h1:=KL a
 have h2:=KL b
 unfold Hd
 cases h3:dec (a<b)
 ·cases h4:dec (b<a)
  ·refine Af BL AH (of_decide_eq_true rfl) ?_
   simp (disch:=omega) only [Bo,go_sem,Aa,h1,h2,h3,h4,B6]
  ·refine Af BL AH (of_decide_eq_true rfl) ?_
   simp (disch:=omega) only [Bo,go_sem,Aa,h1,h2,h3,h4,B6]
 ·refine Af BL AH (of_decide_eq_true rfl) ?_
  simp (disch:=omega) only [Bo,go_sem,Aa,h1,h2,h3,B6]
def orL:List Int→Int
 | []=>0
 | x :: xs=>if x=0 then orL xs else x
theorem QeY (xs:List Int) (hl:xs.length≤1099511627776):E 120 [.arr (xs.map fun n=>[D.int n])] []=some (.int .i64 (orL xs),[]):=by
 refine Af JC Cy (of_decide_eq_true rfl) ?_
 simp (disch:=omega) only [Fc,go_sem,Aa]
 refine go_loop (α:=Int) (fun a=>⟨slots 18 0 [(3,.int .i64 0),(6,.arr (xs.map fun n=>[D.int n])),(7,.int .i64 xs.length),(8,.int .i64 a)],[]⟩) (fun a=>∃ k:Nat,a=k∧k≤(xs).length∧orL (xs.drop k)=orL xs) (fun a=>(xs).length-(a).toNat) 0 ⟨0,rfl,zU _,by rw [zR]⟩ (by simp (disch:=omega) only [go_sem,Aa]) ?_
 rintro i ⟨k,hi,hk,hR⟩
 have hni:i.toNat=k:=by omega
 have hni1:(i+1).toNat=k+1:=by omega
 rcases zJ k (xs).length with hlt | hge
 ·have hg:=get_at (fun n=>[D.int n]) hlt
  rw [zK hlt,orL] at hR
  by_cases h0:xs[k]=0
  ·rw [if_pos h0] at hR
   simp (disch:=omega) only [go_sem,Aa,hni,hg,h0]
   exact ⟨i+1,⟨k+1,by omega,hlt,hR⟩,by omega,by first | trivial | rfl⟩
  ·rw [if_neg h0] at hR
   simp (disch:=omega) only [go_sem,Aa,hni,hg,h0]
   exact hR
 ·rw [zN hge,orL] at hR
  simp (disch:=omega) only [go_sem,Aa,hni]
  exact hR
theorem WT (a b:Int):E 120 [.arr [[.int a],[.int b]]] []=some (.int .i64 (orZ a b),[]):=by
 have h:=QeY [a,b] (by simp)
 have e:orL [a,b]=orZ a b:=by
  simp only [orL,orZ]
  split
  ·split <;> omega
  ·rfl
 rw [e] at h
 exact h
def C7:SC:=(.seq (.reg [⟨some 2,none,.mv (.c (.bool false))⟩]) (.seq (.reg [⟨some 3,none,.mv (.t 0)⟩,⟨some 4,none,.bin .geq false (.t 3) (.c (.int .u8 65))⟩,⟨some 5,none,.mv (.t 4)⟩,⟨(some 6),(some (5,true)),(.mv (.t 0))⟩,⟨(some 7),(some (5,true)),(.bin .leq false (.t 6) (.c (.int .u8 90)))⟩,⟨some 8,none,.pick (.t 5) (.t 7) (.c (.bool false))⟩,⟨some 2,none,.mv (.t 8)⟩]) .ret))
theorem DW:codeOf Tryz.prog 129=some ⟨9,C7,[(.tmp 2)]⟩:=by kernel_rfl
theorem C8:modes 129=⟨[],.asis,none,false⟩:=by unfold modes; rfl
def Fd:SC:=(.seq (.reg [⟨some 1,none,.boxv 71 2 (.t 0)⟩,⟨some 2,none,.mv (.c (.bool false))⟩]) (.seq (.reg [⟨some 3,none,.faddr 0 (.t 1)⟩,⟨some 4,none,.load false 1 (.t 3)⟩,⟨some 5,none,.idx (.t 4) (.c (.int .i64 0))⟩,⟨some 6,none,.call 129 [(.t 5)]⟩,⟨some 2,none,.mv (.t 6)⟩]) .ret))
theorem JE:codeOf Tryz.prog 89=some ⟨7,Fd,[(.tmp 2)]⟩:=by kernel_rfl
theorem Ak:modes 89=⟨[],.asis,none,false⟩:=by unfold modes; rfl
theorem OJ (n:Int):E 129 [.int .u8 n] []=some (.bool (dec (65≤n)&&dec (n≤90)),[]):=by
 cases h1:dec (65≤n)
 ·refine Af DW C8 (of_decide_eq_true rfl) ?_
  simp (disch:=omega) only [C7,go_sem,Aa,h1]
 ·refine Af DW C8 (of_decide_eq_true rfl) ?_
  simp (disch:=omega) only [C7,go_sem,Aa,h1]
theorem De (x:Tm) (h:x.cok=true):E 89 [x.sv] []=some (.bool (Aq x.name),[]):=by
 rw [Tm.KB,zB] at h
 obtain ⟨h1,h2⟩:=Ub h.1
 have h3:=OJ (Ju x.name 0)
 rw [h2] at h3
 refine Af JE Ak (of_decide_eq_true rfl) ?_
 simp (disch:=omega) only [Fd,go_sem,Aa,h3,C8]
def At:SC:=(.seq (.reg [⟨some 6,none,.mv (.c (.int .i64 0))⟩]) (.seq (.seq (.reg [⟨some 11,none,.mv (.t 0)⟩,⟨some 12,none,.len false (.t 11)⟩,⟨some 13,none,.mv (.c (.int .i64 0))⟩]) (.block 0 (.loop [1,1,1,0,0,0,0,0,0,0,0,1,1,1,0,0,0,0,0,0,0,0,0,0,0,0,0,0,0,0,0,0,0,0,0,0,0,0,0] (.seq (.reg [⟨some 14,none,.bin .lss false (.t 13) (.t 12)⟩]) (.seq (.cond (.t 14) .skip (.exit 0)) (.seq (.block 1 (.seq (.reg [⟨some 15,none,.mv (.t 13)⟩,⟨some 16,none,.iaddr 2 (.t 11) (.t 13)⟩,⟨some 17,none,.load true 2 (.t 16)⟩,⟨(some 8),none,(.alloc 71 [(.str ⟨#[]⟩),.nil])⟩,⟨some 7,none,.mv (.t 15)⟩,⟨none,none,(.store 2 (.t 8) (.t 17))⟩]) (.seq (.seq (.reg [⟨some 18,none,.mv (.t 7)⟩,⟨some 19,none,.mv (.t 1)⟩,⟨some 20,none,.len false (.t 19)⟩,⟨some 21,none,.bin .geq false (.t 18) (.t 20)⟩]) (.cond (.t 21) (.seq (.reg [⟨some 6,none,.mv (.c (.int .i64 1))⟩]) .ret) .skip)) (.seq (.reg [⟨some 22,none,.mv (.t 1)⟩,⟨some 23,none,.mv (.t 7)⟩,⟨some 24,none,.iaddr 2 (.t 22) (.t 23)⟩,⟨some 25,none,.load true 2 (.t 24)⟩,⟨(some 9),none,(.alloc 71 [(.str ⟨#[]⟩),.nil])⟩,⟨none,none,(.store 2 (.t 9) (.t 25))⟩]) (.seq (.reg [⟨some 26,none,.mv (.t 2)⟩,⟨some 27,none,.load true 2 (.t 8)⟩,⟨some 28,none,.load true 2 (.t 9)⟩,⟨some 29,none,.callv (.t 26) [(.t 27),(.t 28)]⟩,⟨some 10,none,.mv (.t 29)⟩]) (.seq (.reg [⟨some 30,none,.mv (.t 10)⟩,⟨some 31,none,.bin .neq false (.t 30) (.c (.int .i64 0))⟩]) (.cond (.t 31) (.seq (.reg [⟨some 32,none,.mv (.t 10)⟩,⟨some 6,none,.mv (.t 32)⟩]) .ret) .skip))))))) (.reg [⟨some 33,none,.bin .add false (.t 13) (.c (.int .i64 1))⟩,⟨some 13,none,.mv (.t 33)⟩]))))))) (.seq (.seq (.reg [⟨some 34,none,.mv (.t 0)⟩,⟨some 35,none,.len false (.t 34)⟩,⟨some 36,none,.mv (.t 1)⟩,⟨some 37,none,.len false (.t 36)⟩,⟨some 38,none,.bin .lss false (.t 35) (.t 37)⟩]) (.cond (.t 38) (.seq (.reg [⟨some 6,none,.mv (.c (.int .i64 (-(0+1))))⟩]) .ret) .skip)) (.seq (.reg [⟨some 6,none,.mv (.c (.int .i64 0))⟩]) .ret))))
theorem AB:codeOf Tryz.prog 155=some ⟨39,At,[(.tmp 6)]⟩:=by kernel_rfl
theorem Au:modes 155=⟨[],.asis,none,false⟩:=by unfold modes; rfl
def Bz:SC:=(.seq (.reg [⟨some 2,none,.boxv 71 2 (.t 0)⟩,⟨some 3,none,.boxv 71 2 (.t 1)⟩,⟨some 4,none,.mv (.c (.int .i64 0))⟩]) (.seq (.dreg [[],[0],[],[2,1,0],[1,0,3,2],[3,2,1,0,4]] [⟨some 8,none,.load true 2 (.t 2)⟩,⟨some 9,none,.call 89 [(.t 8)]⟩,⟨some 10,none,.load true 2 (.t 3)⟩,⟨some 11,none,.call 89 [(.t 10)]⟩,⟨some 5,none,.mv (.t 9)⟩,⟨some 6,none,.mv (.t 11)⟩]) (.seq (.block 0 (.seq (.reg [⟨some 13,none,.mv (.t 5)⟩,⟨some 14,none,.mv (.t 13)⟩,⟨(some 15),(some (14,true)),(.mv (.t 6))⟩,⟨(some 16),(some (14,true)),(.un .not (.t 15))⟩,⟨some 17,none,.pick (.t 14) (.t 16) (.c (.bool false))⟩,⟨some 12,none,.mv (.t 17)⟩]) (.cond (.t 12) (.seq (.reg [⟨some 4,none,.mv (.c (.int .i64 (-(0+1))))⟩]) .ret) (.seq (.reg [⟨some 19,none,.mv (.t 6)⟩,⟨some 20,none,.mv (.t 19)⟩,⟨(some 21),(some (20,true)),(.mv (.t 5))⟩,⟨(some 22),(some (20,true)),(.un .not (.t 21))⟩,⟨some 23,none,.pick (.t 20) (.t 22) (.c (.bool false))⟩,⟨some 18,none,.mv (.t 23)⟩]) (.cond (.t 18) (.seq (.reg [⟨some 4,none,.mv (.c (.int .i64 1))⟩]) .ret) .skip))))) (.seq (.seq (.dreg [[],[0],[],[2],[1,0,3,2],[],[5],[6,5],[],[8],[9,8],[7,6,5,10,9,8,4,1,0,3,2],[4,1,0,3,2,11,7,6,5,10,9,8],[12,4,1,0,3,2,11,7,6,5,10,9,8],[13,12,4,1,0,3,2,11,7,6,5,10,9,8]] [⟨some 24,none,.faddr 0 (.t 2)⟩,⟨some 25,none,.load false 1 (.t 24)⟩,⟨some 26,none,.faddr 0 (.t 3)⟩,⟨some 27,none,.load false 1 (.t 26)⟩,⟨some 28,none,.call 136 [(.t 25),(.t 27)]⟩,⟨some 29,none,.faddr 1 (.t 2)⟩,⟨some 30,none,.load false 1 (.t 29)⟩,⟨some 31,none,.len false (.t 30)⟩,⟨some 32,none,.faddr 1 (.t 3)⟩,⟨some 33,none,.load false 1 (.t 32)⟩,⟨some 34,none,.len false (.t 33)⟩,⟨some 35,none,.call 122 [(.t 31),(.t 34)]⟩,⟨some 36,none,.mkrow 3 1 [(.int .i64 0)] 2 [(0,(.t 28)),(1,(.t 35))]⟩,⟨some 37,none,.call 120 [(.t 36)]⟩,⟨some 7,none,.mv (.t 37)⟩]) (.seq (.reg [⟨some 38,none,.mv (.t 7)⟩,⟨some 39,none,.bin .neq false (.t 38) (.c (.int .i64 0))⟩]) (.cond (.t 39) (.seq (.reg [⟨some 40,none,.mv (.t 7)⟩,⟨some 4,none,.mv (.t 40)⟩]) .ret) .skip))) (.seq (.reg [⟨some 41,none,.faddr 1 (.t 2)⟩,⟨some 42,none,.load false 1 (.t 41)⟩,⟨some 43,none,.faddr 1 (.t 3)⟩,⟨some 44,none,.load false 1 (.t 43)⟩,⟨some 45,none,.call 155 [(.t 42),(.t 44),(.c (.fn 121 []))]⟩,⟨some 4,none,.mv (.t 45)⟩]) .ret)))))
theorem Cu:codeOf Tryz.prog 121=some ⟨46,Bz,[(.tmp 4)]⟩:=by kernel_rfl
theorem AW:modes 121=⟨[],.asis,none,false⟩:=by unfold modes; rfl
theorem Eu:Kk Tryz.prog 121=true:=by kernel_rfl
theorem I6 (fid:Nat) (xs ys:List Tm) (hl:xs.length≤1099511627776) (hl':ys.length≤1099511627776) (hg:Kk Tryz.prog fid=true) (hm:(modes fid).hand=[]) (hE:∀ x∈xs,∀ y∈ys,E fid [x.sv,y.sv] []=some (.int .i64 (x.cmp y),[])):E 155 [.arr (xs.map Tm.d),.arr (ys.map Tm.d),.fn fid []] []=some (.int .i64 (Tm.cmpL xs ys),[]):=by
 refine Af AB Au (of_decide_eq_true rfl) ?_
 simp (disch:=omega) only [At,go_sem,Aa]
 refine go_loop (α:=Int) (fun a=>⟨slots 39 0 [(0,.arr (xs.map Tm.d)),(1,.arr (ys.map Tm.d)),(2,.fn fid []),(11,.arr (xs.map Tm.d)),(12,.int .i64 xs.length),(13,.int .i64 a)],[]⟩) (fun a=>∃ k:Nat,a=k∧k≤(xs).length∧k≤ys.length∧Tm.cmpL (xs.drop k) (ys.drop k)=Tm.cmpL xs ys) (fun a=>(xs).length-(a).toNat) 0 ⟨0,rfl,zU _,zU _,by rw [zR,zR]⟩ (by simp (disch:=omega) only [go_sem,Aa]) ?_
 rintro i ⟨k,hi,hk,hR⟩
 have hni:i.toNat=k:=by omega
 have hni1:(i+1).toNat=k+1:=by omega
 rcases zJ k (xs).length with hlt | hge
 ·obtain ⟨hk',hR⟩:=hR
  have hgx:=get_at Tm.d hlt
  rw [Tm.d_eq] at hgx
  rcases zJ k ys.length with hlt' | hge'
  ·have hgy:=get_at Tm.d hlt'
   rw [Tm.d_eq] at hgy
   have hc:=hE xs[k] (zI hlt) ys[k] (zI hlt')
   rw [OH hlt hlt'] at hR
   by_cases h0:xs[k].cmp ys[k]=0
   ·rw [orZ,if_pos h0] at hR
    rw [h0] at hc
    simp (disch:=omega) only [go_sem,Aa,hni,hgx,hgy,hc,hg,hm]
    exact ⟨i+1,⟨k+1,by omega,hlt,hlt',hR⟩,by omega,by first | trivial | rfl⟩
   ·rw [orZ,if_neg h0] at hR
    simp (disch:=omega) only [go_sem,Aa,hni,hgx,hgy,hc,hg,hm,h0]
    exact hR
  ·rw [R4 hlt hge'] at hR
   simp (disch:=omega) only [go_sem,Aa,hni,hgx]
   exact hR
 ·obtain ⟨hk',hR⟩:=hR
  obtain rfl:k=xs.length:=by omega
  rcases zJ xs.length ys.length with hlt' | hge'
  ·rw [WS (zQ _) hlt'] at hR
   simp (disch:=omega) only [go_sem,Aa,hni]
   exact hR
  ·rw [OI (zQ _) hge'] at hR
   simp (disch:=omega) only [go_sem,Aa,hni]
   exact hR
abbrev SQ (f:FuncId) (x y:Tm):Prop:=x.cok=true→y.cok=true→x.nodes≤1099511627776→y.nodes≤1099511627776→E f [x.sv,y.sv] []=some (.int .i64 (x.cmp y),[])
theorem Gu (x:Tm) (ih:∀ x'∈x.args,∀ y,SQ 121 x' y) (y:Tm):SQ 121 x y:=by
 intro hx hy hnx hny
 have lx:=Tm.length_le x.args
 have ly:=Tm.length_le y.args
 have nx:=Tm.An x
 have ny:=Tm.An y
 have h1:=De x hx
 have h2:=De y hy
 have h3:=JD x.name y.name
 have h4:=Ho x.args.length y.args.length
 have h5:=WT (EK x.name y.name) (Hd x.args.length y.args.length)
 rw [Tm.KB,zB] at hx hy
 have h6:=I6 121 x.args y.args (by omega) (by omega) Eu (by rw [AW]) fun x' hx' y' hy'=>ih x' hx' y' (Tm.He hx.2 hx') (Tm.He hy.2 hy') (by have:=Tm.AU hx'; omega) (by have:=Tm.AU hy'; omega)
 rw [Tm.UO]
 cases vx:Aq x.name <;> rw [vx] at h1 <;> cases vy:Aq y.name <;> rw [vy] at h2
 all_goals
  simp only [y9,y6,zO,yY,yQ,z7,if_true,if_false,yB]
  by_cases h0:orZ (EK x.name y.name) (Hd x.args.length y.args.length)=0
  ·rw [h0] at h5
   try rw [h0]
   refine Af Cu AW (of_decide_eq_true rfl) ?_
   simp (disch:=omega) only [Bz,go_sem,Aa,h1,h2,h3,h4,h5,h6,Ak,AA,AH,Cy,Au]
   try rfl
  ·try rw [orZ.eq_1 (orZ _ _) _,if_neg h0]
   refine Af Cu AW (of_decide_eq_true rfl) ?_
   simp (disch:=omega) only [Bz,go_sem,Aa,h0,h1,h2,h3,h4,h5,Ak,AA,AH,Cy]
theorem DX (x y:Tm):SQ 121 x y:=Gu x (fun x' hx' y'=>DX x' y') y
termination_by SizeOf.sizeOf x
decreasing_by exact Tm.Aw hx'
def FL:SC:=(.seq (.reg [⟨some 4,none,.mv (.c (.int .i64 0))⟩]) (.seq (.block 0 (.seq (.reg [⟨some 6,none,.mv (.t 0)⟩,⟨some 7,none,.mv (.t 1)⟩,⟨some 8,none,.bin .lss false (.t 6) (.t 7)⟩,⟨some 5,none,.mv (.t 8)⟩]) (.cond (.t 5) (.seq (.reg [⟨some 4,none,.mv (.c (.int .i64 (-(0+1))))⟩]) .ret) (.seq (.reg [⟨some 10,none,.mv (.t 0)⟩,⟨some 11,none,.mv (.t 1)⟩,⟨some 12,none,.bin .gtr false (.t 10) (.t 11)⟩,⟨some 9,none,.mv (.t 12)⟩]) (.cond (.t 9) (.seq (.reg [⟨some 4,none,.mv (.c (.int .i64 1))⟩]) .ret) .skip))))) (.seq (.reg [⟨some 4,none,.mv (.c (.int .i64 0))⟩]) .ret)))
theorem I7:codeOf Tryz.prog 146=some ⟨13,FL,[(.tmp 4)]⟩:=by kernel_rfl
theorem FN:modes 146=⟨[],.asis,none,false⟩:=by unfold modes; rfl
def Cc:SC:=(.seq (.reg [⟨some 2,none,.boxv 71 2 (.t 0)⟩,⟨some 3,none,.boxv 71 2 (.t 1)⟩,⟨some 4,none,.mv (.c (.int .i64 0))⟩]) (.seq (.dreg [[],[0],[1,0],[],[3],[4,3,2,1,0],[2,1,0,5,4,3],[5,4,3,2,1,0,6]] [⟨some 9,none,.faddr 0 (.t 2)⟩,⟨some 10,none,.load false 1 (.t 9)⟩,⟨some 11,none,.call 77 [(.t 10)]⟩,⟨some 12,none,.faddr 0 (.t 3)⟩,⟨some 13,none,.load false 1 (.t 12)⟩,⟨some 14,none,.call 77 [(.t 13)]⟩,⟨some 5,none,.mv (.t 11)⟩,⟨some 6,none,.mv (.t 14)⟩]) (.seq (.block 0 (.seq (.reg [⟨some 16,none,.mv (.t 5)⟩,⟨some 17,none,.mv (.t 16)⟩,⟨(some 18),(some (17,true)),(.mv (.t 6))⟩,⟨(some 19),(some (17,true)),(.un .not (.t 18))⟩,⟨some 20,none,.pick (.t 17) (.t 19) (.c (.bool false))⟩,⟨some 15,none,.mv (.t 20)⟩]) (.cond (.t 15) (.seq (.reg [⟨some 4,none,.mv (.c (.int .i64 (-(0+1))))⟩]) .ret) (.seq (.reg [⟨some 22,none,.mv (.t 5)⟩,⟨some 23,none,.un .not (.t 22)⟩,⟨some 24,none,.mv (.t 23)⟩,⟨(some 25),(some (24,true)),(.mv (.t 6))⟩,⟨some 26,none,.pick (.t 24) (.t 25) (.c (.bool false))⟩,⟨some 21,none,.mv (.t 26)⟩]) (.cond (.t 21) (.seq (.reg [⟨some 4,none,.mv (.c (.int .i64 1))⟩]) .ret) (.seq (.reg [⟨some 28,none,.faddr 0 (.t 2)⟩,⟨some 29,none,.load false 1 (.t 28)⟩,⟨some 30,none,.faddr 0 (.t 3)⟩,⟨some 31,none,.load false 1 (.t 30)⟩,⟨some 32,none,.bin .neq false (.t 29) (.t 31)⟩,⟨some 27,none,.mv (.t 32)⟩]) (.cond (.t 27) (.seq (.reg [⟨some 33,none,.faddr 0 (.t 2)⟩,⟨some 34,none,.load false 1 (.t 33)⟩,⟨some 35,none,.faddr 0 (.t 3)⟩,⟨some 36,none,.load false 1 (.t 35)⟩,⟨some 37,none,.call 146 [(.t 34),(.t 36)]⟩,⟨some 4,none,.mv (.t 37)⟩]) .ret) (.seq (.reg [⟨some 39,none,.faddr 1 (.t 2)⟩,⟨some 40,none,.load false 1 (.t 39)⟩,⟨some 41,none,.len false (.t 40)⟩,⟨some 42,none,.faddr 1 (.t 3)⟩,⟨some 43,none,.load false 1 (.t 42)⟩,⟨some 44,none,.len false (.t 43)⟩,⟨some 45,none,.bin .lss false (.t 41) (.t 44)⟩,⟨some 38,none,.mv (.t 45)⟩]) (.cond (.t 38) (.seq (.reg [⟨some 4,none,.mv (.c (.int .i64 (-(0+1))))⟩]) .ret) (.seq (.reg [⟨some 47,none,.faddr 1 (.t 2)⟩,⟨some 48,none,.load false 1 (.t 47)⟩,⟨some 49,none,.len false (.t 48)⟩,⟨some 50,none,.faddr 1 (.t 3)⟩,⟨some 51,none,.load false 1 (.t 50)⟩,⟨some 52,none,.len false (.t 51)⟩,⟨some 53,none,.bin .gtr false (.t 49) (.t 52)⟩,⟨some 46,none,.mv (.t 53)⟩]) (.cond (.t 46) (.seq (.reg [⟨some 4,none,.mv (.c (.int .i64 1))⟩]) .ret) .skip))))))))))) (.seq (.seq (.reg [⟨some 7,none,.mv (.c (.int .i64 0))⟩]) (.block 1 (.loop [0,0,1,1,0,0,0,1,0,0,0,0,0,0,0,0,0,0,0,0,0,0,0,0,0,0,0,0,0,0,0,0,0,0,0,0,0,0,0,0,0,0,0,0,0,0,0,0,0,0,0,0,0,0,0,0,0,0,0,0,0,0,0,0,0,0,0,0,0,0,0,0,0,0,0] (.seq (.seq (.reg [⟨some 54,none,.mv (.t 7)⟩,⟨some 55,none,.faddr 1 (.t 2)⟩,⟨some 56,none,.load false 1 (.t 55)⟩,⟨some 57,none,.len false (.t 56)⟩,⟨some 58,none,.bin .lss false (.t 54) (.t 57)⟩]) (.cond (.t 58) .skip (.exit 1))) (.seq (.block 2 (.seq (.dreg [[],[0],[],[1,0,2],[3,1,0,2],[],[5],[],[6,5,7],[8,6,5,7],[4,3,1,0,2,9,8,6,5,7],[10,4,3,1,0,2,9,8,6,5,7]] [⟨some 61,none,.faddr 1 (.t 2)⟩,⟨some 62,none,.load false 1 (.t 61)⟩,⟨some 63,none,.mv (.t 7)⟩,⟨some 64,none,.iaddr 2 (.t 62) (.t 63)⟩,⟨some 65,none,.load true 2 (.t 64)⟩,⟨some 66,none,.faddr 1 (.t 3)⟩,⟨some 67,none,.load false 1 (.t 66)⟩,⟨some 68,none,.mv (.t 7)⟩,⟨some 69,none,.iaddr 2 (.t 67) (.t 68)⟩,⟨some 70,none,.load true 2 (.t 69)⟩,⟨some 71,none,.call 107 [(.t 65),(.t 70)]⟩,⟨some 8,none,.mv (.t 71)⟩]) (.seq (.reg [⟨some 72,none,.mv (.t 8)⟩,⟨some 73,none,.bin .neq false (.t 72) (.c (.int .i64 0))⟩]) (.cond (.t 73) (.seq (.reg [⟨some 74,none,.mv (.t 8)⟩,⟨some 4,none,.mv (.t 74)⟩]) .ret) .skip)))) (.reg [⟨some 59,none,.mv (.t 7)⟩,⟨some 60,none,.bin .add false (.t 59) (.c (.int .i64 1))⟩,⟨some 7,none,.mv (.t 60)⟩])))))) (.seq (.reg [⟨some 4,none,.mv (.c (.int .i64 0))⟩]) .ret)))))
theorem C4:codeOf Tryz.prog 107=some ⟨75,Cc,[(.tmp 4)]⟩:=by kernel_rfl
theorem Bl:modes 107=⟨[],.asis,none,false⟩:=by unfold modes; rfl
theorem QcL (a b:ByteArray):E 146 [.str a,.str b] []=some (.int .i64 (EK a b),[]):=by
 unfold EK
 cases h3:strLt a b
 ·cases h4:dec (a=b)
  ·refine Af I7 FN (of_decide_eq_true rfl) ?_
   simp (disch:=omega) only [FL,go_sem,Aa,h3,h4]
  ·refine Af I7 FN (of_decide_eq_true rfl) ?_
   simp (disch:=omega) only [FL,go_sem,Aa,h3,h4]
 ·refine Af I7 FN (of_decide_eq_true rfl) ?_
  simp (disch:=omega) only [FL,go_sem,Aa,h3]
theorem Qeo {a b:ByteArray} (h:¬ a=b):EK a b≠0:=by
 unfold EK
 rw [Az h]
 cases strLt a b <;> simp
theorem Qep (a:ByteArray):EK a a=0:=by
 unfold EK
 rw [Hn,As rfl]; rfl
theorem Vj (x:Tm) (ih:∀ x'∈x.args,∀ y,SQ 107 x' y) (y:Tm):SQ 107 x y:=by
 intro hx hy hnx hny
 have lx:=Tm.length_le x.args
 have ly:=Tm.length_le y.args
 have nx:=Tm.An x
 have ny:=Tm.An y
 have h1:=Am x.name
 have h2:=Am y.name
 have h3:=QcL x.name y.name
 rw [Tm.KB,zB] at hx hy
 rw [Tm.UO]
 cases vx:Aq x.name <;> rw [vx] at h1 <;> cases vy:Aq y.name <;> rw [vy] at h2
 case' false.true =>
           refine Af C4 Bl (of_decide_eq_true rfl) ?_
           simp (disch:=omega) only [Cc,go_sem,Aa,h1,h2,Ah]
 case' true.false =>
           refine Af C4 Bl (of_decide_eq_true rfl) ?_
           simp (disch:=omega) only [Cc,go_sem,Aa,h1,h2,Ah]
 case' false.false=>skip
 case' true.true=>skip
 all_goals (try trivial)
 all_goals
  simp only [y9,y6,zO,yY,yQ,z7,if_true,if_false,yB]
  by_cases h0:x.name=y.name
  ·rw [show EK x.name y.name=0 by rw [h0]; exact Qep _]
   unfold Hd
   rcases zJ x.args.length y.args.length with h4 | h4
   ·rw [As (by omega)]
    refine Af C4 Bl (of_decide_eq_true rfl) ?_
    simp (disch:=omega) only [Cc,go_sem,Aa,h0,h1,h2,Ah]
    rfl
   ·rcases zJ y.args.length x.args.length with h5 | h5
    ·rw [Az (by omega),As (by omega)]
     refine Af C4 Bl (of_decide_eq_true rfl) ?_
     simp (disch:=omega) only [Cc,go_sem,Aa,h0,h1,h2,Ah]
     rfl
    ·rw [Az (by omega),Az (by omega)]
     refine Af C4 Bl (of_decide_eq_true rfl) ?_
     simp (disch:=omega) only [Cc,go_sem,Aa,h0,h1,h2,Ah]
     refine go_loop (α:=Int) (fun a=>⟨slots 75 0 [(2,.ptr 0 0),(3,.ptr 1 0),(7,.int .i64 a)],[.box 71 [.str x.name,.arr (x.args.map Tm.d)],.box 71 [.str y.name,.arr (y.args.map Tm.d)]]⟩) (fun a=>∃ k:Nat,a=k∧k≤(x.args).length∧Tm.cmpL (x.args.drop k) (y.args.drop k)=Tm.cmpL x.args y.args) (fun a=>(x.args).length-(a).toNat) 0 ⟨0,rfl,zU _,by rw [zR,zR]⟩ (by simp (disch:=omega) only [go_sem,Aa,h0]) ?_
     rintro i ⟨k,hi,hk,hR⟩
     have hni:i.toNat=k:=by omega
     have hni1:(i+1).toNat=k+1:=by omega
     rcases zJ k (x.args).length with hlt | hge
     ·have hlt':k<y.args.length:=by omega
      have hgx:=get_at Tm.d hlt
      rw [Tm.d_eq] at hgx
      have hgy:=get_at Tm.d hlt'
      rw [Tm.d_eq] at hgy
      have hc:=ih x.args[k] (zI hlt) y.args[k] (Tm.He hx.2 (zI hlt)) (Tm.He hy.2 (zI hlt')) (by have:=Tm.Gb x.args k hlt; omega) (by have:=Tm.Gb y.args k hlt'; omega)
      rw [OH hlt hlt'] at hR
      by_cases hz:x.args[k].cmp y.args[k]=0
      ·rw [orZ,if_pos hz] at hR
       rw [hz] at hc
       simp (disch:=omega) only [go_sem,Aa,hni,hgx,hgy,hc,Bl]
       exact ⟨i+1,⟨k+1,by omega,hlt,hR⟩,by omega,by first | trivial | rfl | simp only [h0,and_self]⟩
      ·rw [orZ,if_neg hz] at hR
       simp (disch:=omega) only [go_sem,Aa,hni,hgx,hgy,hc,hz,Bl]
       exact hR
     ·rw [OI hge (by omega)] at hR
      simp (disch:=omega) only [go_sem,Aa,hni]
      exact hR
  ·have h6:=Qeo h0
   rw [show orZ (orZ (EK x.name y.name) (Hd x.args.length y.args.length)) (Tm.cmpL x.args y.args)=EK x.name y.name by unfold orZ; rw [if_neg h6,if_neg h6]]
   refine Af C4 Bl (of_decide_eq_true rfl) ?_
   simp (disch:=omega) only [Cc,go_sem,Aa,h0,h1,h2,h3,Ah,FN]
theorem P4 (x y:Tm):SQ 107 x y:=Vj x (fun x' hx' y'=>P4 x' y') y
termination_by SizeOf.sizeOf x
decreasing_by exact Tm.Aw hx'
noncomputable def Qbu (xs:List Lt) (k:Nat):Bool:=match xs[k]? with
 | none=>true
 | some x=>x.atom.atom&&(match k with
  | 0=>true
  | j+1=>match xs[j]? with
   | none=>true
   | some y=>decide (y.cmp x < 0))
noncomputable def GF (xs:List Lt):Nat→Bool
 | 0=>true
 | k+1=>GF xs k&&Qbu xs k
theorem Qbv {xs:List Lt} {k n:Nat} (h:GF xs k=false) (hn:k≤n):GF xs n=false:=by
 induction n with
 | zero =>
      obtain rfl:k=0:=by omega
      exact h
 | succ n ih =>
  rcases zJ n k with h1 | h1
  ·obtain rfl:k=n+1:=by omega
   exact h
  ·rw [GF,ih h1]; rfl
theorem GN {xs:List Lt} (h:0<xs.length):Qbu xs 0=xs[0].atom.atom:=by
 unfold Qbu
 rw [zA h]
 simp
theorem El {xs:List Lt} {j:Nat} (h:j+1<xs.length):Qbu xs (j+1)=(xs[j+1].atom.atom&&decide (xs[j].cmp xs[j+1]<0)):=by
 unfold Qbu
 rw [zA h]
 simp only [zA (show j<xs.length by omega)]
theorem OK {xs:List Lt} {k j:Nat} (h:GF xs k=true) (hj:j<k) (hl:j<xs.length):xs[j].atom.atom=true:=by
 induction k with
 | zero=>omega
 | succ k ih =>
  rw [GF,zB] at h
  rcases zJ j k with h1 | h1
  ·exact ih h.1 h1
  ·obtain rfl:j=k:=by omega
   cases j with
   | zero=>rw [←GN hl]; exact h.2
   | succ j =>
    have:=h.2
    rw [El hl,zB] at this
    exact this.1
noncomputable def Cl.ok (x:Cl):Bool:=decide (x.lits.length≤8)&&GF x.lits x.lits.length
theorem Cl.not_ok {x:Cl} {k:Nat} (h:GF x.lits k=true) (h':Qbu x.lits k=false) (hk:k<x.lits.length):x.ok=false:=by
 have:GF x.lits x.lits.length=false:=Qbv (k:=k+1) (by rw [GF,h,h']; rfl) (by omega)
 unfold Cl.ok
 rw [this,yY]
def Cl.tame (x:Cl):Prop:=x.lits.length≤1099511627776∧∀ y∈x.lits,y.atom.nodes≤1099511627776
theorem Cl.tame_at {x:Cl} (h:x.tame) {k:Nat} (hk:k<x.lits.length):x.lits[k].atom.nodes≤1099511627776:=h.2 _ (zI hk)
def DY:SC:=(.seq (.reg [⟨some 2,none,.mv (.c (.int .i64 0))⟩]) (.seq (.seq (.reg [⟨some 3,none,.mv (.t 0)⟩]) (.cond (.t 3) (.seq (.reg [⟨some 2,none,.mv (.c (.int .i64 1))⟩]) .ret) .skip)) (.seq (.reg [⟨some 2,none,.mv (.c (.int .i64 0))⟩]) .ret)))
theorem Gd:codeOf Tryz.prog 123=some ⟨4,DY,[(.tmp 2)]⟩:=by kernel_rfl
theorem DZ:modes 123=⟨[],.asis,none,false⟩:=by unfold modes; rfl
def BM:SC:=(.seq (.reg [⟨some 2,none,.boxv 73 3 (.t 0)⟩,⟨some 3,none,.boxv 73 3 (.t 1)⟩,⟨some 4,none,.mv (.c (.int .i64 0))⟩]) (.seq (.dreg [[],[0],[],[2],[1,0,3,2],[],[5],[6,5,4,1,0,3,2],[],[8],[9,8,7,6,5,4,1,0,3,2],[7,6,5,4,1,0,3,2,10,9,8],[4,1,0,3,2,11,7,6,5,10,9,8],[12,4,1,0,3,2,11,7,6,5,10,9,8],[13,12,4,1,0,3,2,11,7,6,5,10,9,8]] [⟨some 5,none,.faddr 1 (.t 2)⟩,⟨some 6,none,.load true 2 (.t 5)⟩,⟨some 7,none,.faddr 1 (.t 3)⟩,⟨some 8,none,.load true 2 (.t 7)⟩,⟨some 9,none,.call 121 [(.t 6),(.t 8)]⟩,⟨some 10,none,.faddr 0 (.t 2)⟩,⟨some 11,none,.load false 1 (.t 10)⟩,⟨some 12,none,.call 123 [(.t 11)]⟩,⟨some 13,none,.faddr 0 (.t 3)⟩,⟨some 14,none,.load false 1 (.t 13)⟩,⟨some 15,none,.call 123 [(.t 14)]⟩,⟨some 16,none,.call 122 [(.t 12),(.t 15)]⟩,⟨some 17,none,.mkrow 3 1 [(.int .i64 0)] 2 [(0,(.t 9)),(1,(.t 16))]⟩,⟨some 18,none,.call 120 [(.t 17)]⟩,⟨some 4,none,.mv (.t 18)⟩]) .ret))
theorem Dz:codeOf Tryz.prog 83=some ⟨19,BM,[(.tmp 4)]⟩:=by kernel_rfl
theorem Bh:modes 83=⟨[],.asis,none,false⟩:=by unfold modes; rfl
def Fe:SC:=(.seq (.reg [⟨some 2,none,.boxv 73 3 (.t 0)⟩,⟨some 3,none,.boxv 73 3 (.t 1)⟩,⟨some 4,none,.mv (.c (.int .i64 0))⟩]) (.seq (.reg [⟨some 6,none,.faddr 1 (.t 2)⟩,⟨some 7,none,.load true 2 (.t 6)⟩,⟨some 8,none,.faddr 1 (.t 3)⟩,⟨some 9,none,.load true 2 (.t 8)⟩,⟨some 10,none,.call 107 [(.t 7),(.t 9)]⟩,⟨some 5,none,.mv (.t 10)⟩]) (.seq (.block 0 (.seq (.reg [⟨some 12,none,.mv (.t 5)⟩,⟨some 13,none,.bin .neq false (.t 12) (.c (.int .i64 0))⟩,⟨some 11,none,.mv (.t 13)⟩]) (.cond (.t 11) (.seq (.reg [⟨some 14,none,.mv (.t 5)⟩,⟨some 4,none,.mv (.t 14)⟩]) .ret) (.seq (.reg [⟨some 16,none,.faddr 0 (.t 2)⟩,⟨some 17,none,.load false 1 (.t 16)⟩,⟨some 18,none,.un .not (.t 17)⟩,⟨some 19,none,.mv (.t 18)⟩,⟨(some 20),(some (19,true)),(.faddr 0 (.t 3))⟩,⟨(some 21),(some (19,true)),(.load false 1 (.t 20))⟩,⟨some 22,none,.pick (.t 19) (.t 21) (.c (.bool false))⟩,⟨some 15,none,.mv (.t 22)⟩]) (.cond (.t 15) (.seq (.reg [⟨some 4,none,.mv (.c (.int .i64 (-(0+1))))⟩]) .ret) (.seq (.reg [⟨some 24,none,.faddr 0 (.t 2)⟩,⟨some 25,none,.load false 1 (.t 24)⟩,⟨some 26,none,.mv (.t 25)⟩,⟨(some 27),(some (26,true)),(.faddr 0 (.t 3))⟩,⟨(some 28),(some (26,true)),(.load false 1 (.t 27))⟩,⟨(some 29),(some (26,true)),(.un .not (.t 28))⟩,⟨some 30,none,.pick (.t 26) (.t 29) (.c (.bool false))⟩,⟨some 23,none,.mv (.t 30)⟩]) (.cond (.t 23) (.seq (.reg [⟨some 4,none,.mv (.c (.int .i64 1))⟩]) .ret) .skip))))))) (.seq (.reg [⟨some 4,none,.mv (.c (.int .i64 0))⟩]) .ret))))
theorem HV:codeOf Tryz.prog 73=some ⟨31,Fe,[(.tmp 4)]⟩:=by kernel_rfl
theorem Bp:modes 73=⟨[],.asis,none,false⟩:=by unfold modes; rfl
def Fx:SC:=(.seq (.reg [⟨some 1,none,.boxv 73 3 (.t 0)⟩,⟨some 2,none,.mv (.c (.bool false))⟩]) (.seq (.reg [⟨some 3,none,.faddr 1 (.t 1)⟩,⟨some 4,none,.load true 2 (.t 3)⟩,⟨some 5,none,.call 119 [(.t 4)]⟩,⟨some 2,none,.mv (.t 5)⟩]) .ret))
theorem Kl:codeOf Tryz.prog 82=some ⟨6,Fx,[(.tmp 2)]⟩:=by kernel_rfl
theorem BZ:modes 82=⟨[],.asis,none,false⟩:=by unfold modes; rfl
def Ge:SC:=(.seq (.reg [⟨some 1,none,.boxv 28 1 (.t 0)⟩,⟨some 2,none,.mv (.c (.bool false))⟩]) (.seq (.seq (.reg [⟨some 5,none,.faddr 0 (.t 1)⟩,⟨some 6,none,.load false 1 (.t 5)⟩,⟨some 7,none,.len false (.t 6)⟩,⟨some 8,none,.mv (.c (.int .i64 0))⟩]) (.block 0 (.loop [0,1,0,0,0,0,1,1,1,0,0,0,0,0,0,0,0,0,0,0,0,0,0,0,0,0,0,0,0,0,0,0,0,0,0,0] (.seq (.reg [⟨some 9,none,.bin .lss false (.t 8) (.t 7)⟩]) (.seq (.cond (.t 9) .skip (.exit 0)) (.seq (.block 1 (.seq (.reg [⟨some 10,none,.mv (.t 8)⟩,⟨some 11,none,.iaddr 3 (.t 6) (.t 8)⟩,⟨some 12,none,.load true 3 (.t 11)⟩,⟨(some 4),none,(.alloc 73 [(.bool false),(.str ⟨#[]⟩),.nil])⟩,⟨some 3,none,.mv (.t 10)⟩,⟨none,none,(.store 3 (.t 4) (.t 12))⟩]) (.seq (.dreg [[],[0],[1,0],[2,1,0],[3,2,1,0],[4,3,2,1,0],[5,4,3,2,1,0],[6,5,4,3,2,1,0],[7,6,5,4,3,2,1,0],[6,5,4,3,2,1,0],[9,6,5,4,3,2,1,0],[8,7,6,5,4,3,2,1,0,10,9],[11,8,7,6,5,4,3,2,1,0,10,9],[6,5,4,3,2,1,0],[12,11,8,7,6,5,4,3,2,1,0,10,9,13],[14,12,11,8,7,6,5,4,3,2,1,0,10,9,13],[6,5,4,3,2,1,0,15,14,12,11,8,7,10,9,13],[3,2,1,0,16,6,5,4,15,14,12,11,8,7,10,9,13]] [⟨some 13,none,.load true 3 (.t 4)⟩,⟨some 14,none,.call 82 [(.t 13)]⟩,⟨some 15,none,.un .not (.t 14)⟩,⟨some 16,none,.mv (.t 15)⟩,⟨(some 17),(some (16,false)),(.mv (.t 3))⟩,⟨(some 18),(some (16,false)),(.bin .gtr false (.t 17) (.c (.int .i64 0)))⟩,⟨(some 19),(some (16,false)),(.mv (.t 18))⟩,⟨(some 20),(some (19,true)),(.faddr 0 (.t 1))⟩,⟨(some 21),(some (19,true)),(.load false 1 (.t 20))⟩,⟨(some 22),(some (19,true)),(.mv (.t 3))⟩,⟨(some 23),(some (19,true)),(.bin .sub false (.t 22) (.c (.int .i64 1)))⟩,⟨(some 24),(some (19,true)),(.iaddr 3 (.t 21) (.t 23))⟩,⟨(some 25),(some (19,true)),(.load true 3 (.t 24))⟩,⟨(some 26),(some (19,true)),(.load true 3 (.t 4))⟩,⟨(some 27),(some (19,true)),(.call 83 [(.t 25),(.t 26)])⟩,⟨(some 28),(some (19,true)),(.bin .geq false (.t 27) (.c (.int .i64 0)))⟩,⟨(some 29),(some (16,false)),(.pick (.t 19) (.t 28) (.c (.bool false)))⟩,⟨some 30,none,.pick (.t 16) (.c (.bool true)) (.t 29)⟩]) (.cond (.t 30) (.seq (.reg [⟨some 2,none,.mv (.c (.bool false))⟩]) .ret) .skip)))) (.reg [⟨some 31,none,.bin .add false (.t 8) (.c (.int .i64 1))⟩,⟨some 8,none,.mv (.t 31)⟩]))))))) (.seq (.reg [⟨some 32,none,.faddr 0 (.t 1)⟩,⟨some 33,none,.load false 1 (.t 32)⟩,⟨some 34,none,.len false (.t 33)⟩,⟨some 35,none,.bin .leq false (.t 34) (.c (.int .i64 8))⟩,⟨some 2,none,.mv (.t 35)⟩]) .ret)))
theorem KM:codeOf Tryz.prog 54=some ⟨36,Ge,[(.tmp 2)]⟩:=by kernel_rfl
theorem Cq:modes 54=⟨[],.asis,none,false⟩:=by unfold modes; rfl
def I8:SC:=(.seq (.reg [⟨some 1,none,.boxv 28 1 (.t 0)⟩,⟨some 2,none,.mv (.c (.bool false))⟩]) (.seq (.seq (.reg [⟨some 4,none,.faddr 0 (.t 1)⟩,⟨some 5,none,.load false 1 (.t 4)⟩,⟨some 6,none,.len false (.t 5)⟩,⟨some 7,none,.bin .gtr false (.t 6) (.c (.int .i64 8))⟩]) (.cond (.t 7) (.seq (.reg [⟨some 2,none,.mv (.c (.bool false))⟩]) .ret) .skip)) (.seq (.seq (.reg [⟨some 3,none,.mv (.c (.int .i64 0))⟩]) (.block 0 (.loop [0,1,0,1,0,0,0,0,0,0,0,0,0,0,0,0,0,0,0,0,0,0,0,0,0,0,0,0,0,0,0,0,0,0,0,0,0,0,0,0,0,0] (.seq (.seq (.reg [⟨some 8,none,.mv (.t 3)⟩,⟨some 9,none,.faddr 0 (.t 1)⟩,⟨some 10,none,.load false 1 (.t 9)⟩,⟨some 11,none,.len false (.t 10)⟩,⟨some 12,none,.bin .lss false (.t 8) (.t 11)⟩]) (.cond (.t 12) .skip (.exit 0))) (.seq (.block 1 (.seq (.dreg [[],[0],[],[1,0,2],[3,1,0,2],[4,3,1,0,2],[5,4,3,1,0,2],[6,5,4,3,1,0,2],[7,6,5,4,3,1,0,2],[8,7,6,5,4,3,1,0,2],[9,8,7,6,5,4,3,1,0,2],[10,9,8,7,6,5,4,3,1,0,2],[11,10,9,8,7,6,5,4,3,1,0,2],[12,11,10,9,8,7,6,5,4,3,1,0,2],[11,10,9,8,7,6,5,4,3,1,0,2],[14,11,10,9,8,7,6,5,4,3,1,0,2],[13,12,11,10,9,8,7,6,5,4,3,1,0,2,15,14],[16,13,12,11,10,9,8,7,6,5,4,3,1,0,2,15,14],[11,10,9,8,7,6,5,4,3,1,0,2],[18,11,10,9,8,7,6,5,4,3,1,0,2],[11,10,9,8,7,6,5,4,3,1,0,2],[19,18,11,10,9,8,7,6,5,4,3,1,0,2,20],[21,19,18,11,10,9,8,7,6,5,4,3,1,0,2,20],[17,16,13,12,11,10,9,8,7,6,5,4,3,1,0,2,15,14,22,21,19,18,20],[23,17,16,13,12,11,10,9,8,7,6,5,4,3,1,0,2,15,14,22,21,19,18,20],[11,10,9,8,7,6,5,4,3,1,0,2,24,23,17,16,13,12,15,14,22,21,19,18,20],[8,7,6,5,4,3,1,0,2,25,11,10,9,24,23,17,16,13,12,15,14,22,21,19,18,20]] [⟨some 15,none,.faddr 0 (.t 1)⟩,⟨some 16,none,.load false 1 (.t 15)⟩,⟨some 17,none,.mv (.t 3)⟩,⟨some 18,none,.iaddr 3 (.t 16) (.t 17)⟩,⟨some 19,none,.faddr 1 (.t 18)⟩,⟨some 20,none,.load true 2 (.t 19)⟩,⟨some 21,none,.call 72 [(.t 20)]⟩,⟨some 22,none,.un .not (.t 21)⟩,⟨some 23,none,.mv (.t 22)⟩,⟨(some 24),(some (23,false)),(.mv (.t 3))⟩,⟨(some 25),(some (23,false)),(.bin .gtr false (.t 24) (.c (.int .i64 0)))⟩,⟨(some 26),(some (23,false)),(.mv (.t 25))⟩,⟨(some 27),(some (26,true)),(.faddr 0 (.t 1))⟩,⟨(some 28),(some (26,true)),(.load false 1 (.t 27))⟩,⟨(some 29),(some (26,true)),(.mv (.t 3))⟩,⟨(some 30),(some (26,true)),(.bin .sub false (.t 29) (.c (.int .i64 1)))⟩,⟨(some 31),(some (26,true)),(.iaddr 3 (.t 28) (.t 30))⟩,⟨(some 32),(some (26,true)),(.load true 3 (.t 31))⟩,⟨(some 33),(some (26,true)),(.faddr 0 (.t 1))⟩,⟨(some 34),(some (26,true)),(.load false 1 (.t 33))⟩,⟨(some 35),(some (26,true)),(.mv (.t 3))⟩,⟨(some 36),(some (26,true)),(.iaddr 3 (.t 34) (.t 35))⟩,⟨(some 37),(some (26,true)),(.load true 3 (.t 36))⟩,⟨(some 38),(some (26,true)),(.call 73 [(.t 32),(.t 37)])⟩,⟨(some 39),(some (26,true)),(.bin .geq false (.t 38) (.c (.int .i64 0)))⟩,⟨(some 40),(some (23,false)),(.pick (.t 26) (.t 39) (.c (.bool false)))⟩,⟨some 41,none,.pick (.t 23) (.c (.bool true)) (.t 40)⟩]) (.cond (.t 41) (.seq (.reg [⟨some 2,none,.mv (.c (.bool false))⟩]) .ret) .skip))) (.reg [⟨some 13,none,.mv (.t 3)⟩,⟨some 14,none,.bin .add false (.t 13) (.c (.int .i64 1))⟩,⟨some 3,none,.mv (.t 14)⟩])))))) (.seq (.reg [⟨some 2,none,.mv (.c (.bool true))⟩]) .ret))))
theorem Mf:codeOf Tryz.prog 47=some ⟨42,I8,[(.tmp 2)]⟩:=by kernel_rfl
theorem B0:modes 47=⟨[],.asis,none,false⟩:=by unfold modes; rfl
theorem R5 (b:Bool):E 123 [.bool b] []=some (.int .i64 (Hf b),[]):=by
 cases b
 ·refine Af Gd DZ (of_decide_eq_true rfl) ?_
  simp (disch:=omega) only [DY,go_sem,Aa]
  rfl
 ·refine Af Gd DZ (of_decide_eq_true rfl) ?_
  simp (disch:=omega) only [DY,go_sem,Aa]
  rfl
theorem compareLiterals_E (x y:Lt) (hx:x.atom.cok=true) (hy:y.atom.cok=true) (hnx:x.atom.nodes≤1099511627776) (hny:y.atom.nodes≤1099511627776):E 83 [x.sv,y.sv] []=some (.int .i64 (x.cmp y),[]):=by
 have h1:=DX x.atom y.atom hx hy hnx hny
 have h2:=R5 x.pos
 have h3:=R5 y.pos
 have h4:=Ho (Hf x.pos) (Hf y.pos)
 have h5:=WT (x.atom.cmp y.atom) (Hd (Hf x.pos) (Hf y.pos))
 unfold Lt.cmp
 refine Af Dz Bh (of_decide_eq_true rfl) ?_
 simp (disch:=omega) only [BM,go_sem,Aa,h1,h2,h3,h4,h5,AW,DZ,AH,Cy]
theorem N4 (x y:Lt) (hx:x.atom.cok=true) (hy:y.atom.cok=true) (hnx:x.atom.nodes≤1099511627776) (hny:y.atom.nodes≤1099511627776):E 73 [x.sv,y.sv] []=some (.int .i64 (x.cmp y),[]):=by
 have h1:=P4 x.atom y.atom hx hy hnx hny
 unfold Lt.cmp
 by_cases h0:x.atom.cmp y.atom=0
 ·rw [h0] at h1 ⊢
  cases hp:x.pos <;> cases hq:y.pos
  all_goals
   simp only [Hf,Hd,orZ,if_true,if_false,yB]
   refine Af HV Bp (of_decide_eq_true rfl) ?_
   simp (disch:=omega) only [Fe,go_sem,Aa,h1,hp,hq,Bl]
 ·rw [orZ,if_neg h0]
  refine Af HV Bp (of_decide_eq_true rfl) ?_
  simp (disch:=omega) only [Fe,go_sem,Aa,h1,h0,Bl]
theorem OL (x:Lt) (hn:x.atom.nodes≤1099511627776):E 82 [x.sv] []=some (.bool x.atom.atom,[]):=by
 have h:=SP x.atom hn
 refine Af Kl BZ (of_decide_eq_true rfl) ?_
 simp (disch:=omega) only [Fx,go_sem,Aa,h,BA]
theorem Gv (x:Cl) (hn:x.tame):E 54 [x.sv] []=some (.bool x.ok,[]):=by
 have hl:=hn.1
 refine Af KM Cq (of_decide_eq_true rfl) ?_
 simp (disch:=omega) only [Ge,go_sem,Aa]
 refine go_loop (α:=Int) (fun a=>⟨slots 36 0 [(1,.ptr 0 0),(6,.arr (x.lits.map Lt.d)),(7,.int .i64 x.lits.length),(8,.int .i64 a)],[.box 28 [.arr (x.lits.map Lt.d)]]⟩) (fun a=>∃ k:Nat,a=k∧k≤(x.lits).length∧GF x.lits k=true) (fun a=>(x.lits).length-(a).toNat) 0 ⟨0,rfl,zU _,by rw [GF]⟩ (by simp (disch:=omega) only [go_sem,Aa]) ?_
 rintro i ⟨k,hi,hk,hR⟩
 have hni:i.toNat=k:=by omega
 have hni1:(i+1).toNat=k+1:=by omega
 rcases zJ k (x.lits).length with hlt | hge
 ·have hg:=get_at Lt.d hlt
  rw [Lt.d_eq] at hg
  have hv:=OL x.lits[k] (Cl.tame_at hn hlt)
  cases ha:x.lits[k].atom.atom <;> rw [ha] at hv
  ·have e:x.ok=false:=Cl.not_ok hR (by cases k with | zero=>rw [GN hlt,ha] | succ j=>rw [El hlt,ha,z7]) hlt
   rw [e]
   simp (disch:=omega) only [go_sem,Aa,hni,hg,hv,BZ,Bh]
  ·cases k with
   | zero =>
    obtain rfl:i=0:=hi
    simp (disch:=omega) only [go_sem,Aa,hni,hg,hv,BZ,Bh]
    exact ⟨1,⟨1,rfl,hlt,by rw [GF,hR,GN hlt,ha]; rfl⟩,by omega,by first | trivial | rfl⟩
   | succ j =>
    have hj:j<x.lits.length:=by omega
    have hg2:=get_at Lt.d hj
    rw [Lt.d_eq] at hg2
    have hni2:(i-1).toNat=j:=by omega
    have hc:=compareLiterals_E x.lits[j] x.lits[j+1] (Tm.Hm (OK hR (by omega) (by omega))) (Tm.Hm ha) (Cl.tame_at hn hj) (Cl.tame_at hn hlt)
    rcases y3 (x.lits[j].cmp x.lits[j+1]) 0 with hq | hq
    ·simp (disch:=omega) only [go_sem,Aa,hni,hg,hv,BZ,Bh,hni2,hg2,hc]
     exact ⟨i+1,⟨j+1+1,by omega,hlt,by rw [GF,hR,El hlt,ha,decide_eq_true hq]; rfl⟩,by omega,by first | trivial | rfl⟩
    ·have e:x.ok=false:=Cl.not_ok hR (by rw [El hlt,ha,decide_eq_false (by omega)]; rfl) hlt
     rw [e]
     simp (disch:=omega) only [go_sem,Aa,hni,hg,hv,BZ,Bh,hni2,hg2,hc]
 ·obtain rfl:k=x.lits.length:=by omega
  simp (disch:=omega) only [go_sem,Aa,hni]
  unfold Cl.ok
  rw [hR,zO,K0]
  exact decide_eq_decide.2 (by omega)
theorem R6 (x:Cl) (hn:x.tame):E 47 [x.sv] []=some (.bool x.ok,[]):=by
 have hl:=hn.1
 rcases zJ 8 x.lits.length with h8 | h8
 ·have e:x.ok=false:=by unfold Cl.ok; rw [decide_eq_false (by omega),z7]
  rw [e]
  refine Af Mf B0 (of_decide_eq_true rfl) ?_
  simp (disch:=omega) only [I8,go_sem,Aa]
 refine Af Mf B0 (of_decide_eq_true rfl) ?_
 simp (disch:=omega) only [I8,go_sem,Aa]
 refine go_loop (α:=Int) (fun a=>⟨slots 42 0 [(1,.ptr 0 0),(3,.int .i64 a)],[.box 28 [.arr (x.lits.map Lt.d)]]⟩) (fun a=>∃ k:Nat,a=k∧k≤(x.lits).length∧GF x.lits k=true) (fun a=>(x.lits).length-(a).toNat) 0 ⟨0,rfl,zU _,by rw [GF]⟩ (by simp (disch:=omega) only [go_sem,Aa]) ?_
 rintro i ⟨k,hi,hk,hR⟩
 have hni:i.toNat=k:=by omega
 have hni1:(i+1).toNat=k+1:=by omega
 rcases zJ k (x.lits).length with hlt | hge
 ·have hg:=get_at Lt.d hlt
  rw [Lt.d_eq] at hg
  have hv:=R2 x.lits[k].atom (Cl.tame_at hn hlt)
  cases ha:x.lits[k].atom.atom <;> rw [ha] at hv
  ·have e:x.ok=false:=Cl.not_ok hR (by cases k with | zero=>rw [GN hlt,ha] | succ j=>rw [El hlt,ha,z7]) hlt
   rw [e]
   simp (disch:=omega) only [go_sem,Aa,hni,hg,hv,AT,Bp]
  ·cases k with
   | zero =>
    obtain rfl:i=0:=hi
    simp (disch:=omega) only [go_sem,Aa,hni,hg,hv,AT,Bp]
    exact ⟨1,⟨1,rfl,hlt,by rw [GF,hR,GN hlt,ha]; rfl⟩,by omega,by first | trivial | rfl⟩
   | succ j =>
    have hj:j<x.lits.length:=by omega
    have hg2:=get_at Lt.d hj
    rw [Lt.d_eq] at hg2
    have hni2:(i-1).toNat=j:=by omega
    have hc:=N4 x.lits[j] x.lits[j+1] (Tm.Hm (OK hR (by omega) (by omega))) (Tm.Hm ha) (Cl.tame_at hn hj) (Cl.tame_at hn hlt)
    rcases y3 (x.lits[j].cmp x.lits[j+1]) 0 with hq | hq
    ·simp (disch:=omega) only [go_sem,Aa,hni,hg,hv,AT,Bp,hni2,hg2,hc]
     exact ⟨i+1,⟨j+1+1,by omega,hlt,by rw [GF,hR,El hlt,ha,decide_eq_true hq]; rfl⟩,by omega,by first | trivial | rfl⟩
    ·have e:x.ok=false:=Cl.not_ok hR (by rw [El hlt,ha,decide_eq_false (by omega)]; rfl) hlt
     rw [e]
     simp (disch:=omega) only [go_sem,Aa,hni,hg,hv,AT,Bp,hni2,hg2,hc]
 ·obtain rfl:k=x.lits.length:=by omega
  simp (disch:=omega) only [go_sem,Aa,hni]
  unfold Cl.ok
  rw [hR,decide_eq_true h8]; rfl
namespace Wd
def modes:FuncId→FM:=fun _=>⟨[],.asis,none,false⟩
theorem mode (f:FuncId):modes f=⟨[],.asis,none,false⟩:=rfl
theorem M9:@Nm Qf Tryz.prog modes:=fun _ _ _ _ _ _ hg _=>by cases hg
noncomputable def E:FEnv:=ev Tryz.prog modes
noncomputable def calls:CallF:=CY modes E
theorem E_told {f:FuncId} {xs:List SV} {ob:List Ob} {r:SV} {ob':List Ob} (h:E f xs ob=some (r,ob')):Qea Tryz.prog f xs ob r ob':=@Qah Qf _ _ Qck M9 f xs ob r ob' h
noncomputable def run (n0:Nat):SC→St→Option (X × St):=fr Tryz.prog calls (J1 n0)
def go (n0:Nat) (sc:SC) (st:St) (K:X→St→Prop):Prop:=∃ x st',run n0 sc st=some (x,st')∧K x st'
def Rm (n0:Nat) (b:SC) (K:X→St→Prop):X→St→Prop
 | .normal,st=>go n0 b st K
 | .exit i,st=>K (.exit i) st
 | .ret,st=>K .ret st
def blk (id:Nat) (K:X→St→Prop):X→St→Prop
 | .normal,st=>K .normal st
 | .exit i,st=>if i=id then K .normal st else K (.exit i) st
 | .ret,st=>K .ret st
def Rn (r:Option St) (k:X→St→Prop):Prop :=
 match r with
 | some st=>k .normal st
 | none=>False
def Ro (anc:List (List Nat)) (r:Option (List Ent × St)) (k:X→St→Prop):Prop :=
 match r with
 | some (es,st)=>obB anc [] (GB es) 0=true∧k .normal st
 | none=>False
def HQ (v:SV) (a b:Unit→Prop):Prop :=
 match v with
 | .bool true=>a ()
 | .bool false=>b ()
 | _=>False
noncomputable def MA (ops:List SOper) (st:St):Option St:=PJ Tryz.prog calls ops st
noncomputable def MB (ops:List SOper) (acc:List Ent) (st:St):Option (List Ent × St):=Iy Tryz.prog calls ops acc st
section
variable {n0:Nat} {st:St} {K:X→St→Prop}
theorem go_skip:go n0 .skip st K=K .normal st:=by
 refine propext ⟨fun ⟨x,st',h,k⟩=>?_,fun k=>⟨_,_,rfl,k⟩⟩
 obtain ⟨rfl,rfl⟩:X.normal=x∧st=st':=by simpa [run,fr] using h
 exact k
theorem UT {i:Nat}:go n0 (.exit i) st K=K (.exit i) st:=by
 refine propext ⟨fun ⟨x,st',h,k⟩=>?_,fun k=>⟨_,_,rfl,k⟩⟩
 obtain ⟨rfl,rfl⟩:X.exit i=x∧st=st':=by simpa [run,fr] using h
 exact k
theorem go_ret:go n0 .ret st K=K .ret st:=by
 refine propext ⟨fun ⟨x,st',h,k⟩=>?_,fun k=>⟨_,_,rfl,k⟩⟩
 obtain ⟨rfl,rfl⟩:X.ret=x∧st=st':=by simpa [run,fr] using h
 exact k
theorem YK {ops:List SOper}:go n0 (.reg ops) st K=Rn (MA ops st) K:=by
 unfold Rn MA
 refine propext ⟨fun ⟨x,st',h,k⟩=>?_,fun k=>?_⟩
 ·simp only [run,fr] at h
  split at h
  ·rename_i s hs
   simp only [zC,zG] at h
   obtain ⟨rfl,rfl⟩:=h
   first | exact k | (simp only [hs]; exact k)
  ·cases h
 ·split at k
  ·rename_i s hs
   exact ⟨.normal,s,by simp only [run,fr,hs],k⟩
  ·exact k.elim
theorem UU {anc:List (List Nat)} {ops:List SOper}:go n0 (.dreg anc ops) st K=Ro anc (MB ops [] st) K:=by
 unfold Ro MB
 refine propext ⟨fun ⟨x,st',h,k⟩=>?_,fun k=>?_⟩
 ·simp only [run,fr] at h
  split at h
  ·rename_i es s hs
   obtain ⟨h1,h2⟩:=Ap h
   simp only [zC,zG] at h2
   obtain ⟨rfl,rfl⟩:=h2
   first | exact ⟨h1,k⟩ | (simp only [hs]; exact ⟨h1,k⟩)
  ·cases h
 ·split at k
  ·rename_i es s hs
   exact ⟨.normal,s,by simp only [run,fr,hs,k.1,cond_true],k.2⟩
  ·exact k.elim
theorem YL {a b:SC}:go n0 (.seq a b) st K=go n0 a st (Rm n0 b K):=by
 refine propext ⟨fun ⟨x,st',h,k⟩=>?_,fun ⟨x,st',h,k⟩=>?_⟩
 ·simp only [run,fr,C3] at h
  split at h
  ·rename_i s hs
   exact ⟨.normal,s,hs,x,st',h,k⟩
  ·rename_i i s hs
   simp only [zC,zG] at h
   obtain ⟨rfl,rfl⟩:=h
   exact ⟨_,_,hs,k⟩
  ·rename_i s hs
   simp only [zC,zG] at h
   obtain ⟨rfl,rfl⟩:=h
   exact ⟨_,_,hs,k⟩
  ·cases h
 ·simp only [run] at h
  cases x with
  | normal =>
   obtain ⟨x2,st2,h2,k2⟩:=k
   exact ⟨x2,st2,by simp only [run,fr,C3,h]; exact h2,k2⟩
  | exit i=>exact ⟨_,st',by simp only [run,fr,C3,h],k⟩
  | ret=>exact ⟨_,st',by simp only [run,fr,C3,h],k⟩
theorem Rp {id:Nat} {b:SC}:go n0 (.block id b) st K=go n0 b st (blk id K):=by
 refine propext ⟨fun ⟨x,st',h,k⟩=>?_,fun ⟨x,st',h,k⟩=>?_⟩
 ·simp only [run,fr,EV] at h
  split at h
  ·rename_i s hs
   simp only [zC,zG] at h
   obtain ⟨rfl,rfl⟩:=h
   exact ⟨.normal,s,hs,k⟩
  ·rename_i i s hs
   refine ⟨.exit i,s,hs,?_⟩
   simp only [blk]
   by_cases hi:i=id
   ·simp only [if_pos hi,zC,zG] at h ⊢
    obtain ⟨rfl,rfl⟩:=h
    exact k
   ·simp only [if_neg hi,zC,zG] at h ⊢
    obtain ⟨rfl,rfl⟩:=h
    exact k
  ·rename_i s hs
   simp only [zC,zG] at h
   obtain ⟨rfl,rfl⟩:=h
   exact ⟨_,s,hs,k⟩
  ·cases h
 ·simp only [run] at h
  cases x with
  | normal=>exact ⟨_,st',by simp only [run,fr,EV,h],k⟩
  | exit i =>
   simp only [blk] at k
   by_cases hi:i=id
   ·simp only [if_pos hi] at k
    exact ⟨.normal,st',by simp only [run,fr,EV,h,if_pos hi],k⟩
   ·simp only [if_neg hi] at k
    exact ⟨.exit i,st',by simp only [run,fr,EV,h,if_neg hi],k⟩
  | ret=>exact ⟨_,st',by simp only [run,fr,EV,h],k⟩
theorem Aa {q:SX} {a b:SC}:go n0 (.cond q a b) st K=HQ (A3 (gets st.sl) q) (fun _=>go n0 a st K) (fun _=>go n0 b st K):=by
 unfold HQ
 refine propext ⟨fun ⟨x,st',h,k⟩=>?_,fun k=>?_⟩
 ·simp only [run,fr] at h
  split at h
  ·rename_i t ht
   simp only [ht]
   cases t with
   | true=>exact ⟨x,st',h,k⟩
   | false=>exact ⟨x,st',h,k⟩
  ·cases h
 ·split at k
  ·rename_i ht
   obtain ⟨x,st',h,k⟩:=k
   exact ⟨x,st',by simp only [run,fr,ht,cond_true]; exact h,k⟩
  ·rename_i ht
   obtain ⟨x,st',h,k⟩:=k
   exact ⟨x,st',by simp only [run,fr,ht,cond_false]; exact h,k⟩
  ·exact k.elim
theorem UV {a b:Unit→Prop}:HQ (.bool true) a b=a ():=rfl
theorem UW {a b:Unit→Prop}:HQ (.bool false) a b=b ():=rfl
theorem UX {t:Bool} {a b:Unit→Prop}:HQ (.bool (!t)) a b=HQ (.bool t) b a:=by cases t <;> rfl
theorem YM {b:SC}:Rm n0 b K .normal st=go n0 b st K:=rfl
theorem YN {b:SC} {i:Nat}:Rm n0 b K (.exit i) st=K (.exit i) st:=rfl
theorem YO {b:SC}:Rm n0 b K .ret st=K .ret st:=rfl
theorem Qc8 {id:Nat}:blk id K .normal st=K .normal st:=rfl
theorem Qc9 {id i:Nat}:blk id K (.exit i) st=if i=id then K .normal st else K (.exit i) st:=rfl
theorem QcA {id:Nat}:blk id K .ret st=K .ret st:=rfl
theorem UY:Rn (some st) K=K .normal st:=rfl
def quiet:List Ent→Bool
 | []=>true
 | ⟨_,_,[],_⟩ :: r=>quiet r
 | ⟨_,_,_ :: _,_⟩ :: _=>false
theorem Hi {anc:List (List Nat)} {rd:List Nat} {j:Nat}:∀ {l:List Ent} {i:Nat},quiet l=true→SB anc rd [] j (GB l) i=true
 | [],i,_=>rfl
 | ⟨_,_,[],rdi⟩ :: r,i,h=>by
  have:=Hi (anc:=anc) (rd:=rd) (j:=j) (l:=r) (i:=i+1) h
  simp only [GB,zF,yX] at this ⊢
  simp only [SB,this,zO]
  have e1:meets [] (rd++[])=false:=rfl
  have e2:meets rdi []=false:=by cases rdi <;> simp [meets]
  rw [e1,e2]; rfl
theorem O7 {l l':List Ent} (h:quiet l=true) (h':quiet l'=true):quiet (l++l')=true:=by
 induction l with
 | nil=>exact h'
 | cons x r ih =>
  obtain ⟨a,b,c,d⟩:=x
  cases c with
  | nil=>exact ih h
  | cons _ _=>cases h
theorem IT {anc:List (List Nat)}:∀ {l pre:List Ent} {j:Nat},quiet pre=true→quiet l=true→obB anc (GB pre) (GB l) j=true
 | [],pre,j,_,_=>rfl
 | ⟨a,b,[],rd⟩ :: r,pre,j,hp,h=>by
  have e:=IT (anc:=anc) (l:=r) (pre:=pre++[⟨a,b,[],rd⟩]) (j:=j+1) (O7 hp rfl) h
  have e2:=Hi (anc:=anc) (rd:=rd) (j:=j) (i:=0) hp
  simp only [GB,yU,zF,yX] at e e2 ⊢
  simp only [obB,e2,e,zH]
theorem UZ {anc:List (List Nat)} {es:List Ent}:Ro anc (some (es,st)) K=match quiet es with
  | true=>K .normal st
  | false=>obB anc [] (GB es) 0=true∧K .normal st:=by
 show (obB anc [] (GB es) 0=true∧K .normal st)=_
 cases h:quiet es with
 | true=>exact propext ⟨fun h=>h.2,fun h'=>⟨IT (pre:=[]) rfl h,h'⟩⟩
 | false=>rfl
noncomputable def YP (r:List SOper) (e:Option (Ent × St)):Option St :=
 match e with
 | some (_,st)=>MA r st
 | none=>none
noncomputable def YQ (r:List SOper) (acc:List Ent) (e:Option (Ent × St)):Option (List Ent × St) :=
 match e with
 | some (x,st)=>MB r (acc++[x]) st
 | none=>none
noncomputable def opF (so:SOp) (sl:List SV) (ob:List Ob):Option R3:=fOp Tryz.prog calls so sl ob
theorem Rq:MA [] st=some st:=rfl
theorem O8 {d:Option Tmp} {so:SOp} {r:List SOper} {sl:List SV} {ob:List Ob}:MA (⟨d,none,so⟩ :: r) ⟨sl,ob⟩=YP r (GT d ⟨sl,ob⟩ (opF so sl ob)):=rfl
noncomputable def gdF (d:Option Tmp) (so:SOp) (want:Bool) (sl:List SV) (ob:List Ob) (v:SV):Option (Ent × St) :=
 match v with
 | .bool b=>bif SE b want then GT d ⟨sl,ob⟩ (opF so sl ob) else some (⟨false,.tup [],[],[]⟩,⟨EI sl d (.tup []),ob⟩)
 | .tup []=>some (⟨false,.tup [],[],[]⟩,⟨EI sl d (.tup []),ob⟩)
 | _=>none
theorem Va {d:Option Tmp} {k:Nat} {want:Bool} {so:SOp} {r:List SOper} {sl:List SV} {ob:List Ob}:MA (⟨d,some (k,want),so⟩ :: r) ⟨sl,ob⟩=YP r (gdF d so want sl ob (gets sl k)):=rfl
theorem Rr {acc:List Ent}:MB [] acc st=some (acc,st):=rfl
theorem O9 {d:Option Tmp} {so:SOp} {r:List SOper} {acc:List Ent} {sl:List SV} {ob:List Ob}:MB (⟨d,none,so⟩ :: r) acc ⟨sl,ob⟩=YQ r acc (GT d ⟨sl,ob⟩ (opF so sl ob)):=rfl
theorem Vb {d:Option Tmp} {k:Nat} {want:Bool} {so:SOp} {r:List SOper} {acc:List Ent} {sl:List SV} {ob:List Ob}:MB (⟨d,some (k,want),so⟩ :: r) acc ⟨sl,ob⟩=YQ r acc (gdF d so want sl ob (gets sl k)):=rfl
theorem YR {r:List SOper} {e:Ent}:YP r (some (e,st))=MA r st:=rfl
theorem YS {r:List SOper} {acc:List Ent} {e:Ent}:YQ r acc (some (e,st))=MB r (acc++[e]) st:=rfl
theorem QcB {d:Option Tmp} {so:SOp} {sl:List SV} {ob:List Ob}:gdF d so true sl ob (.bool true)=GT d ⟨sl,ob⟩ (opF so sl ob):=rfl
theorem YT {d:Option Tmp} {so:SOp} {sl:List SV} {ob:List Ob}:gdF d so false sl ob (.bool false)=GT d ⟨sl,ob⟩ (opF so sl ob):=rfl
theorem YU {d:Option Tmp} {so:SOp} {sl:List SV} {ob:List Ob}:gdF d so true sl ob (.bool false)=some (⟨false,.tup [],[],[]⟩,⟨EI sl d (.tup []),ob⟩):=rfl
theorem YV {d:Option Tmp} {so:SOp} {sl:List SV} {ob:List Ob}:gdF d so false sl ob (.bool true)=some (⟨false,.tup [],[],[]⟩,⟨EI sl d (.tup []),ob⟩):=rfl
theorem QcC {d:Option Tmp} {so:SOp} {want:Bool} {sl:List SV} {ob:List Ob}:gdF d so want sl ob (.tup [])=some (⟨false,.tup [],[],[]⟩,⟨EI sl d (.tup []),ob⟩):=rfl
theorem YW {d:Option Tmp} {x:SV} {rd:List Nat}:GT d st (some (x,[],rd))=some (⟨true,x,[],rd⟩,⟨EI st.sl d x,st.ob⟩):=rfl
theorem YX {d:Option Tmp} {x:SV} {q:Nat × Ob} {u:List (Nat × Ob)} {rd:List Nat}:GT d st (some (x,q :: u,rd))=bif Wy (Ds st.ob (q :: u)).length (q :: u) then some (⟨true,x,q :: u,rd⟩,⟨EI st.sl d x,Ds st.ob (q :: u)⟩) else none:=rfl
def KE (ob:List Ob) (xs:List SV) (sel:List Nat) (r:Option (SV × List Ob)) (n:Nat):Option R3 :=
 match r with
 | some (r,fob')=>bif decide (n≤fob'.length) then some (Ei sel (Bi sel xs) ob.length r fob') else none
 | none=>none
def YY (hd:List Bool) (f:FuncId) (xs:List SV) (ob:List Ob) (sel:List Nat) (e:List SV→List Ob→Option (SV × List Ob)) (b:Option (List Ob)):Option R3 :=
 match b with
 | some fob=>bif nodupB sel&&Iz ob.length sel&&FK fob.length fob then KE ob xs sel (e (Fv hd (Ao ob) sel xs) fob) fob.length else none
 | none=>none
def Rs (hd:List Bool) (f:FuncId) (xs:List SV) (ob:List Ob) (sel:List Nat) (e:List SV→List Ob→Option (SV × List Ob)):Option R3:=YY hd f xs ob sel e (E8 sel ob sel)
theorem Rt {f:FuncId} {xs:List SV} {ob:List Ob}:calls f xs ob=Ey (modes f).res (Rs (modes f).hand f xs ob (reach ob 64 (FY (modes f).hand xs) []) (E f)):=rfl
theorem YZ {r:Option R3}:Ey .asis r=r:=rfl
theorem Za {r:Option R3}:Ey .frz r=r:=rfl
theorem Zb {l:List (Option (Nat × Nat))} {r:Option R3}:Ey (.own l) r=r:=rfl
theorem Zc {l:List (Option (Nat × Nat))} {r:Option R3}:Ey (.tr l) r=r:=rfl
theorem Zd {l:List Nat} {r:Option R3}:Ey (.frl l) r=r:=rfl
theorem Ze {r:R3}:Ey .late (some r)=QK r:=rfl
theorem EM:∀ u:List (Nat × Ob),CT [] u=u
 | []=>rfl
 | (g,o) :: u=>by rw [CT,EM u]; rfl
theorem Zf {m:RM} {b:Bool} {u:List (Nat × Ob)} {rd:List Nat}:Ey m (some (.bool b,u,rd))=some (.bool b,u,rd):=by
 cases m <;> first | rfl | (show some (SV.bool b,CT [] u,rd)=_; rw [EM])
theorem Zg {m:RM} {k:IntKind} {n:Int} {u:List (Nat × Ob)} {rd:List Nat}:Ey m (some (.int k n,u,rd))=some (.int k n,u,rd):=by
 cases m <;> first | rfl | (show some (SV.int k n,CT [] u,rd)=_; rw [EM])
theorem OA {hd:List Bool} {f:FuncId} {xs:List SV} {ob:List Ob} {e:List SV→List Ob→Option (SV × List Ob)}:Rs hd f xs ob [] e=KE ob xs [] (e (Fv hd (Ao ob) [] xs) []) 0:=rfl
theorem MC {hd:List Bool} {f:FuncId} {xs:List SV} {ob:List Ob} {g:Nat} {r:List Nat} {e:List SV→List Ob→Option (SV × List Ob)}:Rs hd f xs ob (g :: r) e=YY hd f xs ob (g :: r) e (E8 (g :: r) ob (g :: r)):=rfl
theorem Vd {ob:List Ob} {xs:List SV} {r:SV} {fob':List Ob}:KE ob xs [] (some (r,fob')) 0=some (Ei [] (Bi [] xs) ob.length r fob'):=rfl
theorem Ve {ob:List Ob} {xs:List SV} {sel:List Nat} {r:SV} {fob':List Ob} {n:Nat}:KE ob xs sel (some (r,fob')) n=bif decide (n≤fob'.length) then some (Ei sel (Bi sel xs) ob.length r fob') else none:=rfl
theorem Zh {hd:List Bool} {f:FuncId} {xs:List SV} {ob:List Ob} {sel:List Nat} {fob:List Ob} {e:List SV→List Ob→Option (SV × List Ob)}:YY hd f xs ob sel e (some fob)=bif nodupB sel&&Iz ob.length sel&&FK fob.length fob then KE ob xs sel (e (Fv hd (Ao ob) sel xs) fob) fob.length else none:=rfl
theorem OB {p:Nat} {r:SV}:Ei [] [] p r []=(r.ren (sgp [] p),[],[]):=rfl
def DS {α:Type} (n0:Nat) (keep:List Nat) (H:α→St) (R:α→Prop) (μ:α→Nat) (a:α) (K:X→St→Prop):X→St→Prop
 | .normal,st'=>∃ y,R y∧μ y < μ a∧canon n0 keep st'=H y
 | .exit i,st'=>K (.exit i) st'
 | .ret,st'=>K .ret st'
theorem Ru {α:Type} {keep:List Nat} {H:α→St} {R:α→Prop} {μ:α→Nat} {a:α} {st':St}:DS n0 keep H R μ a K .normal st'=∃ y,R y∧μ y < μ a∧canon n0 keep st'=H y:=rfl
theorem Rv {α:Type} {keep:List Nat} {H:α→St} {R:α→Prop} {μ:α→Nat} {a:α} {i:Nat} {st':St}:DS n0 keep H R μ a K (.exit i) st'=K (.exit i) st':=rfl
theorem Rw {α:Type} {keep:List Nat} {H:α→St} {R:α→Prop} {μ:α→Nat} {a:α} {st':St}:DS n0 keep H R μ a K .ret st'=K .ret st':=rfl
theorem go_loop {α:Type} {keep:List Nat} {b:SC} (H:α→St) (R:α→Prop) (μ:α→Nat) (a0:α) (hR:R a0) (h0:canon n0 keep st=H a0) (round:∀ a,R a→go n0 b (H a) (DS n0 keep H R μ a K)):go n0 (.loop keep b) st K:=by
 have key:∀ (n:Nat) (a:α) (st:St),μ a≤n→R a→canon n0 keep st=H a→∃ x st',QV n0 keep (run n0 b) st=some (x,st')∧K x st':=by
  intro n
  induction n with
  | zero =>
   intro a st hn hR hc
   obtain ⟨x,st',h,k⟩:=round a hR
   cases x with
   | normal =>
    obtain ⟨y,_,h2,_⟩:=k
    omega
   | exit i=>exact ⟨_,st',by rw [Ez,hc,h]; rfl,k⟩
   | ret=>exact ⟨_,st',by rw [Ez,hc,h]; rfl,k⟩
  | succ n ih =>
   intro a st hn hR hc
   obtain ⟨x,st',h,k⟩:=round a hR
   cases x with
   | normal =>
    obtain ⟨y,h1,h2,h3⟩:=k
    obtain ⟨x2,st2,h4,k2⟩:=ih y st' (by omega) h1 h3
    exact ⟨x2,st2,by rw [Ez,hc,h]; exact h4,k2⟩
   | exit i=>exact ⟨_,st',by rw [Ez,hc,h]; rfl,k⟩
   | ret=>exact ⟨_,st',by rw [Ez,hc,h]; rfl,k⟩
 exact key (μ a0) a0 st (zQ _) hR h0
def J6 (n0:Nat) (keep keepO:List Nat) (H:EL→St) (F:X × St) (p:EL):X→St→Prop
 | .normal,st'=>canon n0 keep st'=H p
 | .exit i,st'=>F=(.exit i,canon n0 keepO st')
 | .ret,st'=>F=(.ret,canon n0 keepO st')
def WM (n0:Nat) (keepO:List Nat) (F:X × St):X→St→Prop
 | .normal,_=>False
 | .exit i,st'=>F=(.exit i,canon n0 keepO st')
 | .ret,st'=>F=(.ret,canon n0 keepO st')
theorem OC {keep keepO:List Nat} {H:EL→St} {F:X × St} {p:EL} {st':St}:J6 n0 keep keepO H F p .normal st'=(canon n0 keep st'=H p):=rfl
theorem OD {keep keepO:List Nat} {H:EL→St} {F:X × St} {p:EL} {i:Nat} {st':St}:J6 n0 keep keepO H F p (.exit i) st'=(F=(.exit i,canon n0 keepO st')):=rfl
theorem OE {keep keepO:List Nat} {H:EL→St} {F:X × St} {p:EL} {st':St}:J6 n0 keep keepO H F p .ret st'=(F=(.ret,canon n0 keepO st')):=rfl
theorem Vf {keepO:List Nat} {F:X × St} {i:Nat} {st':St}:WM n0 keepO F (.exit i) st'=(F=(.exit i,canon n0 keepO st')):=rfl
theorem Vg {keepO:List Nat} {F:X × St} {st':St}:WM n0 keepO F .ret st'=(F=(.ret,canon n0 keepO st')):=rfl
end
def slots:Nat→Nat→List (Nat × SV)→List SV
 | 0,_,_=>[]
 | n+1,k,[]=>.any :: slots n (k+1) []
 | n+1,k,(j,x) :: r=>bif j == k then x :: slots n (k+1) r else .any :: slots n (k+1) ((j,x) :: r)
def SM (res:RM) (n0:Nat) (rs:List RX) (out:SV × List Ob) (x:X) (st:St):Prop:=fin res n0 rs x st=some out
def Zi (res:RM) (n0:Nat) (r:Option (SV × List Ob)):Option (SV × List Ob) :=
 match r with
 | some (r,ob)=>order res n0 r ob
 | none=>none
def Nv (res:RM) (n0:Nat) (ob:List Ob) (r:Option SV):Option (SV × List Ob) :=
 match r with
 | some r0=>Zi res n0 (gc n0 r0 ob)
 | none=>none
theorem Zj {res:RM} {n0:Nat} {rs:List RX} {out:SV × List Ob} {sl:List SV} {ob:List Ob}:SM res n0 rs out .ret ⟨sl,ob⟩=(Nv res n0 ob (Oq ⟨sl,ob⟩ rs)=some out):=rfl
theorem Zk {res:RM} {n0:Nat} {rs:List RX} {out:SV × List Ob} {sl:List SV} {ob:List Ob}:SM res n0 rs out .normal ⟨sl,ob⟩=(Nv res n0 ob (Oq ⟨sl,ob⟩ rs)=some out):=rfl
theorem Vh {res:RM} {n0:Nat} {ob:List Ob} {r:SV}:Nv res n0 ob (some r)=Zi res n0 (gc n0 r ob):=rfl
theorem Zl {n0:Nat} {r:SV} {ob:List Ob} {res:RM}:Zi res n0 (some (r,ob))=order res n0 r ob:=rfl
theorem Af {f:FuncId} {fc:FC} {hand:List Bool} {res:RM} {tr:Bool} {xs:List SV} {ob:List Ob} {out:SV × List Ob} (hc:codeOf Tryz.prog f=some fc) (hr:modes f=⟨hand,res,none,tr⟩) (hn:xs.length≤fc.nt) (h:go ob.length (HM res fc.sc) ⟨xs++LP (fc.nt-xs.length),entry tr ob⟩ (SM res ob.length fc.rs out)):E f xs ob=some out:=by
 obtain ⟨x,st',h1,h2⟩:=h
 unfold E
 rw [Qcv]
 unfold GX
 rw [hc,hr]
 simp only
 rw [decide_eq_true hn,cond_true]
 have h1:fr Tryz.prog (CY modes (ev Tryz.prog modes)) (J1 ob.length) (HM res fc.sc) ⟨xs++LP (fc.nt-xs.length),entry tr ob⟩=some (x,st'):=h1
 rw [h1]
 exact h2
end Wd
end Go.Proofs.YtibdknkacmimgaaGreatDoor
