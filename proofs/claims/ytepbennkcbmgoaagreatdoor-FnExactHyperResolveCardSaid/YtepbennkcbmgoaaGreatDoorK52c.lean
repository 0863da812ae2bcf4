/-
  Texts of this claim, one behind the other, each built on those ahead of it. No condition.
-/
import Derived.Test.YtepbennkcbmgoaaGreatDoorK52a
import Derived.Test.YtepbennkcbmgoaaGreatDoorK52b
import Derived.Shelf.GgSortFunc.InsertionK
import Derived.Shelf.Sort.Plain
import Derived.Sort.EncStr
import Derived.Shelf.SlLaysF0
import Derived.Test.YtepbennkcbmgoaaGreatDoorChecked
import Derived.Shelf.SlSortCmp.NoneTotal
import Derived.Lib.QuietBelow
import Derived.Deep.LoopGhost
import Derived.Lib.SliceRun
import Derived.Shelf.Abstract
import Derived.Shelf.Spec.SlicesGrow
import Derived.Shelf.RegionOpenPlain
import Derived.Deep.RegionLaw
import Derived.Shelf.Lays2
import Derived.Shelf.Slices.Clone
import Derived.Shelf.Lays
import Derived.Shelf.Slices.In.SortNone
import Derived.Shelf.Slices.CompactS
import Derived.Shelf.LaysM
import Derived.Shelf.Strconv.Itoa3
set_option maxHeartbeats 16000000
open List renaming getElem?_eq_getElem → zA, map_cons → zC, length_map → zG, getElem_mem → zH, mem_cons → zJ, drop_eq_getElem_cons → zK, drop_eq_nil_of_le → zO, drop_zero → zS, getElem_map → zU, pairwise_iff_getElem → zX, pairwise_cons → zZ, finRange → z8, eq_nil_of_length_eq_zero → yA, range → yB, mem_range → yJ, getElem?_eq_some_iff → yL, getElem_cons_succ → yN, getElem_inj → yQ, length_cons → yR, getElem_toArray → yT, mem_of_getElem? → yU, take_succ_cons → yW, drop_succ_cons → yX, getD_eq_getElem?_getD → yY, size_toArray → y2, map_append → y5, take_zero → y6, drop_nil → y8, any_cons → y9
open Bool renaming and_eq_true → zB, and_self → zD, and_true → zN, false_and → z7, false_eq_true → yD, or_eq_false_iff → yH, true_and → yS, or_eq_true → yV, and_false → yZ, not_false → y7, not_true → xA
open Option.some renaming inj → zE, injEq → zF
open Nat renaming lt_or_ge → zI, le_refl → zQ, zero_le → zR, lt_of_lt_of_le → zT, eq_zero_or_pos → yC, mul_le_mul_right → yI, add_zero → yK, zero_add → yM
open Prod.mk renaming injEq → zL, inj → zW
open Array renaming getD_eq_getD_getElem? → zM, getElem?_eq_getElem → zP, getElem?_eq_some_iff → zV, getElem?_setIfInBounds → zY, getElem?_modify → yO
open Option renaming isSome_none → yF, getD_some → yP, map_some → y4
open List.cons renaming injEq → yG
open Int renaming lt_or_le → y3
set_option maxRecDepth 100000
set_option linter.unusedSimpArgs false
set_option linter.unusedVariables false
set_option linter.unusedSectionVars false
namespace Go.Proofs.YtepbennkcbmgoaaGreatDoor
open Go.RowKit
def Wq (b:Int):Bool:=decide (97≤b)&&decide (b≤122)
def QeF (b:Int):Bool:=decide (48≤b)&&decide (b≤57)
def S2 (b:Int):Bool:=decide (65≤b)&&decide (b≤90)
def inB (n lo hi:Int):Bool:=decide (lo≤n)&&decide (n≤hi)
theorem Nu (n lo hi:Int) (w:World) :
  Calls Tryz.prog 205 #[.int .i64 n,.int .i64 lo,.int .i64 hi] w (Same w (.bool (inB n lo hi))):=by
 by_cases h1:lo≤n <;> by_cases h2:n≤hi
 all_goals
  go_enter Tryz.func205,Tryz.ntmps205
  go_wp2
  go_ret
  exact Same.mk' _ (by simp [inB,h1,h2])
theorem Lf (n lo hi:Int) (w:World) :
  Calls Tryz.prog 198 #[.int .i64 n,.int .i64 lo,.int .i64 hi] w (Same w (.bool (inB n lo hi))):=by
 by_cases h1:lo≤n <;> by_cases h2:n≤hi
 all_goals
  go_enter Tryz.func198,Tryz.ntmps198
  go_wp2
  go_ret
  exact Same.mk' _ (by simp [inB,h1,h2])
theorem Q2 (n:Int) (w:World):Calls Tryz.prog 241 #[.int .u8 n] w (Same w (.bool (Wq n))):=by
 by_cases h1:97≤n <;> by_cases h2:n≤122
 all_goals
  go_enter Tryz.func241,Tryz.ntmps241
  go_wp2
  go_ret
  exact Same.mk' _ (by simp [Wq,h1,h2])
theorem Q3 (n:Int) (w:World):Calls Tryz.prog 242 #[.int .u8 n] w (Same w (.bool (QeF n))):=by
 by_cases h1:48≤n <;> by_cases h2:n≤57
 all_goals
  go_enter Tryz.func242,Tryz.ntmps242
  go_wp2
  go_ret
  exact Same.mk' _ (by simp [QeF,h1,h2])
theorem Yh (n:Int) (w:World):Calls Tryz.prog 240 #[.int .u8 n] w (Same w (.bool (S2 n))):=by
 by_cases h1:65≤n <;> by_cases h2:n≤90
 all_goals
  go_enter Tryz.func240,Tryz.ntmps240
  go_wp2
  go_ret
  exact Same.mk' _ (by simp [S2,h1,h2])
def JS (n:Int):Bool:=Wq n || QeF n
theorem Q4 (n:Int) (w:World):Calls Tryz.prog 262 #[.int .u8 n] w (Same w (.bool (JS n))):=by
 by_cases h1:97≤n <;> by_cases h2:n≤122 <;> by_cases h3:48≤n <;> by_cases h4:n≤57 <;> first | (exfalso; omega) | skip
 all_goals
  go_enter Tryz.func262,Tryz.ntmps262
  go_wp2
  go_ret
  exact Same.mk' _ (by simp [JS,Wq,QeF,h1,h2,h3,h4])
def Kz (s:ByteArray) (k:Nat):Int:=((s.toList.getD k 0).toNat:Int)
theorem Gi {s:ByteArray} {k:Nat} (h:k<s.size):(s[k].toNat:Int)=Kz s k:=by
 have h':k<s.data.toList.length:=h
 unfold Kz
 rw [ByteArray.toList_eq,yY,zA h']
 rfl
def FV (p:Nat→Int→Bool) (s:ByteArray) (k:Nat):Bool:=(yB k).all fun j=>p j (Kz s j)
theorem HG {p:Nat→Int→Bool} {s:ByteArray} {k:Nat}:FV p s (k+1)=(FV p s k&&p k (Kz s k)):=by
 unfold FV
 rw [List.range_succ,List.all_append]
 simp
theorem JT {p:Nat→Int→Bool} {s:ByteArray} {k:Nat} (h:FV p s k=true) (hk:p k (Kz s k)=true):FV p s (k+1)=true:=by
 rw [HG,h,hk]; rfl
theorem ZZ {p:Nat→Int→Bool} {s:ByteArray} {k n:Nat} (h:FV p s k=false) (hn:k≤n):FV p s n=false:=by
 induction n with
 | zero =>
      have:k=0:=by omega
      subst this; exact h
 | succ n ih =>
  by_cases hk:k=n+1
  ·subst hk; exact h
  ·rw [HG,ih (by omega)]; rfl
theorem Gj {p:Nat→Int→Bool} {s:ByteArray} {k:Nat} (hk:k<s.size) (h:p k (Kz s k)=false):FV p s s.size=false :=
 ZZ (k:=k+1) (by rw [HG,h]; simp) (by omega)
def Lg (k:Nat) (b:Int):Bool:=(k != 0 || Wq b)&&(JS b || b == 95)
def K0 (k:Nat) (b:Int):Bool:=(k != 0 || S2 b)&&(k == 0 || JS b)
def words:List (List UInt8):=[[116,114,117,101],[102,97,108,115,101],[116,114,117,116,104],[98,111,116,104],[101,105,116,104,101,114],[105,102],[97,108,108],[115,111,109,101]]
def Qdm (s:ByteArray):Bool:=QcG (fun k=>s.toList == words.getD k []) 8
def Fy (s:ByteArray):Bool:=FV Lg s s.size&&inB s.size 1 6&&!Qdm s
def Ao (s:ByteArray):Bool:=FV K0 s s.size&&inB s.size 1 4
theorem S3 (s:ByteArray) (w:World) (hs:s.size≤9223372036854775807):Calls Tryz.prog 177 #[.string s] w (Same w (.bool (Ao s))):=by
  go_enter Tryz.func177,Tryz.ntmps177
  go_wp2
  go_loopw [6] (fun i wr=>Cnt w s.size (fun k=>FV K0 s k=true) i wr) (fun i _=>s.size-(intOf i).toNat)
  case atStart=>exact ⟨0,zR _,rfl,rfl,rfl⟩
  case round =>
    obtain ⟨k,hk,rfl,hok,rfl⟩:=hrel
    have Hok:=Lib.hid hok
    clear hok
    by_cases hlt:k<s.size
    · have Hb:=Lib.hid (Gi hlt)
      rcases yC k with rfl | hpos
      all_goals
        go_wp2_with (first
          | (go_at_call 241; refine (Q2 _ _).mono ?_; rintro e w' ⟨rfl,rfl⟩)
          | (go_at_call 240; refine (Yh _ _).mono ?_; rintro e w' ⟨rfl,rfl⟩)
          | (go_at_call 242; refine (Q3 _ _).mono ?_; rintro e w' ⟨rfl,rfl⟩))
        all_goals first
          | (go_ret
             refine Same.mk' _ ?_
             unfold Ao
             rw [Gj hlt (by rw [←Hb.out]; simp_all [K0,JS] <;> omega)]
             rfl)
          | (go_roundw
             case rel=>exact ⟨_,hlt,by go_num,JT Hok.out (by rw [←Hb.out]; simp_all [K0,JS] <;> omega),rfl⟩
             case measure=>first | exact KP hlt | (simp [intOf]; omega))
    · obtain rfl:k=s.size:=by omega
      go_wp2_with (first
        | (go_at_call 205; refine (Nu _ _ _ _).mono ?_; rintro e w' ⟨rfl,rfl⟩))
      go_ret
      exact Same.mk' _ (by unfold Ao; rw [Hok.out]; rfl)
theorem Qaa (b n c:Nat) (f:Nat→ByteArray) (x:ByteArray) (w:World) (hn:n≤9223372036854775807)
  (hc:∀ k,k<n→w.cell? ⟨b,k,none⟩=some (.string (f k))):Calls Tryz.prog 259 #[.slice (some ⟨b,0,none⟩) n c,.string x] w (Same w (.int .i64 (X7 (fun k=>x.toList == (f k).toList) n))):=by
 go_enter Tryz.func259,Tryz.ntmps259
 go_wp2
 go_loopw [8] (fun i wr=>Cnt w n (fun k=>∀ j,j<k→(x.toList == (f j).toList)=false) i wr) (fun i _=>n-(intOf i).toNat)
 case atStart=>exact ⟨0,zR _,rfl,fun j hj=>absurd hj (by omega),rfl⟩
 case round =>
  obtain ⟨k,hk,rfl,hok,rfl⟩:=hrel
  have Hok:=Lib.hid hok
  clear hok
  by_cases hlt:k<n
  ·have hck:=hc k (by omega)
   go_wp2_with fail
   ·go_ret
    exact Same.mk' _ (by rw [X8 hlt Hok.out (by assumption)]; rfl)
   ·go_roundw
    case rel=>exact ⟨_,hlt,by go_num,X9 Hok.out (by assumption),rfl⟩
    case measure=>exact KP hlt
  ·obtain rfl:k=n:=by omega
   go_wp2_with fail
   go_ret
   exact Same.mk' _ (by rw [U4 Hok.out]; rfl)
theorem Uc (b n c:Nat) (f:Nat→ByteArray) (x:ByteArray) (w:World) (hn:n≤9223372036854775807)
  (hc:∀ k,k<n→w.cell? ⟨b,k,none⟩=some (.string (f k))):Calls Tryz.prog 185 #[.slice (some ⟨b,0,none⟩) n c,.string x] w (Same w (.bool (QcG (fun k=>x.toList == (f k).toList) n))):=by
 have Hc:=Lib.hid hc
 clear hc
 go_enter Tryz.func185,Tryz.ntmps185
 go_wp2_with (first
  |(go_at_call 259; refine (Qaa _ _ _ f _ _ hn Hc.out).mono ?_; rintro e w' ⟨rfl,rfl⟩))
 go_ret
 exact Same.mk' _ (by rw [←Qel]; rfl)
theorem Wr (w:World):Calls Tryz.prog 258 #[] w fun e w'=>e=.returned (.slice (some ⟨w.heap.size,0,none⟩) 8 8)∧w'=w.alloc (.cells ((words.map fun l=>Value.string ⟨l.toArray⟩).toArray) 9):=by
 go_enter Tryz.func258,Tryz.ntmps258
 go_wp2
 go_ret
 exact ⟨rfl,rfl⟩
theorem Yi (w:World):∀ k,k<8→(w.alloc (.cells ((words.map fun l=>Value.string ⟨l.toArray⟩).toArray) 9)).cell? ⟨w.heap.size,k,none⟩=some (.string ⟨(words.getD k []).toArray⟩):=by
 intro k hk
 have hh:(w.alloc (.cells ((words.map fun l=>Value.string ⟨l.toArray⟩).toArray) 9)).heap[w.heap.size]?=some (.cells ((words.map fun l=>Value.string ⟨l.toArray⟩).toArray) 9):=heap_alloc_new w _
 unfold World.cell?
 rw [hh]
 match k,hk with
 | 0,_=>rfl
 | 1,_=>rfl
 | 2,_=>rfl
 | 3,_=>rfl
 | 4,_=>rfl
 | 5,_=>rfl
 | 6,_=>rfl
 | 7,_=>rfl
theorem Ws (s:ByteArray) (w:World) (hs:s.size≤9223372036854775807):Calls Tryz.prog 184 #[.string s] w (Ret w (.bool (Fy s))):=by
  go_enter Tryz.func184,Tryz.ntmps184
  go_wp2
  go_loopw [6] (fun i wr=>Cnt w s.size (fun k=>FV Lg s k=true) i wr) (fun i _=>s.size-(intOf i).toNat)
  case atStart=>exact ⟨0,zR _,rfl,rfl,rfl⟩
  case round =>
    obtain ⟨k,hk,rfl,hok,rfl⟩:=hrel
    have Hok:=Lib.hid hok
    clear hok
    by_cases hlt:k<s.size
    · have Hb:=Lib.hid (Gi hlt)
      rcases yC k with rfl | hpos
      all_goals
        go_wp2_with (first
          | (go_at_call 241; refine (Q2 _ _).mono ?_; rintro e w' ⟨rfl,rfl⟩)
          | (go_at_call 242; refine (Q3 _ _).mono ?_; rintro e w' ⟨rfl,rfl⟩))
        all_goals first
          | (go_ret
             refine Ret.same _ ?_
             unfold Fy
             rw [Gj hlt (by rw [←Hb.out]; simp_all [Lg,JS] <;> omega)]
             rfl)
          | (go_roundw
             case rel=>exact ⟨_,hlt,by go_num,JT Hok.out (by rw [←Hb.out]; simp_all [Lg,JS] <;> omega),rfl⟩
             case measure=>first | exact KP hlt | (simp [intOf]; omega))
    · obtain rfl:k=s.size:=by omega
      cases hin:inB s.size 1 6
      · go_wp2_with (first
          | (go_at_call 205; refine (Nu _ _ _ _).mono ?_; rintro e w' ⟨rfl,rfl⟩))
        go_ret
        exact Ret.same _ (by unfold Fy; rw [hin]; simp)
      · go_wp2_with (first
          | (go_at_call 205; refine (Nu _ _ _ _).mono ?_; rintro e w' ⟨rfl,rfl⟩)
          | (go_at_call 258; refine (Wr _).mono ?_; rintro e w' ⟨rfl,rfl⟩)
          | (go_at_call 185; refine (Uc _ _ _ (fun k=>⟨(words.getD k []).toArray⟩) _ _ (by omega) (Yi w)).mono ?_; rintro e w' ⟨rfl,rfl⟩))
        go_ret
        refine Ret.bel ?_ ((Below.refl _ _).alloc (zQ _) _)
        unfold Fy Qdm
        rw [hin,Hok.out]
        simp
theorem Qcb (s:ByteArray) (w:World) (hs:s.size≤9223372036854775807):Calls Tryz.prog 191 #[.string s] w (Same w (.bool (Ao s))):=by
  cases hin:inB s.size 1 4
  · go_enter Tryz.func191,Tryz.ntmps191
    go_wp2_with (first
      | (go_at_call 198; refine (Lf _ _ _ _).mono ?_; rintro e w' ⟨rfl,rfl⟩))
    go_ret
    exact Same.mk' _ (by unfold Ao; rw [hin]; simp)
  · have hpos:0<s.size:=by simp [inB] at hin; omega
    have Hb:=Lib.hid (Gi hpos)
    go_enter Tryz.func191,Tryz.ntmps191
    go_wp2_with (first
      | (go_at_call 198; refine (Lf _ _ _ _).mono ?_; rintro e w' ⟨rfl,rfl⟩))
    all_goals first
      | (go_ret
         refine Same.mk' _ ?_
         unfold Ao
         rw [Gj hpos (by rw [←Hb.out]; simp [K0,S2]; omega)]
         rfl)
      | skip
    · go_loopw [3] (fun i wr=>Cnt w s.size (fun k=>1≤k∧FV K0 s k=true) i wr) (fun i _=>s.size-(intOf i).toNat)
      case atStart=>exact ⟨1,hpos,rfl,⟨zQ _,by rw [HG,← Hb.out]; simp [FV,K0,S2]; omega⟩,rfl⟩
      case round =>
        obtain ⟨k,hk,rfl,⟨hk1,hok⟩,rfl⟩:=hrel
        have Hok:=Lib.hid hok
        clear hok
        by_cases hlt:k<s.size
        · have Hbk:=Lib.hid (Gi hlt)
          have hk0:k≠0:=by omega
          go_wp2_with (first
            | (go_at_call 262; refine (Q4 _ _).mono ?_; rintro e w' ⟨rfl,rfl⟩))
          all_goals first
            | (go_ret
               refine Same.mk' _ ?_
               unfold Ao
               rw [Gj hlt (by rw [←Hbk.out]; simp_all [K0] <;> omega)]
               rfl)
            | (go_roundw
               case rel=>exact ⟨_,hlt,by go_num,⟨by omega,JT Hok.out (by rw [←Hbk.out]; simp_all [K0] <;> omega)⟩,rfl⟩
               case measure=>first | exact KP hlt | (simp [intOf]; omega))
        · obtain rfl:k=s.size:=by omega
          go_wp2_with fail
          go_ret
          exact Same.mk' _ (by unfold Ao; rw [Hok.out,hin]; rfl)
theorem Qba (s:ByteArray):Qdm s=(s.toList == [116,114,117,101] || s.toList == [102,97,108,115,101] || s.toList == [116,114,117,116,104] || s.toList == [98,111,116,104] || s.toList == [101,105,116,104,101,114] || s.toList == [105,102] || s.toList == [97,108,108] || s.toList == [115,111,109,101]):=by
 unfold Qdm QcG words
 simp [yB,List.range.loop,Bool.or_assoc]
theorem Wt (s:ByteArray) (w:World) (hs:s.size≤9223372036854775807):Calls Tryz.prog 265 #[.string s] w (Same w (.bool (Fy s))):=by
  cases hin:inB s.size 1 6
  · go_enter Tryz.func265,Tryz.ntmps265
    go_wp2_with (first
      | (go_at_call 198; refine (Lf _ _ _ _).mono ?_; rintro e w' ⟨rfl,rfl⟩))
    go_ret
    exact Same.mk' _ (by unfold Fy; rw [hin]; simp)
  · have hpos:0<s.size:=by simp [inB] at hin; omega
    have Hb:=Lib.hid (Gi hpos)
    cases hres:Qdm s
    case true =>
      have Hres:=Lib.hid hres
      rw [Qba] at hres
      go_enter Tryz.func265,Tryz.ntmps265
      go_wp2_with (first
        | (go_at_call 198; refine (Lf _ _ _ _).mono ?_; rintro e w' ⟨rfl,rfl⟩))
      all_goals first
        | (go_ret
           refine Same.mk' _ ?_
           unfold Fy
           rw [Hres.out]; simp)
        | (exfalso; simp_all; done)
    have Hres:=Lib.hid hres
    rw [Qba] at hres
    simp only [yH] at hres
    obtain ⟨⟨⟨⟨⟨⟨⟨e1,e2⟩,e3⟩,e4⟩,e5⟩,e6⟩,e7⟩,e8⟩:=hres
    go_enter Tryz.func265,Tryz.ntmps265
    go_wp2_with (first
      | (go_at_call 198; refine (Lf _ _ _ _).mono ?_; rintro e w' ⟨rfl,rfl⟩))
    all_goals first
      | (go_ret
         refine Same.mk' _ ?_
         unfold Fy
         rw [Gj hpos (by rw [←Hb.out]; simp [Lg,Wq]; omega)]; rfl)
      | skip
    go_loopw [3] (fun i wr=>Cnt w s.size (fun k=>1≤k∧FV Lg s k=true) i wr) (fun i _=>s.size-(intOf i).toNat)
    case atStart=>exact ⟨1,hpos,rfl,⟨zQ _,by rw [HG,← Hb.out]; simp [FV,Lg,JS,Wq]; omega⟩,rfl⟩
    case round =>
      obtain ⟨k,hk,rfl,⟨hk1,hok⟩,rfl⟩:=hrel
      have Hok:=Lib.hid hok
      clear hok
      by_cases hlt:k<s.size
      · have Hbk:=Lib.hid (Gi hlt)
        have hk0:k≠0:=by omega
        go_wp2_with (first
          | (go_at_call 262; refine (Q4 _ _).mono ?_; rintro e w' ⟨rfl,rfl⟩))
        all_goals first
          | (go_ret
             refine Same.mk' _ ?_
             unfold Fy
             rw [Gj hlt (by rw [←Hbk.out]; simp_all [Lg] <;> omega)]
             rfl)
          | (go_roundw
             case rel=>exact ⟨_,hlt,by go_num,⟨by omega,JT Hok.out (by rw [←Hbk.out]; simp_all [Lg] <;> omega)⟩,rfl⟩
             case measure=>first | exact KP hlt | (simp [intOf]; omega))
      · obtain rfl:k=s.size:=by omega
        go_wp2_with fail
        go_ret
        exact Same.mk' _ (by unfold Fy; rw [Hok.out,hin,Hres.out]; rfl)
end Go.Proofs.YtepbennkcbmgoaaGreatDoor
set_option maxRecDepth 100000
set_option linter.unusedSimpArgs false
set_option linter.unusedVariables false
set_option linter.unusedSectionVars false
namespace Go.Proofs.YtepbennkcbmgoaaGreatDoor
open Go.RowKit Go.Shelf Go.Lib Go.Sort
theorem Qbb {w w':World} {I:Nat→Prop} {V:Nat→Option Value} {B:Nat→Nat→Prop} {t:TypeId} {sz:Nat} {es es':List (List OT)} {b cap:Nat} {cur cur':Array Value} (Sub:Nat→Nat→Nat→Prop)
  (hwf:Wf w I V B (Ap [.row t sz es])) (hv:V 0=some (.slice (some ⟨b,0,none⟩) es.length cap)) (hn:es'.length=es.length) (hs:B 0 b) (hb:w.heap[b]?=some (.cells cur t (0,0)))
  (h1:es.length≤cap) (h2:cap≤9223372036854775807) (h3:cur.size=cap*sz) (h4:∀ i (h:i<es'.length),es'[i].length=sz) (h5:∀ i j x,Sub i j x→B 0 x∧x≠b)
  (h6:∀ i j i' j' x,Sub i j x→Sub i' j' x→i=i'∧j=j')
  (hos:w'.os=w.os) (htape:TapeOk w w') (hout:w'.output=w.output) (hsz:w.heap.size≤w'.heap.size) (hblk:∀ x,x<w.heap.size→x≠b→w'.heap[x]?=w.heap[x]?)
  (hb':w'.heap[b]?=some (.cells cur' t (0,0))) (hcs:cur'.size=cur.size)
  (h7:∀ i j (h:i<es'.length) (h':j<es'[i].length),ORep w' I (Sub i j) (es'[i][j]) (cur'.getD (i*sz+j) undef)) :
  FunPost w I V B [.row t sz es] [.row t sz es'] w' I V B:=by
 have g0:∀ (e:List (List OT)),Ap [Ob.row t sz e] 0=.row t sz e:=fun _=>rfl
 have gS:∀ (e:List (List OT)) (g:Nat),Ap [Ob.row t sz e] (g+1)=.free:=fun _ _=>rfl
 have lv:∀ (e e':List (List OT)) (g:Nat),(Ap [Ob.row t sz e] g).live→(Ap [Ob.row t sz e'] g).live:=fun e e' g h=>by
  cases g with
  | zero=>trivial
  | succ g=>rw [gS] at h; exact h.elim
 have hbS:∀ x,B 0 x→HB B [Ob.row t sz es] x:=fun x hx=>⟨0,trivial,hx⟩
 refine ⟨⟨hos,htape,hout,hsz,fun x hx hn=>hblk x hx fun e=>hn (hbS x (e▸hs))⟩,fun _ h=>h,fun _ h=>.inl h,VLe.refl _,?_,fun g x hl hx=>.inl ⟨g,lv _ _ g hl,hx⟩⟩
 refine ⟨fun x hx=>zT (hwf.ilt x hx) hsz,fun g hl=>?_,fun g x hl hx=>zT (hwf.lt g x (lv _ _ g hl) hx) hsz,fun g x hl hx=>hwf.dI g x (lv _ _ g hl) hx,fun g g' x hl hl' hx hx'=>hwf.dO g g' x (lv _ _ g hl) (lv _ _ g' hl') hx hx',fun g hf=>?_,hwf.gl.keep ⟨hsz,fun x hx hlt=>hblk x hlt fun e=>hwf.dI 0 x trivial (e▸hs) hx⟩ fun _ h=>h⟩
 ·cases g with
  | zero =>
   refine ⟨_,hv,.inr ⟨b,cap,cur',Sub,by rw [hn],hs,hb',by rw [hn]; exact h1,h2,by rw [hcs]; exact h3,h4,h5,h6,h7⟩⟩
  | succ g=>rw [gS] at hl; exact hl.elim
 ·cases g with
  | zero=>cases hf
  | succ g=>exact hwf.fr (g+1) rfl
theorem Lh {w:World} {I:Nat→Prop} {V:Nat→Option Value} {B:Nat→Nat→Prop} {ob:List Ob} (hwf:Wf w I V B (Ap ob)):FunPost w I V B ob ob w I V B :=
 ⟨⟨rfl,TapeOk.mk' rfl rfl,rfl,zQ _,fun _ _ _=>rfl⟩,fun _ h=>h,fun _ h=>.inl h,VLe.refl _,hwf,fun g b hl hb=>.inl ⟨g,hl,hb⟩⟩
theorem Vd:∀ x:List UInt8,Op.bytesLess x x=false
 | []=>rfl
 | a :: x=>by simp [Op.bytesLess,Vd x]
theorem S4:∀ x y z:List UInt8,Op.bytesLess x y=true→Op.bytesLess y z=true→Op.bytesLess x z=true
 | [],_,[],_,h=>by cases ‹List UInt8› <;> simp [Op.bytesLess] at *
 | [],_,_ :: _,_,_=>rfl
 | _ :: _,[],_,h,_=>by simp [Op.bytesLess] at h
 | _ :: _,_ :: _,[],_,h=>by simp [Op.bytesLess] at h
 | a :: x,b :: y,c :: z,h,k=>by
  simp only [Op.bytesLess,yV,decide_eq_true_eq,zB,beq_iff_eq] at h k ⊢
  rcases h with h | ⟨rfl,h⟩
  ·rcases k with k | ⟨rfl,k⟩
   ·exact .inl (UInt8.lt_trans h k)
   ·exact .inl h
  ·rcases k with k | ⟨rfl,k⟩
   ·exact .inl k
   ·exact .inr ⟨rfl,S4 x y z h k⟩
theorem Qab:∀ x y:List UInt8,Op.bytesLess x y=false→Op.bytesLess y x=false→x=y
 | [],[],_,_=>rfl
 | [],_ :: _,h,_=>by simp [Op.bytesLess] at h
 | _ :: _,[],_,h=>by simp [Op.bytesLess] at h
 | a :: x,b :: y,h,k=>by
  simp only [Op.bytesLess,yH,decide_eq_false_iff_not] at h k
  have hab:a=b:=by
   have h1:=h.1; have h2:=k.1
   rw [UInt8.lt_iff_toNat_lt] at h1 h2
   exact UInt8.toNat_inj.1 (by omega)
  subst hab
  have h1:Op.bytesLess x y=false:=by simpa using h.2
  have h2:Op.bytesLess y x=false:=by simpa using k.2
  rw [Qab x y h1 h2]
theorem Qcc (x y z:List UInt8) (h:Op.bytesLess x y=false) (k:Op.bytesLess y z=false):Op.bytesLess x z=false:=by
 cases hz:Op.bytesLess x z with
 | false=>rfl
 | true =>
  cases hyx:Op.bytesLess y x with
  | true=>rw [S4 y x z hyx hz] at k; cases k
  | false=>rw [Qab x y h hyx] at hz; rw [hz] at k; cases k
def cmpL (x y:List UInt8):Int:=if Op.bytesLess x y then -1 else if x == y then 0 else 1
def Ud:List OT→ByteArray
 | .str s :: _=>s
 | _=>⟨#[]⟩
def rowLe (x y:List OT):Bool:=!Op.bytesLess (Ud y).toList (Ud x).toList
theorem ORep.oneCell {w:World} {I S:Nat→Prop} {o:OT} {v:Value} (h:ORep w I S o v):v.oneCell'=true:=by
 cases h with
 | int S n=>rfl
 | bool S b=>rfl
 | str S s h=>rfl
 | sh S es v h=>obtain ⟨a,c,rfl,_⟩:=h.slice_form; rfl
 | nil S=>rfl
 | hole S v h=>exact h
 | row S t sz es b cap cur Sub hS hb h1 h2 h3 h4 h5 h6 h7=>rfl
theorem ORep.strV {w:World} {I S:Nat→Prop} {s:ByteArray} {v:Value} (h:ORep w I S (.str s) v):v=.string s:=by cases h; rfl
theorem ORep.owV {w:World} {I S:Nat→Prop} {es:List (List OT)} {v:Value} (h:ORep w I S (.ow es) v):∃ a n c,v=.slice a n c:=by
 cases h with
 | nil=>exact ⟨_,_,_,rfl⟩
 | row=>exact ⟨_,_,_,rfl⟩
theorem JU {α:Type} [Inhabited α] (enc:α→List Value) (k:Nat) (w:World) (b m:Nat) (dk:Array α) (os:Array Obj) (x:Nat) (hx:x<w.heap.size) :
  (sortWorldK enc k w b 0 m dk os).heap[x]?=if b=x then (w.heap[x]?).map (onCells (putCells id 0 (flatK enc k dk))) else w.heap[x]?:=by
 unfold sortWorldK grow putRowK putRow mapBlock Sort.ahead
 have hx':x<(w.heap.modify b (onCells (putCells id 0 (flatK enc k dk)))).size:=by simpa using hx
 simp only [Array.getElem?_append,Array.size_modify,hx,if_true,yO]
theorem Q5 {α:Type} [Inhabited α] (enc:α→List Value) (k:Nat) (w:World) (b m:Nat) (dk:Array α) (os:Array Obj) {cur:Array Value} {t:TypeId} {fr:Nat × Nat} (hb:w.heap[b]?=some (.cells cur t fr)) :
  (sortWorldK enc k w b 0 m dk os).heap[b]?=some (.cells (putCells id 0 (flatK enc k dk) cur) t fr):=by
 rw [JU enc k w b m dk os b (zV.1 hb).1,if_pos rfl,hb]
 rfl
theorem Q6 {α:Type} [Inhabited α] (enc:α→List Value) (k:Nat) (dk:Array α) (cur:Array Value) {i j:Nat} (hi:i<dk.size) (hj:j<k) (hc:dk.size*k≤cur.size) :
  (putCells id 0 (flatK enc k dk) cur).getD (i*k+j) undef=(enc dk[i]!)[j]!:=by
 have hlt:i*k+j<dk.size*k:=mul_lt hi hj
 have e1:(i*k+j) / k=i:=by rw [Nat.mul_comm,Nat.mul_add_div (by omega),Nat.div_eq_of_lt hj,yK]
 have e2:(i*k+j) % k=j:=by rw [Nat.mul_comm,Nat.mul_add_mod,Nat.mod_eq_of_lt hj]
 have h:=get_flatK enc k dk (i*k+j) hlt
 rw [e1,e2] at h
 have hlt2:i*k+j<cur.size:=zT hlt hc
 simp only [putCells,zM,Array.getElem?_mapIdx,zP hlt2,y4,yP,zR,true_and,size_flatK,yM,hlt,if_true,Nat.sub_zero,id]
 exact h
end Go.Proofs.YtepbennkcbmgoaaGreatDoor
set_option maxRecDepth 100000
namespace Go.Proofs.YtepbennkcbmgoaaGreatDoor
open Go.Shelf
def so_SortB_ren:Go.Shelf.Ren:=⟨fun | 6=>281 | 15=>182 | 14=>318 | 28=>256 | 29=>257 | 20=>329 | 21=>330 | 22=>331 | 23=>332 | 24=>333 | 25=>334 | 26=>335 | 27=>336 | 46=>349 | 47=>301 | 48=>302 | 49=>350 | 50=>351 | 57=>357 | n=>n,fun | 22=>140 | 24=>227 | 25=>261 | 3=>3 | 39=>184 | 0=>0 | 53=>239 | 55=>241 | 4=>4 | 46=>231 | 45=>230 | 50=>236 | 5=>5 | 9=>9 | 66=>271 | 70=>275 | 76=>286 | 77=>287 | n=>n,fun | n=>n⟩
theorem S5:Go.Proofs.SlLaysF0.n6 Tryz.prog so_SortB_ren:={
 mixed:=by kernel_rfl,
 f6:=⟨Tryz.f281.name,by decide,Tryz.func281.trans (congrArg some (by kernel_rfl))⟩,
 f14:=⟨Tryz.f318.name,by decide,Tryz.func318.trans (congrArg some (by kernel_rfl))⟩,
 f15:=Tryz.func182.trans (congrArg some (by kernel_rfl)),
 f20:=⟨Tryz.f329.name,by decide,Tryz.func329.trans (congrArg some (by kernel_rfl))⟩,
 f21:=⟨Tryz.f330.name,by decide,Tryz.func330.trans (congrArg some (by kernel_rfl))⟩,
 f22:=⟨Tryz.f331.name,by decide,Tryz.func331.trans (congrArg some (by kernel_rfl))⟩,
 f23:=⟨Tryz.f332.name,by decide,Tryz.func332.trans (congrArg some (by kernel_rfl))⟩,
 f24:=⟨Tryz.f333.name,by decide,Tryz.func333.trans (congrArg some (by kernel_rfl))⟩,
 f25:=⟨Tryz.f334.name,by decide,Tryz.func334.trans (congrArg some (by kernel_rfl))⟩,
 f26:=⟨Tryz.f335.name,by decide,Tryz.func335.trans (congrArg some (by kernel_rfl))⟩,
 f27:=⟨Tryz.f336.name,by decide,Tryz.func336.trans (congrArg some (by kernel_rfl))⟩,
 f28:=Tryz.func256.trans (congrArg some (by kernel_rfl)),
 f29:=Tryz.func257.trans (congrArg some (by kernel_rfl)),
 f46:=⟨Tryz.f349.name,by decide,Tryz.func349.trans (congrArg some (by kernel_rfl))⟩,
 f47:=Tryz.func301.trans (congrArg some (by kernel_rfl)),
 f48:=Tryz.func302.trans (congrArg some (by kernel_rfl)),
 f49:=⟨Tryz.f350.name,by decide,Tryz.func350.trans (congrArg some (by kernel_rfl))⟩,
 f50:=⟨Tryz.f351.name,by decide,Tryz.func351.trans (congrArg some (by kernel_rfl))⟩,
 f57:=⟨Tryz.f357.name,by decide,Tryz.func357.trans (congrArg some (by kernel_rfl))⟩,
 t0:=Tryz.underlying0,
 a0:=Tryz.isAgg0,
 z0:=Tryz.sizeOf0,
 v0:=Tryz.zeroValue0,
 t3:=Tryz.underlying3,
 a3:=Tryz.isAgg3,
 z3:=Tryz.sizeOf3,
 v3:=Tryz.zeroValue3,
 t4:=Tryz.underlying4,
 a4:=Tryz.isAgg4,
 z4:=Tryz.sizeOf4,
 v4:=Tryz.zeroValue4,
 t5:=Tryz.underlying5,
 a5:=Tryz.isAgg5,
 z5:=Tryz.sizeOf5,
 v5:=Tryz.zeroValue5,
 t9:=Tryz.underlying9,
 a9:=Tryz.isAgg9,
 z9:=Tryz.sizeOf9,
 v9:=Tryz.zeroValue9,
 t22:=Tryz.underlying140,
 a22:=Tryz.isAgg140,
 z22:=Tryz.sizeOf140,
 v22:=Tryz.zeroValue140,
 t25:=Tryz.underlying261,
 a25:=Tryz.isAgg261,
 z25:=Tryz.sizeOf261,
 v25:=Tryz.zeroValue261,
 t39:=Tryz.underlying184,
 a39:=Tryz.isAgg184,
 z39:=Tryz.sizeOf184,
 v39:=Tryz.zeroValue184,
 t45:=Tryz.underlying230,
 a45:=Tryz.isAgg230,
 z45:=Tryz.sizeOf230,
 v45:=Tryz.zeroValue230,
 t46:=Tryz.underlying231,
 a46:=Tryz.isAgg231,
 z46:=Tryz.sizeOf231,
 v46:=Tryz.zeroValue231,
 t50:=Tryz.underlying236,
 a50:=Tryz.isAgg236,
 z50:=Tryz.sizeOf236,
 v50:=Tryz.zeroValue236,
 t53:=Tryz.underlying239,
 a53:=Tryz.isAgg239,
 z53:=Tryz.sizeOf239,
 v53:=Tryz.zeroValue239,
 t55:=Tryz.underlying241,
 a55:=Tryz.isAgg241,
 z55:=Tryz.sizeOf241,
 v55:=Tryz.zeroValue241,
 t66:=Tryz.underlying271,
 a66:=Tryz.isAgg271,
 z66:=Tryz.sizeOf271,
 v66:=Tryz.zeroValue271,
 t70:=Tryz.underlying275,
 a70:=Tryz.isAgg275,
 z70:=Tryz.sizeOf275,
 v70:=Tryz.zeroValue275,
 t76:=Tryz.underlying286,
 a76:=Tryz.isAgg286,
 z76:=Tryz.sizeOf286,
 v76:=Tryz.zeroValue286,
 t77:=Tryz.underlying287,
 a77:=Tryz.isAgg287,
 z77:=Tryz.sizeOf287,
 v77:=Tryz.zeroValue287 }
end Go.Proofs.YtepbennkcbmgoaaGreatDoor
set_option maxRecDepth 100000
set_option linter.unusedSimpArgs false
set_option linter.unusedVariables false
set_option linter.unusedSectionVars false
namespace Go.Proofs.YtepbennkcbmgoaaGreatDoor
open Go.RowKit Go.Shelf Go.Lib Go.Sort
theorem Yj (x:ByteArray) (w:World):Calls Tryz.prog 305 #[.string x] w (Same w (.bool false)):=by
 go_enter Tryz.func305,Tryz.ntmps305
 go_wp2
 go_ret
 exact Same.mk' _ (by simp)
theorem Qac (x y:ByteArray) (w:World):Calls Tryz.prog 283 #[.string x,.string y] w (Same w (.int .i64 (cmpL x.toList y.toList))):=by
 cases h1:Op.bytesLess x.toList y.toList
 ·cases h2:(x.toList == y.toList)
  all_goals
   go_enter Tryz.func283,Tryz.ntmps283
   go_wp2_with (first
    |(go_at_call 305; refine (Yj _ _).mono ?_; rintro e w' ⟨rfl,rfl⟩))
   go_ret
   exact Same.mk' _ (by unfold cmpL; rw [h1,h2]; rfl)
 ·go_enter Tryz.func283,Tryz.ntmps283
  go_wp2_with (first
   |(go_at_call 305; refine (Yj _ _).mono ?_; rintro e w' ⟨rfl,rfl⟩))
  go_ret
  exact Same.mk' _ (by unfold cmpL; rw [h1]; rfl)
theorem Ue (s n s' n':ByteArray) (a a':Option Addr) (l c l' c':Nat) (W:World):Calls Tryz.prog 282 #[.agg #[.string s,.string n,.slice a l c],.agg #[.string s',.string n',.slice a' l' c']] W
  fun e w'=>e=.returned (.int .i64 (cmpL s.toList s'.toList))∧∃ q os',w'=Sort.grow (W.drewN q) os':=by
 generalize hr:cmpL s.toList s'.toList=r
 have hcon:∀ W',Calls Tryz.prog 283 #[.string s,.string s'] W' fun e w'=>e=.returned (.int .i64 r)∧w'=W':=fun W'=>(Qac s s' W').mono fun e w' h=>⟨by rw [←hr]; exact h.1,h.2.symm⟩
 clear hr
 go_enter Tryz.func282,Tryz.ntmps282
 go_wp2_with (go_at_call 283; refine (hcon _).mono ?_; rintro e w' ⟨rfl,rfl⟩)
 go_ret
 exact ⟨rfl,0,_,by rw [alloc_eq_grow,alloc_eq_grow,grow_grow]; rfl⟩
def keyed (es:List (List OT)):Prop:=(∀ e∈es,∃ s n us,e=[.str s,.str n,.ow us])∧(es.map Ud).Nodup∧es.length≤1099511627776
noncomputable def DJ (xs:List SV) (ob:List Ob):Option (SV × List Ob) :=
 match xs,ob with
 | [.ref 0,.fn f []],[.row t sz es]=>bif dec (f=282∧sz=3∧keyed es) then some (.tup [],[.row t sz (es.mergeSort rowLe)]) else none
 | [.nil,.fn f []],[]=>bif dec (f=282) then some (.tup [],[]) else none
 | _,_=>none
theorem Qdn (a b:List UInt8):decide (cmpL a b<0)=Op.bytesLess a b:=by
 unfold cmpL
 cases h:Op.bytesLess a b with
 | true=>rfl
 | false =>
  simp only [yD,if_false]
  split <;> rfl
theorem NV (n:Nat) (key:_root_.Fin n→List UInt8) (x y:_root_.Fin n):ltOf (fun x y=>cmpL (key x) (key y)) x y=Op.bytesLess (key x) (key y):=Qdn _ _
theorem Qgv (n:Nat) (key:_root_.Fin n→List UInt8):SWO (ltOf fun x y=>cmpL (key x) (key y)):=by
 refine ⟨fun x=>by rw [NV]; exact Vd _,fun x y z h k=>?_,fun x y z h k=>?_⟩
 ·rw [NV] at *; exact S4 _ _ _ h k
 ·rw [NV] at *; exact Qcc _ _ _ h k
theorem P4 {xs:List SV} {ob:List Ob} {r:SV} {ob':List Ob} (h:DJ xs ob=some (r,ob')):Fun Tryz.prog 281 xs ob r ob':=by
 unfold DJ at h
 split at h
 ·rename_i f t sz es
  obtain ⟨h1,h2⟩:=Aq h
  obtain ⟨rfl,rfl,hk1,hk2,hk3⟩:=Ar.1 h1
  simp only [zF,zL] at h2
  obtain ⟨rfl,rfl⟩:=h2
  intro w I V B vs hwf hvs
  obtain ⟨v,q,rfl,hv,hvs⟩:=AP hvs
  obtain ⟨v2,q,rfl,hv2,hvs⟩:=AP hvs
  obtain rfl:=Hh hvs
  simp only [RepV] at hv hv2
  obtain ⟨vs2,rfl,hv2⟩:=hv2
  simp only [RepVs] at hv2
  subst hv2
  obtain ⟨val,hval,hrow⟩:=hwf.obj 0 trivial
  rw [hv.1] at hval
  obtain rfl:=zE hval
  have hv0:=hv.1
  have hrow:RowR w I (B 0) t 3 es v:=hrow
  rcases yC es.length with h0 | h0
  ·have he:es=[]:=yA h0
   subst he
   obtain ⟨a,c,rfl,_⟩:=hrow.form
   have hcon:=AnyF.slices_SortFunc_none S5 a c (.func (.func 282) #[] #[]) w
   change Calls Tryz.prog 281 _ _ _ at hcon
   refine hcon.mono ?_
   rintro e w' ⟨rfl,rfl⟩
   rw [List.mergeSort_nil]
   exact ⟨_,I,V,B,rfl,by simp only [RepV,RepVs]; exact ⟨[],rfl,rfl⟩,Lh hwf⟩
  ·rcases hrow with ⟨he,_⟩ | ⟨b,cap,cur,Sub,rfl,hs,hb,g1,g2,g3,g4,g5,g6,g7⟩
   ·subst he; simp at h0
   have hblt:=(zV.1 hb).1
   haveI:Inhabited (_root_.Fin es.length):=⟨⟨0,h0⟩⟩
   let cell:Nat→Nat→Value:=fun i j=>cur.getD (i*3+j) undef
   let enc:_root_.Fin es.length→List Value:=fun i=>[cell i 0,cell i 1,cell i 2]
   let key:_root_.Fin es.length→List UInt8:=fun i=>(Ud es[i]).toList
   let d:Array (_root_.Fin es.length):=(z8 es.length).toArray
   have hdsz:d.size=es.length:=by simp [d]
   have hdget:∀ i (hi:i<es.length),d[i]! = ⟨i,hi⟩:=fun i hi=>by
    rw [getElem!_pos d i (by rw [hdsz]; exact hi)]
    simp [d]
   have lp:∀ i (hi:i<es.length) j (hj:j<3),ORep w I (Sub i j) (es[i][j]'(by rw [g4 i hi]; exact hj)) (cell i j):=fun i hi j hj=>g7 i j hi (by rw [g4 i hi]; exact hj)
   have forms:∀ i:_root_.Fin es.length,∃ (n:ByteArray) (a:Option Addr) (l c:Nat),enc i=[.string (Ud es[i]),.string n,.slice a l c]:=fun i=>by
    obtain ⟨s,n,us,he⟩:=hk1 es[i] (zH _)
    have l0:=lp i i.2 0 (by omega)
    have l1:=lp i i.2 1 (by omega)
    have l2:=lp i i.2 2 (by omega)
    have he':es[i.val]'i.2=[.str s,.str n,.ow us]:=he
    simp only [he',List.getElem_cons_zero,yN] at l0 l1 l2
    obtain ⟨a,l,c,e2⟩:=l2.owV
    refine ⟨n,a,l,c,?_⟩
    show [cell i 0,cell i 1,cell i 2]=_
    rw [l0.strV,l1.strV,e2,he]
    rfl
   have hlen:∀ x,(enc x).length=3:=fun _=>rfl
   have hone:∀ x,∀ v∈enc x,v.oneCell'=true:=fun x v hv=>by
    obtain ⟨n,a,l,c,e⟩:=forms x
    rw [e] at hv
    simp only [zJ,List.not_mem_nil,or_false] at hv
    rcases hv with rfl | rfl | rfl <;> rfl
   have hH:HoldsK enc 3 w b 0 d:=by
    intro j hj
    rw [size_flatK] at hj
    have hq:j / 3<d.size:=by omega
    have hq':j / 3<es.length:=by rw [←hdsz]; exact hq
    have hlt:j<cur.size:=by rw [g3]; have:=yI 3 g1; omega
    refine ⟨?_,?_⟩
    ·rw [yM,cell_of_row w b _ _ _ _ hb,get_flatK enc 3 d j hj,hdget _ hq']
     show cur[j]?=some ([cell (j / 3) 0,cell (j / 3) 1,cell (j / 3) 2][j % 3]!)
     have hm:j % 3=0∨j % 3=1∨j % 3=2:=by omega
     have e:cur[j]?=some (cell (j / 3) (j % 3)):=by
      show cur[j]?=some (cur.getD (j / 3*3+j % 3) undef)
      rw [show j / 3*3+j % 3=j by omega,zP hlt]
      simp [zM,hlt]
     rw [e]
     rcases hm with hm | hm | hm <;> rw [hm] <;> rfl
    ·unfold World.frozen?
     rw [hb]
     simp
   have hcmp:CmpLays Tryz.prog 282 #[] enc 3 (fun x y=>cmpL (key x) (key y)) b 0 d.size w:=by
    intro m os dk _ x y
    obtain ⟨n,a,l,c,e⟩:=forms x
    obtain ⟨n',a',l',c',e'⟩:=forms y
    rw [e,e']
    exact Ue _ n _ n' a a' l c l' c' _
   have eg:∀ args w,(callFunc 282 args).run Tryz.prog w=.ok (.enter 282 args) w:=enters_of Tryz.func282 (by kernel_rfl) rfl
   have hT:∀ x y,ltOf (fun x y=>cmpL (key x) (key y)) x y=false→ltOf (fun x y=>cmpL (key x) (key y)) y x=false→x=y:=fun x y h h'=>by
    rw [NV] at h h'
    have e:=Px (Qab _ _ h h')
    have hi:x.val<(es.map Ud).length:=by simp
    have hi':y.val<(es.map Ud).length:=by simp
    have:=(yQ (h₀:=hi) (h₁:=hi') hk2).1 (by simpa using e)
    exact _root_.Fin.ext this
   have hcon:=AnyQ.slices_SortFunc_total S5 3 Tryz.isAgg227 Tryz.sizeOf227 enc hlen hone (fun x y=>cmpL (key x) (key y)) (Qgv _ key) 282 #[] b 0 cap d w eg hcmp hH hblt (by rw [hdsz]; omega) hT
   change Calls Tryz.prog 281 _ _ _ at hcon
   rw [hdsz] at hcon
   refine hcon.mono ?_
   rintro e w' ⟨rfl,m,os,rfl⟩
   refine ⟨_,I,V,B,rfl,by simp only [RepV,RepVs]; exact ⟨[],rfl,rfl⟩,?_⟩
   let L:List (_root_.Fin es.length):=d.toList.mergeSort fun x y=>!(ltOf fun x y=>cmpL (key x) (key y)) y x
   have hdl:d.toList=z8 es.length:=rfl
   have hLp:L.Perm (z8 es.length):=by rw [←hdl]; exact List.mergeSort_perm _ _
   have hLl:L.length=es.length:=by rw [hLp.length_eq]; simp
   have hLn:L.Nodup:=hLp.nodup_iff.2 (List.nodup_finRange _)
   have hes:es.mergeSort rowLe=L.map fun i=>es[i]:=by
    have e:es=(z8 es.length).map fun i=>es[i]:=by
     apply List.ext_getElem
     ·simp
     ·intro i h1 h2; simp
    have k:=List.map_mergeSort (r:=fun x y=>!(ltOf fun x y=>cmpL (key x) (key y)) y x) (s:=rowLe) (f:=fun i:_root_.Fin es.length=>es[i]) (l:=z8 es.length) (fun a _ b _=>by
     rw [NV]; rfl)
    rw [←e] at k
    exact k.symm
   rw [hes]
   have hg:∀ i (hi:i<L.length) (j:Nat),j<3→(putCells id 0 (flatK enc 3 L.toArray) cur).getD (i*3+j) undef=cell L[i] j:=fun i hi j hj=>by
    have:=Q6 enc 3 L.toArray cur (i:=i) (j:=j) (by simpa using hi) hj (by rw [g3]; simp only [y2,hLl]; exact yI 3 g1)
    rw [this,getElem!_pos L.toArray i (by simpa using hi)]
    simp only [yT]
    show [cell L[i] 0,cell L[i] 1,cell L[i] 2][j]! = _
    have hm:j=0∨j=1∨j=2:=by omega
    rcases hm with rfl | rfl | rfl <;> rfl
   have hgrow:∀ x,x<w.heap.size→x≠b→(sortWorldK enc 3 w b 0 m L.toArray os).heap[x]?=w.heap[x]?:=fun x hx hne=>by
    rw [JU enc 3 w b m _ os x hx,if_neg (fun e=>hne e.symm)]
   refine Qbb (fun i j x=>∃ h:i<L.length,Sub (L[i]).val j x) hwf hv0 (by rw [zG,hLl]) hs hb g1 g2 g3 (fun i hi=>by rw [zU]; exact g4 _ _) (fun i j x h=>g5 _ _ _ h.2) (fun i j i' j' x h h'=>?_) rfl ⟨rfl,fun h=>False.elim h⟩ rfl (size_sortWorldK_c enc 3 w b 0 m _ os) hgrow (Q5 enc 3 w b m _ os hb) (by simp [putCells]) (fun i j hi hj=>?_)
   ·obtain ⟨a1,a2⟩:=h
    obtain ⟨b1,b2⟩:=h'
    obtain ⟨c1,c2⟩:=g6 _ _ _ _ _ a2 b2
    exact ⟨(yQ hLn).1 (_root_.Fin.ext c1),c2⟩
   ·have hi':i<L.length:=by simpa using hi
    have hj':j<3:=by simpa [g4] using hj
    rw [hg i hi' j hj']
    have:=lp L[i] (L[i]).2 j hj'
    have hk:KeepS I w (sortWorldK enc 3 w b 0 m L.toArray os):=⟨size_sortWorldK_c enc 3 w b 0 m _ os,fun x hx hlt=>hgrow x hlt fun e=>hwf.dI 0 x trivial (e▸hs) hx⟩
    have h2:=(this.keep hk (fun _ h=>h) (fun x hx hlt=>hgrow x hlt (g5 _ _ _ hx).2)).up (S':=fun x=>∃ h:i<L.length,Sub (L[i]).val j x) (fun x hx=>⟨hi',hx⟩)
    simp only [zU]
    exact h2
 ·rename_i f
  obtain ⟨h1,h2⟩:=Aq h
  obtain rfl:=Ar.1 h1
  simp only [zF,zL] at h2
  obtain ⟨rfl,rfl⟩:=h2
  intro w I V B vs hwf hvs
  obtain ⟨v,q,rfl,hv,hvs⟩:=AP hvs
  obtain ⟨v2,q,rfl,hv2,hvs⟩:=AP hvs
  obtain rfl:=Hh hvs
  simp only [RepV] at hv hv2
  obtain ⟨vs2,rfl,hv2⟩:=hv2
  simp only [RepVs] at hv2
  subst hv2
  subst hv
  have hcon:=AnyF.slices_SortFunc_none S5 none 0 (.func (.func 282) #[] #[]) w
  change Calls Tryz.prog 281 _ _ _ at hcon
  refine hcon.mono ?_
  rintro e w' ⟨rfl,rfl⟩
  exact ⟨_,I,V,B,rfl,by simp only [RepV,RepVs]; exact ⟨[],rfl,rfl⟩,Lh hwf⟩
 ·cases h
end Go.Proofs.YtepbennkcbmgoaaGreatDoor
set_option maxRecDepth 100000
set_option linter.unusedSimpArgs false
set_option linter.unusedVariables false
set_option linter.unusedSectionVars false
namespace Go.Proofs.YtepbennkcbmgoaaGreatDoor
open Go.RowKit
noncomputable def ED (a b:ByteArray):Int:=bif strLt a b then -1 else bif dec (a=b) then 0 else 1
noncomputable def Ho (a b:Int):Int:=bif dec (a<b) then -1 else bif dec (b<a) then 1 else 0
def orZ (x y:Int):Int:=if x=0 then y else x
mutual
noncomputable def Tm.cmp:Tm→Tm→Int
 | .mk n xs,y=>if Ao n&&!Ao y.name then -1 else if Ao y.name&&!Ao n then 1 else orZ (orZ (ED n y.name) (Ho xs.length y.args.length)) (Tm.cmpL xs y.args)
noncomputable def Tm.cmpL:List Tm→List Tm→Int
 | [],[]=>0
 | [],_ :: _=>-1
 | _ :: _,[]=>1
 | x :: xs,y :: ys=>orZ (Tm.cmp x y) (Tm.cmpL xs ys)
end
theorem Tm.Wu (x y:Tm):x.cmp y=if Ao x.name&&!Ao y.name then -1 else if Ao y.name&&!Ao x.name then 1 else orZ (orZ (ED x.name y.name) (Ho x.args.length y.args.length)) (Tm.cmpL x.args y.args):=by
 obtain ⟨n,xs⟩:=x
 rw [Tm.cmp]; rfl
def Li (s:ByteArray):Bool:=decide (0<s.size)&&(S2 (Kz s 0) == Ao s)
mutual
def Tm.cok:Tm→Bool
 | .mk n xs=>Li n&&Tm.Uf xs
def Tm.Uf:List Tm→Bool
 | []=>true
 | x :: xs=>Tm.cok x&&Tm.Uf xs
end
theorem Tm.Lj (x:Tm):x.cok=(Li x.name&&Tm.Uf x.args):=by
 obtain ⟨n,xs⟩:=x
 rw [Tm.cok]; rfl
theorem Tm.HH {xs:List Tm} (h:Tm.Uf xs=true) {y:Tm} (hy:y∈xs):y.cok=true:=by
 induction xs with
 | nil=>cases hy
 | cons x xs ih =>
  rw [Tm.Uf,zB] at h
  rcases zJ.1 hy with rfl | hy
  ·exact h.1
  ·exact ih h.2 hy
def GC (b:Bool):Int:=if b then 1 else 0
noncomputable def Lt.cmp (x y:Lt):Int:=orZ (x.atom.cmp y.atom) (Ho (GC x.pos) (GC y.pos))
theorem P5:∀ x:List UInt8,Op.bytesLess x x=false
 | []=>rfl
 | a :: x=>by simp [Op.bytesLess,P5 x]
theorem S6:∀ x y z:List UInt8,Op.bytesLess x y=true→Op.bytesLess y z=true→Op.bytesLess x z=true
 | [],_,[],_,h=>by cases ‹List UInt8› <;> simp [Op.bytesLess] at *
 | [],_,_ :: _,_,_=>rfl
 | _ :: _,[],_,h,_=>by simp [Op.bytesLess] at h
 | _ :: _,_ :: _,[],_,h=>by simp [Op.bytesLess] at h
 | a :: x,b :: y,c :: z,h,k=>by
  simp only [Op.bytesLess,yV,decide_eq_true_eq,zB,beq_iff_eq] at h k ⊢
  rcases h with h | ⟨rfl,h⟩
  ·rcases k with k | ⟨rfl,k⟩
   ·exact .inl (UInt8.lt_trans h k)
   ·exact .inl h
  ·rcases k with k | ⟨rfl,k⟩
   ·exact .inl k
   ·exact .inr ⟨rfl,S6 x y z h k⟩
theorem Qdo:∀ x y:List UInt8,Op.bytesLess x y=false→Op.bytesLess y x=false→x=y
 | [],[],_,_=>rfl
 | [],_ :: _,h,_=>by simp [Op.bytesLess] at h
 | _ :: _,[],_,h=>by simp [Op.bytesLess] at h
 | a :: x,b :: y,h,k=>by
  simp only [Op.bytesLess,yH,decide_eq_false_iff_not] at h k
  have hab:a=b:=by
   have h1:=h.1; have h2:=k.1
   rw [UInt8.lt_iff_toNat_lt] at h1 h2
   exact UInt8.toNat_inj.1 (by omega)
  subst hab
  have h1:Op.bytesLess x y=false:=by simpa using h.2
  have h2:Op.bytesLess y x=false:=by simpa using k.2
  rw [Qdo x y h1 h2]
theorem Yk {a b:ByteArray} (h:a.toList=b.toList):a=b:=by
 rw [ByteArray.toList_eq,ByteArray.toList_eq] at h
 obtain ⟨⟨x⟩⟩:=a
 obtain ⟨⟨y⟩⟩:=b
 simp at h
 rw [h]
structure Ord3 {α:Type} (c:α→α→Int) (a b d:α):Prop where
 anti:c b a=- c a b
 zero:c a b=0 ↔ a=b
 trans:c a b<0→c b d<0→c a d<0
theorem S7 (a b d:ByteArray):Ord3 ED a b d:=by
 have key:∀ x y:ByteArray,(ED x y=-1∧strLt x y=true∧x≠y)∨(ED x y=0∧x=y)∨(ED x y=1∧strLt y x=true∧strLt x y=false∧x≠y):=by
  intro x y
  unfold ED
  cases h:strLt x y with
  | true =>
   refine .inl ⟨rfl,rfl,?_⟩
   rintro rfl
   unfold strLt at h
   rw [P5] at h; cases h
  | false =>
   by_cases e:x=y
   ·refine .inr (.inl ⟨?_,e⟩)
    rw [At e]; rfl
   ·refine .inr (.inr ⟨?_,?_,rfl,e⟩)
    ·rw [Ay e]; rfl
    ·cases h2:strLt y x with
     | true=>rfl
     | false=>exact absurd (Yk (Qdo _ _ h h2)) e
 have asy:∀ x y:ByteArray,strLt x y=true→strLt y x=true→False:=fun x y h k=>by
  have:=S6 _ _ _ h k
  rw [P5] at this; cases this
 refine ⟨?_,?_,?_⟩
 ·rcases key a b with ⟨h,h1,h2⟩ | ⟨h,rfl⟩ | ⟨h,h1,h2,h3⟩
  ·rcases key b a with ⟨k,k1,k2⟩ | ⟨k,rfl⟩ | ⟨k,k1,k2,k3⟩
   ·exact (asy _ _ h1 k1).elim
   ·exact absurd rfl h2
   ·rw [h,k]; rfl
  ·rw [h]; rfl
  ·rcases key b a with ⟨k,k1,k2⟩ | ⟨k,rfl⟩ | ⟨k,k1,k2,k3⟩
   ·rw [h,k]
   ·exact absurd rfl h3
   ·exact (asy _ _ h1 k1).elim
 ·rcases key a b with ⟨h,h1,h2⟩ | ⟨h,rfl⟩ | ⟨h,h1,h2,h3⟩
  ·rw [h]; constructor
   ·intro e; cases e
   ·intro e; exact absurd e h2
  ·rw [h]; simp
  ·rw [h]; constructor
   ·intro e; cases e
   ·intro e; exact absurd e h3
 ·intro h k
  rcases key a b with ⟨_,h1,h2⟩ | ⟨e,_⟩ | ⟨e,_⟩
  ·rcases key b d with ⟨_,k1,k2⟩ | ⟨e,_⟩ | ⟨e,_⟩
   ·have:=S6 _ _ _ h1 k1
    have e:strLt a d=true:=this
    unfold ED
    rw [e]; exact (by decide:(-1:Int)<0)
   ·omega
   ·omega
  ·omega
  ·omega
theorem EY (a b d:Int):Ord3 Ho a b d:=by
 have key:∀ x y:Int,Ho x y=if x<y then -1 else if y<x then 1 else 0:=fun x y=>by
  unfold Ho
  by_cases h:x<y
  ·rw [At h,if_pos h]; rfl
  ·rw [Ay h,if_neg h]
   by_cases h2:y<x
   ·rw [At h2,if_pos h2]; rfl
   ·rw [Ay h2,if_neg h2]; rfl
 refine ⟨?_,?_,?_⟩ <;> simp only [key]
 ·split <;> split <;> omega
 ·split
  ·constructor <;> omega
  ·split <;> constructor <;> omega
 ·split <;> split <;> split <;> omega
theorem Lk {a b a' b':Int} (h:a'=-a) (k:b'=-b):orZ a' b'=- orZ a b:=by
 unfold orZ
 subst h k
 split <;> split <;> omega
theorem Ll {a b:Int}:orZ a b=0 ↔ a=0∧b=0:=by
 unfold orZ
 split
 ·rename_i h; simp [h]
 ·rename_i h; simp [h]
theorem Rq {a b:Int}:orZ a b<0 ↔ a<0∨(a=0∧b<0):=by
 unfold orZ
 split <;> omega
theorem NW {α:Type} {c:α→α→Int} (hc:∀ a b d,Ord3 c a b d) {a b d:α} {p q r:Int} (hk:p<0→q<0→r<0) (h1:orZ (c a b) p<0) (h2:orZ (c b d) q<0):orZ (c a d) r<0:=by
 rw [Rq] at h1 h2 ⊢
 rcases h1 with h1 | ⟨h1,h3⟩
 ·rcases h2 with h2 | ⟨h2,h4⟩
  ·exact .inl ((hc a b d).trans h1 h2)
  ·have e:=(hc b d d).zero.1 h2
   subst e
   exact .inl h1
 ·have e:=(hc a b d).zero.1 h1
  subst e
  rcases h2 with h2 | ⟨h2,h4⟩
  ·exact .inl h2
  ·exact .inr ⟨h2,hk h3 h4⟩
def kvZ (n:ByteArray):Int:=if Ao n then 0 else 1
theorem Tm.IS (x y:Tm):x.cmp y=orZ (Ho (kvZ x.name) (kvZ y.name)) (orZ (ED x.name y.name) (orZ (Ho x.args.length y.args.length) (Tm.cmpL x.args y.args))):=by
 rw [Tm.Wu]
 have hI:∀ p q:Int,Ho p q=if p<q then -1 else if q<p then 1 else 0:=fun x y=>by
  unfold Ho
  by_cases h:x<y
  ·rw [At h,if_pos h]; rfl
  ·rw [Ay h,if_neg h]
   by_cases h2:y<x
   ·rw [At h2,if_pos h2]; rfl
   ·rw [Ay h2,if_neg h2]; rfl
 rw [hI (kvZ _) (kvZ _)]
 have e:∀ p q r:Int,orZ (orZ p q) r=orZ p (orZ q r):=fun p q r=>by
  unfold orZ
  by_cases h:p=0
  ·simp [h]
  ·simp [h]
 unfold kvZ
 cases Ao x.name <;> cases Ao y.name <;> simp [e] <;> rfl
mutual
theorem Tm.S8:∀ x y:Tm,y.cmp x=- x.cmp y
 | .mk n xs,.mk m ys=>by
  rw [Tm.IS,Tm.IS (.mk n xs)]
  exact Lk (EY _ _ 0).anti (Lk (S7 _ _ m).anti (Lk (EY _ _ 0).anti (Tm.Ve xs ys)))
theorem Tm.Ve:∀ xs ys:List Tm,Tm.cmpL ys xs=- Tm.cmpL xs ys
 | [],[]=>rfl
 | [],y :: ys=>by rw [Tm.cmpL,Tm.cmpL]; rfl
 | x :: xs,[]=>by rw [Tm.cmpL,Tm.cmpL]
 | x :: xs,y :: ys=>by
  rw [Tm.cmpL,Tm.cmpL]
  exact Lk (Tm.S8 x y) (Tm.Ve xs ys)
end
mutual
theorem Tm.NX:∀ x y:Tm,x.cmp y=0 ↔ x=y
 | .mk n xs,.mk m ys=>by
  rw [Tm.IS,Ll,Ll,Ll,(EY _ _ 0).zero,(S7 _ _ m).zero,(EY _ _ 0).zero,show Tm.cmpL (Tm.mk n xs).args (Tm.mk m ys).args=0 ↔ xs=ys from Tm.Vf xs ys]
  constructor
  ·rintro ⟨_,h1,_,h2⟩
   have h1:n=m:=h1
   rw [h1,h2]
  ·intro h
   injection h with h1 h2
   subst h1 h2
   exact ⟨rfl,rfl,rfl,rfl⟩
theorem Tm.Vf:∀ xs ys:List Tm,Tm.cmpL xs ys=0 ↔ xs=ys
 | [],[]=>by rw [Tm.cmpL]; simp
 | [],y :: ys=>by rw [Tm.cmpL]; simp
 | x :: xs,[]=>by rw [Tm.cmpL]; simp
 | x :: xs,y :: ys=>by rw [Tm.cmpL,Ll,Tm.NX x y,Tm.Vf xs ys,yG]
end
mutual
theorem Tm.Vg:∀ x y z:Tm,x.cmp y<0→y.cmp z<0→x.cmp z<0
 | .mk n xs,.mk m ys,.mk k zs=>by
  rw [Tm.IS,Tm.IS (.mk m ys),Tm.IS (.mk n xs)]
  exact NW EY (NW S7 (NW EY (Tm.S9 xs ys zs)))
theorem Tm.S9:∀ xs ys zs:List Tm,Tm.cmpL xs ys<0→Tm.cmpL ys zs<0→Tm.cmpL xs zs<0
 | [],[],zs=>by rw [Tm.cmpL]; intro h; omega
 | [],y :: ys,[]=>by intro _ h; rw [Tm.cmpL] at h; omega
 | [],y :: ys,z :: zs=>by intro _ _; rw [Tm.cmpL]; omega
 | x :: xs,[],zs=>by intro h; rw [Tm.cmpL] at h; omega
 | x :: xs,y :: ys,[]=>by intro _ h; rw [Tm.cmpL] at h; omega
 | x :: xs,y :: ys,z :: zs=>by
  rw [Tm.cmpL,Tm.cmpL,Tm.cmpL,Rq,Rq,Rq]
  intro h1 h2
  rcases h1 with h1 | ⟨h1,h3⟩
  ·rcases h2 with h2 | ⟨h2,h4⟩
   ·exact .inl (Tm.Vg x y z h1 h2)
   ·obtain rfl:=(Tm.NX y z).1 h2
    exact .inl h1
  ·obtain rfl:=(Tm.NX x y).1 h1
   rcases h2 with h2 | ⟨h2,h4⟩
   ·exact .inl h2
   ·exact .inr ⟨h2,Tm.S9 xs ys zs h3 h4⟩
end
theorem Tm.cmp_ord (x y z:Tm):Ord3 Tm.cmp x y z:=⟨Tm.S8 x y,Tm.NX x y,Tm.Vg x y z⟩
theorem Qcd {a b:Bool}:GC a=GC b ↔ a=b:=by cases a <;> cases b <;> decide
theorem Lt.cmp_ord (x y z:Lt):Ord3 Lt.cmp x y z:=by
 refine ⟨Lk (Tm.S8 _ _) (EY _ _ 0).anti,?_,?_⟩
 ·unfold Lt.cmp
  rw [Ll,(Tm.cmp_ord _ _ x.atom).zero,(EY _ _ 0).zero,Qcd]
  cases x; cases y
  simp [and_comm]
 ·exact NW Tm.cmp_ord fun h k=>(EY _ _ _).trans h k
abbrev Tm.sv (x:Tm):SV:=.agg [.str x.name,.arr (x.args.map Tm.d)]
mutual
def Tm.o:Tm→List OT
 | .mk name args=>[.str name,.ow (Tm.os args)]
def Tm.os:List Tm→List (List OT)
 | []=>[]
 | x :: xs=>Tm.o x :: Tm.os xs
end
theorem Tm.os_eq:∀ xs:List Tm,Tm.os xs=xs.map Tm.o
 | []=>rfl
 | x :: xs=>by rw [Tm.os,Tm.os_eq xs]; rfl
theorem Tm.o_eq (x:Tm):Tm.o x=[.str x.name,.ow (x.args.map Tm.o)]:=by
 obtain ⟨name,args⟩:=x
 rw [Tm.o,Tm.os_eq]; rfl
theorem Tm.ers_of:∀ xs:List Tm,(∀ x∈xs,OT.ers (Tm.o x)=Tm.d x)→OT.erss (xs.map Tm.o)=xs.map Tm.d
 | [],_=>rfl
 | x :: xs,h=>by
  simp only [zC,OT.erss]
  rw [h x (by simp),Tm.ers_of xs fun y hy=>h y (by simp [hy])]
theorem Tm.er (x:Tm):OT.ers (Tm.o x)=Tm.d x:=by
 have h:=Tm.ers_of x.args fun y hy=>Tm.er y
 rw [Tm.o_eq,Tm.d_eq]
 simp only [OT.ers,OT.er,h]
termination_by SizeOf.sizeOf x
decreasing_by exact Tm.lt_of_mem hy
theorem Tm.erss (xs:List Tm):OT.erss (xs.map Tm.o)=xs.map Tm.d:=Tm.ers_of xs fun x _=>Tm.er x
theorem Tm.nos_of:∀ xs:List Tm,(∀ x∈xs,OT.DG (Tm.o x)=true)→OT.BF (xs.map Tm.o)=true
 | [],_=>rfl
 | x :: xs,h=>by
  simp only [zC,OT.BF]
  rw [h x (by simp),Tm.nos_of xs fun y hy=>h y (by simp [hy])]; rfl
theorem Tm.no (x:Tm):OT.DG (Tm.o x)=true:=by
 have h:=Tm.nos_of x.args fun y hy=>Tm.no y
 rw [Tm.o_eq]
 simp only [OT.DG,OT.noSh,h,zD,zN]
termination_by SizeOf.sizeOf x
decreasing_by exact Tm.lt_of_mem hy
theorem Tm.noss (xs:List Tm):OT.BF (xs.map Tm.o)=true:=Tm.nos_of xs fun x _=>Tm.no x
abbrev Tm.osv (x:Tm):SV:=.agg [.str x.name,.ref 0]
abbrev Tm.obs (x:Tm):List Ob:=[.row 33 2 (x.args.map Tm.o)]
mutual
def Fm.o:Fm→List OT
 | .mk op atom var parts=>[.int op,.str atom.name,.ow (atom.args.map Tm.o),.str var,.ow (Fm.os parts)]
def Fm.os:List Fm→List (List OT)
 | []=>[]
 | x :: xs=>Fm.o x :: Fm.os xs
end
theorem Fm.os_eq:∀ xs:List Fm,Fm.os xs=xs.map Fm.o
 | []=>rfl
 | x :: xs=>by rw [Fm.os,Fm.os_eq xs]; rfl
theorem Fm.o_eq (x:Fm):Fm.o x=[.int x.op,.str x.atom.name,.ow (x.atom.args.map Tm.o),.str x.var,.ow (x.parts.map Fm.o)]:=by
 obtain ⟨op,atom,var,parts⟩:=x
 rw [Fm.o,Fm.os_eq]; rfl
theorem Fm.ers_of:∀ xs:List Fm,(∀ x∈xs,OT.ers (Fm.o x)=Fm.d x)→OT.erss (xs.map Fm.o)=xs.map Fm.d
 | [],_=>rfl
 | x :: xs,h=>by
  simp only [zC,OT.erss]
  rw [h x (by simp),Fm.ers_of xs fun y hy=>h y (by simp [hy])]
theorem Fm.er (x:Fm):OT.ers (Fm.o x)=Fm.d x:=by
 have h:=Fm.ers_of x.parts fun y hy=>Fm.er y
 rw [Fm.o_eq,Fm.d_eq]
 simp only [OT.ers,OT.er,h,Tm.erss]
termination_by SizeOf.sizeOf x
decreasing_by exact Fm.lt_of_mem hy
theorem Fm.erss (xs:List Fm):OT.erss (xs.map Fm.o)=xs.map Fm.d:=Fm.ers_of xs fun x _=>Fm.er x
theorem Fm.nos_of:∀ xs:List Fm,(∀ x∈xs,OT.DG (Fm.o x)=true)→OT.BF (xs.map Fm.o)=true
 | [],_=>rfl
 | x :: xs,h=>by
  simp only [zC,OT.BF]
  rw [h x (by simp),Fm.nos_of xs fun y hy=>h y (by simp [hy])]; rfl
theorem Fm.no (x:Fm):OT.DG (Fm.o x)=true:=by
 have h:=Fm.nos_of x.parts fun y hy=>Fm.no y
 rw [Fm.o_eq]
 simp only [OT.DG,OT.noSh,h,Tm.noss,zD,zN]
termination_by SizeOf.sizeOf x
decreasing_by exact Fm.lt_of_mem hy
theorem Fm.noss (xs:List Fm):OT.BF (xs.map Fm.o)=true:=Fm.nos_of xs fun x _=>Fm.no x
abbrev Lt.sv (x:Lt):SV:=.agg [.bool x.pos,.str x.atom.name,.arr (x.atom.args.map Tm.d)]
def Lt.o (x:Lt):List OT:=[.bool x.pos,.str x.atom.name,.ow (x.atom.args.map Tm.o)]
theorem Lt.o_eq (x:Lt):Lt.o x=[.bool x.pos,.str x.atom.name,.ow (x.atom.args.map Tm.o)]:=rfl
theorem Lt.er (x:Lt):OT.ers (Lt.o x)=Lt.d x:=by
 simp only [Lt.o,Lt.d,OT.ers,OT.er,Tm.erss]
theorem Lt.erss:∀ xs:List Lt,OT.erss (xs.map Lt.o)=xs.map Lt.d
 | []=>rfl
 | x :: xs=>by simp only [zC,OT.erss,Lt.er,Lt.erss xs]
theorem Lt.no (x:Lt):OT.DG (Lt.o x)=true:=by
 simp only [Lt.o,OT.DG,OT.noSh,Tm.noss,zD,zN]
theorem Lt.noss:∀ xs:List Lt,OT.BF (xs.map Lt.o)=true
 | []=>rfl
 | x :: xs=>by simp only [zC,OT.BF,Lt.no,Lt.noss xs,zD]
abbrev Lt.osv (x:Lt):SV:=.agg [.bool x.pos,.str x.atom.name,.ref 0]
abbrev Lt.obs (x:Lt):List Ob:=[.row 33 2 (x.atom.args.map Tm.o)]
abbrev Cl.sv (x:Cl):SV:=.agg [.arr (x.lits.map Lt.d)]
def Cl.o (x:Cl):List OT:=[.ow (x.lits.map Lt.o)]
theorem Cl.o_eq (x:Cl):Cl.o x=[.ow (x.lits.map Lt.o)]:=rfl
theorem Cl.er (x:Cl):OT.ers (Cl.o x)=Cl.d x:=by
 simp only [Cl.o,Cl.d,OT.ers,OT.er,Lt.erss]
theorem Cl.erss:∀ xs:List Cl,OT.erss (xs.map Cl.o)=xs.map Cl.d
 | []=>rfl
 | x :: xs=>by simp only [zC,OT.erss,Cl.er,Cl.erss xs]
theorem Cl.no (x:Cl):OT.DG (Cl.o x)=true:=by
 simp only [Cl.o,OT.DG,OT.noSh,Lt.noss,zD,zN]
theorem Cl.noss:∀ xs:List Cl,OT.BF (xs.map Cl.o)=true
 | []=>rfl
 | x :: xs=>by simp only [zC,OT.BF,Cl.no,Cl.noss xs,zD]
abbrev Cl.osv (x:Cl):SV:=.agg [.ref 0]
abbrev Cl.obs (x:Cl):List Ob:=[.row 122 3 (x.lits.map Lt.o)]
abbrev Bd.sv (x:Bd):SV:=.agg [.str x.var,.str x.term.name,.arr (x.term.args.map Tm.d)]
def Bd.o (x:Bd):List OT:=[.str x.var,.str x.term.name,.ow (x.term.args.map Tm.o)]
theorem Bd.er (x:Bd):OT.ers (Bd.o x)=Bd.d x:=by
 simp only [Bd.o,Bd.d,OT.ers,OT.er,Tm.erss]
theorem Bd.erss:∀ xs:List Bd,OT.erss (xs.map Bd.o)=xs.map Bd.d
 | []=>rfl
 | x :: xs=>by simp only [zC,OT.erss,Bd.er,Bd.erss xs]
theorem Bd.no (x:Bd):OT.DG (Bd.o x)=true:=by
 simp only [Bd.o,OT.DG,OT.noSh,Tm.noss,zD,zN]
theorem Bd.noss:∀ xs:List Bd,OT.BF (xs.map Bd.o)=true
 | []=>rfl
 | x :: xs=>by simp only [zC,OT.BF,Bd.no,Bd.noss xs,zD]
abbrev Sb.sv (x:Sb):SV:=.agg [.arr (x.binds.map Bd.d)]
def Sb.o (x:Sb):List OT:=[.ow (x.binds.map Bd.o)]
theorem Sb.er (x:Sb):OT.ers (Sb.o x)=Sb.d x:=by
 simp only [Sb.o,Sb.d,OT.ers,OT.er,Bd.erss]
theorem Sb.erss:∀ xs:List Sb,OT.erss (xs.map Sb.o)=xs.map Sb.d
 | []=>rfl
 | x :: xs=>by simp only [zC,OT.erss,Sb.er,Sb.erss xs]
theorem Sb.no (x:Sb):OT.DG (Sb.o x)=true:=by
 simp only [Sb.o,OT.DG,OT.noSh,Bd.noss,zD,zN]
theorem Sb.noss:∀ xs:List Sb,OT.BF (xs.map Sb.o)=true
 | []=>rfl
 | x :: xs=>by simp only [zC,OT.BF,Sb.no,Sb.noss xs,zD]
abbrev Sb.osv (x:Sb):SV:=.agg [.ref 0]
abbrev Sb.obs (x:Sb):List Ob:=[.row 227 3 (x.binds.map Bd.o)]
def Df.o (x:Df):List OT:=[.str x.name,.ow (x.vars.map fun s=>[OT.str s]),.int x.form.op,.str x.form.atom.name,.ow (x.form.atom.args.map Tm.o),.str x.form.var,.ow (x.form.parts.map Fm.o)]
theorem Df.er (x:Df):OT.ers (Df.o x)=Df.d x:=by
 simp only [Df.o,Df.d,OT.ers,OT.er,Wo,Tm.erss,Fm.erss]
theorem Df.erss:∀ xs:List Df,OT.erss (xs.map Df.o)=xs.map Df.d
 | []=>rfl
 | x :: xs=>by simp only [zC,OT.erss,Df.er,Df.erss xs]
theorem Df.no (x:Df):OT.DG (Df.o x)=true:=by
 simp only [Df.o,OT.DG,OT.noSh,QaZ,Tm.noss,Fm.noss,zD,zN]
theorem Df.noss:∀ xs:List Df,OT.BF (xs.map Df.o)=true
 | []=>rfl
 | x :: xs=>by simp only [zC,OT.BF,Df.no,Df.noss xs,zD]
end Go.Proofs.YtepbennkcbmgoaaGreatDoor
set_option maxRecDepth 100000
namespace Go.Proofs.YtepbennkcbmgoaaGreatDoor
open Go.Shelf
def so_SortL_ren:Go.Shelf.Ren:=⟨fun | 6=>287 | 15=>182 | 14=>319 | 28=>256 | 29=>257 | 20=>337 | 21=>338 | 22=>339 | 23=>340 | 24=>341 | 25=>342 | 26=>343 | 27=>344 | 46=>352 | 47=>301 | 48=>302 | 49=>353 | 50=>354 | 57=>358 | n=>n,fun | 22=>58 | 24=>122 | 25=>191 | 3=>3 | 39=>184 | 0=>0 | 53=>239 | 55=>241 | 4=>4 | 46=>231 | 45=>230 | 50=>236 | 5=>5 | 9=>9 | 66=>271 | 70=>275 | 76=>286 | 77=>287 | n=>n,fun | n=>n⟩
theorem SA:Go.Proofs.SlLaysF0.n6 Tryz.prog so_SortL_ren:={
 mixed:=by kernel_rfl,
 f6:=⟨Tryz.f287.name,by decide,Tryz.func287.trans (congrArg some (by kernel_rfl))⟩,
 f14:=⟨Tryz.f319.name,by decide,Tryz.func319.trans (congrArg some (by kernel_rfl))⟩,
 f15:=Tryz.func182.trans (congrArg some (by kernel_rfl)),
 f20:=⟨Tryz.f337.name,by decide,Tryz.func337.trans (congrArg some (by kernel_rfl))⟩,
 f21:=⟨Tryz.f338.name,by decide,Tryz.func338.trans (congrArg some (by kernel_rfl))⟩,
 f22:=⟨Tryz.f339.name,by decide,Tryz.func339.trans (congrArg some (by kernel_rfl))⟩,
 f23:=⟨Tryz.f340.name,by decide,Tryz.func340.trans (congrArg some (by kernel_rfl))⟩,
 f24:=⟨Tryz.f341.name,by decide,Tryz.func341.trans (congrArg some (by kernel_rfl))⟩,
 f25:=⟨Tryz.f342.name,by decide,Tryz.func342.trans (congrArg some (by kernel_rfl))⟩,
 f26:=⟨Tryz.f343.name,by decide,Tryz.func343.trans (congrArg some (by kernel_rfl))⟩,
 f27:=⟨Tryz.f344.name,by decide,Tryz.func344.trans (congrArg some (by kernel_rfl))⟩,
 f28:=Tryz.func256.trans (congrArg some (by kernel_rfl)),
 f29:=Tryz.func257.trans (congrArg some (by kernel_rfl)),
 f46:=⟨Tryz.f352.name,by decide,Tryz.func352.trans (congrArg some (by kernel_rfl))⟩,
 f47:=Tryz.func301.trans (congrArg some (by kernel_rfl)),
 f48:=Tryz.func302.trans (congrArg some (by kernel_rfl)),
 f49:=⟨Tryz.f353.name,by decide,Tryz.func353.trans (congrArg some (by kernel_rfl))⟩,
 f50:=⟨Tryz.f354.name,by decide,Tryz.func354.trans (congrArg some (by kernel_rfl))⟩,
 f57:=⟨Tryz.f358.name,by decide,Tryz.func358.trans (congrArg some (by kernel_rfl))⟩,
 t0:=Tryz.underlying0,
 a0:=Tryz.isAgg0,
 z0:=Tryz.sizeOf0,
 v0:=Tryz.zeroValue0,
 t3:=Tryz.underlying3,
 a3:=Tryz.isAgg3,
 z3:=Tryz.sizeOf3,
 v3:=Tryz.zeroValue3,
 t4:=Tryz.underlying4,
 a4:=Tryz.isAgg4,
 z4:=Tryz.sizeOf4,
 v4:=Tryz.zeroValue4,
 t5:=Tryz.underlying5,
 a5:=Tryz.isAgg5,
 z5:=Tryz.sizeOf5,
 v5:=Tryz.zeroValue5,
 t9:=Tryz.underlying9,
 a9:=Tryz.isAgg9,
 z9:=Tryz.sizeOf9,
 v9:=Tryz.zeroValue9,
 t22:=Tryz.underlying58,
 a22:=Tryz.isAgg58,
 z22:=Tryz.sizeOf58,
 v22:=Tryz.zeroValue58,
 t25:=Tryz.underlying191,
 a25:=Tryz.isAgg191,
 z25:=Tryz.sizeOf191,
 v25:=Tryz.zeroValue191,
 t39:=Tryz.underlying184,
 a39:=Tryz.isAgg184,
 z39:=Tryz.sizeOf184,
 v39:=Tryz.zeroValue184,
 t45:=Tryz.underlying230,
 a45:=Tryz.isAgg230,
 z45:=Tryz.sizeOf230,
 v45:=Tryz.zeroValue230,
 t46:=Tryz.underlying231,
 a46:=Tryz.isAgg231,
 z46:=Tryz.sizeOf231,
 v46:=Tryz.zeroValue231,
 t50:=Tryz.underlying236,
 a50:=Tryz.isAgg236,
 z50:=Tryz.sizeOf236,
 v50:=Tryz.zeroValue236,
 t53:=Tryz.underlying239,
 a53:=Tryz.isAgg239,
 z53:=Tryz.sizeOf239,
 v53:=Tryz.zeroValue239,
 t55:=Tryz.underlying241,
 a55:=Tryz.isAgg241,
 z55:=Tryz.sizeOf241,
 v55:=Tryz.zeroValue241,
 t66:=Tryz.underlying271,
 a66:=Tryz.isAgg271,
 z66:=Tryz.sizeOf271,
 v66:=Tryz.zeroValue271,
 t70:=Tryz.underlying275,
 a70:=Tryz.isAgg275,
 z70:=Tryz.sizeOf275,
 v70:=Tryz.zeroValue275,
 t76:=Tryz.underlying286,
 a76:=Tryz.isAgg286,
 z76:=Tryz.sizeOf286,
 v76:=Tryz.zeroValue286,
 t77:=Tryz.underlying287,
 a77:=Tryz.isAgg287,
 z77:=Tryz.sizeOf287,
 v77:=Tryz.zeroValue287 }
end Go.Proofs.YtepbennkcbmgoaaGreatDoor
set_option maxRecDepth 100000
set_option linter.unusedSimpArgs false
set_option linter.unusedVariables false
set_option linter.unusedSectionVars false
namespace Go.Proofs.YtepbennkcbmgoaaGreatDoor
open Go.RowKit Go.Shelf Go.Lib Go.Sort
mutual
theorem Tm.o_inj:∀ x y:Tm,Tm.o x=Tm.o y→x=y
 | .mk n xs,.mk m ys,h=>by
  rw [Tm.o_eq,Tm.o_eq] at h
  simp only [yG,OT.str.injEq,OT.ow.injEq,and_true] at h
  have h1:n=m:=h.1
  rw [h1,Tm.os_inj xs ys h.2]
theorem Tm.os_inj:∀ xs ys:List Tm,xs.map Tm.o=ys.map Tm.o→xs=ys
 | [],[],_=>rfl
 | [],y :: ys,h=>by simp at h
 | x :: xs,[],h=>by simp at h
 | x :: xs,y :: ys,h=>by
  simp only [zC,yG] at h
  rw [Tm.o_inj x y h.1,Tm.os_inj xs ys h.2]
end
theorem Lt.o_inj (x y:Lt) (h:Lt.o x=Lt.o y):x=y:=by
 rw [Lt.o_eq,Lt.o_eq] at h
 simp only [yG,OT.bool.injEq,OT.str.injEq,OT.ow.injEq,and_true] at h
 obtain ⟨p,⟨n,xs⟩⟩:=x
 obtain ⟨q,⟨m,ys⟩⟩:=y
 obtain ⟨h1,h2,h3⟩:=h
 have h1:p=q:=h1
 have h2:n=m:=h2
 rw [h1,h2,Tm.os_inj xs ys h3]
theorem Lt.os_inj:∀ {xs ys:List Lt},xs.map Lt.o=ys.map Lt.o→xs=ys
 | [],[],_=>rfl
 | [],y :: ys,h=>by simp at h
 | x :: xs,[],h=>by simp at h
 | x :: xs,y :: ys,h=>by
  simp only [zC,yG] at h
  rw [Lt.o_inj x y h.1,Lt.os_inj h.2]
theorem Qad:∀ xs:List Tm,(∀ x∈xs,OT.CB (Tm.o x)=true)→OT.AA (xs.map Tm.o)=true
 | [],_=>rfl
 | x :: xs,h=>by
  simp only [zC,OT.AA]
  rw [h x (by simp),Qad xs fun y hy=>h y (by simp [hy])]; rfl
theorem lfu (x:Tm):OT.CB (Tm.o x)=true:=by
 have h:=Qad x.args fun y hy=>lfu y
 rw [Tm.o_eq]
 simp only [OT.CB,OT.full,h,zD,zN]
termination_by SizeOf.sizeOf x
decreasing_by exact Tm.lt_of_mem hy
noncomputable def unL (es:List (List OT)):List Lt:=match Classical.propDecidable (∃ xs:List Lt,es=xs.map Lt.o) with
 | .isTrue h=>Classical.choose h
 | .isFalse _=>[]
theorem Rr (xs:List Lt):unL (xs.map Lt.o)=xs:=by
 unfold unL
 split
 ·rename_i h _
  exact (Lt.os_inj (Classical.choose_spec h)).symm
 ·rename_i h _
  exact absurd ⟨xs,rfl⟩ h
theorem Lt.NY {x y z:Lt} (h:x.cmp y≤0) (k:y.cmp z≤0):x.cmp z≤0:=by
 by_cases h0:x.cmp y=0
 ·rw [(Lt.cmp_ord x y z).zero.1 h0]; exact k
 ·by_cases k0:y.cmp z=0
  ·rw [←(Lt.cmp_ord y z z).zero.1 k0]; exact h
  ·have:=(Lt.cmp_ord x y z).trans (by omega) (by omega)
   omega
noncomputable def NZ (xs:List Lt):List Lt:=xs.mergeSort fun x y=>decide (x.cmp y≤0)
def Oa (xs:List Lt):Prop:=xs.Pairwise fun x y=>x.cmp y≤0
theorem Oc:∀ {xs ys:List Lt},xs.Perm ys→Oa xs→Oa ys→xs=ys
 | [],ys,h,_,_=>(List.nil_perm.1 h).symm
 | x :: xs,[],h,_,_=>by simp at h
 | x :: xs,y :: ys,h,h1,h2=>by
  have hx:x.cmp y≤0:=by
   have hm:y∈x :: xs:=h.mem_iff.2 (by simp)
   rcases zJ.1 hm with e | hm
   ·subst e
    have:=(Lt.cmp_ord y y y).zero.2 rfl
    omega
   ·exact (zZ.1 h1).1 y hm
  have hy:y.cmp x≤0:=by
   have hm:x∈y :: ys:=h.mem_iff.1 (by simp)
   rcases zJ.1 hm with e | hm
   ·subst e
    have:=(Lt.cmp_ord x x x).zero.2 rfl
    omega
   ·exact (zZ.1 h2).1 x hm
  have ha:=(Lt.cmp_ord x y y).anti
  have e:x=y:=(Lt.cmp_ord x y y).zero.1 (by omega)
  subst e
  rw [Oc ((List.perm_cons x).1 h) (zZ.1 h1).2 (zZ.1 h2).2]
theorem Hw (xs:List Lt):(NZ xs).Perm xs:=List.mergeSort_perm _ _
theorem Q7 (xs:List Lt):Oa (NZ xs):=by
 have h:=List.pairwise_mergeSort (le:=fun x y:Lt=>decide (x.cmp y≤0)) (fun a b c h k=>by
  simp only [decide_eq_true_eq] at h k ⊢
  exact Lt.NY h k) (fun a b=>by
  have:=(Lt.cmp_ord a b b).anti
  simp only [yV,decide_eq_true_eq]
  omega) xs
 exact h.imp fun h=>by simpa using h
theorem Yl (g:Nat):¬ (Ap ([]:List Ob) g).live:=fun h=>by
 have e:Ap ([]:List Ob) g=.free:=rfl
 rw [e] at h
 exact h
theorem QeG {W:World} {J:Nat→Prop} (h:∀ b,J b→b<W.heap.size) (hg:GL W J):Wf W J (fun _=>none) (fun _ _=>False) (Ap []) :=
 ⟨h,fun g hl=>(Yl g hl).elim,fun g b hl=>(Yl g hl).elim,fun g b hl=>(Yl g hl).elim,fun g g' b hl=>(Yl g hl).elim,fun g _=>rfl,hg⟩
theorem grown_of {W w':World} (h:Below W.heap.size W w') (hd:W.drawn≤w'.drawn):∃ q os',w'=Sort.grow (W.drewN q) os':=by
 obtain ⟨⟨d,os⟩,e⟩:=regrown_of_below h
 refine ⟨d-W.drawn,os,?_⟩
 have hd':w'.drawn=d:=by rw [e]; rfl
 have e2:redrawn W d=W.drewN (d-W.drawn):=by
  unfold redrawn World.drewN
  rw [show W.drawn+(d-W.drawn)=d by omega]
 rw [e]
 show Sort.grow (redrawn W d) os=_
 rw [e2]
theorem Vh [Flag] {f:FuncId} {x y z:SV} (hF:Fun Tryz.prog f [x,y] [] z []) {W:World} {J:Nat→Prop} (hJ:∀ b,J b→b<W.heap.size) (hg:GL W J) {vx vy:Value} (hx:RepV W J (fun _=>none) x vx) (hy:RepV W J (fun _=>none) y vy) :
  Calls Tryz.prog f #[vx,vy] W fun e w'=>(∃ v I' V',e=.returned v∧RepV w' I' V' z v)∧Below W.heap.size W w'∧(Flag.d→W.drawn≤w'.drawn):=by
 have h:=hF W J (fun _=>none) (fun _ _=>False) [vx,vy] (QeG hJ hg) (by simp only [RepVs]; exact ⟨vx,_,rfl,hx,vy,_,rfl,hy,rfl⟩)
 refine h.mono ?_
 rintro e w' ⟨v,I',V',B',rfl,hr,hp⟩
 exact ⟨⟨v,I',V',rfl,hr⟩,⟨hp.fr.os,hp.fr.tape.1,hp.fr.output,hp.fr.size,fun b hb=>hp.fr.block b hb fun ⟨g,hl,_⟩=>Yl g hl⟩,hp.fr.tape.2⟩
theorem QeH {f:FuncId} {x y:SV} {z:Int} (hF:FunD Tryz.prog f [x,y] [] (.int .i64 z) []) {W:World} {J:Nat→Prop} (hJ:∀ b,J b→b<W.heap.size) (hg:GL W J) {vx vy:Value} (hx:RepV W J (fun _=>none) x vx) (hy:RepV W J (fun _=>none) y vy) :
  Calls Tryz.prog f #[vx,vy] W fun e w'=>e=.returned (.int .i64 z)∧∃ q os',w'=Sort.grow (W.drewN q) os':=by
 refine (@Vh Ro f x y _ hF W J hJ hg vx vy hx hy).mono ?_
 rintro e w' ⟨⟨v,I',V',rfl,hr⟩,hb,hd⟩
 simp only [RepV] at hr
 subst hr
 exact ⟨rfl,grown_of hb (hd trivial)⟩
theorem QfE {f:FuncId} {x y:SV} {z:Bool} (hF:Fun Tryz.prog f [x,y] [] (.bool z) []) {W:World} {J:Nat→Prop} (hJ:∀ b,J b→b<W.heap.size) (hg:GL W J) {vx vy:Value} (hx:RepV W J (fun _=>none) x vx) (hy:RepV W J (fun _=>none) y vy) :
  Calls Tryz.prog f #[vx,vy] W (Ret W (.bool z)):=by
 refine (Vh hF hJ hg hx hy).mono ?_
 rintro e w' ⟨⟨v,I',V',rfl,hr⟩,hb,_⟩
 simp only [RepV] at hr
 subst hr
 exact ⟨rfl,hb⟩
theorem Qbc {α:Type} (d:Array α) (n:Nat) (h:d.size=n):d.extract 0 n=d:=by
 subst h
 exact Array.extract_size
theorem Qdp {w:World} {I S:Nat→Prop} {b:Nat} {cur:Array Value} {Sub:Nat→Nat→Nat→Prop} {xs:List Lt}
  (h5:∀ i j x,Sub i j x→S x∧x≠b) (h7:∀ i j (h:i<(xs.map Lt.o).length) (h':j<(xs.map Lt.o)[i].length),ORep w I (Sub i j) ((xs.map Lt.o)[i][j]) (cur.getD (i*3+j) undef)) (i:Nat) (hi:i<xs.length) :
  ∃ (a:Option Addr) (l c:Nat),cur.getD (i*3+0) undef=.bool xs[i].pos∧cur.getD (i*3+1) undef=.string xs[i].atom.name∧cur.getD (i*3+2) undef=.slice a l c ∧
   RepV w (fun x=>I x∨(S x∧x≠b)) (fun _=>none) xs[i].sv (.agg #[.bool xs[i].pos,.string xs[i].atom.name,.slice a l c]):=by
 have hi':i<(xs.map Lt.o).length:=by simpa using hi
 have he:(xs.map Lt.o)[i]=[.bool xs[i].pos,.str xs[i].atom.name,.ow (xs[i].atom.args.map Tm.o)]:=by rw [zU,Lt.o_eq]
 have l0:=h7 i 0 hi' (by rw [he]; simp)
 have l1:=h7 i 1 hi' (by rw [he]; simp)
 have l2:=h7 i 2 hi' (by rw [he]; simp)
 simp only [he,List.getElem_cons_zero,yN] at l0 l1 l2
 obtain ⟨a,l,c,e2⟩:=l2.owV
 have e0:cur.getD (i*3+0) undef=.bool xs[i].pos:=by cases h:cur.getD (i*3+0) undef <;> rw [h] at l0 <;> cases l0 <;> rfl
 have e1:cur.getD (i*3+1) undef=.string xs[i].atom.name∧xs[i].atom.name.size≤9223372036854775807:=by
  cases h:cur.getD (i*3+1) undef <;> rw [h] at l1 <;> cases l1
  exact ⟨rfl,by assumption⟩
 refine ⟨a,l,c,e0,e1.1,e2,?_⟩
 rw [e2] at l2
 have hd:=l2.er (T:=fun x=>I x∨(S x∧x≠b)) (fun x hx=>.inr (h5 _ _ _ hx)) (fun x hx=>.inl hx) (by
  simp only [OT.full]
  exact Qad _ fun y _=>lfu y)
 simp only [OT.er,Tm.erss] at hd
 simp only [RepV,RepVs]
 exact ⟨_,rfl,_,_,rfl,rfl,_,_,rfl,⟨rfl,e1.2⟩,_,_,rfl,hd,rfl⟩
noncomputable def Is (xs:List SV) (ob:List Ob):Option (SV × List Ob) :=
 match xs,ob with
 | [.ref 0,.fn f []],[.row t sz es]=>bif dec (f=203∧sz=3∧es.length≤1099511627776∧∃ xs:List Lt,es=xs.map Lt.o∧∀ x∈xs,∀ y∈xs,FunD Tryz.prog f [x.sv,y.sv] [] (.int .i64 (x.cmp y)) []) then some (.tup [],[.row t sz ((NZ (unL es)).map Lt.o)]) else none
 | [.nil,.fn f []],[]=>bif dec (f=203) then some (.tup [],[]) else none
 | _,_=>none
theorem Qgw (n:Nat) (key:_root_.Fin n→Lt):SWO (ltOf fun x y=>(key x).cmp (key y)):=by
 refine ⟨fun x=>?_,fun x y z h k=>?_,fun x y z h k=>?_⟩
 ·show decide ((key x).cmp (key x)<0)=false
  rw [(Lt.cmp_ord (key x) (key x) (key x)).zero.2 rfl]; rfl
 ·unfold ltOf at *
  simp only [decide_eq_true_eq] at *
  exact (Lt.cmp_ord _ _ _).trans h k
 ·unfold ltOf at *
  simp only [decide_eq_false_iff_not] at *
  have a1:=(Lt.cmp_ord (key x) (key y) (key y)).anti
  have a2:=(Lt.cmp_ord (key y) (key z) (key z)).anti
  have a3:=(Lt.cmp_ord (key x) (key z) (key z)).anti
  have:=Lt.NY (x:=key z) (y:=key y) (z:=key x) (by omega) (by omega)
  omega
theorem Wv {xs:List SV} {ob:List Ob} {r:SV} {ob':List Ob} (h:Is xs ob=some (r,ob')):Fun Tryz.prog 287 xs ob r ob':=by
 unfold Is at h
 split at h
 ·rename_i f t sz es
  obtain ⟨h1,h2⟩:=Aq h
  obtain ⟨rfl,rfl,hk3,xs,rfl,hF⟩:=Ar.1 h1
  simp only [zF,zL] at h2
  obtain ⟨rfl,rfl⟩:=h2
  rw [Rr]
  rw [zG] at hk3
  intro w I V B vs hwf hvs
  obtain ⟨v,q,rfl,hv,hvs⟩:=AP hvs
  obtain ⟨v2,q,rfl,hv2,hvs⟩:=AP hvs
  obtain rfl:=Hh hvs
  simp only [RepV] at hv hv2
  obtain ⟨vs2,rfl,hv2⟩:=hv2
  simp only [RepVs] at hv2
  subst hv2
  obtain ⟨val,hval,hrow⟩:=hwf.obj 0 trivial
  rw [hv.1] at hval
  obtain rfl:=zE hval
  have hv0:=hv.1
  have hrow:RowR w I (B 0) t 3 (xs.map Lt.o) v:=hrow
  rcases yC xs.length with h0 | h0
  ·have he:xs=[]:=yA h0
   subst he
   obtain ⟨a,c,rfl,_⟩:=hrow.form
   have hcon:=AnyF.slices_SortFunc_none SA a c (.func (.func 203) #[] #[]) w
   change Calls Tryz.prog 287 _ _ _ at hcon
   refine hcon.mono ?_
   rintro e w' ⟨rfl,rfl⟩
   have e0:NZ []=[]:=List.mergeSort_nil
   rw [e0]
   exact ⟨_,I,V,B,rfl,by simp only [RepV,RepVs]; exact ⟨[],rfl,rfl⟩,Lh hwf⟩
  ·rcases hrow with ⟨he,_⟩ | ⟨b,cap,cur,Sub,rfl,hs,hb,g1,g2,g3,g4,g5,g6,g7⟩
   ·simp only [List.map_eq_nil_iff] at he
    subst he; simp at h0
   have hblt:=(zV.1 hb).1
   have view:=fun i hi=>Qdp (xs:=xs) (S:=B 0) g5 g7 i hi
   rw [zG] at g1
   haveI:Inhabited (_root_.Fin xs.length):=⟨⟨0,h0⟩⟩
   let cell:Nat→Nat→Value:=fun i j=>cur.getD (i*3+j) undef
   let enc:_root_.Fin xs.length→List Value:=fun i=>[cell i 0,cell i 1,cell i 2]
   let d:Array (_root_.Fin xs.length):=(z8 xs.length).toArray
   have hdsz:d.size=xs.length:=by simp [d]
   have hdget:∀ i (hi:i<xs.length),d[i]! = ⟨i,hi⟩:=fun i hi=>by
    rw [getElem!_pos d i (by rw [hdsz]; exact hi)]
    simp [d]
   have hJb:∀ x,(I x∨(B 0 x∧x≠b))→x≠b:=fun x hx=>by
    rcases hx with hx | hx
    ·intro e; subst e; exact hwf.dI 0 x trivial hs hx
    ·exact hx.2
   have hJl:∀ x,(I x∨(B 0 x∧x≠b))→x<w.heap.size:=fun x hx=>by
    rcases hx with hx | hx
    ·exact hwf.ilt x hx
    ·exact hwf.lt 0 x trivial hx.1
   have forms:∀ i:_root_.Fin xs.length,∃ (a:Option Addr) (l c:Nat),enc i=[.bool xs[i].pos,.string xs[i].atom.name,.slice a l c]∧RepV w (fun x=>I x∨(B 0 x∧x≠b)) (fun _=>none) xs[i].sv (.agg #[.bool xs[i].pos,.string xs[i].atom.name,.slice a l c]):=fun i=>by
    obtain ⟨a,l,c,e0,e1,e2,hr⟩:=view i i.2
    refine ⟨a,l,c,?_,hr⟩
    show [cell i 0,cell i 1,cell i 2]=_
    rw [show cell i 0=_ from e0,show cell i 1=_ from e1,show cell i 2=_ from e2]
    rfl
   have hlen:∀ x,(enc x).length=3:=fun _=>rfl
   have hone:∀ x,∀ v∈enc x,v.oneCell'=true:=fun x v hv=>by
    obtain ⟨a,l,c,e,_⟩:=forms x
    rw [e] at hv
    simp only [zJ,List.not_mem_nil,or_false] at hv
    rcases hv with rfl | rfl | rfl <;> rfl
   have hH:HoldsK enc 3 w b 0 d:=by
    intro j hj
    rw [size_flatK] at hj
    have hq:j / 3<d.size:=by omega
    have hq':j / 3<xs.length:=by rw [←hdsz]; exact hq
    have hlt:j<cur.size:=by rw [g3]; have:=yI 3 g1; omega
    refine ⟨?_,?_⟩
    ·rw [yM,cell_of_row w b _ _ _ _ hb,get_flatK enc 3 d j hj,hdget _ hq']
     show cur[j]?=some ([cell (j / 3) 0,cell (j / 3) 1,cell (j / 3) 2][j % 3]!)
     have hm:j % 3=0∨j % 3=1∨j % 3=2:=by omega
     have e:cur[j]?=some (cell (j / 3) (j % 3)):=by
      show cur[j]?=some (cur.getD (j / 3*3+j % 3) undef)
      rw [show j / 3*3+j % 3=j by omega,zP hlt]
      simp [zM,hlt]
     rw [e]
     rcases hm with hm | hm | hm <;> rw [hm] <;> rfl
    ·unfold World.frozen?
     rw [hb]
     simp
   have hcmp:CmpLays Tryz.prog 203 #[] enc 3 (fun x y=>xs[x].cmp xs[y]) b 0 d.size w:=by
    intro m os dk _ x y
    obtain ⟨a,l,c,e,hrx⟩:=forms x
    obtain ⟨a',l',c',e',hry⟩:=forms y
    have hsz:=size_sortWorldK_c enc 3 w b 0 m dk os
    have hk:KeepS (fun x=>I x∨(B 0 x∧x≠b)) w (sortWorldK enc 3 w b 0 m dk os):=⟨hsz,fun x hx hlt=>by rw [JU enc 3 w b m _ os x hlt,if_neg (fun e=>hJb x hx e.symm)]⟩
    have hc:=QeH (hF xs[x] (zH _) xs[y] (zH _)) (W:=sortWorldK enc 3 w b 0 m dk os) (J:=fun x=>I x∨(B 0 x∧x≠b)) (fun x hx=>zT (hJl x hx) hsz) (hwf.gl.keep ⟨hsz,fun x hx hlt=>hk.block x (.inl hx) hlt⟩ fun x hx=>.inl hx) (RepV.mono hk (fun _ h=>h) (VLe.refl _) _ _ hrx) (RepV.mono hk (fun _ h=>h) (VLe.refl _) _ _ hry)
    rw [e,e']
    exact hc
   have eg:∀ args w,(callFunc 203 args).run Tryz.prog w=.ok (.enter 203 args) w:=enters_of Tryz.func203 (by kernel_rfl) rfl
   have hcon:=AnyQ.slices_SortFunc SA 3 Tryz.isAgg122 Tryz.sizeOf122 enc hlen hone (fun x y=>xs[x].cmp xs[y]) (Qgw _ fun i=>xs[i]) 203 #[] b 0 cap d w eg hcmp hH hblt (by rw [hdsz]; omega)
   change Calls Tryz.prog 287 _ _ _ at hcon
   rw [hdsz] at hcon
   rw [zG]
   refine hcon.mono ?_
   rintro e w' ⟨rfl,d',m,os,hp,hsd,rfl⟩
   refine ⟨_,I,V,B,rfl,by simp only [RepV,RepVs]; exact ⟨[],rfl,rfl⟩,?_⟩
   obtain ⟨hp1,_,hp3⟩:=hp
   rw [hdsz] at hp1
   obtain ⟨L,rfl⟩:∃ L:List (_root_.Fin xs.length),d'=L.toArray:=⟨d'.toList,by simp⟩
   have hLp:L.Perm (z8 xs.length):=by
    rw [Qbc _ _ hp1,Qbc d _ hdsz] at hp3
    exact hp3
   have hLl:L.length=xs.length:=by rw [hLp.length_eq]; simp
   have hLn:L.Nodup:=hLp.nodup_iff.2 (List.nodup_finRange _)
   have hes:NZ xs=L.map fun i=>xs[i]:=by
    have e:(z8 xs.length).map (fun i=>xs[i])=xs:=by
     apply List.ext_getElem
     ·simp
     ·intro i h1 h2; simp
    refine (Oc ?_ ?_ (Q7 xs)).symm
    ·refine List.Perm.trans (hLp.map _) ?_
     rw [e]
     exact (Hw xs).symm
    ·unfold Oa
     rw [List.pairwise_map,zX]
     intro i j hi hj hij
     have:=hsd i j (zR _) hij (by omega)
     rw [getElem!_pos L.toArray i (by simpa using hi),getElem!_pos L.toArray j (by simpa using hj)] at this
     simp only [yT,ltOf,decide_eq_false_iff_not] at this
     have a1:=(Lt.cmp_ord xs[L[i]] xs[L[j]] xs[L[j]]).anti
     omega
   rw [hes]
   have hg:∀ i (hi:i<L.length) (j:Nat),j<3→(putCells id 0 (flatK enc 3 L.toArray) cur).getD (i*3+j) undef=cell L[i] j:=fun i hi j hj=>by
    have:=Q6 enc 3 L.toArray cur (i:=i) (j:=j) (by simpa using hi) hj (by rw [g3]; simp only [y2,hLl]; exact yI 3 g1)
    rw [this,getElem!_pos L.toArray i (by simpa using hi)]
    simp only [yT]
    show [cell L[i] 0,cell L[i] 1,cell L[i] 2][j]! = _
    have hm:j=0∨j=1∨j=2:=by omega
    rcases hm with rfl | rfl | rfl <;> rfl
   have hgrow:∀ x,x<w.heap.size→x≠b→(sortWorldK enc 3 w b 0 m L.toArray os).heap[x]?=w.heap[x]?:=fun x hx hne=>by
    rw [JU enc 3 w b m _ os x hx,if_neg (fun e=>hne e.symm)]
   have hlx:∀ i:_root_.Fin xs.length,(Lt.o xs[i]).length=3:=fun i=>by rw [Lt.o_eq]; rfl
   refine Qbb (es':=(L.map fun i=>xs[i]).map Lt.o) (fun i j x=>∃ h:i<L.length,Sub (L[i]).val j x) hwf hv0 (by rw [zG,zG,zG,hLl]) hs hb (by rw [zG]; exact g1) g2 g3 (fun i hi=>by rw [zU,zU]; exact hlx _) (fun i j x h=>g5 _ _ _ h.2) (fun i j i' j' x h h'=>?_) rfl ⟨rfl,fun h=>False.elim h⟩ rfl (size_sortWorldK_c enc 3 w b 0 m L.toArray os) hgrow (Q5 enc 3 w b m L.toArray os hb) (by simp [putCells]) (fun i j hi hj=>?_)
   ·obtain ⟨a1,a2⟩:=h
    obtain ⟨b1,b2⟩:=h'
    obtain ⟨c1,c2⟩:=g6 _ _ _ _ _ a2 b2
    exact ⟨(yQ hLn).1 (_root_.Fin.ext c1),c2⟩
   ·have hi':i<L.length:=by simpa using hi
    have e1:((L.map fun i=>xs[i]).map Lt.o)[i]=(xs.map Lt.o)[(L[i]).val]'(by rw [zG]; exact (L[i]).2):=by simp only [zU]; rfl
    have hj':j<3:=by rw [e1] at hj; have:=g4 (L[i]).val (by rw [zG]; exact (L[i]).2); omega
    rw [hg i hi' j hj']
    have:=g7 (L[i]).val j (by rw [zG]; exact (L[i]).2) (by rw [g4]; exact hj')
    have hk:KeepS I w (sortWorldK enc 3 w b 0 m L.toArray os):=⟨size_sortWorldK_c enc 3 w b 0 m _ os,fun x hx hlt=>hgrow x hlt fun e=>hwf.dI 0 x trivial (e▸hs) hx⟩
    have h2:=(this.keep hk (fun _ h=>h) (fun x hx hlt=>hgrow x hlt (g5 _ _ _ hx).2)).up (S':=fun x=>∃ h:i<L.length,Sub (L[i]).val j x) (fun x hx=>⟨hi',hx⟩)
    simp only [e1]
    exact h2
 ·rename_i f
  obtain ⟨h1,h2⟩:=Aq h
  obtain rfl:=Ar.1 h1
  simp only [zF,zL] at h2
  obtain ⟨rfl,rfl⟩:=h2
  intro w I V B vs hwf hvs
  obtain ⟨v,q,rfl,hv,hvs⟩:=AP hvs
  obtain ⟨v2,q,rfl,hv2,hvs⟩:=AP hvs
  obtain rfl:=Hh hvs
  simp only [RepV] at hv hv2
  obtain ⟨vs2,rfl,hv2⟩:=hv2
  simp only [RepVs] at hv2
  subst hv2 hv
  have hcon:=AnyF.slices_SortFunc_none SA none 0 (.func (.func 203) #[] #[]) w
  change Calls Tryz.prog 287 _ _ _ at hcon
  refine hcon.mono ?_
  rintro e w' ⟨rfl,rfl⟩
  exact ⟨_,I,V,B,rfl,by simp only [RepV,RepVs]; exact ⟨[],rfl,rfl⟩,Lh hwf⟩
 ·cases h
end Go.Proofs.YtepbennkcbmgoaaGreatDoor
set_option maxRecDepth 100000
set_option linter.unusedSimpArgs false
set_option linter.unusedVariables false
set_option linter.unusedSectionVars false
namespace Go.Proofs.YtepbennkcbmgoaaGreatDoor
open Go.RowKit Go.Shelf
def Ew (eq:Nat→Nat→Bool) (i:Nat):Bool:=i == 0 || !eq i (i-1)
def kept (eq:Nat→Nat→Bool) (m:Nat):List Nat:=(yB m).filter (Ew eq)
theorem P6 (eq:Nat→Nat→Bool) (m:Nat):kept eq (m+1)=if Ew eq m then kept eq m++[m] else kept eq m:=by
 unfold kept
 rw [List.range_succ,List.filter_append]
 cases h:Ew eq m <;> simp [h]
theorem Qbd (eq:Nat→Nat→Bool) (m:Nat):(kept eq m).length≤m:=by
 have:=List.length_filter_le (Ew eq) (yB m)
 simpa [kept] using this
theorem SB {eq:Nat→Nat→Bool} {m:Nat} (h:∀ i,i<m→Ew eq i=true):kept eq m=yB m:=by
 unfold kept
 exact List.filter_eq_self.2 fun i hi=>h i (yJ.1 hi)
structure RowOnly (w:World) (b:Nat) (t:TypeId) (cur:Array Value) (w':World):Prop where
 os:w'.os=w.os
 tape:w'.tape=w.tape
 output:w'.output=w.output
 size:w.heap.size≤w'.heap.size
 block:∀ x,x<w.heap.size→x≠b→w'.heap[x]?=w.heap[x]?
 row:w'.heap[b]?=some (.cells cur t (0,0))
structure CompI (eq:Nat→Nat→Bool) (cur:Array Value) (m kk:Nat) (cur2:Array Value):Prop where
 len:kk=(kept eq m).length
 lt:kk<m
 size:cur2.size=cur.size
 low:∀ p (hp:p<(kept eq m).length) j,j<3→cur2.getD (p*3+j) undef=cur.getD ((kept eq m)[p]*3+j) undef
 high:∀ {q},kk*3≤q→cur2.getD q undef=cur.getD q undef
theorem CompI.start {eq:Nat→Nat→Bool} {cur:Array Value} {k:Nat} (h:kept eq (k+1)=yB k):CompI eq cur (k+1) k cur :=
 ⟨by rw [h]; simp,by omega,rfl,fun p hp j hj=>by simp only [h,List.getElem_range],fun _=>rfl⟩
theorem CompI.skip {eq:Nat→Nat→Bool} {cur cur2:Array Value} {m kk:Nat} (h:CompI eq cur m kk cur2) (hk:Ew eq m=false):CompI eq cur (m+1) kk cur2:=by
 have e:kept eq (m+1)=kept eq m:=by rw [P6,if_neg (by rw [hk]; simp)]
 exact ⟨by rw [e]; exact h.len,by have:=h.lt; omega,h.size,fun p hp j hj=>by simp only [e] at hp ⊢; exact h.low p hp j hj,h.high⟩
theorem RowOnly.below {w w1 w2:World} {b:Nat} {t:TypeId} {cur:Array Value} (h:RowOnly w b t cur w1) (k:Below w1.heap.size w1 w2) (hb:b<w1.heap.size):RowOnly w b t cur w2 :=
 ⟨k.os.trans h.os,k.tape.trans h.tape,k.output.trans h.output,Nat.le_trans h.size k.size,fun x hx hne=>by rw [k.block x (zT hx h.size),h.block x hx hne],by rw [k.block b hb]; exact h.row⟩
theorem Ww {w:World} {b:Nat} {cur:Array Value} {t:TypeId} (hb:w.heap[b]?=some (.cells cur t (0,0))) (o:Nat):w.frozen? ⟨b,o,none⟩=false:=by
 unfold World.frozen?
 rw [hb]
 simp
theorem Qdq {w:World} {b:Nat} {cur:Array Value} {t:TypeId} (hb:w.heap[b]?=some (.cells cur t (0,0))) {i j:Nat} (hlt:i*3+j<cur.size):w.cell? ⟨b,i*3+j,none⟩=some cur[i*3+j]:=by
 unfold World.cell?
 simp only [hb,yF,if_false]
 rw [zP hlt]
 rfl
theorem CompI.keep {eq:Nat→Nat→Bool} {cur cur2:Array Value} {m kk:Nat} (h:CompI eq cur m kk cur2) (hk:Ew eq m=true) (hs:kk*3+2<cur2.size) {v0 v1 v2:Value} (e0:cur.getD (m*3+0) undef=v0) (e1:cur.getD (m*3+1) undef=v1) (e2:cur.getD (m*3+2) undef=v2) :
  CompI eq cur (m+1) (kk+1) (((cur2.setIfInBounds (kk*3) v0).setIfInBounds (kk*3+1) v1).setIfInBounds (kk*3+2) v2):=by
 have e:kept eq (m+1)=kept eq m++[m]:=by rw [P6,if_pos hk]
 have hl:=h.len
 have hget:∀ q,(((cur2.setIfInBounds (kk*3) v0).setIfInBounds (kk*3+1) v1).setIfInBounds (kk*3+2) v2).getD q undef=if q=kk*3+2 then v2 else if q=kk*3+1 then v1 else if q=kk*3 then v0 else cur2.getD q undef:=fun q=>by
  simp only [zM,zY,Array.size_setIfInBounds]
  by_cases h2:kk*3+2=q
  ·subst h2; simp [hs]
  ·rw [if_neg h2,if_neg (show ¬ q=kk*3+2 from fun e=>h2 e.symm)]
   by_cases h1:kk*3+1=q
   ·subst h1; simp [show kk*3+1<cur2.size by omega]
   ·rw [if_neg h1,if_neg (show ¬ q=kk*3+1 from fun e=>h1 e.symm)]
    by_cases h0:kk*3=q
    ·subst h0; simp [show kk*3<cur2.size by omega]
    ·rw [if_neg h0,if_neg (show ¬ q=kk*3 from fun e=>h0 e.symm)]
 refine ⟨by rw [e]; simp [hl],by have:=h.lt; omega,by simp [h.size],fun p hp j hj=>?_,fun {q} hq=>?_⟩
 ·simp only [e,List.length_append,List.length_singleton] at hp
  rw [hget]
  rcases zI p (kept eq m).length with hlt | hge
  ·rw [if_neg (by omega),if_neg (by omega),if_neg (by omega)]
   simp only [e,List.getElem_append_left hlt]
   exact h.low p hlt j hj
  ·have hp2:p=kk:=by omega
   subst hp2
   have eg:(kept eq (m+1))[p]'(by rw [e]; simpa using hp)=m:=by
    simp only [e]
    rw [List.getElem_append_right (by omega)]
    simp [hl]
   rw [eg]
   have hj3:j=0∨j=1∨j=2:=by omega
   rcases hj3 with rfl | rfl | rfl
   ·rw [if_neg (by omega),if_neg (by omega),if_pos (by omega),e0]
   ·rw [if_neg (by omega),if_pos (by omega),e1]
   ·rw [if_pos (by omega),e2]
 ·rw [hget,if_neg (by omega),if_neg (by omega),if_neg (by omega)]
  exact h.high (by omega)
theorem RowOnly.set {w V:World} {b:Nat} {t:TypeId} {cur:Array Value} (h:RowOnly w b t cur V) (o:Nat) (v:Value):RowOnly w b t (cur.setIfInBounds o v) (V.setCell ⟨b,o,none⟩ v):=by
 refine ⟨h.os,h.tape,h.output,by simpa [World.setCell] using h.size,fun x hx hne=>?_,?_⟩
 ·simp only [World.setCell,yO]
  rw [if_neg (fun e=>hne e.symm)]
  exact h.block x hx hne
 ·simp only [World.setCell,yO,if_true,h.row,y4,yF,if_false]
  rfl
theorem RowOnly.setCells {w:World} {b:Nat} {t:TypeId}:∀ (vs:List Value) (o:Nat) {V:World} {cur:Array Value},RowOnly w b t cur V→∃ cur',RowOnly w b t cur' (V.setCells b o vs)∧cur'.size=cur.size∧∀ q,q<o→cur'.getD q undef=cur.getD q undef
 | [],o,V,cur,h=>⟨cur,h,rfl,fun _ _=>rfl⟩
 | v :: r,o,V,cur,h=>by
  obtain ⟨cur',h1,h2,h3⟩:=RowOnly.setCells r (o+1) (h.set o v)
  refine ⟨cur',h1,by simpa using h2,fun q hq=>?_⟩
  rw [h3 q (by omega)]
  simp only [zM,zY]
  rw [if_neg (by omega)]
def GS (n:Nat):List Value:=(Builtin.zeroCells #[.bool false,.string ⟨#[]⟩,.slice none 0 0] n).toList
theorem Qae {n:Nat} {v:Value} (h:v∈GS n):v.oneCell'=true:=by
 unfold GS Builtin.zeroCells at h
 simp only [Array.toList_map,List.mem_map,Array.toList_range,yJ] at h
 obtain ⟨i,_,rfl⟩:=h
 have hm:i % 3=0∨i % 3=1∨i % 3=2:=by omega
 show (#[Value.bool false,.string ⟨#[]⟩,.slice none 0 0][i % 3]!).oneCell'=true
 rcases hm with e | e | e <;> rw [e] <;> rfl
theorem SD (n:Nat):(GS n).length=n*3:=by
 unfold GS Builtin.zeroCells
 simp
theorem SE (ty:TypeId) {w:World} {b:Nat} {cur:Array Value} {t:TypeId} {o n c:Nat} (hb:w.heap[b]?=some (.cells cur t (0,0))) (hn:0<n) (hl:o+n*3≤cur.size) :
  (Builtin.clear_ #[58] ty #[.slice (some ⟨b,o,none⟩) n c]).run Tryz.prog w=.ok (.tuple #[]) (w.setCells b o (GS n)):=by
 have hv:=fun w=>Tryz.zeroValue122 w
 have hst:=run_storeCells_cells (P:=Tryz.prog) b o (GS n) 0 w (fun j hj=>by
  rw [SD] at hj
  have:o+j<cur.size:=by omega
  unfold World.cell?
  simp only [hb,yF,if_false,yK]
  rw [zP this]
  rfl) (fun j hj=>Ww hb _) (fun v hv=>Qae hv)
 simp only [yK] at hst
 obtain ⟨m,rfl⟩:∃ m,n=m+1:=⟨n-1,by omega⟩
 unfold GS at hst ⊢
 simp [Builtin.clear_,Tryz.underlying58,hv,Value.cells,hst]
theorem K1 {w:World} {b:Nat} {cur:Array Value} {t:TypeId} (hb:w.heap[b]?=some (.cells cur t (0,0))) {i j:Nat} {v:Value} (hlt:i*3+j<cur.size) (hv:True) (h:cur.getD (i*3+j) undef=v):w.cell? ⟨b,i*3+j,none⟩=some v:=by
 unfold World.cell?
 simp only [hb,yF,if_false]
 rw [zM,zP hlt,yP] at h
 rw [zP hlt,h]
 rfl
theorem QV (n:Nat) (eq:Nat→Nat→Bool) (w:World) (b cap:Nat) (cur:Array Value) (t:TypeId) (hb:w.heap[b]?=some (.cells cur t (0,0))) (hsz:cur.size=cap*3) (hn:n≤cap) (hcap:cap≤9223372036854775807)
  (pB:Nat→Bool) (pS:Nat→ByteArray) (pA:Nat→Option Addr) (pL pC:Nat→Nat)
  (hc:∀ i,i<n→cur.getD (i*3+0) undef=.bool (pB i)∧cur.getD (i*3+1) undef=.string (pS i)∧cur.getD (i*3+2) undef=.slice (pA i) (pL i) (pC i))
  (hcall:∀ i j,i<n→j<n→∀ W,w.heap.size≤W.heap.size→(∀ x,x<w.heap.size→x≠b→W.heap[x]?=w.heap[x]?)→Calls Tryz.prog 217 #[.agg #[.bool (pB i),.string (pS i),.slice (pA i) (pL i) (pC i)],.agg #[.bool (pB j),.string (pS j),.slice (pA j) (pL j) (pC j)]] W (Ret W (.bool (eq i j)))) :
  Calls Tryz.prog 288 #[.slice (some ⟨b,0,none⟩) n cap,.func (.func 217) #[] #[]] w fun e w'=>e=.returned (.slice (some ⟨b,0,none⟩) (kept eq n).length cap)∧∃ cur',RowOnly w b t cur' w'∧cur'.size=cur.size∧∀ p (hp:p<(kept eq n).length) j,j<3→cur'.getD (p*3+j) undef=cur.getD ((kept eq n)[p]*3+j) undef:=by
 have hF:∀ (args:Array Value) (W:World),(callFunc 217 args).run Tryz.prog W=.ok (.enter 217 args) W:=enters_of Tryz.func217 (by kernel_rfl) rfl
 have hblt:=(zV.1 hb).1
 have HC:=Lib.hid hcall
 clear hcall
 have HE:=Lib.hid hc
 clear hc
 by_cases h2:n<2
 ·have hk:kept eq n=yB n:=SB fun i hi=>by
   have:i=0:=by omega
   subst this; rfl
  rw [hk]
  go_enter Tryz.func288,Tryz.ntmps288
  go_wp2
  go_ret
  refine ⟨by simp,cur,⟨rfl,rfl,rfl,zQ _,fun _ _ _=>rfl,hb⟩,rfl,fun p hp j hj=>?_⟩
  simp
 ·go_enter Tryz.func288,Tryz.ntmps288
  go_wp2
  go_loopg [5] n (fun g s5 wr=>∃ k:Nat,1≤k∧k≤n∧n-k≤g∧s5=.int .i64 k∧Below w.heap.size w wr∧∀ j,j<k→Ew eq j=true)
  case atStart =>
   refine ⟨1,zQ _,by omega,by omega,rfl,Below.refl _ _,fun j hj=>?_⟩
   obtain rfl:j=0:=by omega
   rfl
  case round =>
   have HB0:=Lib.hid hb
   obtain ⟨k,hk1,hk,hg,rfl,hbw,hall⟩:=hrel
   have HA:=Lib.hid hall
   clear hall
   have hzw:=hbw.size
   by_cases hlt:k<n
   ·obtain ⟨e0,e1,e2⟩:=HE.out k hlt
    obtain ⟨d0,d1,d2⟩:=HE.out (k-1) (by omega)
    have hbr:wr.heap[b]?=some (.cells cur t (0,0)):=by rw [hbw.block b hblt]; exact hb
    have q0:=K1 hbr (i:=k) (j:=0) (by omega) trivial e0
    have q1:=K1 hbr (i:=k) (j:=1) (by omega) trivial e1
    have q2:=K1 hbr (i:=k) (j:=2) (by omega) trivial e2
    have r0:=K1 hbr (i:=k-1) (j:=0) (by omega) trivial d0
    have r1:=K1 hbr (i:=k-1) (j:=1) (by omega) trivial d1
    have r2:=K1 hbr (i:=k-1) (j:=2) (by omega) trivial d2
    have hbrz:b<wr.heap.size:=by omega
    simp only [yK] at q0 r0
    have z1:IntKind.i64.wrap ((k:Int)-1)=(k:Int)-1:=IntWalk.i64_in _ (by omega)
    have z2:(0:Int)≤(k:Int)-1:=by omega
    have z3:(1:Int)≤(k:Int):=by omega
    have z4:(k:Int)-1<(n:Int):=by omega
    have z5:((k:Int)-1).toNat=k-1:=by omega
    have HB:=Lib.hid hb
    clear hb hbr e0 e1 e2 d0 d1 d2
    go_wp2
    refine Flow.wp_region_flow 11 [(10,.fixed (.bool (eq k (k-1))))] [] (by kernel_rfl) (by kernel_rfl) (NF rfl) ?_
    intro hgrow
    simp only [yW,y6]
    repeat (first | ((with_reducible refine Flow.flow_quiet ?_ ?_ ?_); (focus (exact rfl)); (focus (exact rfl)); intro K hK; go_simp; refine hK _ ?_; clear hK K) | ((with_reducible refine Flow.flow_pass ?_); intro K hK; go_simp; (first | refine hK _ ?_ | (refine ⟨?_,hK _ ?_⟩; (focus (simp [undef]; done)))); clear hK K))
    refine Flow.flow_exact _ rfl (by go_simp) (fun W hW=>X6 (by go_simp) (HC.out k (k-1) hlt (by omega) _ (by have:=hW.size; omega) (fun x hx _=>by rw [hW.block x (by omega),hbw.block x hx]))) ?_
    repeat (first | ((with_reducible refine Flow.flow_quiet ?_ ?_ ?_); (focus (exact rfl)); (focus (exact rfl)); intro K hK; go_simp; refine hK _ ?_; clear hK K) | ((with_reducible refine Flow.flow_pass ?_); intro K hK; go_simp; (first | refine hK _ ?_ | (refine ⟨?_,hK _ ?_⟩; (focus (simp [undef]; done)))); clear hK K))
    with_reducible refine Flow.flow_nil ?_
    clear hgrow
    intro W hW _
    have hzW:=hW.size
    try simp at hzW
    obtain ⟨hcW,hfW⟩:=Qfr hW
    simp only [yX,zS,y8]
    have hWb:Below w.heap.size w W:=hbw.trans (hW.mono hzw)
    cases heq:eq k (k-1) with
    | false =>
     go_wp2
     go_roundg (n-(k+1))
     case measure=>omega
     case rel =>
      refine ⟨k+1,by omega,by omega,zQ _,by go_num,hWb,fun j hj=>?_⟩
      by_cases e:j=k
      ·subst e; unfold Ew; rw [heq]; simp
      ·exact HA.out j (by omega)
    | true =>
     have hkk:kept eq (k+1)=yB k:=by
      rw [P6,SB HA.out]
      unfold Ew
      rw [heq]
      simp; omega
     have hb2:W.heap[b]?=some (.cells cur t (0,0)):=by rw [hWb.block b hblt]; exact HB.out
     clear q0 q1 q2 r0 r1 r2 z1 z2 z3 z4 z5 hcW hfW hzW hW
     go_wp2
     go_loopg [5,7] n (fun g s5 s7 wr2=>∃ (kk k2:Nat) (cur2:Array Value),s5=.int .i64 kk∧s7=.int .i64 k2∧1≤k2∧k+k2≤n∧n-(k+k2)≤g∧RowOnly w b t cur2 wr2∧CompI eq cur (k+k2) kk cur2)
     case atStart=>exact ⟨k,1,cur,rfl,rfl,zQ _,by omega,by omega,⟨hWb.os,hWb.tape,hWb.output,hWb.size,fun x hx _=>hWb.block x hx,hb2⟩,CompI.start hkk⟩
     case round =>
      obtain ⟨kk,k2,cur2,rfl,rfl,hk2,hle,hg2,hro,hI⟩:=hrel
      have HI:=Lib.hid hI
      have HR:=Lib.hid hro
      have hkl:=hI.lt
      have hs2:=hI.size
      have hzr:=hro.size
      by_cases hlt2:k+k2<n
      ·have hrow:=hro.row
       obtain ⟨e0,e1,e2⟩:=HE.out (k+k2) hlt2
       obtain ⟨d0,d1,d2⟩:=HE.out (k+k2-1) (by omega)
       rw [←hI.high (by omega)] at e0 e1 e2 d0 d1 d2
       have q0:=K1 hrow (i:=k+k2) (j:=0) (by omega) trivial e0
       have q1:=K1 hrow (i:=k+k2) (j:=1) (by omega) trivial e1
       have q2:=K1 hrow (i:=k+k2) (j:=2) (by omega) trivial e2
       have r0:=K1 hrow (i:=k+k2-1) (j:=0) (by omega) trivial d0
       have r1:=K1 hrow (i:=k+k2-1) (j:=1) (by omega) trivial d1
       have r2:=K1 hrow (i:=k+k2-1) (j:=2) (by omega) trivial d2
       rw [show (k+k2)*3=k*3+k2*3 by omega] at q0 q1 q2
       rw [show (k+k2-1)*3=k*3+(k2-1)*3 by omega] at r0 r1 r2
       simp only [yK] at q0 r0
       have hbz:b<wr.heap.size:=by omega
       have z1:IntKind.i64.wrap ((k2:Int)-1)=(k2:Int)-1:=IntWalk.i64_in _ (by omega)
       have z2:(0:Int)≤(k2:Int)-1:=by omega
       have z3:(1:Int)≤(k2:Int):=by omega
       have z4:(k2:Int)-1<((n-k:Nat):Int):=by omega
       have z5:((k2:Int)-1).toNat=k2-1:=by omega
       clear hI hro hrow e0 e1 e2 d0 d1 d2 hb2
       go_wp2
       refine Flow.wp_region_flow 12 [(10,.fixed (.bool (eq (k+k2) (k+k2-1))))] [] (by kernel_rfl) (by kernel_rfl) (NF rfl) ?_
       intro hgrow
       simp only [yW,y6]
       repeat (first | ((with_reducible refine Flow.flow_quiet ?_ ?_ ?_); (focus (exact rfl)); (focus (exact rfl)); intro K hK; go_simp; refine hK _ ?_; clear hK K) | ((with_reducible refine Flow.flow_pass ?_); intro K hK; go_simp; (first | refine hK _ ?_ | (refine ⟨?_,hK _ ?_⟩; (focus (simp [undef]; done)))); clear hK K))
       refine Flow.flow_exact _ rfl (by go_simp) (fun W hW=>X6 (by go_simp) (HC.out (k+k2) (k+k2-1) hlt2 (by omega) _ (by have:=hW.size; omega) (fun x hx hxb=>by rw [hW.block x (by omega),HR.out.block x hx hxb]))) ?_
       repeat (first | ((with_reducible refine Flow.flow_quiet ?_ ?_ ?_); (focus (exact rfl)); (focus (exact rfl)); intro K hK; go_simp; refine hK _ ?_; clear hK K) | ((with_reducible refine Flow.flow_pass ?_); intro K hK; go_simp; (first | refine hK _ ?_ | (refine ⟨?_,hK _ ?_⟩; (focus (simp [undef]; done)))); clear hK K))
       with_reducible refine Flow.flow_nil ?_
       clear hgrow
       intro V hV _
       have hzV:=hV.size
       try simp at hzV
       obtain ⟨hcV,hfV⟩:=Qfr hV
       simp only [yX,zS,y8]
       have hVR:RowOnly w b t cur2 V:=HR.out.below hV (by omega)
       have f0:∀ o,wr.frozen? ⟨b,o,none⟩=false:=fun o=>Ww HR.out.row o
       cases heq2:eq (k+k2) (k+k2-1) with
       | true =>
        go_wp2
        go_roundg (n-(k+(k2+1)))
        case measure=>omega
        case rel=>exact ⟨kk,k2+1,cur2,rfl,by go_num,by omega,by omega,zQ _,hVR,HI.out.skip (by unfold Ew; rw [heq2]; simp; omega)⟩
       | false =>
        have w0:=Qdq HR.out.row (i:=kk) (j:=0) (by omega)
        have w1:=Qdq HR.out.row (i:=kk) (j:=1) (by omega)
        have w2:=Qdq HR.out.row (i:=kk) (j:=2) (by omega)
        simp only [yK] at w0
        have g0:=f0 (kk*3)
        have g1:=f0 (kk*3+1)
        have g2:=f0 (kk*3+2)
        have zz:kk<n:=by omega
        have HVR:=Lib.hid hVR
        clear hVR f0
        go_wp2
        go_roundg (n-(k+(k2+1)))
        case measure=>omega
        case rel =>
         refine ⟨kk+1,k2+1,_,by go_num,by go_num,by omega,by omega,zQ _,((HVR.out.set _ _).set _ _).set _ _,?_⟩
         obtain ⟨e0,e1,e2⟩:=HE.out (k+k2) hlt2
         exact HI.out.keep (by unfold Ew; rw [heq2]; simp) (by omega) e0 e1 e2
      ·have hend:k+k2=n:=by omega
       have hcl:∀ ty,(Builtin.clear_ #[58] ty #[.slice (some ⟨b,kk*3,none⟩) (n-kk) (cap-kk)]).run Tryz.prog wr=.ok (.tuple #[]) (wr.setCells b (kk*3) (GS (n-kk))):=fun ty=>SE ty hro.row (by omega) (by omega)
       clear hI hro
       go_wp2
       go_ret
       have hI:=HI.out
       rw [hend] at hI
       obtain ⟨cur3,h1,h2,h3⟩:=HR.out.setCells (GS (n-kk)) (kk*3)
       refine ⟨by rw [hI.len]; rfl,cur3,h1,by rw [h2,hI.size],fun p hp j hj=>?_⟩
       have:=hI.len
       rw [h3 _ (by omega)]
       exact hI.low p hp j hj
   ·obtain rfl:k=n:=by omega
    have hk:kept eq k=yB k:=SB HA.out
    clear hb
    go_wp2
    go_ret
    rw [hk]
    refine ⟨by simp,cur,⟨hbw.os,hbw.tape,hbw.output,hbw.size,fun x hx _=>hbw.block x hx,by rw [hbw.block b hblt]; exact HB0.out⟩,rfl,fun p hp j hj=>?_⟩
    simp
end Go.Proofs.YtepbennkcbmgoaaGreatDoor
set_option maxRecDepth 100000
set_option linter.unusedSimpArgs false
set_option linter.unusedVariables false
set_option linter.unusedSectionVars false
namespace Go.Proofs.YtepbennkcbmgoaaGreatDoor
open Go.RowKit Go.Shelf
noncomputable def HJ (xs:List Lt) (i j:Nat):Bool:=dec (xs[i]?=xs[j]?)
noncomputable def HK (xs:List Lt):List Lt:=(kept (HJ xs) xs.length).filterMap fun i=>xs[i]?
theorem Od {eq:Nat→Nat→Bool} {m i:Nat} (h:i∈kept eq m):i<m∧Ew eq i=true:=by
 unfold kept at h
 rw [List.mem_filter,yJ] at h
 exact h
theorem Ym {eq:Nat→Nat→Bool} {m i:Nat} (h:i<m) (hk:Ew eq i=true):i∈kept eq m:=by
 unfold kept
 rw [List.mem_filter,yJ]
 exact ⟨h,hk⟩
theorem Q8 (eq:Nat→Nat→Bool) (m:Nat):(kept eq m).Pairwise (· < ·):=(List.pairwise_lt_range (n:=m)).filter _
theorem Qaf (eq:Nat→Nat→Bool) (m:Nat):(kept eq m).Nodup:=(Q8 eq m).imp fun h e=>absurd e (Nat.ne_of_lt h)
theorem IT (xs:List Lt):∀ l:List Nat,(∀ i∈l,i<xs.length)→(l.filterMap fun i=>xs[i]?).length=l.length∧∀ p i:Nat,l[p]?=some i→(l.filterMap fun i=>xs[i]?)[p]?=xs[i]?
 | [],_=>⟨rfl,fun p i h=>by simp at h⟩
 | i :: l,hl=>by
  have hi:=hl i (by simp)
  obtain ⟨h1,h2⟩:=IT xs l fun j hj=>hl j (by simp [hj])
  have e:((i :: l).filterMap fun i=>xs[i]?)=xs[i] :: l.filterMap fun i=>xs[i]?:=by
   rw [List.filterMap_cons,zA hi]
  refine ⟨by rw [e]; simp [h1],fun p j hp=>?_⟩
  rw [e]
  cases p with
  | zero =>
   simp only [List.getElem?_cons_zero,zF] at hp ⊢
   subst hp
   exact (zA hi).symm
  | succ p =>
   simp only [List.getElem?_cons_succ] at hp ⊢
   exact h2 p j hp
theorem P7 (xs:List Lt):(HK xs).length=(kept (HJ xs) xs.length).length:=(IT xs _ fun i hi=>(Od hi).1).1
theorem P8 (xs:List Lt) {p i:Nat} (h:(kept (HJ xs) xs.length)[p]?=some i) (hp:p<(HK xs).length):∃ hi:i<xs.length,(HK xs)[p]=xs[i]:=by
 have hi:=(Od (yU h)).1
 have:=(IT xs _ fun i hi=>(Od hi).1).2 p i h
 refine ⟨hi,?_⟩
 have e:(HK xs)[p]?=xs[i]?:=this
 rw [zA hp,zA hi] at e
 exact zE e
def Dl (xs:List Lt):Prop:=xs.Pairwise fun x y=>x.cmp y<0
theorem JV:∀ {xs ys:List Lt},Dl xs→Dl ys→(∀ z,z∈xs ↔ z∈ys)→xs=ys
 | [],[],_,_,_=>rfl
 | [],y :: ys,_,_,h=>by simpa using (h y).2 (by simp)
 | x :: xs,[],_,_,h=>by simpa using (h x).1 (by simp)
 | x :: xs,y :: ys,h1,h2,h=>by
  obtain ⟨a1,a2⟩:=zZ.1 h1
  obtain ⟨b1,b2⟩:=zZ.1 h2
  have irr:∀ z:Lt,¬ z.cmp z<0:=fun z hz=>by
   have:=(Lt.cmp_ord z z z).zero.2 rfl
   omega
  have e:x=y:=by
   rcases zJ.1 ((h x).1 (by simp)) with e | hx
   ·exact e
   ·rcases zJ.1 ((h y).2 (by simp)) with e | hy
    ·exact e.symm
    ·exact (irr x ((Lt.cmp_ord x y x).trans (a1 y hy) (b1 x hx))).elim
  subst e
  rw [JV a2 b2 fun z=>?_]
  constructor
  ·intro hz
   rcases zJ.1 ((h z).1 (by simp [hz])) with e | hz'
   ·subst e; exact (irr _ (a1 _ hz)).elim
   ·exact hz'
  ·intro hz
   rcases zJ.1 ((h z).2 (by simp [hz])) with e | hz'
   ·subst e; exact (irr _ (b1 _ hz)).elim
   ·exact hz'
theorem Wx {xs:List Lt} (hs:Oa xs):Dl (HK xs):=by
 unfold Dl
 rw [zX]
 intro p q hp hq hpq
 have e1:=P7 xs
 obtain ⟨i,hpi⟩:∃ i,(kept (HJ xs) xs.length)[p]?=some i:=⟨_,zA (by omega)⟩
 obtain ⟨j,hqj⟩:∃ j,(kept (HJ xs) xs.length)[q]?=some j:=⟨_,zA (by omega)⟩
 have hlt:=zX.1 (Q8 (HJ xs) xs.length) p q (by omega) (by omega) hpq
 rw [(yL.1 hpi).2,(yL.1 hqj).2] at hlt
 obtain ⟨hi,e2⟩:=P8 xs hpi hp
 obtain ⟨hj,e3⟩:=P8 xs hqj hq
 rw [e2,e3]
 have hkq:=(Od (yU hqj)).2
 have hne:xs[j-1]≠xs[j]:=fun e=>by
  unfold Ew HJ at hkq
  rw [zA hj,zA (show j-1<xs.length by omega),e,At rfl] at hkq
  simp at hkq
  omega
 have h2:xs[j-1].cmp xs[j]≤0:=zX.1 hs (j-1) j (by omega) hj (by omega)
 have h3:xs[j-1].cmp xs[j]<0:=by
  have:=(Lt.cmp_ord xs[j-1] xs[j] xs[j]).zero
  have:xs[j-1].cmp xs[j]≠0:=fun e=>hne (this.1 e)
  omega
 rcases zI i (j-1) with h4 | h4
 ·have h5:xs[i].cmp xs[j-1]≤0:=zX.1 hs i (j-1) (by omega) (by omega) h4
  by_cases h6:xs[i].cmp xs[j-1]=0
  ·rw [(Lt.cmp_ord xs[i] xs[j-1] xs[j]).zero.1 h6]; exact h3
  ·exact (Lt.cmp_ord xs[i] xs[j-1] xs[j]).trans (by omega) h3
 ·have:i=j-1:=by omega
  subst this
  exact h3
theorem Qce (xs:List Lt) (z:Lt):z∈HK xs ↔ z∈xs:=by
 constructor
 ·intro h
  unfold HK at h
  obtain ⟨i,_,h2⟩:=List.mem_filterMap.1 h
  exact yU h2
 ·intro h
  obtain ⟨i,hi,rfl⟩:=List.getElem_of_mem h
  have key:∀ i (hi:i<xs.length),∃ j,j∈kept (HJ xs) xs.length∧xs[j]?=some xs[i]:=by
   intro i
   induction i with
   | zero=>intro hi; exact ⟨0,Ym hi rfl,zA hi⟩
   | succ i ih =>
    intro hi
    cases hk:Ew (HJ xs) (i+1) with
    | true=>exact ⟨i+1,Ym hi hk,zA hi⟩
    | false =>
     obtain ⟨j,h1,h2⟩:=ih (by omega)
     refine ⟨j,h1,?_⟩
     unfold Ew HJ at hk
     simp only [Nat.add_sub_cancel,yH,Bool.not_eq_false',Ar] at hk
     rw [h2,← zA,← zA]
     exact hk.2.symm
  obtain ⟨j,h1,h2⟩:=key i hi
  exact List.mem_filterMap.2 ⟨j,h1,h2⟩
noncomputable def Ex (xs:List SV) (ob:List Ob):Option (SV × List Ob) :=
 match xs,ob with
 | [.ref 0,.fn f []],[.row t sz es]=>bif dec (f=217∧sz=3∧es.length≤1099511627776∧∃ xs:List Lt,es=xs.map Lt.o∧∀ x∈xs,∀ y∈xs,Fun Tryz.prog f [x.sv,y.sv] [] (.bool (dec (x=y))) []) then some (.ref 1,[.gone,.row t sz ((HK (unL es)).map Lt.o)]) else none
 | [.nil,.fn f []],[]=>bif dec (f=217) then some (.nil,[]) else none
 | _,_=>none
def vB:Value→Bool
 | .bool b=>b
 | _=>false
def vS:Value→ByteArray
 | .string s=>s
 | _=>⟨#[]⟩
def vA:Value→Option Addr × Nat × Nat
 | .slice a n c=>(a,n,c)
 | _=>(none,0,0)
theorem K2 (w:World):Calls Tryz.prog 288 #[.slice none 0 0,.func (.func 217) #[] #[]] w fun e w'=>e=.returned (.slice none 0 0)∧w'=w:=by
 go_enter Tryz.func288,Tryz.ntmps288
 go_wp2
 go_ret
 exact ⟨rfl,rfl⟩
theorem SF {w w':World} {I:Nat→Prop} {V:Nat→Option Value} {B:Nat→Nat→Prop} {t:TypeId} {es es':List (List OT)} {v':Value} (hwf:Wf w I V B (Ap [.row t 3 es]))
  (hos:w'.os=w.os) (htape:TapeOk w w') (hout:w'.output=w.output) (hsz:w.heap.size≤w'.heap.size) (hblk:∀ x,x<w.heap.size→¬ B 0 x→w'.heap[x]?=w.heap[x]?) (hrow:RowR w' I (B 0) t 3 es' v') :
  FunPost w I V B [.row t 3 es] [.gone,.row t 3 es'] w' I (fun g=>if g=1 then some v' else V g) (fun g=>if g=1 then B 0 else B g):=by
 have hB0:∀ x,B 0 x→HB B [Ob.row t 3 es] x:=fun x hx=>⟨0,trivial,hx⟩
 have hlv:∀ g,(Ap [Ob.gone,.row t 3 es'] g).live→g=1:=fun g h=>by
  match g with
  | 0=>exact h.elim
  | 1=>rfl
  | g+2=>exact h.elim
 refine ⟨⟨hos,htape,hout,hsz,fun x hx hn=>hblk x hx fun h=>hn (hB0 x h)⟩,fun _ h=>h,fun _ h=>.inl h,fun g u hu=>?_,?_,fun g x hl hx=>?_⟩
 ·by_cases e:g=1
  ·subst e
   rw [hwf.fr 1 rfl] at hu; cases hu
  ·simp only [e,if_false]; exact hu
 ·refine ⟨fun x hx=>zT (hwf.ilt x hx) hsz,fun g hl=>?_,fun g x hl hx=>?_,fun g x hl hx=>?_,fun g g' x hl hl' _ _=>by rw [hlv g hl,hlv g' hl'],fun g hf=>?_,hwf.gl.keep ⟨hsz,fun x hx hlt=>hblk x hlt fun h=>hwf.dI 0 x trivial h hx⟩ fun _ h=>h⟩
  ·obtain rfl:=hlv g hl
   exact ⟨v',by simp,hrow⟩
  ·obtain rfl:=hlv g hl
   simp only [if_true] at hx
   exact zT (hwf.lt 0 x trivial hx) hsz
  ·obtain rfl:=hlv g hl
   simp only [if_true] at hx
   exact hwf.dI 0 x trivial hx
  ·match g with
   | 0=>cases hf
   | 1=>cases hf
   | g+2 =>
    have e:¬ g+2=1:=by omega
    simp only [e,if_false]
    exact hwf.fr (g+2) rfl
 ·obtain rfl:=hlv g hl
  simp only [if_true] at hx
  exact .inl (hB0 x hx)
theorem QW {xs:List SV} {ob:List Ob} {r:SV} {ob':List Ob} (h:Ex xs ob=some (r,ob')):Fun Tryz.prog 288 xs ob r ob':=by
 unfold Ex at h
 split at h
 ·rename_i f t sz es
  obtain ⟨h1,h2⟩:=Aq h
  obtain ⟨rfl,rfl,hk3,xs,rfl,hF⟩:=Ar.1 h1
  simp only [zF,zL] at h2
  obtain ⟨rfl,rfl⟩:=h2
  clear h h1
  rw [Rr]
  rw [zG] at hk3
  intro w I V B vs hwf hvs
  obtain ⟨v,q,rfl,hv,hvs⟩:=AP hvs
  obtain ⟨v2,q,rfl,hv2,hvs⟩:=AP hvs
  obtain rfl:=Hh hvs
  simp only [RepV] at hv hv2
  obtain ⟨vs2,rfl,hv2⟩:=hv2
  simp only [RepVs] at hv2
  subst hv2
  obtain ⟨val,hval,hrow⟩:=hwf.obj 0 trivial
  rw [hv.1] at hval
  obtain rfl:=zE hval
  have hv0:=hv.1
  have hrow:RowR w I (B 0) t 3 (xs.map Lt.o) v:=hrow
  have hrow0:=hrow
  rcases hrow with ⟨he,rfl⟩ | ⟨b,cap,cur,Sub,rfl,hs,hb,g1,g2,g3,g4,g5,g6,g7⟩
  ·simp only [List.map_eq_nil_iff] at he
   subst he
   refine (K2 w).mono ?_
   rintro e w' ⟨rfl,rfl⟩
   have e0:HK []=[]:=rfl
   rw [e0]
   exact ⟨_,I,_,_,rfl,by simp only [RepV]; exact ⟨rfl,rfl⟩,SF hwf rfl (TapeOk.mk' rfl rfl) rfl (zQ _) (fun _ _ _=>rfl) (.inl ⟨rfl,rfl⟩)⟩
  ·have hblt:=(zV.1 hb).1
   have view:=fun i hi=>Qdp (xs:=xs) (S:=B 0) g5 g7 i hi
   rw [zG] at g1
   have hJb:∀ x,(I x∨(B 0 x∧x≠b))→x≠b:=fun x hx=>by
    rcases hx with hx | hx
    ·intro e; subst e; exact hwf.dI 0 x trivial hs hx
    ·exact hx.2
   have hJl:∀ x,(I x∨(B 0 x∧x≠b))→x<w.heap.size:=fun x hx=>by
    rcases hx with hx | hx
    ·exact hwf.ilt x hx
    ·exact hwf.lt 0 x trivial hx.1
   have hcon:=QV xs.length (HJ xs) w b cap cur t hb g3 g1 g2 (fun i=>vB (cur.getD (i*3+0) undef)) (fun i=>vS (cur.getD (i*3+1) undef)) (fun i=>(vA (cur.getD (i*3+2) undef)).1) (fun i=>(vA (cur.getD (i*3+2) undef)).2.1) (fun i=>(vA (cur.getD (i*3+2) undef)).2.2)
    (fun i hi=>by
     obtain ⟨a,l,c,e0,e1,e2,_⟩:=view i hi
     rw [e0,e1,e2]
     exact ⟨rfl,rfl,rfl⟩)
    (fun i j hi hj W hW1 hW2=>by
     obtain ⟨a,l,c,e0,e1,e2,hrx⟩:=view i hi
     obtain ⟨a',l',c',e0',e1',e2',hry⟩:=view j hj
     have hk:KeepS (fun x=>I x∨(B 0 x∧x≠b)) w W:=⟨hW1,fun x hx hlt=>hW2 x hlt (hJb x hx)⟩
     have hc:=QfE (hF xs[i] (zH _) xs[j] (zH _)) (W:=W) (J:=fun x=>I x∨(B 0 x∧x≠b)) (fun x hx=>zT (hJl x hx) hW1) (hwf.gl.keep ⟨hW1,fun x hx hlt=>hk.block x (.inl hx) hlt⟩ fun x hx=>.inl hx) (RepV.mono hk (fun _ h=>h) (VLe.refl _) _ _ hrx) (RepV.mono hk (fun _ h=>h) (VLe.refl _) _ _ hry)
     rw [e0,e1,e2,e0',e1',e2']
     have e:HJ xs i j=dec (xs[i]=xs[j]):=by
      unfold HJ
      rw [zA hi,zA hj]
      by_cases h:xs[i]=xs[j]
      ·rw [At h,At (by rw [h])]
      ·rw [Ay h,Ay (fun e=>h (zE e))]
     rw [e]
     exact hc)
   rw [zG]
   refine hcon.mono ?_
   rintro e w' ⟨rfl,cur',hro,hcs,hcell⟩
   have c1:=P7 xs
   have hkl:=Qbd (HJ xs) xs.length
   refine ⟨_,I,_,_,rfl,by simp only [RepV]; exact ⟨rfl,rfl⟩,SF hwf hro.os ⟨hro.tape,fun h=>False.elim h⟩ hro.output hro.size (fun x hx hn=>hro.block x hx fun e=>hn (e▸hs)) ?_⟩
   refine .inr ⟨b,cap,cur',fun p j x=>∃ h:p<(kept (HJ xs) xs.length).length,Sub ((kept (HJ xs) xs.length)[p]) j x,by rw [zG,c1],hs,hro.row,by rw [zG,c1]; omega,g2,by rw [hcs]; exact g3,fun i hi=>by rw [zU,Lt.o_eq]; rfl,fun i j x h=>g5 _ _ _ h.2,fun i j i' j' x h h'=>?_,fun i j hi hj=>?_⟩
   ·obtain ⟨a1,a2⟩:=h
    obtain ⟨b1,b2⟩:=h'
    obtain ⟨d1,d2⟩:=g6 _ _ _ _ _ a2 b2
    exact ⟨(yQ (Qaf _ _)).1 d1,d2⟩
   ·have hi':i<(kept (HJ xs) xs.length).length:=by rw [←c1]; simpa using hi
    have hlt:=(Od (zH hi')).1
    have e1:((HK xs).map Lt.o)[i]=(xs.map Lt.o)[(kept (HJ xs) xs.length)[i]]'(by rw [zG]; exact hlt):=by
     obtain ⟨_,c2⟩:=P8 xs (zA hi') (by rw [c1]; exact hi')
     rw [zU,c2,zU]
    have hj':j<3:=by rw [e1] at hj; have:=g4 _ (show (kept (HJ xs) xs.length)[i]<(xs.map Lt.o).length by rw [zG]; exact hlt); omega
    rw [hcell i hi' j hj']
    have h7:=g7 ((kept (HJ xs) xs.length)[i]) j (by rw [zG]; exact hlt) (by rw [g4]; exact hj')
    have hk:KeepS I w w':=⟨hro.size,fun x hx hlt=>hro.block x hlt fun e=>hwf.dI 0 x trivial (e▸hs) hx⟩
    have h2:=(h7.keep hk (fun _ h=>h) (fun x hx hlt=>hro.block x hlt (g5 _ _ _ hx).2)).up (S':=fun x=>∃ h:i<(kept (HJ xs) xs.length).length,Sub ((kept (HJ xs) xs.length)[i]) j x) (fun x hx=>⟨hi',hx⟩)
    simp only [e1]
    exact h2
 ·rename_i f
  obtain ⟨h1,h2⟩:=Aq h
  obtain rfl:=Ar.1 h1
  simp only [zF,zL] at h2
  obtain ⟨rfl,rfl⟩:=h2
  intro w I V B vs hwf hvs
  obtain ⟨v,q,rfl,hv,hvs⟩:=AP hvs
  obtain ⟨v2,q,rfl,hv2,hvs⟩:=AP hvs
  obtain rfl:=Hh hvs
  simp only [RepV] at hv hv2
  obtain ⟨vs2,rfl,hv2⟩:=hv2
  simp only [RepVs] at hv2
  subst hv2 hv
  refine (K2 w).mono ?_
  rintro e w' ⟨rfl,rfl⟩
  exact ⟨_,I,V,B,rfl,by simp only [RepV],Lh hwf⟩
 ·cases h
end Go.Proofs.YtepbennkcbmgoaaGreatDoor
set_option maxRecDepth 100000
set_option linter.unusedSimpArgs false
set_option linter.unusedVariables false
set_option linter.unusedSectionVars false
namespace Go.Proofs.YtepbennkcbmgoaaGreatDoor
open Go.RowKit Go.Shelf
theorem Vi {w w':World} {I:Nat→Prop} {V:Nat→Option Value} {B:Nat→Nat→Prop} {t:TypeId} {sz:Nat} {es:List (List OT)} {v':Value} {S:Nat→Prop} (hwf:Wf w I V B (Ap []))
  (hos:w'.os=w.os) (htape:TapeOk w w') (hout:w'.output=w.output) (hsz:w.heap.size≤w'.heap.size) (hblk:∀ x,x<w.heap.size→w'.heap[x]?=w.heap[x]?) (hS:∀ x,S x→w.heap.size≤x∧x<w'.heap.size) (hrow:RowR w' I S t sz es v') :
  FunPost w I V B [] [.row t sz es] w' I (fun g=>if g=0 then some v' else V g) (fun g=>if g=0 then S else B g):=by
 have hlv:∀ g,(Ap [Ob.row t sz es] g).live→g=0:=fun g h=>by
  match g with
  | 0=>rfl
  | g+1=>exact h.elim
 refine ⟨⟨hos,htape,hout,hsz,fun x hx hn=>hblk x hx⟩,fun _ h=>h,fun _ h=>.inl h,fun g u hu=>?_,?_,fun g x hl hx=>?_⟩
 ·rw [hwf.fr g rfl] at hu; cases hu
 ·refine ⟨fun x hx=>zT (hwf.ilt x hx) hsz,fun g hl=>?_,fun g x hl hx=>?_,fun g x hl hx hI=>?_,fun g g' x hl hl' _ _=>by rw [hlv g hl,hlv g' hl'],fun g hf=>?_,hwf.gl.keep ⟨hsz,fun x _ hlt=>hblk x hlt⟩ fun _ h=>h⟩
  ·obtain rfl:=hlv g hl
   exact ⟨v',by simp,hrow⟩
  ·obtain rfl:=hlv g hl
   simp only [if_true] at hx
   exact (hS x hx).2
  ·obtain rfl:=hlv g hl
   simp only [if_true] at hx
   have:=hwf.ilt x hI
   have:=(hS x hx).1
   omega
  ·match g with
   | 0=>cases hf
   | g+1 =>
    have e:¬ g+1=0:=by omega
    simp only [e,if_false]
    exact hwf.fr (g+1) rfl
 ·obtain rfl:=hlv g hl
  simp only [if_true] at hx
  exact .inr (hS x hx).1
theorem QfF {w:World} {I S T:Nat→Prop} {d:D} {v:Value} (h:DRep false w T d v) (hT:∀ x,T x→I x):ORep w I S d.ot v:=by
 cases h with
 | int _ n=>exact .int S n
 | bool _ b=>exact .bool S b
 | str _ s h=>exact .str S s h
 | arr _ sz es a cap f Sub h1 h2 h3 h4 h5 h6 h7=>exact .sh S es _ ((DRep.arr _ sz es a cap f Sub h1 h2 h3 h4 h5 h6 h7).up hT)
theorem SG:∃ (i:TypeInfo) (z:Value),Tryz.prog.info? 122=some i∧i.zero=some z∧i.size=3∧z.cells.size=3∧i.bytes=48:=by
 have h:(match Tryz.prog.info? 122 with
  | some i=>match i.zero with
   | some z=>i.size == 3&&z.cells.size == 3&&i.bytes == 48
   | none=>false
  | none=>false)=true:=by kernel_rfl
 split at h
 ·rename_i i hi
  split at h
  ·rename_i z hz
   rw [zB,zB,beq_iff_eq,beq_iff_eq,beq_iff_eq] at h
   exact ⟨i,z,hi,hz,h.1.1,h.1.2,h.2⟩
  ·cases h
 ·cases h
noncomputable def P9 (xs:List SV) (ob:List Ob):Option (SV × List Ob) :=
 match xs,ob with
 | [.arr es],[]=>bif dec (es≠[]∧es.length≤1048576∧∀ e∈es,e.length=3) then some (.ref 0,[.row 122 3 (es.map fun e=>e.map D.ot)]) else none
 | _,_=>none
theorem Qag (b off n c:Nat) (hn:0<n) (w w':World) (v':Value)
  (hap:∀ ty,(Builtin.append_ #[58,58] ty #[.slice (some ⟨w.heap.size,0,none⟩) 0 0,.slice (some ⟨b,off,none⟩) n c]).run Tryz.prog (w.alloc (.cells #[] 122))=.ok v' w') :
  Calls Tryz.prog 215 #[.slice (some ⟨b,off,none⟩) n c] w fun e w2=>e=.returned v'∧w2=w':=by
 have hq:∀ W,(binOp .eql 58 (.slice (some ⟨b,off,none⟩) n c) (.slice none 0 0)).run Tryz.prog W=.ok (.bool false) W:=fun W=>Lib.run_eql_slice_nil W _ _ _ n c 0 0 Tryz.underlying58
 go_enter Tryz.func215,Tryz.ntmps215
 go_wp2_with (at_builtin; refine Lib.wpList_append_run _ rfl _ _ _ _ rfl _ _ rfl rfl _ _ (hap _) ?_)
 go_ret
 exact ⟨rfl,rfl⟩
theorem Qah (w:World):Calls Tryz.prog 213 #[.slice none 0 0,.int .i64 0] w fun e w'=>e=.returned (.slice none 0 0)∧w'=w:=by
 go_enter Tryz.func213,Tryz.ntmps213
 go_wp2
 go_ret
 exact ⟨rfl,rfl⟩
theorem Qai (n:Nat) (hn:0<n) (hb:n≤1048576) (w:World):Calls Tryz.prog 213 #[.slice none 0 0,.int .i64 n] w fun e w'=>∃ (cs:Array Value) (G:Nat),e=.returned (.slice (some ⟨w.heap.size,0,none⟩) 0 G)∧w'=w.drew.alloc (.cells cs 122)∧cs.size=G*3∧G≤9223372036854775807:=by
 obtain ⟨i0,z,hi0,hz0,hs0,hzc,hby⟩:=SG
 have hold:(Builtin.firstCells i0.size 0 (.slice none 0 0)).run Tryz.prog w.drew=.ok (List.toArray []) w.drew:=run_firstCells_none w.drew i0.size 0 0 0
 have hrz:∀ ty,(Builtin.append_ #[58,3] ty #[.slice none 0 0,.int .i64 (n:Int)]).run Tryz.prog w =
   .ok (.slice (some ⟨w.heap.size,0,none⟩) n (grownCap w n 0 122)) (w.drew.alloc (.cells (List.toArray []++Builtin.zeroCells z.cells n++Builtin.zeroCells z.cells (grownCap w n 0 122-n)) 122)):=fun ty=>by
  have h:=Lib.run_append_grow_zeros w 58 3 ty 122 i0 z .i64 .i64 Tryz.underlying58 Tryz.underlying3 hi0 hz0 none 0 0 [] hold n (by omega) (by omega) (by omega) (by omega)
   (by rw [hby]; omega) (by rw [yM]; exact growslice_fits (by omega) (by rw [hby]; omega))
  rw [yM] at h
  exact h
 have hGn:n≤grownCap w n 0 122:=grownCap_ge w _ _ _
 have hG63:=grownCap_le_maxLen w n 0 122 (by unfold maxLen; omega)
 obtain ⟨G,hG⟩:∃ G,G=grownCap w n 0 122:=⟨_,rfl⟩
 rw [←hG] at hrz hGn hG63
 have hG63':G≤9223372036854775807:=by unfold maxLen at hG63; omega
 obtain ⟨cs,hcs⟩:∃ cs,cs=List.toArray []++Builtin.zeroCells z.cells n++Builtin.zeroCells z.cells (G-n):=⟨_,rfl⟩
 rw [←hcs] at hrz
 have hcl:cs.size=G*3:=by
  rw [hcs]
  simp [Builtin.zeroCells,hzc]
  omega
 clear hG hcs hold hG63
 go_enter Tryz.func213,Tryz.ntmps213
 go_wp2_with (at_builtin; refine Lib.wpList_append_run _ rfl _ _ _ _ rfl _ _ rfl rfl _ _ (hrz _) ?_)
 all_goals (go_ret; exact ⟨cs,G,rfl,rfl,hcl,hG63'⟩)
noncomputable def Q9 (xs:List SV) (ob:List Ob):Option (SV × List Ob) :=
 match xs,ob with
 | [.nil,.int .i64 n],[]=>bif dec (n=0) then some (.nil,[]) else bif dec (0 < n∧n≤1048576) then some (.ref 0,[.row 122 3 []]) else none
 | _,_=>none
theorem Qaj {xs:List SV} {ob:List Ob} {r:SV} {ob':List Ob} (h:Q9 xs ob=some (r,ob')):Fun Tryz.prog 213 xs ob r ob':=by
 unfold Q9 at h
 split at h
 ·rename_i n
  intro w I V B vs hwf hvs
  obtain ⟨v,q,rfl,hv,hvs⟩:=AP hvs
  obtain ⟨v2,q,rfl,hv2,hvs⟩:=AP hvs
  obtain rfl:=Hh hvs
  simp only [RepV] at hv hv2
  subst hv hv2
  cases hd:dec (n=0) with
  | true =>
   obtain rfl:=Ar.1 hd
   rw [hd] at h
   simp only [cond_true,zF,zL] at h
   obtain ⟨rfl,rfl⟩:=h
   refine (Qah w).mono ?_
   rintro e w' ⟨rfl,rfl⟩
   exact ⟨_,I,V,B,rfl,by simp only [RepV],⟨⟨rfl,TapeOk.mk' rfl rfl,rfl,zQ _,fun _ _ _=>rfl⟩,fun _ h=>h,fun _ h=>.inl h,VLe.refl _,hwf,fun g b hl hb=>.inl ⟨g,hl,hb⟩⟩⟩
  | false =>
   rw [hd,cond_false] at h
   obtain ⟨h1,h2⟩:=Aq h
   obtain ⟨k1,k2⟩:=Ar.1 h1
   simp only [zF,zL] at h2
   obtain ⟨rfl,rfl⟩:=h2
   obtain ⟨m,rfl⟩:∃ m:Nat,n=m:=⟨n.toNat,by omega⟩
   refine (Qai m (by omega) (by omega) w).mono ?_
   rintro e w' ⟨cs,G,rfl,rfl,hcs,hG⟩
   have hnew:=heap_alloc_new w.drew (.cells cs 122)
   have hbl:∀ x,x<w.heap.size→(w.drew.alloc (.cells cs 122)).heap[x]?=w.heap[x]?:=fun x hx=>Below.heap_alloc w.drew _ x hx
   have hsz:(w.drew.alloc (.cells cs 122)).heap.size=w.heap.size+1:=Array.size_push _
   exact ⟨_,I,_,_,rfl,by simp only [RepV]; exact ⟨rfl,rfl⟩,Vi (S:=fun x=>x=w.heap.size) hwf rfl (TapeOk.le rfl (Nat.le_succ _)) rfl (by omega) hbl (fun x hx=>by omega) (.inr ⟨w.heap.size,G,cs,fun _ _ _=>False,rfl,rfl,hnew,zR _,hG,hcs,fun i hi=>absurd hi (by simp),fun _ _ _ h=>h.elim,fun _ _ _ _ _ h=>h.elim,fun i j hi=>absurd hi (by simp)⟩)⟩
 ·cases h
theorem Yn {xs:List SV} {ob:List Ob} {r:SV} {ob':List Ob} (h:P9 xs ob=some (r,ob')):Fun Tryz.prog 215 xs ob r ob':=by
 unfold P9 at h
 split at h
 ·rename_i es
  obtain ⟨h1,h2⟩:=Aq h
  obtain ⟨k1,k2,k3⟩:=Ar.1 h1
  simp only [zF,zL] at h2
  obtain ⟨rfl,rfl⟩:=h2
  intro w I V B vs hwf hvs
  obtain ⟨v,q,rfl,hv,hvs⟩:=AP hvs
  obtain rfl:=Hh hvs
  simp only [RepV] at hv
  have hpos:0<es.length:=List.length_pos_iff.2 k1
  cases hv with
  | arr S sz es a cap f Sub g1 g2 g3 g4 g5 g6 g7 =>
   rcases g3 with g3 | ⟨b,off,rfl,hS,hlt,hc,_⟩
   ·omega
   have hsz3:sz=3:=by rw [←g4 0 hpos]; exact k3 _ (zH hpos)
   subst hsz3
   obtain ⟨i0,z,hi0,hz0,hs0,hzc,hby⟩:=SG
   obtain ⟨W0,hW0⟩:∃ W,W=w.alloc (.cells #[] 122):=⟨_,rfl⟩
   have hb0:W0.heap[w.heap.size]?=some (.cells #[] 122 (0,0)):=by rw [hW0]; exact heap_alloc_new w _
   have hbl0:∀ x,x<w.heap.size→W0.heap[x]?=w.heap[x]?:=fun x hx=>by rw [hW0]; exact Below.heap_alloc w _ x hx
   have hz0':W0.heap.size=w.heap.size+1:=by rw [hW0]; simp
   have hk0:KeepS I w W0:=⟨by omega,fun x _ hlt=>hbl0 x hlt⟩
   have hc0:∀ i j,i<es.length→j<3→W0.cell? ⟨b,off+i*3+j,none⟩=some (f i j):=fun i j hi hj=>by
    rw [←hc i j hi hj]
    unfold World.cell?
    rw [hbl0 b hlt]
   obtain ⟨v',w',S',hrun,hrow,hS',o1,o2,o3,o4,o5⟩:=No (P:=Tryz.prog) (w:=W0) (I:=I) (S:=fun x=>x=w.heap.size) (T:=fun _=>False) (t:=122) (es:=[]) (new:=es.map fun e=>e.map D.ot) (tr:=58) (ty:=58) (val:=f) (Sub':=fun _ _ _=>False) (a:=some ⟨b,off,none⟩) (cp:=cap) (v:=.slice (some ⟨w.heap.size,0,none⟩) 0 0) Tryz.underlying58 hi0 hz0 hs0 hzc (by omega)
    (fun x hx hI=>by have:=hwf.ilt x hI; omega)
    (.inr ⟨w.heap.size,0,#[],fun _ _ _=>False,rfl,rfl,hb0,zQ _,by omega,by simp,fun i hi=>absurd hi (by simp),fun _ _ _ h=>h.elim,fun _ _ _ _ _ h=>h.elim,fun i j hi=>absurd hi (by simp)⟩)
    (fun _=>⟨b,off,rfl,fun i j hi hj=>hc0 i j (by simpa using hi) hj⟩)
    (fun i hi=>by rw [zU,zG]; exact g4 i (by simpa using hi)) (fun _ _ _ h=>h.elim) (fun _ h=>h.elim) (fun _ _ h=>h.elim) (fun _ _ _ _ _ h=>h.elim)
    (fun i j hi hj=>by
     have hi':i<es.length:=by simpa using hi
     have hj':j<es[i].length:=by simpa using hj
     simp only [zU]
     exact QfF ((g7 i j hi' hj').keep ⟨by omega,fun x _ hlt=>hbl0 x hlt⟩) fun x hx=>g5 i j x hx)
    (by simp; omega) (by rw [hby]; simp; omega)
   rw [zG] at hrun
   rw [List.nil_append] at hrow
   have hcon:=Qag b off es.length cap hpos w w' v' (fun ty=>by
    rw [←hW0]
    exact hrun)
   have hone:v'.oneCell'=true:=by
    obtain ⟨a,n,e,_⟩:=hrow.form
    rw [e]; rfl
   refine hcon.mono ?_
   rintro e w2 ⟨rfl,rfl⟩
   refine ⟨_,I,_,_,rfl,by simp only [RepV]; exact ⟨rfl,hone⟩,Vi (S:=fun x=>w.heap.size≤x∧x<w2.heap.size) hwf (by rw [o1,hW0]; rfl) (TapeOk.trans o2 (by rw [hW0]; exact TapeOk.mk' rfl rfl)) (by rw [o3,hW0]; rfl) (by omega) (fun x hx=>by rw [o5 x (by omega) (by omega),hbl0 x hx]) (fun x hx=>hx) (hrow.up fun x hx=>?_)⟩
   have hw0:w.heap.size<w2.heap.size:=by omega
   rcases hS' x hx with h | h | h
   ·omega
   ·exact h.elim
   ·omega
 ·cases h
end Go.Proofs.YtepbennkcbmgoaaGreatDoor
set_option maxRecDepth 100000
set_option linter.unusedSimpArgs false
set_option linter.unusedVariables false
set_option linter.unusedSectionVars false
namespace Go.Proofs.YtepbennkcbmgoaaGreatDoor
open Go.RowKit Go.Shelf
theorem RowOnly.cells {w:World} {b:Nat} {t:TypeId}:∀ (vs:List Value) (o:Nat) {V:World} {cur:Array Value},RowOnly w b t cur V→o+vs.length≤cur.size→∃ cur',RowOnly w b t cur' (V.setCells b o vs)∧cur'.size=cur.size∧∀ q,cur'.getD q undef=if o≤q∧q<o+vs.length then vs.getD (q-o) undef else cur.getD q undef
 | [],o,V,cur,h,_=>⟨cur,h,rfl,fun q=>by
  have e:¬ (o≤q∧q<o+([]:List Value).length):=by simp only [List.length_nil]; omega
  rw [if_neg e]⟩
 | v :: r,o,V,cur,h,hl=>by
  simp only [yR] at hl
  obtain ⟨cur',h1,h2,h3⟩:=RowOnly.cells r (o+1) (h.set o v) (by simp; omega)
  refine ⟨cur',h1,by simpa using h2,fun q=>?_⟩
  rw [h3 q]
  simp only [yR]
  by_cases e:q=o
  ·subst e
   rw [if_neg (by omega),if_pos (by omega),Nat.sub_self]
   simp [zM,zY,show q<cur.size by omega]
  ·by_cases h4:o+1≤q∧q<o+1+r.length
   ·rw [if_pos h4,if_pos (by omega),show q-o=(q-(o+1))+1 by omega]; rfl
   ·rw [if_neg h4,if_neg (by omega)]
    simp only [zM,zY]
    rw [if_neg (fun h=>e h.symm)]
theorem Qfu {w:World} {b:Nat} {cur:Array Value} {t:TypeId} (hb:w.heap[b]?=some (.cells cur t (0,0))) {q:Nat} (hlt:q<cur.size):w.cell? ⟨b,q,none⟩=some (cur.getD q undef):=by
 unfold World.cell?
 simp only [hb,yF,if_false]
 rw [zM,zP hlt]
 rfl
theorem Yo (n i:Nat) (hin:i<n) (w:World) (b cap:Nat) (cur:Array Value) (t:TypeId) (hb:w.heap[b]?=some (.cells cur t (0,0))) (hsz:cur.size=cap*3) (hn:n≤cap) (hcap:cap≤9223372036854775807)
  (hone:∀ q,q<n*3→(cur.getD q undef).oneCell'=true) :
  Calls Tryz.prog 214 #[.slice (some ⟨b,0,none⟩) n cap,.int .i64 (i:Int),.int .i64 ((i+1:Nat):Int)] w fun e w'=>e=.returned (.slice (some ⟨b,0,none⟩) (n-1) cap)∧∃ cur',RowOnly w b t cur' w'∧cur'.size=cur.size∧∀ p,p<n-1→∀ j,j<3→cur'.getD (p*3+j) undef=cur.getD ((if p<i then p else p+1)*3+j) undef:=by
 obtain ⟨i0,z,hi0,hz0,hs0,hzc,hby⟩:=SG
 obtain ⟨m,hm⟩:∃ m,m=n-(i+1):=⟨_,rfl⟩
 obtain ⟨news,hnews⟩:∃ news,news=(yB (m*3)).map fun q=>cur.getD ((i+1)*3+q) undef:=⟨_,rfl⟩
 have hlen:news.length=m*3:=by rw [hnews]; simp
 have hget:∀ q,q<m*3→news[q]?=some (cur.getD ((i+1)*3+q) undef):=fun q hq=>by
  rw [hnews,List.getElem?_map,List.getElem?_range hq]; rfl
 have hrowD:w.drew.heap[b]?=some (.cells cur t (0,0)):=hb
 obtain ⟨A,hA,hsrc⟩:∃ A:Addr,(if cap=i+1 then (some (⟨b,0,none⟩:Addr)) else some ⟨b,(i+1)*3,none⟩)=some A∧Hid (∀ q u,news[q]?=some u→w.drew.cell? (A.add q)=some u):=by
  by_cases h:cap=i+1
  ·refine ⟨⟨b,0,none⟩,by simp [h],fun q u hu=>?_⟩
   have h0:news.length=0:=by rw [hlen]; omega
   rw [List.length_eq_zero_iff.1 h0] at hu
   simp at hu
  ·refine ⟨⟨b,(i+1)*3,none⟩,by simp [h],fun q u hu=>?_⟩
   have hq:q<m*3:=by
    have:=(yL.1 hu).1
    rwa [hlen] at this
   rw [hget q hq] at hu
   rw [Addr.add_lit,← hu]
   exact Qfu hrowD (by omega)
 have s1:Hid (news.length=m*3):=hlen
 have s2:Hid (∀ u∈news,u.oneCell'=true):=by
  intro u hu
  rw [hnews] at hu
  obtain ⟨q,hq,rfl⟩:=List.mem_map.1 hu
  rw [yJ] at hq
  exact hone _ (by omega)
 have s3:Hid (∀ q,q<news.length→(w.drew.cell? ⟨b,0+i*3+q,none⟩).isSome=true∧w.drew.frozen? ⟨b,0+i*3+q,none⟩=false):=by
  intro q hq
  rw [hlen] at hq
  refine ⟨?_,Ww hrowD _⟩
  rw [Qfu hrowD (by omega)]; rfl
 obtain ⟨W1,hW1⟩:∃ W1,W1=w.drew.setCells b (0+i*3) news:=⟨_,rfl⟩
 have hr0:RowOnly w b t cur w.drew:=⟨rfl,rfl,rfl,zQ _,fun _ _ _=>rfl,hb⟩
 obtain ⟨cur1,hr1,hz1,hg1⟩:=hr0.cells news (0+i*3) (by rw [hlen]; omega)
 rw [←hW1] at hr1
 have hcl:∀ ty,(Builtin.clear_ #[58] ty #[.slice (some ⟨b,(i+m)*3,none⟩) (n-(i+m)) (cap-(i+m))]).run Tryz.prog W1=.ok (.tuple #[]) (W1.setCells b ((i+m)*3) (GS (n-(i+m)))):=fun ty=>SE ty hr1.row (by omega) (by omega)
 obtain ⟨cur2,hr2,hz2,hg2⟩:=hr1.cells (GS (n-(i+m))) ((i+m)*3) (by rw [SD]; omega)
 have hfin:Hid (∃ cur',RowOnly w b t cur' (W1.setCells b ((i+m)*3) (GS (n-(i+m))))∧cur'.size=cur.size∧∀ p,p<n-1→∀ j,j<3→cur'.getD (p*3+j) undef=cur.getD ((if p<i then p else p+1)*3+j) undef):=by
  refine ⟨cur2,hr2,by rw [hz2,hz1],fun p hp j hj=>?_⟩
  rw [hg2,if_neg (by omega),hg1,hlen]
  by_cases h:p<i
  ·rw [if_neg (by omega),if_pos h]
  ·rw [if_pos (by omega),if_neg h,yY,hget _ (by omega),yP]
   congr 1
   omega
 have hW:Hid (W1=w.drew.setCells b (0+i*3) news):=hW1
 have hic:i≤cap:=by omega
 have hjc:i+1≤cap:=by omega
 have mixed:Tryz.prog.follows .mixedOrders=true:=by kernel_rfl
 have z1:(0:Int)≤(i:Int)+1:=by omega
 have z2:(i:Int)+1≤(n:Int):=by omega
 subst hm
 clear hW1 hr1 hr2 hr0 hg1 hg2 hget hnews hlen hrowD hone hz1 hz2 hb hsz
 go_enter Tryz.func214,Tryz.ntmps214
 go_wp2_with fail
 go_region_law_o (refine step_append_room rfl (.tmp 22) (.tmp 25) 58 rfl 122 i0 3 Tryz.underlying58 hi0 hs0 b 0 i cap (by simp [Act.eval,Act.put]) A (n-(i+1)) (cap-(i+1)) news (by simp [Act.eval,Act.put]) s1.out hsrc.out s2.out (by omega) s3.out ?_; rw [←hW.out])
 go_wp2
 go_ret
 refine ⟨by rw [show n-1=i+(n-(i+1)) by omega]; rfl,?_⟩
 exact hfin.out
noncomputable def Mk (xs:List SV) (ob:List Ob):Option (SV × List Ob) :=
 match xs,ob with
 | [.ref 0,.int .i64 i,.int .i64 j],[.row t sz es]=>bif dec (sz=3∧0≤i∧i.toNat < es.length∧j=i+1∧es.length≤1099511627776) then some (.ref 1,[.gone,.row t sz (es.eraseIdx i.toNat)]) else none
 | _,_=>none
theorem Wy {xs:List SV} {ob:List Ob} {r:SV} {ob':List Ob} (h:Mk xs ob=some (r,ob')):Fun Tryz.prog 214 xs ob r ob':=by
 unfold Mk at h
 split at h
 ·rename_i i j t sz es
  obtain ⟨h1,h2⟩:=Aq h
  obtain ⟨rfl,k1,k2,rfl,k3⟩:=Ar.1 h1
  simp only [zF,zL] at h2
  obtain ⟨rfl,rfl⟩:=h2
  clear h h1
  obtain ⟨m,rfl⟩:∃ m:Nat,i=m:=⟨i.toNat,by omega⟩
  rw [Int.toNat_natCast] at k2 ⊢
  intro w I V B vs hwf hvs
  obtain ⟨v,q,rfl,hv,hvs⟩:=AP hvs
  obtain ⟨v2,q,rfl,hv2,hvs⟩:=AP hvs
  obtain ⟨v3,q,rfl,hv3,hvs⟩:=AP hvs
  obtain rfl:=Hh hvs
  simp only [RepV] at hv hv2 hv3
  subst hv2 hv3
  obtain ⟨val,hval,hrow⟩:=hwf.obj 0 trivial
  rw [hv.1] at hval
  obtain rfl:=zE hval
  have hrow:RowR w I (B 0) t 3 es v:=hrow
  rcases hrow with ⟨he,rfl⟩ | ⟨b,cap,cur,Sub,rfl,hs,hb,g1,g2,g3,g4,g5,g6,g7⟩
  ·subst he; simp at k2
  ·have hcon:=Yo es.length m k2 w b cap cur t hb g3 g1 g2 (fun q hq=>by
    have hq1:q / 3<es.length:=by omega
    have:=g7 (q / 3) (q % 3) hq1 (by rw [g4 _ hq1]; omega)
    rw [show q / 3*3+q % 3=q by omega] at this
    exact this.oneCell)
   refine hcon.mono ?_
   rintro e w' ⟨rfl,cur',hro,hcs,hcell⟩
   have hlen:(es.eraseIdx m).length=es.length-1:=by rw [List.length_eraseIdx,if_pos k2]
   have eg:∀ p (hp:p<(es.eraseIdx m).length),∃ hq:(if p<m then p else p+1)<es.length,(es.eraseIdx m)[p]=es[if p<m then p else p+1]:=fun p hp=>by
    have hq:(if p<m then p else p+1)<es.length:=by split <;> omega
    refine ⟨hq,?_⟩
    rw [List.getElem_eraseIdx]
    split <;> simp only [*,if_true,if_false]
   refine ⟨_,I,_,_,rfl,by simp only [RepV]; exact ⟨rfl,rfl⟩,SF hwf hro.os ⟨hro.tape,fun h=>False.elim h⟩ hro.output hro.size (fun x hx hn=>hro.block x hx fun e=>hn (e▸hs)) ?_⟩
   refine .inr ⟨b,cap,cur',fun p j x=>Sub (if p<m then p else p+1) j x,by rw [hlen],hs,hro.row,by rw [hlen]; omega,g2,by rw [hcs]; exact g3,fun p hp=>by obtain ⟨hq,e⟩:=eg p hp; rw [e]; exact g4 _ hq,fun p j x h=>g5 _ _ _ h,fun p j p' j' x h h'=>?_,fun p j hp hj=>?_⟩
   ·obtain ⟨c1,c2⟩:=g6 _ _ _ _ _ h h'
    refine ⟨?_,c2⟩
    revert c1
    split <;> split <;> omega
   ·obtain ⟨hq,e⟩:=eg p hp
    have hj':j<3:=by rw [e] at hj; have:=g4 _ hq; omega
    rw [hcell p (by omega) j hj']
    have h7:=g7 _ j hq (by rw [g4 _ hq]; exact hj')
    have h2:=h7.keep (w':=w') ⟨hro.size,fun x hx hlt=>hro.block x hlt fun e=>hwf.dI 0 x trivial (e▸hs) hx⟩ (fun _ h=>h) (fun x hx hlt=>hro.block x hlt (g5 _ _ _ hx).2)
    simp only [e]
    exact h2
 ·cases h
end Go.Proofs.YtepbennkcbmgoaaGreatDoor
set_option maxRecDepth 100000
set_option linter.unusedSimpArgs false
set_option linter.unusedVariables false
set_option linter.unusedSectionVars false
namespace Go.Proofs.YtepbennkcbmgoaaGreatDoor
open Go.RowKit
def unS:List D→ByteArray
 | D.str s :: _=>s
 | _=>⟨#[]⟩
noncomputable def Qgx (xs:List SV) (ob:List Ob):Option (SV × List Ob) :=
 match xs,ob with
 | [.arr es],[]=>bif dec ((∀ e∈es,∃ s,e=[D.str s])∧es.length≤1048576) then some (.ref 0,[.row 9 1 (es.map fun e=>[OT.str (unS e)])]) else none
 | _,_=>none
noncomputable def Ej:List ByteArray→ByteArray→List ByteArray
 | [],n=>[n]
 | x :: xs,n=>bif strLt x n then x :: Ej xs n else bif dec (x=n) then x :: xs else n :: x :: xs
noncomputable def CP:List ByteArray→ByteArray→Nat
 | [],_=>0
 | x :: xs,n=>bif strLt x n then CP xs n+1 else 0
theorem FunD.toFun {P:Program} {f:FuncId} {xs:List SV} {ob:List Ob} {r:SV} {ob':List Ob} (h:FunD P f xs ob r ob'):Fun P f xs ob r ob':=by
 intro w I V B vs hwf hvs
 refine (h w I V B vs hwf hvs).mono ?_
 rintro e w' ⟨v,I',V',B',he,hr,⟨⟨f1,⟨f2,_⟩,f3,f4,f5⟩,p1,p2,p3,p4,p5⟩⟩
 exact ⟨v,I',V',B',he,hr,⟨⟨f1,⟨f2,fun h=>h.elim⟩,f3,f4,f5⟩,p1,p2,p3,p4,p5⟩⟩
theorem Fun.taken {P:Program} {f:FuncId} {t:TypeId} {sz:Nat} {es:List (List OT)} {n:ByteArray} {t':TypeId} {sz':Nat} {es':List (List OT)} (hf:OT.AA es=true)
  (h:Fun P f [.arr (OT.erss es),.str n] [] (.ref 0) [.row t' sz' es']):Fun P f [.ref 0,.str n] [.row t sz es] (.ref 1) [.gone,.row t' sz' es']:=by
 intro w I V B vs hwf hvs
 obtain ⟨v,q,rfl,hv,hvs⟩:=AP hvs
 obtain ⟨v2,q,rfl,hv2,hvs⟩:=AP hvs
 obtain rfl:=Hh hvs
 simp only [RepV] at hv hv2
 obtain ⟨val,hval,hrow⟩:=hwf.obj 0 trivial
 rw [hv.1] at hval
 obtain rfl:=zE hval
 have hrow:RowR w I (B 0) t sz es v:=hrow
 have hn:∀ g,Ap ([]:List Ob) g=.free:=fun g=>by cases g <;> rfl
 have hnl:∀ g,¬ (Ap ([]:List Ob) g).live:=fun g hl=>by rw [hn] at hl; exact hl
 have hHB0:∀ b,¬ HB (fun _ _=>False) ([]:List Ob) b:=fun b ⟨g,hl,_⟩=>hnl g hl
 have hwf0:Wf w (fun x=>I x∨B 0 x) (fun _=>none) (fun _ _=>False) (Ap []) :=
  ⟨fun b hb=>hb.elim (hwf.ilt b) (hwf.lt 0 b trivial),fun g hl=>(hnl g hl).elim,fun g b hl=>(hnl g hl).elim,fun g b hl=>(hnl g hl).elim,fun g g' b hl=>(hnl g hl).elim,fun g _=>rfl,hwf.gl.keep ⟨zQ _,fun x _ _=>rfl⟩ fun x hx=>.inl hx⟩
 have hD:DRep false w (fun x=>I x∨B 0 x) (.arr (OT.erss es)) v:=hrow.er (fun b hb=>.inr hb) (fun b hb=>.inl hb) hf
 refine (h w _ _ _ [v,v2] hwf0 (by simp only [RepVs,RepV]; exact ⟨v,_,rfl,hD,v2,_,rfl,hv2,rfl⟩)).mono ?_
 rintro e w' ⟨rv,I2,V2,B2,rfl,hr,hp⟩
 simp only [RepV] at hr
 have hlv:∀ g,(Ap [Ob.gone,.row t' sz' es'] g).live→g=1:=fun g h=>by
  match g with
  | 0=>exact h.elim
  | 1=>rfl
  | g+2=>exact h.elim
 obtain ⟨f1,f2,f3,f4,f5⟩:=hp.fr
 refine ⟨rv,I2,fun g=>if g=1 then V2 0 else V g,fun g=>if g=1 then B2 0 else B g,rfl,by simp only [RepV]; exact ⟨by simp [hr.1],hr.2⟩,⟨⟨f1,f2,f3,f4,fun x hx _=>f5 x hx (hHB0 x)⟩,fun b hb=>hp.i0 b (.inl hb),fun b hb=>?_,fun g u hu=>?_,?_,fun g x hl hx=>?_⟩⟩
 ·rcases hp.i1 b hb with (h1 | h1) | h1 | h1
  ·exact .inl h1
  ·exact .inr (.inr ⟨0,trivial,h1⟩)
  ·exact .inr (.inl h1)
  ·exact (hHB0 b h1).elim
 ·by_cases e:g=1
  ·subst e
   rw [hwf.fr 1 rfl] at hu; cases hu
  ·simp only [e,if_false]; exact hu
 ·refine ⟨hp.wf.ilt,fun g hl=>?_,fun g x hl hx=>?_,fun g x hl hx=>?_,fun g g' x hl hl' _ _=>by rw [hlv g hl,hlv g' hl'],fun g hfr=>?_,hp.wf.gl⟩
  ·obtain rfl:=hlv g hl
   obtain ⟨val,hv0,hob⟩:=hp.wf.obj 0 trivial
   exact ⟨val,by simp [hv0],hob⟩
  ·obtain rfl:=hlv g hl
   simp only [if_true] at hx
   exact hp.wf.lt 0 x trivial hx
  ·obtain rfl:=hlv g hl
   simp only [if_true] at hx
   exact hp.wf.dI 0 x trivial hx
  ·match g with
   | 0=>cases hfr
   | 1=>cases hfr
   | g+2 =>
    have e:¬ g+2=1:=by omega
    simp only [e,if_false]
    exact hwf.fr (g+2) rfl
 ·obtain rfl:=hlv g hl
  simp only [if_true] at hx
  rcases hp.bh 0 x trivial hx with h1 | h1
  ·exact (hHB0 x h1).elim
  ·exact .inr h1
def Oe (es:List (List OT)):List ByteArray:=es.map fun e=>match e with
 | .str s :: _=>s
 | _=>⟨#[]⟩
theorem Qdr (l:List ByteArray):Oe (l.map fun s=>[OT.str s])=l:=by
 unfold Oe
 rw [List.map_map]
 exact (List.map_congr_left fun s _=>rfl).trans (List.map_id l)
theorem Yp:∀ xs:List ByteArray,OT.AA (xs.map fun s=>[OT.str s])=true
 | []=>rfl
 | x :: xs=>by simp only [zC,OT.AA,OT.CB,OT.full,Yp xs,zD]
noncomputable def PA (xs:List SV) (ob:List Ob):Option (SV × List Ob) :=
 match xs,ob with
 | [.ref 0,.str n],[.row t sz es] =>
  bif dec (es=(Oe es).map (fun s=>[OT.str s])∧(¬ (Oe es).length<(Ej (Oe es) n).length→Fun Tryz.prog 238 [.ref 0,.str n] [.row t sz es] (.ref 0) [.row t sz es])∧((Oe es).length<(Ej (Oe es) n).length→Fun Tryz.prog 238 [.arr ((Oe es).map fun s=>[D.str s]),.str n] [] (.ref 0) [.row 9 1 ((Ej (Oe es) n).map fun s=>[OT.str s])])) then
   bif dec ((Oe es).length<(Ej (Oe es) n).length) then some (.ref 1,[.gone,.row 9 1 ((Ej (Oe es) n).map fun s=>[OT.str s])]) else some (.ref 0,[.row t sz es])
  else none
 | _,_=>none
theorem Yq {xs:List SV} {ob:List Ob} {r:SV} {ob':List Ob} (h:PA xs ob=some (r,ob')):Fun Tryz.prog 238 xs ob r ob':=by
 unfold PA at h
 split at h
 ·rename_i n t sz es
  obtain ⟨h1,h2⟩:=Aq h
  obtain ⟨k1,k2,k3⟩:=Ar.1 h1
  by_cases hq:(Oe es).length<(Ej (Oe es) n).length
  ·rw [At hq,cond_true] at h2
   simp only [zF,zL] at h2
   obtain ⟨rfl,rfl⟩:=h2
   have h3:=k3 hq
   rw [←Wo,← k1] at h3
   exact Fun.taken (by rw [k1]; exact Yp _) h3
  ·rw [Ay hq,cond_false] at h2
   simp only [zF,zL] at h2
   obtain ⟨rfl,rfl⟩:=h2
   exact k2 hq
 ·cases h
end Go.Proofs.YtepbennkcbmgoaaGreatDoor
set_option maxRecDepth 100000
set_option linter.unusedSimpArgs false
set_option linter.unusedVariables false
set_option linter.unusedSectionVars false
namespace Go.Proofs.YtepbennkcbmgoaaGreatDoor
open Go.RowKit Go.Shelf Go.Lib Go.Sort
def srt (ss:List (List UInt8)):List (List UInt8):=ss.mergeSort fun x y=>decide (x≤y)
def Qfv (l:List UInt8):List OT:=[.str ⟨l.toArray⟩]
noncomputable def sortStr (xs:List SV) (ob:List Ob):Option (SV × List Ob) :=
 match xs,ob with
 | [.ref 0],[.row t sz es]=>bif dec (sz=1∧(∀ e∈es,∃ s,e=[.str s])∧es.length≤1099511627776) then some (.tup [],[.row t sz ((srt (es.map fun e=>(Ud e).toList)).map Qfv)]) else none
 | _,_=>none
end Go.Proofs.YtepbennkcbmgoaaGreatDoor
set_option maxRecDepth 100000
set_option linter.unusedSimpArgs false
set_option linter.unusedVariables false
set_option linter.unusedSectionVars false
namespace Go.Proofs.YtepbennkcbmgoaaGreatDoor
open Go.RowKit Go.Shelf Go.Lib Go.Sort
noncomputable def QfG (xs:List SV) (ob:List Ob):Option (SV × List Ob) :=
 match xs,ob with
 | [.ref 0],[.row t sz es]=>bif dec (sz=1∧(∀ e∈es,∃ s,e=[.str s])∧es.length≤1099511627776) then some (.ref 1,[.gone,.row t sz ((Lib.compact (es.map fun e=>(Ud e).toList)).map Qfv)]) else none
 | _,_=>none
end Go.Proofs.YtepbennkcbmgoaaGreatDoor
set_option maxRecDepth 100000
set_option linter.unusedSimpArgs false
set_option linter.unusedVariables false
set_option linter.unusedSectionVars false
namespace Go.Proofs.YtepbennkcbmgoaaGreatDoor
open Go.RowKit Go.Shelf
noncomputable def Qg0 (xs:List SV) (ob:List Ob):Option (SV × List Ob) :=
 match xs,ob with
 | [.nil,.int .i64 n],[]=>bif dec (n=0) then some (.nil,[]) else bif dec (0 < n∧n≤1048576) then some (.ref 0,[.row 9 1 []]) else none
 | _,_=>none
noncomputable def Qg1 (xs:List SV) (ob:List Ob):Option (SV × List Ob) :=
 match xs,ob with
 | [.nil,.int .i64 n],[]=>bif dec (n=0) then some (.nil,[]) else bif dec (0 < n∧n≤1048576) then some (.ref 0,[.row 60 1 []]) else none
 | _,_=>none
end Go.Proofs.YtepbennkcbmgoaaGreatDoor
set_option maxRecDepth 100000
namespace Go.Proofs.YtepbennkcbmgoaaGreatDoor
open Go.Shelf
def so_Itoa_ren:Go.Shelf.Ren:=⟨fun | 171=>189 | 243=>261 | 246=>306 | 283=>323 | 284=>324 | 285=>325 | 286=>326 | 129=>257 | 317=>345 | 318=>346 | 319=>347 | 320=>348 | 337=>355 | 338=>356 | n=>n,fun | 3=>3 | 9=>9 | 2=>2 | 4=>4 | 171=>289 | 0=>0 | 53=>241 | 37=>159 | 5=>5 | 173=>291 | 212=>305 | 51=>239 | 20=>20 | 213=>306 | 46=>184 | 232=>313 | 233=>314 | n=>n,fun | 17=>0 | 18=>1 | 19=>2 | n=>n⟩
theorem QeI:Go.Proofs.LaysM.n171 Tryz.prog so_Itoa_ren:={
 mixed:=by kernel_rfl,
 f129:=Tryz.func257.trans (congrArg some (by kernel_rfl)),
 f171:=Tryz.func189.trans (congrArg some (by kernel_rfl)),
 f243:=Tryz.func261.trans (congrArg some (by kernel_rfl)),
 f246:=Tryz.func306.trans (congrArg some (by kernel_rfl)),
 f283:=Tryz.func323.trans (congrArg some (by kernel_rfl)),
 f284:=Tryz.func324.trans (congrArg some (by kernel_rfl)),
 f285:=Tryz.func325.trans (congrArg some (by kernel_rfl)),
 f286:=Tryz.func326.trans (congrArg some (by kernel_rfl)),
 f317:=Tryz.func345.trans (congrArg some (by kernel_rfl)),
 f318:=Tryz.func346.trans (congrArg some (by kernel_rfl)),
 f319:=Tryz.func347.trans (congrArg some (by kernel_rfl)),
 f320:=Tryz.func348.trans (congrArg some (by kernel_rfl)),
 f337:=Tryz.func355.trans (congrArg some (by kernel_rfl)),
 f338:=Tryz.func356.trans (congrArg some (by kernel_rfl)),
 t0:=Tryz.underlying0,
 a0:=Tryz.isAgg0,
 z0:=Tryz.sizeOf0,
 v0:=Tryz.zeroValue0,
 t2:=Tryz.underlying2,
 a2:=Tryz.isAgg2,
 z2:=Tryz.sizeOf2,
 v2:=Tryz.zeroValue2,
 t3:=Tryz.underlying3,
 a3:=Tryz.isAgg3,
 z3:=Tryz.sizeOf3,
 v3:=Tryz.zeroValue3,
 t4:=Tryz.underlying4,
 a4:=Tryz.isAgg4,
 z4:=Tryz.sizeOf4,
 v4:=Tryz.zeroValue4,
 t5:=Tryz.underlying5,
 a5:=Tryz.isAgg5,
 z5:=Tryz.sizeOf5,
 v5:=Tryz.zeroValue5,
 t9:=Tryz.underlying9,
 a9:=Tryz.isAgg9,
 z9:=Tryz.sizeOf9,
 v9:=Tryz.zeroValue9,
 t20:=Tryz.underlying20,
 a20:=Tryz.isAgg20,
 z20:=Tryz.sizeOf20,
 v20:=Tryz.zeroValue20,
 t37:=Tryz.underlying159,
 a37:=Tryz.isAgg159,
 z37:=Tryz.sizeOf159,
 v37:=Tryz.zeroValue159,
 t46:=Tryz.underlying184,
 a46:=Tryz.isAgg184,
 z46:=Tryz.sizeOf184,
 v46:=Tryz.zeroValue184,
 t51:=Tryz.underlying239,
 a51:=Tryz.isAgg239,
 z51:=Tryz.sizeOf239,
 v51:=Tryz.zeroValue239,
 t53:=Tryz.underlying241,
 a53:=Tryz.isAgg241,
 z53:=Tryz.sizeOf241,
 v53:=Tryz.zeroValue241,
 t171:=Tryz.underlying289,
 a171:=Tryz.isAgg289,
 z171:=Tryz.sizeOf289,
 v171:=Tryz.zeroValue289,
 t173:=Tryz.underlying291,
 a173:=Tryz.isAgg291,
 z173:=Tryz.sizeOf291,
 v173:=Tryz.zeroValue291,
 t212:=Tryz.underlying305,
 a212:=Tryz.isAgg305,
 z212:=Tryz.sizeOf305,
 v212:=Tryz.zeroValue305,
 t213:=Tryz.underlying306,
 a213:=Tryz.isAgg306,
 z213:=Tryz.sizeOf306,
 t232:=Tryz.underlying313,
 a232:=Tryz.isAgg313,
 z232:=Tryz.sizeOf313,
 v232:=Tryz.zeroValue313,
 t233:=Tryz.underlying314,
 a233:=Tryz.isAgg314,
 z233:=Tryz.sizeOf314,
 v233:=Tryz.zeroValue314,
 g17:=by kernel_rfl,
 g18:=by kernel_rfl,
 g19:=by kernel_rfl,
 i0:=by kernel_rfl,
 i2:=by kernel_rfl,
 i3:=by kernel_rfl,
 i4:=by kernel_rfl,
 i5:=by kernel_rfl,
 i9:=by kernel_rfl,
 i20:=by kernel_rfl,
 i37:=by kernel_rfl,
 i46:=by kernel_rfl,
 i51:=by kernel_rfl,
 i53:=by kernel_rfl,
 i171:=by kernel_rfl,
 i173:=by kernel_rfl,
 i212:=by kernel_rfl,
 i232:=by kernel_rfl,
 i233:=by kernel_rfl,
 m17:=by kernel_rfl,
 m18:=by kernel_rfl,
 m19:=by kernel_rfl }
end Go.Proofs.YtepbennkcbmgoaaGreatDoor
set_option maxRecDepth 100000
set_option linter.unusedSimpArgs false
set_option linter.unusedVariables false
set_option linter.unusedSectionVars false
namespace Go.Proofs.YtepbennkcbmgoaaGreatDoor
open Go.RowKit
def F5 (n:Int):ByteArray:=⟨(Lib.itoa n).toArray⟩
noncomputable def Vj:List SV→Option SV
 | [.int .i64 n]=>bif dec (0≤n∧n≤1099511627776) then some (.str (F5 n)) else none
 | _=>none
theorem Gk {n:Int} (h0:0≤n) (h1:n≤1099511627776):(F5 n).size≤20:=by
 obtain ⟨u,rfl⟩:∃ u:Nat,n=u:=⟨n.toNat,by omega⟩
 show (Lib.itoa u).toArray.size≤20
 rw [Lib.itoa_nonneg,y2,Lib.decDigits_length]
 rcases yC u with rfl | hu
 ·rw [Lib.nDigits_small (by omega)]; omega
 ·have:=Lib.numDigits_eq u hu (by omega)
  split at this <;> omega
theorem Qak {xs:List SV} {r:SV} (h:Vj xs=some r):Fun Tryz.prog 189 xs [] r []:=by
 unfold Vj at h
 split at h
 ·rename_i n
  obtain ⟨h1,h2⟩:=Aq h
  obtain ⟨k1,k2⟩:=Ar.1 h1
  obtain rfl:=zE h2
  intro w I V B vs hwf hvs
  obtain ⟨v,q,rfl,hv,hvs⟩:=AP hvs
  obtain rfl:=Hh hvs
  obtain rfl:=QaY hv
  have hcon:=Any.strconv_Itoa QeI n (by omega) (by omega) w hwf.gl.2.2
  change Calls Tryz.prog 189 _ _ _ at hcon
  refine hcon.mono ?_
  rintro e w' ⟨rfl,k,os,rfl⟩
  have hsz:w.heap.size≤(Sort.grow (w.drewN k) os).heap.size:=by simp [Sort.grow,World.drewN]
  have hbl:∀ x,x<w.heap.size→(Sort.grow (w.drewN k) os).heap[x]?=w.heap[x]?:=fun x hx=>by
   simp only [Sort.grow,World.drewN]
   rw [Array.getElem?_append_left hx]
  have hno:∀ g,¬ (Ap ([]:List Ob) g).live:=fun g h=>by
   have e:Ap ([]:List Ob) g=.free:=rfl
   rw [e] at h
   exact h
  refine ⟨_,I,V,B,rfl,?_,⟨⟨rfl,⟨rfl,fun h=>False.elim h⟩,rfl,hsz,fun x hx _=>hbl x hx⟩,fun _ h=>h,fun _ h=>.inl h,VLe.refl _,⟨fun x hx=>zT (hwf.ilt x hx) hsz,fun g hl=>(hno g hl).elim,fun g x hl=>(hno g hl).elim,fun g x hl=>(hno g hl).elim,fun g g' x hl=>(hno g hl).elim,fun g hg=>hwf.fr g rfl,hwf.gl.keep ⟨hsz,fun x _ hx=>hbl x hx⟩ fun _ h=>h⟩,fun g x hl=>(hno g hl).elim⟩⟩
  have:=Gk k1 k2
  simp only [RepV]
  exact ⟨rfl,by omega⟩
 ·cases h
def Qbe:List (Nat × FM)→Nat→FM
 | [],_=>⟨[],.asis,none,false⟩
 | (f,m) :: r,g=>bif f == g then m else Qbe r g
theorem Qcf {l:List (Nat × FM)} {f:Nat} {g:List SV→List Ob→Option (SV × List Ob)} (h:(Qbe l f).ext=some g):∃ m,(f,m)∈l∧m.ext=some g:=by
 induction l with
 | nil=>cases h
 | cons x r ih =>
  obtain ⟨f',m⟩:=x
  simp only [Qbe] at h
  cases e:f' == f with
  | true =>
   rw [e] at h
   obtain rfl:f'=f:=by simpa using e
   exact ⟨m,by simp,h⟩
  | false =>
   rw [e] at h
   obtain ⟨m',h1,h2⟩:=ih h
   exact ⟨m',by simp [h1],h2⟩
noncomputable def Vk:List SV→Option SV
 | [.int .i64 k]=>bif dec (1≤k)&&dec (k≤1099511627776) then some (.str (Ir k)) else none
 | _=>none
theorem Qal {xs:List SV} {r:SV} (h:Vk xs=some r):Fun Tryz.prog 63 xs [] r []:=by
 unfold Vk at h
 split at h
 ·rename_i k
  obtain ⟨h1,h2⟩:=Aq h
  rw [zB,Ar,Ar] at h1
  obtain rfl:=zE h2
  obtain ⟨n,rfl⟩:∃ n:Nat,k=n:=⟨k.toNat,by omega⟩
  refine Fun.ZX (rv:=.string (Ir n)) (fun w I V=>by simp only [RepV,true_and]; exact ZY (by omega) (by omega)) fun w I V vs h=>?_
  obtain ⟨v,r,rfl,h3,h⟩:=AP h
  obtain rfl:=Hh h
  obtain rfl:=QaY h3
  exact Wp n w (by omega) (by omega)
 ·cases h
def Qds:List SV→Option SV
 | [.str s]=>some (.bool (Ao s))
 | _=>none
theorem Qcg {xs:List SV} {r:SV} (h:Qds xs=some r):Fun Tryz.prog 177 xs [] r []:=by
 unfold Qds at h
 split at h
 ·rename_i s
  obtain rfl:=zE h
  refine Fun.of_same (rv:=.bool (Ao s)) (fun w I V=>by simp only [RepV]) fun w I V vs h=>?_
  obtain ⟨v,r,rfl,h3,h⟩:=AP h
  obtain rfl:=Hh h
  obtain ⟨rfl,h4⟩:=Rp h3
  exact S3 s w h4
 ·cases h
def Qdt:List SV→Option SV
 | [.str s]=>some (.bool (Ao s))
 | _=>none
theorem Qch {xs:List SV} {r:SV} (h:Qdt xs=some r):Fun Tryz.prog 191 xs [] r []:=by
 unfold Qdt at h
 split at h
 ·rename_i s
  obtain rfl:=zE h
  refine Fun.of_same (rv:=.bool (Ao s)) (fun w I V=>by simp only [RepV]) fun w I V vs h=>?_
  obtain ⟨v,r,rfl,h3,h⟩:=AP h
  obtain rfl:=Hh h
  obtain ⟨rfl,h4⟩:=Rp h3
  exact Qcb s w h4
 ·cases h
def Qdu:List SV→Option SV
 | [.str s]=>some (.bool (Fy s))
 | _=>none
theorem Qci {xs:List SV} {r:SV} (h:Qdu xs=some r):Fun Tryz.prog 184 xs [] r []:=by
 unfold Qdu at h
 split at h
 ·rename_i s
  obtain rfl:=zE h
  refine Fun.ZX (rv:=.bool (Fy s)) (fun w I V=>by simp only [RepV]) fun w I V vs h=>?_
  obtain ⟨v,r,rfl,h3,h⟩:=AP h
  obtain rfl:=Hh h
  obtain ⟨rfl,h4⟩:=Rp h3
  exact Ws s w h4
 ·cases h
def Qdv:List SV→Option SV
 | [.str s]=>some (.bool (Fy s))
 | _=>none
theorem Qcj {xs:List SV} {r:SV} (h:Qdv xs=some r):Fun Tryz.prog 265 xs [] r []:=by
 unfold Qdv at h
 split at h
 ·rename_i s
  obtain rfl:=zE h
  refine Fun.of_same (rv:=.bool (Fy s)) (fun w I V=>by simp only [RepV]) fun w I V vs h=>?_
  obtain ⟨v,r,rfl,h3,h⟩:=AP h
  obtain rfl:=Hh h
  obtain ⟨rfl,h4⟩:=Rp h3
  exact Wt s w h4
 ·cases h
noncomputable def modes:FuncId→FM:=Qbe [(63,⟨[],.asis,some (M6 Vk),false⟩),(177,⟨[],.asis,some (M6 Qds),false⟩),(191,⟨[],.asis,some (M6 Qdt),false⟩),(184,⟨[],.asis,some (M6 Qdu),false⟩),(265,⟨[],.asis,some (M6 Qdv),false⟩),(238,⟨[true],.asis,some PA,false⟩),(281,⟨[true],.asis,some DJ,false⟩),(189,⟨[],.asis,some (M6 Vj),false⟩),(287,⟨[true],.asis,some Is,false⟩),(288,⟨[true],.asis,some Ex,false⟩),(215,⟨[],.asis,some P9,false⟩),(213,⟨[true],.asis,some Q9,false⟩),(214,⟨[true],.asis,some Mk,false⟩),(72,⟨[true],.asis,none,true⟩),(83,⟨[true],.asis,none,true⟩),(32,⟨[true],.asis,none,true⟩),(31,⟨[true],.asis,none,false⟩),(260,⟨[],.own [some (33,2)],none,false⟩),(276,⟨[],.own [none,some (33,2)],none,false⟩),(207,⟨[],.late,none,false⟩),(211,⟨[],.own [some (227,3),none],none,false⟩),(135,⟨[],.frz,none,false⟩),(173,⟨[],.frz,none,false⟩),(269,⟨[],.frz,none,false⟩),(280,⟨[],.frz,none,false⟩),(174,⟨[],.frz,none,false⟩),(328,⟨[],.frz,none,false⟩),(312,⟨[],.frz,none,false⟩),(237,⟨[],.frz,none,false⟩),(193,⟨[true],.asis,none,false⟩),(151,⟨[],.own [some (227,3),none],none,false⟩),(210,⟨[],.frz,none,false⟩),(270,⟨[],.frz,none,false⟩),(199,⟨[],.frz,none,false⟩),(226,⟨[],.frz,none,false⟩),(275,⟨[],.own [none,some (33,2)],none,false⟩),(286,⟨[],.frz,none,false⟩),(159,⟨[],.own [none,none,some (33,2)],none,false⟩),(222,⟨[],.own [some (122,3)],none,false⟩),(93,⟨[],.own [some (122,3)],none,false⟩),(163,⟨[],.own [some (122,3)],none,false⟩),(206,⟨[],.own [some (122,3)],none,false⟩),(150,⟨[],.frz,none,false⟩),(284,⟨[true],.own [some (122,3),none],none,false⟩),(212,⟨[],.own [some (122,3),none],none,false⟩),(218,⟨[],.frl [10],none,false⟩),(271,⟨[],.frz,none,false⟩),(86,⟨[],.frz,none,false⟩),(221,⟨[],.frz,none,false⟩),(161,⟨[],.frz,none,false⟩),(197,⟨[],.frz,none,false⟩),(153,⟨[],.own [some (122,3)],none,false⟩),(154,⟨[],.own [some (122,3)],none,false⟩),(152,⟨[],.own [some (122,3),none],none,false⟩),(80,⟨[],.own [some (122,3),none],none,false⟩),(95,⟨[],.own [some (122,3),none],none,false⟩),(37,⟨[],.own [some (122,3),none],none,false⟩),(268,⟨[false,true],.asis,none,false⟩),(200,⟨[],.frz,none,false⟩),(145,⟨[],.frz,none,false⟩),(87,⟨[],.frz,none,false⟩),(35,⟨[],.frz,none,false⟩),(295,⟨[true],.asis,none,false⟩)]
theorem noExt {l:List (Nat × FM)} (h:(l.all fun p=>p.2.ext.isNone)=true) {f:Nat} {m:FM} {g:List SV→List Ob→Option (SV × List Ob)} (h1:(f,m)∈l) (h2:m.ext=some g):False:=by
 have h3:=List.all_eq_true.1 h _ h1
 rw [h2] at h3
 cases h3
theorem Nv:NU Tryz.prog modes:=by
 intro f g xs ob r ob' hg hx
 obtain ⟨m,h1,h2⟩:=Qcf hg
 rcases zJ.1 h1 with h1 | h1
 ·obtain ⟨rfl,rfl⟩:=zW h1
  obtain rfl:=zE h2
  exact Hv Qal hx
 rcases zJ.1 h1 with h1 | h1
 ·obtain ⟨rfl,rfl⟩:=zW h1
  obtain rfl:=zE h2
  exact Hv Qcg hx
 rcases zJ.1 h1 with h1 | h1
 ·obtain ⟨rfl,rfl⟩:=zW h1
  obtain rfl:=zE h2
  exact Hv Qch hx
 rcases zJ.1 h1 with h1 | h1
 ·obtain ⟨rfl,rfl⟩:=zW h1
  obtain rfl:=zE h2
  exact Hv Qci hx
 rcases zJ.1 h1 with h1 | h1
 ·obtain ⟨rfl,rfl⟩:=zW h1
  obtain rfl:=zE h2
  exact Hv Qcj hx
 rcases zJ.1 h1 with h1 | h1
 ·obtain ⟨rfl,rfl⟩:=zW h1
  obtain rfl:=zE h2
  exact Yq hx
 rcases zJ.1 h1 with h1 | h1
 ·obtain ⟨rfl,rfl⟩:=zW h1
  obtain rfl:=zE h2
  exact P4 hx
 rcases zJ.1 h1 with h1 | h1
 ·obtain ⟨rfl,rfl⟩:=zW h1
  obtain rfl:=zE h2
  exact Hv Qak hx
 rcases zJ.1 h1 with h1 | h1
 ·obtain ⟨rfl,rfl⟩:=zW h1
  obtain rfl:=zE h2
  exact Wv hx
 rcases zJ.1 h1 with h1 | h1
 ·obtain ⟨rfl,rfl⟩:=zW h1
  obtain rfl:=zE h2
  exact QW hx
 rcases zJ.1 h1 with h1 | h1
 ·obtain ⟨rfl,rfl⟩:=zW h1
  obtain rfl:=zE h2
  exact Yn hx
 rcases zJ.1 h1 with h1 | h1
 ·obtain ⟨rfl,rfl⟩:=zW h1
  obtain rfl:=zE h2
  exact Qaj hx
 rcases zJ.1 h1 with h1 | h1
 ·obtain ⟨rfl,rfl⟩:=zW h1
  obtain rfl:=zE h2
  exact Wy hx
 exact (noExt rfl h1 h2).elim
noncomputable def E:FEnv:=ev Tryz.prog modes
noncomputable def calls:CallF:=Dv modes E
theorem E_told {f:FuncId} {xs:List SV} {ob:List Ob} {r:SV} {ob':List Ob} (h:E f xs ob=some (r,ob')):Fun Tryz.prog f xs ob r ob':=QaX Qdb Nv f xs ob r ob' h
noncomputable def run (n0:Nat):SC→St→Option (X × St):=fr Tryz.prog calls (JR n0)
def go (n0:Nat) (sc:SC) (st:St) (K:X→St→Prop):Prop:=∃ x st',run n0 sc st=some (x,st')∧K x st'
def SH (n0:Nat) (b:SC) (K:X→St→Prop):X→St→Prop
 | .normal,st=>go n0 b st K
 | .exit i,st=>K (.exit i) st
 | .ret,st=>K .ret st
def blk (id:Nat) (K:X→St→Prop):X→St→Prop
 | .normal,st=>K .normal st
 | .exit i,st=>if i=id then K .normal st else K (.exit i) st
 | .ret,st=>K .ret st
def SI (r:Option St) (k:X→St→Prop):Prop :=
 match r with
 | some st=>k .normal st
 | none=>False
def SJ (anc:List (List Nat)) (r:Option (List Ent × St)) (k:X→St→Prop):Prop :=
 match r with
 | some (es,st)=>obB anc [] (GP es) 0=true∧k .normal st
 | none=>False
def It (v:SV) (a b:Unit→Prop):Prop :=
 match v with
 | .bool true=>a ()
 | .bool false=>b ()
 | _=>False
noncomputable def Nw (ops:List SOper) (st:St):Option St:=QU Tryz.prog calls ops st
noncomputable def Nx (ops:List SOper) (acc:List Ent) (st:St):Option (List Ent × St):=IR Tryz.prog calls ops acc st
section
variable {n0:Nat} {st:St} {K:X→St→Prop}
theorem go_skip:go n0 .skip st K=K .normal st:=by
 refine propext ⟨fun ⟨x,st',h,k⟩=>?_,fun k=>⟨_,_,rfl,k⟩⟩
 obtain ⟨rfl,rfl⟩:X.normal=x∧st=st':=by simpa [run,fr] using h
 exact k
theorem Rs {i:Nat}:go n0 (.exit i) st K=K (.exit i) st:=by
 refine propext ⟨fun ⟨x,st',h,k⟩=>?_,fun k=>⟨_,_,rfl,k⟩⟩
 obtain ⟨rfl,rfl⟩:X.exit i=x∧st=st':=by simpa [run,fr] using h
 exact k
theorem go_ret:go n0 .ret st K=K .ret st:=by
 refine propext ⟨fun ⟨x,st',h,k⟩=>?_,fun k=>⟨_,_,rfl,k⟩⟩
 obtain ⟨rfl,rfl⟩:X.ret=x∧st=st':=by simpa [run,fr] using h
 exact k
theorem Wz {ops:List SOper}:go n0 (.reg ops) st K=SI (Nw ops st) K:=by
 unfold SI Nw
 refine propext ⟨fun ⟨x,st',h,k⟩=>?_,fun k=>?_⟩
 ·simp only [run,fr] at h
  split at h
  ·rename_i s hs
   simp only [zF,zL] at h
   obtain ⟨rfl,rfl⟩:=h
   first | exact k | (simp only [hs]; exact k)
  ·cases h
 ·split at k
  ·rename_i s hs
   exact ⟨.normal,s,by simp only [run,fr,hs],k⟩
  ·exact k.elim
theorem Rt {anc:List (List Nat)} {ops:List SOper}:go n0 (.dreg anc ops) st K=SJ anc (Nx ops [] st) K:=by
 unfold SJ Nx
 refine propext ⟨fun ⟨x,st',h,k⟩=>?_,fun k=>?_⟩
 ·simp only [run,fr] at h
  split at h
  ·rename_i es s hs
   obtain ⟨h1,h2⟩:=Aq h
   simp only [zF,zL] at h2
   obtain ⟨rfl,rfl⟩:=h2
   first | exact ⟨h1,k⟩ | (simp only [hs]; exact ⟨h1,k⟩)
  ·cases h
 ·split at k
  ·rename_i es s hs
   exact ⟨.normal,s,by simp only [run,fr,hs,k.1,cond_true],k.2⟩
  ·exact k.elim
theorem W2 {a b:SC}:go n0 (.seq a b) st K=go n0 a st (SH n0 b K):=by
 refine propext ⟨fun ⟨x,st',h,k⟩=>?_,fun ⟨x,st',h,k⟩=>?_⟩
 ·simp only [run,fr,CK] at h
  split at h
  ·rename_i s hs
   exact ⟨.normal,s,hs,x,st',h,k⟩
  ·rename_i i s hs
   simp only [zF,zL] at h
   obtain ⟨rfl,rfl⟩:=h
   exact ⟨_,_,hs,k⟩
  ·rename_i s hs
   simp only [zF,zL] at h
   obtain ⟨rfl,rfl⟩:=h
   exact ⟨_,_,hs,k⟩
  ·cases h
 ·simp only [run] at h
  cases x with
  | normal =>
   obtain ⟨x2,st2,h2,k2⟩:=k
   exact ⟨x2,st2,by simp only [run,fr,CK,h]; exact h2,k2⟩
  | exit i=>exact ⟨_,st',by simp only [run,fr,CK,h],k⟩
  | ret=>exact ⟨_,st',by simp only [run,fr,CK,h],k⟩
theorem Of {id:Nat} {b:SC}:go n0 (.block id b) st K=go n0 b st (blk id K):=by
 refine propext ⟨fun ⟨x,st',h,k⟩=>?_,fun ⟨x,st',h,k⟩=>?_⟩
 ·simp only [run,fr,F3] at h
  split at h
  ·rename_i s hs
   simp only [zF,zL] at h
   obtain ⟨rfl,rfl⟩:=h
   exact ⟨.normal,s,hs,k⟩
  ·rename_i i s hs
   refine ⟨.exit i,s,hs,?_⟩
   simp only [blk]
   by_cases hi:i=id
   ·simp only [if_pos hi,zF,zL] at h ⊢
    obtain ⟨rfl,rfl⟩:=h
    exact k
   ·simp only [if_neg hi,zF,zL] at h ⊢
    obtain ⟨rfl,rfl⟩:=h
    exact k
  ·rename_i s hs
   simp only [zF,zL] at h
   obtain ⟨rfl,rfl⟩:=h
   exact ⟨_,s,hs,k⟩
  ·cases h
 ·simp only [run] at h
  cases x with
  | normal=>exact ⟨_,st',by simp only [run,fr,F3,h],k⟩
  | exit i =>
   simp only [blk] at k
   by_cases hi:i=id
   ·simp only [if_pos hi] at k
    exact ⟨.normal,st',by simp only [run,fr,F3,h,if_pos hi],k⟩
   ·simp only [if_neg hi] at k
    exact ⟨.exit i,st',by simp only [run,fr,F3,h,if_neg hi],k⟩
  | ret=>exact ⟨_,st',by simp only [run,fr,F3,h],k⟩
theorem Aa {q:SX} {a b:SC}:go n0 (.cond q a b) st K=It (A3 (gets st.sl) q) (fun _=>go n0 a st K) (fun _=>go n0 b st K):=by
 unfold It
 refine propext ⟨fun ⟨x,st',h,k⟩=>?_,fun k=>?_⟩
 ·simp only [run,fr] at h
  split at h
  ·rename_i t ht
   simp only [ht]
   cases t with
   | true=>exact ⟨x,st',h,k⟩
   | false=>exact ⟨x,st',h,k⟩
  ·cases h
 ·split at k
  ·rename_i ht
   obtain ⟨x,st',h,k⟩:=k
   exact ⟨x,st',by simp only [run,fr,ht,cond_true]; exact h,k⟩
  ·rename_i ht
   obtain ⟨x,st',h,k⟩:=k
   exact ⟨x,st',by simp only [run,fr,ht,cond_false]; exact h,k⟩
  ·exact k.elim
theorem Ru {a b:Unit→Prop}:It (.bool true) a b=a ():=rfl
theorem Rv {a b:Unit→Prop}:It (.bool false) a b=b ():=rfl
theorem Rw {t:Bool} {a b:Unit→Prop}:It (.bool (!t)) a b=It (.bool t) b a:=by cases t <;> rfl
theorem Qdw {q:SX} {a b:SC} (h:A3 (gets st.sl) q=.bool true) (k:go n0 a st K):go n0 (.cond q a b) st K:=by rw [Aa,h]; exact k
theorem Qdx {q:SX} {a b:SC} (h:A3 (gets st.sl) q=.bool false) (k:go n0 b st K):go n0 (.cond q a b) st K:=by rw [Aa,h]; exact k
theorem CL {t:Bool} {a b:Unit→Prop} (h1:t=true→a ()) (h2:t=false→b ()):It (.bool t) a b:=by
 cases t with
 | true=>exact h1 rfl
 | false=>exact h2 rfl
theorem W3 {b:SC}:SH n0 b K .normal st=go n0 b st K:=rfl
theorem W4 {b:SC} {i:Nat}:SH n0 b K (.exit i) st=K (.exit i) st:=rfl
theorem W5 {b:SC}:SH n0 b K .ret st=K .ret st:=rfl
theorem Qbf {id:Nat}:blk id K .normal st=K .normal st:=rfl
theorem Qbg {id i:Nat}:blk id K (.exit i) st=if i=id then K .normal st else K (.exit i) st:=rfl
theorem Qbh {id:Nat}:blk id K .ret st=K .ret st:=rfl
theorem Rx:SI (some st) K=K .normal st:=rfl
def quiet:List Ent→Bool
 | []=>true
 | ⟨_,_,[],_⟩ :: r=>quiet r
 | ⟨_,_,_ :: _,_⟩ :: _=>false
theorem HL {anc:List (List Nat)} {rd:List Nat} {j:Nat}:∀ {l:List Ent} {i:Nat},quiet l=true→RH anc rd [] j (GP l) i=true
 | [],i,_=>rfl
 | ⟨_,_,[],rdi⟩ :: r,i,h=>by
  have:=HL (anc:=anc) (rd:=rd) (j:=j) (l:=r) (i:=i+1) h
  simp only [GP,zC,List.map_nil] at this ⊢
  simp only [RH,this,zN]
  have e1:meets [] (rd++[])=false:=rfl
  have e2:meets rdi []=false:=by cases rdi <;> simp [meets]
  rw [e1,e2]; rfl
theorem PB {l l':List Ent} (h:quiet l=true) (h':quiet l'=true):quiet (l++l')=true:=by
 induction l with
 | nil=>exact h'
 | cons x r ih =>
  obtain ⟨a,b,c,d⟩:=x
  cases c with
  | nil=>exact ih h
  | cons _ _=>cases h
theorem Jq {anc:List (List Nat)}:∀ {l pre:List Ent} {j:Nat},quiet pre=true→quiet l=true→obB anc (GP pre) (GP l) j=true
 | [],pre,j,_,_=>rfl
 | ⟨a,b,[],rd⟩ :: r,pre,j,hp,h=>by
  have e:=Jq (anc:=anc) (l:=r) (pre:=pre++[⟨a,b,[],rd⟩]) (j:=j+1) (PB hp rfl) h
  have e2:=HL (anc:=anc) (rd:=rd) (j:=j) (i:=0) hp
  simp only [GP,y5,zC,List.map_nil] at e e2 ⊢
  simp only [obB,e2,e,zD]
theorem Ry {anc:List (List Nat)} {es:List Ent}:SJ anc (some (es,st)) K=match quiet es with
  | true=>K .normal st
  | false=>obB anc [] (GP es) 0=true∧K .normal st:=by
 show (obB anc [] (GP es) 0=true∧K .normal st)=_
 cases h:quiet es with
 | true=>exact propext ⟨fun h=>h.2,fun h'=>⟨Jq (pre:=[]) rfl h,h'⟩⟩
 | false=>rfl
noncomputable def Qam (r:List SOper) (e:Option (Ent × St)):Option St :=
 match e with
 | some (_,st)=>Nw r st
 | none=>none
noncomputable def Qan (r:List SOper) (acc:List Ent) (e:Option (Ent × St)):Option (List Ent × St) :=
 match e with
 | some (x,st)=>Nx r (acc++[x]) st
 | none=>none
noncomputable def opF (so:SOp) (sl:List SV) (ob:List Ob):Option R3:=fOp Tryz.prog calls so sl ob
theorem Og:Nw [] st=some st:=rfl
theorem Ml {d:Option Tmp} {so:SOp} {r:List SOper} {sl:List SV} {ob:List Ob}:Nw (⟨d,none,so⟩ :: r) ⟨sl,ob⟩=Qam r (H4 d ⟨sl,ob⟩ (opF so sl ob)):=rfl
noncomputable def gdF (d:Option Tmp) (so:SOp) (want:Bool) (sl:List SV) (ob:List Ob) (v:SV):Option (Ent × St) :=
 match v with
 | .bool b=>bif TX b want then H4 d ⟨sl,ob⟩ (opF so sl ob) else some (⟨false,.tup [],[],[]⟩,⟨EU sl d (.tup []),ob⟩)
 | .tup []=>some (⟨false,.tup [],[],[]⟩,⟨EU sl d (.tup []),ob⟩)
 | _=>none
theorem Rz {d:Option Tmp} {k:Nat} {want:Bool} {so:SOp} {r:List SOper} {sl:List SV} {ob:List Ob}:Nw (⟨d,some (k,want),so⟩ :: r) ⟨sl,ob⟩=Qam r (gdF d so want sl ob (gets sl k)):=rfl
theorem Oh {acc:List Ent}:Nx [] acc st=some (acc,st):=rfl
theorem Mm {d:Option Tmp} {so:SOp} {r:List SOper} {acc:List Ent} {sl:List SV} {ob:List Ob}:Nx (⟨d,none,so⟩ :: r) acc ⟨sl,ob⟩=Qan r acc (H4 d ⟨sl,ob⟩ (opF so sl ob)):=rfl
theorem R0 {d:Option Tmp} {k:Nat} {want:Bool} {so:SOp} {r:List SOper} {acc:List Ent} {sl:List SV} {ob:List Ob}:Nx (⟨d,some (k,want),so⟩ :: r) acc ⟨sl,ob⟩=Qan r acc (gdF d so want sl ob (gets sl k)):=rfl
theorem W6 {r:List SOper} {e:Ent}:Qam r (some (e,st))=Nw r st:=rfl
theorem W7 {r:List SOper} {acc:List Ent} {e:Ent}:Qan r acc (some (e,st))=Nx r (acc++[e]) st:=rfl
theorem Qbi {d:Option Tmp} {so:SOp} {sl:List SV} {ob:List Ob}:gdF d so true sl ob (.bool true)=H4 d ⟨sl,ob⟩ (opF so sl ob):=rfl
theorem W8 {d:Option Tmp} {so:SOp} {sl:List SV} {ob:List Ob}:gdF d so false sl ob (.bool false)=H4 d ⟨sl,ob⟩ (opF so sl ob):=rfl
theorem W9 {d:Option Tmp} {so:SOp} {sl:List SV} {ob:List Ob}:gdF d so true sl ob (.bool false)=some (⟨false,.tup [],[],[]⟩,⟨EU sl d (.tup []),ob⟩):=rfl
theorem WA {d:Option Tmp} {so:SOp} {sl:List SV} {ob:List Ob}:gdF d so false sl ob (.bool true)=some (⟨false,.tup [],[],[]⟩,⟨EU sl d (.tup []),ob⟩):=rfl
theorem Qbj {d:Option Tmp} {so:SOp} {want:Bool} {sl:List SV} {ob:List Ob}:gdF d so want sl ob (.tup [])=some (⟨false,.tup [],[],[]⟩,⟨EU sl d (.tup []),ob⟩):=rfl
theorem WB {d:Option Tmp} {x:SV} {rd:List Nat}:H4 d st (some (x,[],rd))=some (⟨true,x,[],rd⟩,⟨EU st.sl d x,st.ob⟩):=rfl
theorem WC {d:Option Tmp} {x:SV} {q:Nat × Ob} {u:List (Nat × Ob)} {rd:List Nat}:H4 d st (some (x,q :: u,rd))=bif VZ (D5 st.ob (q :: u)).length (q :: u) then some (⟨true,x,q :: u,rd⟩,⟨EU st.sl d x,D5 st.ob (q :: u)⟩) else none:=rfl
def Lm (ob:List Ob) (xs:List SV) (sel:List Nat) (r:Option (SV × List Ob)) (n:Nat):Option R3 :=
 match r with
 | some (r,fob')=>bif decide (n≤fob'.length) then some (Ep sel (Bh sel xs) ob.length r fob') else none
 | none=>none
def Qao (hd:List Bool) (f:FuncId) (xs:List SV) (ob:List Ob) (sel:List Nat) (e:List SV→List Ob→Option (SV × List Ob)) (b:Option (List Ob)):Option R3 :=
 match b with
 | some fob=>bif nodupB sel&&H5 ob.length sel&&F1 fob.length fob then Lm ob xs sel (e (Fz hd (Ap ob) sel xs) fob) fob.length else none
 | none=>none
def SK (hd:List Bool) (f:FuncId) (xs:List SV) (ob:List Ob) (sel:List Nat) (e:List SV→List Ob→Option (SV × List Ob)):Option R3:=Qao hd f xs ob sel e (EC sel ob sel)
theorem Oi {f:FuncId} {xs:List SV} {ob:List Ob}:calls f xs ob=EW (modes f).res (SK (modes f).hand f xs ob (reach ob 64 (F0 (modes f).hand xs) []) (E f)):=rfl
theorem WD {r:Option R3}:EW .asis r=r:=rfl
theorem WE {r:Option R3}:EW .frz r=r:=rfl
theorem WF {l:List (Option (Nat × Nat))} {r:Option R3}:EW (.own l) r=r:=rfl
theorem WG {l:List (Option (Nat × Nat))} {r:Option R3}:EW (.tr l) r=r:=rfl
theorem WH {l:List Nat} {r:Option R3}:EW (.frl l) r=r:=rfl
theorem WI {r:R3}:EW .late (some r)=Qy r:=rfl
theorem Fu:∀ u:List (Nat × Ob),Dc [] u=u
 | []=>rfl
 | (g,o) :: u=>by rw [Dc,Fu u]; rfl
theorem WJ {m:RM} {b:Bool} {u:List (Nat × Ob)} {rd:List Nat}:EW m (some (.bool b,u,rd))=some (.bool b,u,rd):=by
 cases m <;> first | rfl | (show some (SV.bool b,Dc [] u,rd)=_; rw [Fu])
theorem WK {m:RM} {k:IntKind} {n:Int} {u:List (Nat × Ob)} {rd:List Nat}:EW m (some (.int k n,u,rd))=some (.int k n,u,rd):=by
 cases m <;> first | rfl | (show some (SV.int k n,Dc [] u,rd)=_; rw [Fu])
theorem Mn {hd:List Bool} {f:FuncId} {xs:List SV} {ob:List Ob} {e:List SV→List Ob→Option (SV × List Ob)}:SK hd f xs ob [] e=Lm ob xs [] (e (Fz hd (Ap ob) [] xs) []) 0:=rfl
theorem JW {hd:List Bool} {f:FuncId} {xs:List SV} {ob:List Ob} {g:Nat} {r:List Nat} {e:List SV→List Ob→Option (SV × List Ob)}:SK hd f xs ob (g :: r) e=Qao hd f xs ob (g :: r) e (EC (g :: r) ob (g :: r)):=rfl
theorem R1 {ob:List Ob} {xs:List SV} {r:SV} {fob':List Ob}:Lm ob xs [] (some (r,fob')) 0=some (Ep [] (Bh [] xs) ob.length r fob'):=rfl
theorem R2 {ob:List Ob} {xs:List SV} {sel:List Nat} {r:SV} {fob':List Ob} {n:Nat}:Lm ob xs sel (some (r,fob')) n=bif decide (n≤fob'.length) then some (Ep sel (Bh sel xs) ob.length r fob') else none:=rfl
theorem WL {hd:List Bool} {f:FuncId} {xs:List SV} {ob:List Ob} {sel:List Nat} {fob:List Ob} {e:List SV→List Ob→Option (SV × List Ob)}:Qao hd f xs ob sel e (some fob)=bif nodupB sel&&H5 ob.length sel&&F1 fob.length fob then Lm ob xs sel (e (Fz hd (Ap ob) sel xs) fob) fob.length else none:=rfl
theorem Mo {p:Nat} {r:SV}:Ep [] [] p r []=(r.ren (sgp [] p),[],[]):=rfl
def Ey {α:Type} (n0:Nat) (keep:List Nat) (H:α→St) (R:α→Prop) (μ:α→Nat) (a:α) (K:X→St→Prop):X→St→Prop
 | .normal,st'=>∃ y,R y∧μ y < μ a∧canon n0 keep st'=H y
 | .exit i,st'=>K (.exit i) st'
 | .ret,st'=>K .ret st'
theorem Oj {α:Type} {keep:List Nat} {H:α→St} {R:α→Prop} {μ:α→Nat} {a:α} {st':St}:Ey n0 keep H R μ a K .normal st'=∃ y,R y∧μ y < μ a∧canon n0 keep st'=H y:=rfl
theorem Ok {α:Type} {keep:List Nat} {H:α→St} {R:α→Prop} {μ:α→Nat} {a:α} {i:Nat} {st':St}:Ey n0 keep H R μ a K (.exit i) st'=K (.exit i) st':=rfl
theorem Ol {α:Type} {keep:List Nat} {H:α→St} {R:α→Prop} {μ:α→Nat} {a:α} {st':St}:Ey n0 keep H R μ a K .ret st'=K .ret st':=rfl
theorem go_loop {α:Type} {keep:List Nat} {b:SC} (H:α→St) (R:α→Prop) (μ:α→Nat) (a0:α) (hR:R a0) (h0:canon n0 keep st=H a0) (round:∀ a,R a→go n0 b (H a) (Ey n0 keep H R μ a K)):go n0 (.loop keep b) st K:=by
 have key:∀ (n:Nat) (a:α) (st:St),μ a≤n→R a→canon n0 keep st=H a→∃ x st',Sx n0 keep (run n0 b) st=some (x,st')∧K x st':=by
  intro n
  induction n with
  | zero =>
   intro a st hn hR hc
   obtain ⟨x,st',h,k⟩:=round a hR
   cases x with
   | normal =>
    obtain ⟨y,_,h2,_⟩:=k
    omega
   | exit i=>exact ⟨_,st',by rw [EX,hc,h]; rfl,k⟩
   | ret=>exact ⟨_,st',by rw [EX,hc,h]; rfl,k⟩
  | succ n ih =>
   intro a st hn hR hc
   obtain ⟨x,st',h,k⟩:=round a hR
   cases x with
   | normal =>
    obtain ⟨y,h1,h2,h3⟩:=k
    obtain ⟨x2,st2,h4,k2⟩:=ih y st' (by omega) h1 h3
    exact ⟨x2,st2,by rw [EX,hc,h]; exact h4,k2⟩
   | exit i=>exact ⟨_,st',by rw [EX,hc,h]; rfl,k⟩
   | ret=>exact ⟨_,st',by rw [EX,hc,h]; rfl,k⟩
 exact key (μ a0) a0 st (zQ _) hR h0
def JX (n0:Nat) (keep keepO:List Nat) (H:EL→St) (F:X × St) (p:EL):X→St→Prop
 | .normal,st'=>canon n0 keep st'=H p
 | .exit i,st'=>F=(.exit i,canon n0 keepO st')
 | .ret,st'=>F=(.ret,canon n0 keepO st')
def Yr (n0:Nat) (keepO:List Nat) (F:X × St):X→St→Prop
 | .normal,_=>False
 | .exit i,st'=>F=(.exit i,canon n0 keepO st')
 | .ret,st'=>F=(.ret,canon n0 keepO st')
theorem Mp {keep keepO:List Nat} {H:EL→St} {F:X × St} {p:EL} {st':St}:JX n0 keep keepO H F p .normal st'=(canon n0 keep st'=H p):=rfl
theorem Mq {keep keepO:List Nat} {H:EL→St} {F:X × St} {p:EL} {i:Nat} {st':St}:JX n0 keep keepO H F p (.exit i) st'=(F=(.exit i,canon n0 keepO st')):=rfl
theorem Mr {keep keepO:List Nat} {H:EL→St} {F:X × St} {p:EL} {st':St}:JX n0 keep keepO H F p .ret st'=(F=(.ret,canon n0 keepO st')):=rfl
theorem R4 {keepO:List Nat} {F:X × St} {i:Nat} {st':St}:Yr n0 keepO F (.exit i) st'=(F=(.exit i,canon n0 keepO st')):=rfl
theorem R5 {keepO:List Nat} {F:X × St} {st':St}:Yr n0 keepO F .ret st'=(F=(.ret,canon n0 keepO st')):=rfl
end
def slots:Nat→Nat→List (Nat × SV)→List SV
 | 0,_,_=>[]
 | n+1,k,[]=>.any :: slots n (k+1) []
 | n+1,k,(j,x) :: r=>bif j == k then x :: slots n (k+1) r else .any :: slots n (k+1) ((j,x) :: r)
def Ug (res:RM) (n0:Nat) (rs:List RX) (out:SV × List Ob) (x:X) (st:St):Prop:=fin res n0 rs x st=some out
def Qap (res:RM) (n0:Nat) (r:Option (SV × List Ob)):Option (SV × List Ob) :=
 match r with
 | some (r,ob)=>order res n0 r ob
 | none=>none
def Om (res:RM) (n0:Nat) (ob:List Ob) (r:Option SV):Option (SV × List Ob) :=
 match r with
 | some r0=>Qap res n0 (gc n0 r0 ob)
 | none=>none
theorem WM {res:RM} {n0:Nat} {rs:List RX} {out:SV × List Ob} {sl:List SV} {ob:List Ob}:Ug res n0 rs out .ret ⟨sl,ob⟩=(Om res n0 ob (NQ ⟨sl,ob⟩ rs)=some out):=rfl
theorem WN {res:RM} {n0:Nat} {rs:List RX} {out:SV × List Ob} {sl:List SV} {ob:List Ob}:Ug res n0 rs out .normal ⟨sl,ob⟩=(Om res n0 ob (NQ ⟨sl,ob⟩ rs)=some out):=rfl
theorem R6 {res:RM} {n0:Nat} {ob:List Ob} {r:SV}:Om res n0 ob (some r)=Qap res n0 (gc n0 r ob):=rfl
theorem WO {n0:Nat} {r:SV} {ob:List Ob} {res:RM}:Qap res n0 (some (r,ob))=order res n0 r ob:=rfl
theorem Ad {f:FuncId} {fc:FC} {hand:List Bool} {res:RM} {tr:Bool} {xs:List SV} {ob:List Ob} {out:SV × List Ob} (hc:codeOf Tryz.prog f=some fc) (hr:modes f=⟨hand,res,none,tr⟩) (hn:xs.length≤fc.nt) (h:go ob.length (Iq res fc.sc) ⟨xs++KW (fc.nt-xs.length),entry tr ob⟩ (Ug res ob.length fc.rs out)):E f xs ob=some out:=by
 obtain ⟨x,st',h1,h2⟩:=h
 unfold E
 rw [Qdl]
 unfold H9
 rw [hc,hr]
 simp only
 rw [decide_eq_true hn,cond_true]
 have h1:fr Tryz.prog (Dv modes (ev Tryz.prog modes)) (JR ob.length) (Iq res fc.sc) ⟨xs++KW (fc.nt-xs.length),entry tr ob⟩=some (x,st'):=h1
 rw [h1]
 exact h2
theorem GT {f:FuncId} {g:List SV→List Ob→Option (SV × List Ob)} {xs:List SV} {ob:List Ob} (hg:(modes f).ext=some g):E f xs ob=g xs ob:=by
 unfold E
 rw [Qdl]
 unfold H9
 rw [hg]
theorem Vl {f:FuncId} {g:List SV→Option SV} {xs:List SV} {r:SV} (hg:(modes f).ext=some (M6 g)) (h:g xs=some r):E f xs []=some (r,[]):=by
 rw [GT hg]
 simp only [M6,h]
theorem DS:modes 63=⟨[],.asis,some (M6 Vk),false⟩:=by unfold modes; rfl
theorem JY {k:Int} (h1:1≤k) (h2:k≤1099511627776):E 63 [.int .i64 k] []=some (.str (Ir k),[]):=by
 refine Vl (g:=Vk) (by unfold modes; rfl) ?_
 simp only [Vk,At h1,At h2,zD,cond_true]
theorem Br:modes 177=⟨[],.asis,some (M6 Qds),false⟩:=by unfold modes; rfl
theorem EE (s:ByteArray):E 177 [.str s] []=some (.bool (Ao s),[]):=Vl (g:=Qds) (congrArg FM.ext Br) rfl
theorem Ah:modes 191=⟨[],.asis,some (M6 Qdt),false⟩:=by unfold modes; rfl
theorem Am (s:ByteArray):E 191 [.str s] []=some (.bool (Ao s),[]):=Vl (g:=Qdt) (congrArg FM.ext Ah) rfl
theorem By:modes 184=⟨[],.asis,some (M6 Qdu),false⟩:=by unfold modes; rfl
theorem SL (s:ByteArray):E 184 [.str s] []=some (.bool (Fy s),[]):=Vl (g:=Qdu) (congrArg FM.ext By) rfl
theorem Bz:modes 265=⟨[],.asis,some (M6 Qdv),false⟩:=by unfold modes; rfl
theorem SM (s:ByteArray):E 265 [.str s] []=some (.bool (Fy s),[]):=Vl (g:=Qdv) (congrArg FM.ext Bz) rfl
theorem WP {n:Int} (h1:-9223372036854775808≤n) (h2:n≤9223372036854775807):dec (inK .i64 n)=true:=At (Qe8.2 ⟨h1,h2⟩)
theorem get_at {α β:Type} (f:α→β) {xs:List α} {k:Nat} (h:k<xs.length):(xs.map f)[k]?=some (f xs[k]):=by rw [List.getElem?_map,zA h]; rfl
theorem Bi (left:Int) (n:Nat):((n:Int)≤left∧szR left n=left-n)∨(left<n∧szR left n=-1):=by
 unfold szR; split <;> omega
mutual
def D.fit:D→Prop
 | .int _=>True
 | .bool _=>True
 | .str s=>s.size≤9223372036854775807
 | .arr es=>es.length≤9223372036854775807∧D.Ys es
def D.fits:List D→Prop
 | []=>True
 | x :: r=>D.fit x∧D.fits r
def D.Ys:List (List D)→Prop
 | []=>True
 | x :: r=>D.fits x∧D.Ys r
end
theorem D.Qbk:∀ {l:List D},(∀ (j:Nat) (h:j<l.length),D.fit l[j])→D.fits l
 | [],_=>trivial
 | x :: r,h=>⟨h 0 (by simp),D.Qbk fun j hj=>h (j+1) (by simpa using hj)⟩
theorem D.Yt:∀ {es:List (List D)},(∀ (i:Nat) (h:i<es.length),D.fits es[i])→D.Ys es
 | [],_=>trivial
 | x :: r,h=>⟨h 0 (by simp),D.Yt fun j hj=>h (j+1) (by simpa using hj)⟩
theorem D.Ms {α:Type} {f:α→List D}:∀ {xs:List α},D.Ys (xs.map f)→∀ x∈xs,D.fits (f x)
 | [],_,x,h=>by cases h
 | y :: r,h,x,hx=>by
  simp only [zC,D.Ys] at h
  rcases zJ.1 hx with rfl | hx
  ·exact h.1
  ·exact D.Ms h.2 x hx
theorem DRep.fit {own:Bool} {w:World} {S:Nat→Prop} {d:D} {v:Value} (h:DRep own w S d v):D.fit d:=by
 induction h with
 | int=>trivial
 | bool=>trivial
 | str S s h=>exact h
 | arr S sz es a cap f Sub h1 h2 h3 h4 h5 h6 h7 ih=>exact ⟨Nat.le_trans h1 h2,D.Yt fun i hi=>D.Qbk fun j hj=>ih i j hi hj⟩
theorem Qbl:dec True=true:=At trivial
theorem Qbm:dec False=false:=Ay fun h=>h
attribute [go_sem] Fz Sc SV.isNil Ob.idsB SV.idsB SV.MJ List.getElem?_cons_zero List.getElem?_cons_succ OT.AA OT.CB OT.full entry toTree US Sq UR GB Gb Fs XV Ql Wa OT.erss OT.ers OT.er OT.BF OT.DG OT.noSh quiet obB RH GP meets IN go_skip Rs go_ret Wz Rt W2 Of Ru Rv Rw W3 W4 W5 Qbf Qbg Qbh Rx Ry Og Ml Rz Oh Mm R0 W6 W7 Qbi W8 W9 WA Qbj WB WC Oi WD WE WF WG WH WI WJ WK Qy Sk Dc seen Mn JW R1 R2 WL Mo Ep Oj Ok Ol WM WN R6 WO order opF fOp FS UO QbS UM UN XU IQ eqK A3 gets Ap QT EU D5 M3 Pu AN VZ SV.cellsN SV.one Kv splice Ev TV Ku KR Es BE Cm B7 Kw Kx VQ eOp.mkEs eOp.addS D.sv OT.sv D.ot Ij nodupB reach SV.refs SV.Qw SV.ptrs SV.Qx Ob.refs Ob.liveB F0 EC SV.back SV.ML Ob.back Ii Ip CO Bh Bp H5 F1 SV.ren SV.M4 Ob.ren mkU sgp gc MN names M5 Wb Wc We Nt ZM Wh Wi Wj Wk Wl Wm SC.mark Q0 F2 slots NQ VY rxV KW Sj SV.noSh SV.MH Ob.noSh SV.own SV.So Gc cond_true cond_false yR List.length_nil zC List.map_nil yX zS y8 yW y6 List.take_nil List.append_nil List.nil_append List.cons_append List.all_cons List.all_nil List.getD_cons_zero List.getD_cons_succ y9 List.any_nil List.contains_cons List.contains_nil List.isEmpty_nil List.isEmpty_cons List.flatten_cons List.flatten_nil List.replicate_succ List.replicate_zero List.set_cons_zero List.set_cons_succ yK yM zQ zR zN yS zD Bool.or_false Bool.false_or Bool.true_or Bool.or_true xA y7 z7 yZ decide_true decide_false beq_self_eq_true if_true if_false y4 Option.map_none zF yP Option.getD_none Int.toNat_natCast true_and and_true and_self eq_self_iff_true zG yD Bool.true_eq_false zL SV.int.injEq SV.bool.injEq SV.str.injEq SV.agg.injEq SV.tup.injEq SV.arr.injEq yG St.mk.injEq Int.zero_add Qbl Qbm WP At Ay Qe9 svK svD Z9 svM MV.sv UA Sh NR Si GR St.app TY MK.sv Mp Mq Mr R4 R5
attribute [go_sem_proc] Nat.reduceAdd Nat.reduceSub Nat.reduceLT Nat.reduceLeDiff Nat.reduceEqDiff Nat.reduceBEq Nat.reduceBneDiff Nat.reduceMul Int.reduceToNat Int.reduceNeg Int.reduceAdd reduceCtorEq
attribute [go_sem_proc ↓] reduceIte
theorem WQ:∀ xs:List ByteArray,OT.AA (xs.map fun s=>[OT.str s])=true
 | []=>rfl
 | x :: xs=>by simp only [zC,OT.AA,OT.CB,OT.full,WQ xs,zD]
theorem Qbn:∀ xs:List Int,OT.AA (xs.map fun n=>[OT.int n])=true
 | []=>rfl
 | x :: xs=>by simp only [zC,OT.AA,OT.CB,OT.full,Qbn xs,zD]
theorem Tm.fu_of:∀ xs:List Tm,(∀ x∈xs,OT.CB (Tm.o x)=true)→OT.AA (xs.map Tm.o)=true
 | [],_=>rfl
 | x :: xs,h=>by
  simp only [zC,OT.AA]
  rw [h x (by simp),Tm.fu_of xs fun y hy=>h y (by simp [hy])]; rfl
theorem Tm.fu (x:Tm):OT.CB (Tm.o x)=true:=by
 have h:=Tm.fu_of x.args fun y hy=>Tm.fu y
 rw [Tm.o_eq]
 simp only [OT.CB,OT.full,h,zD,zN]
termination_by SizeOf.sizeOf x
decreasing_by exact Tm.lt_of_mem hy
theorem Tm.fus (xs:List Tm):OT.AA (xs.map Tm.o)=true:=Tm.fu_of xs fun x _=>Tm.fu x
theorem Fm.fu_of:∀ xs:List Fm,(∀ x∈xs,OT.CB (Fm.o x)=true)→OT.AA (xs.map Fm.o)=true
 | [],_=>rfl
 | x :: xs,h=>by
  simp only [zC,OT.AA]
  rw [h x (by simp),Fm.fu_of xs fun y hy=>h y (by simp [hy])]; rfl
theorem Fm.fu (x:Fm):OT.CB (Fm.o x)=true:=by
 have h:=Fm.fu_of x.parts fun y hy=>Fm.fu y
 rw [Fm.o_eq]
 simp only [OT.CB,OT.full,h,Tm.fus,zD,zN]
termination_by SizeOf.sizeOf x
decreasing_by exact Fm.lt_of_mem hy
theorem Fm.fus (xs:List Fm):OT.AA (xs.map Fm.o)=true:=Fm.fu_of xs fun x _=>Fm.fu x
theorem Lt.fu (x:Lt):OT.CB (Lt.o x)=true:=by
 simp only [Lt.o,OT.CB,OT.full,Tm.fus,zD,zN]
theorem Lt.fus:∀ xs:List Lt,OT.AA (xs.map Lt.o)=true
 | []=>rfl
 | x :: xs=>by simp only [zC,OT.AA,Lt.fu,Lt.fus xs,zD]
theorem Cl.fu (x:Cl):OT.CB (Cl.o x)=true:=by
 simp only [Cl.o,OT.CB,OT.full,Lt.fus,zD,zN]
theorem Cl.fus:∀ xs:List Cl,OT.AA (xs.map Cl.o)=true
 | []=>rfl
 | x :: xs=>by simp only [zC,OT.AA,Cl.fu,Cl.fus xs,zD]
theorem Bd.fu (x:Bd):OT.CB (Bd.o x)=true:=by
 simp only [Bd.o,OT.CB,OT.full,Tm.fus,zD,zN]
theorem Bd.fus:∀ xs:List Bd,OT.AA (xs.map Bd.o)=true
 | []=>rfl
 | x :: xs=>by simp only [zC,OT.AA,Bd.fu,Bd.fus xs,zD]
theorem Sb.fu (x:Sb):OT.CB (Sb.o x)=true:=by
 simp only [Sb.o,OT.CB,OT.full,Bd.fus,zD,zN]
theorem Sb.fus:∀ xs:List Sb,OT.AA (xs.map Sb.o)=true
 | []=>rfl
 | x :: xs=>by simp only [zC,OT.AA,Sb.fu,Sb.fus xs,zD]
theorem Df.fu (x:Df):OT.CB (Df.o x)=true:=by
 simp only [Df.o,OT.CB,OT.full,Fm.fus,Tm.fus,WQ,zD,zN]
theorem Df.fus:∀ xs:List Df,OT.AA (xs.map Df.o)=true
 | []=>rfl
 | x :: xs=>by simp only [zC,OT.AA,Df.fu,Df.fus xs,zD]
attribute [go_sem] WQ Qbn Wo QeC QaZ QeD Tm.fus Tm.erss Tm.noss Fm.fus Fm.erss Fm.noss Lt.fus Lt.erss Lt.noss Cl.fus Cl.erss Cl.noss Bd.fus Bd.erss Bd.noss Sb.fus Sb.erss Sb.noss Df.fus Df.erss Df.noss
theorem Ln {α β:Type} (f:α→β) (dn rest:List α) (x y:α) {k:Nat} (h:dn.length=k):((dn++x :: rest).map f).set k (f y)=((dn++[y])++rest).map f:=by
 subst h
 rw [y5,List.set_append_right _ _ (by simp)]
 simp
theorem DT {α:Type} (a:α):dec (a=a)=true:=At rfl
def FW {α β:Type} (f:α→β) (z:β) (xs:List α) (k:Nat):List β:=(xs.take k).map f++List.replicate (xs.length-k) z
section
variable {α β:Type} (f:α→β) (z:β) {xs:List α} {k:Nat}
theorem HM:FW f z xs 0=List.replicate xs.length z:=by simp [FW]
theorem Jr:(FW f z xs k).length=xs.length:=by simp [FW]; omega
theorem Js:FW f z xs xs.length=xs.map f:=by simp [FW]
theorem Jt (h:k<xs.length):(FW f z xs k)[k]?=some z:=by
 have hl:((xs.take k).map f).length=k:=by simp; omega
 unfold FW
 rw [List.getElem?_append_right (by omega),hl,Nat.sub_self,List.getElem?_replicate]
 simp; omega
theorem Ju (h:k<xs.length):(FW f z xs k).set k (f xs[k])=FW f z xs (k+1):=by
 have hl:((xs.take k).map f).length=k:=by simp; omega
 have e:List.take (k+1) xs=List.take k xs++[xs[k]]:=List.take_succ_eq_append_getElem h
 unfold FW
 rw [List.set_append_right _ _ (by omega),hl,Nat.sub_self,e,y5,List.append_assoc]
 congr 1
 rw [show xs.length-k=(xs.length-(k+1))+1 by omega,List.replicate_succ,List.set_cons_zero]
 rfl
end
theorem QeJ (a b:Int):(bif dec (a<b) then b else a)=max a b:=by
 by_cases h:a<b
 ·rw [At h,cond_true,Int.max_eq_right (by omega)]
 ·rw [Ay h,cond_false,Int.max_eq_left (by omega)]
def Dd {α:Type} (p:α→Bool):List α→Int→Int
 | [],_=>-1
 | x :: xs,i=>if p x then i else Dd p xs (i+1)
theorem Jv {α:Type} (p:α→Bool):∀ (xs:List α),dec (0≤Dd p xs 0)=xs.any p:=by
 have key:∀ (xs:List α) (i:Int),0≤i→(0≤Dd p xs i ↔ xs.any p=true):=by
  intro xs
  induction xs with
  | nil=>intro i h; simp [Dd]
  | cons x xs ih =>
   intro i h
   simp only [Dd,y9,yV]
   by_cases hp:p x=true
   ·simp [hp,h]
   ·rw [if_neg hp,ih (i+1) (by omega)]; simp [hp]
 intro xs
 cases h:xs.any p with
 | true=>exact At ((key xs 0 (by omega)).2 h)
 | false=>exact Ay fun h'=>by rw [(key xs 0 (by omega)).1 h'] at h; cases h
theorem F6 {p q:Prop} (h:p ↔ q):dec p=dec q:=by rw [propext h]
mutual
def Tm.nodes:Tm→Nat
 | .mk _ args=>1+Tm.Bf args
def Tm.Bf:List Tm→Nat
 | []=>0
 | x :: xs=>Tm.nodes x+Tm.Bf xs
end
theorem Tm.An (x:Tm):x.nodes=1+Tm.Bf x.args:=by
 obtain ⟨name,args⟩:=x
 rw [Tm.nodes]; rfl
theorem Tm.Mt (x:Tm):1≤x.nodes:=by rw [Tm.An]; omega
theorem Tm.GD:∀ (xs:List Tm) (k:Nat) (h:k<xs.length),xs[k].nodes≤Tm.Bf xs
 | [],k,h=>absurd h (by simp)
 | x :: xs,0,_=>by rw [Tm.Bf]; simp
 | x :: xs,k+1,h=>by
  have:=Tm.GD xs k (by simpa using h)
  rw [Tm.Bf]; simp only [yN]; omega
mutual
def Tm.deep:Tm→Nat
 | .mk _ args=>Tm.EN args+1
def Tm.EN:List Tm→Nat
 | []=>0
 | x :: xs=>max (Tm.deep x) (Tm.EN xs)
end
theorem Tm.Mu (x:Tm):x.deep=Tm.EN x.args+1:=by
 obtain ⟨name,args⟩:=x
 rw [Tm.deep]; rfl
theorem Tm.Lo:∀ xs:List Tm,(∀ y∈xs,y.deep≤y.nodes)→Tm.EN xs≤Tm.Bf xs
 | [],_=>by simp [Tm.EN]
 | x :: xs,h=>by
  have h1:=h x (by simp)
  have h2:=Tm.Lo xs fun y hy=>h y (by simp [hy])
  rw [Tm.EN,Tm.Bf]; omega
theorem Tm.IU (x:Tm):x.deep≤x.nodes:=by
 rw [Tm.Mu,Tm.An]
 have:=Tm.Lo x.args fun y hy=>Tm.IU y
 omega
termination_by SizeOf.sizeOf x
decreasing_by exact Tm.lt_of_mem hy
mutual
def Tm.names:Tm→Bool
 | .mk name args=>if Ao name then args.length == 0 else Fy name&&decide (args.length≤4)&&Tm.Ez args
def Tm.Ez:List Tm→Bool
 | []=>true
 | x :: xs=>Tm.names x&&Tm.Ez xs
end
theorem Tm.EZ (x:Tm):x.names=if Ao x.name then x.args.length == 0 else Fy x.name&&decide (x.args.length≤4)&&Tm.Ez x.args:=by
 obtain ⟨name,args⟩:=x
 rw [Tm.names]; rfl
theorem Tm.D6:∀ xs:List Tm,Tm.Ez xs=xs.all Tm.names
 | []=>rfl
 | x :: xs=>by rw [Tm.Ez,Tm.D6 xs]; rfl
theorem Tm.length_le:∀ xs:List Tm,xs.length≤Tm.Bf xs
 | []=>zQ _
 | x :: xs=>by
  have:=Tm.length_le xs
  have:=Tm.Mt x
  rw [Tm.Bf]; simp only [yR]; omega
theorem Tm.AW {xs:List Tm} {y:Tm} (h:y∈xs):y.nodes≤Tm.Bf xs:=by
 obtain ⟨k,hk,rfl⟩:=List.getElem_of_mem h
 exact Tm.GD xs k hk
def Tm.small (x:Tm):Bool:=decide (x.nodes≤30)&&decide (x.deep≤8)
def Tm.valid (x:Tm):Bool:=x.small&&x.names
noncomputable def Tm.eqn (x:Tm):Bool:=dec (x.name=⟨#[61]⟩)
noncomputable def Tm.atom (x:Tm):Bool:=if x.eqn then x.args.length == 2&&x.small&&Tm.Ez x.args else Fy x.name&&x.valid
theorem Vm {xs:List Tm} (h:xs.length=2):Tm.Ez xs=((xs[0]'(by omega)).names&&(xs[1]'(by omega)).names):=by
 match xs,h with
 | [a,b],_=>simp [Tm.Ez]
mutual
def Tm.cap:Tm→Int
 | .mk _ xs=>Tm.PC xs 1
def Tm.PC:List Tm→Int→Int
 | [],n=>n
 | x :: xs,n=>if 30 < n then n else Tm.PC xs (n+Tm.cap x)
end
theorem Tm.Qdy (x:Tm):x.cap=Tm.PC x.args 1:=by
 obtain ⟨n,xs⟩:=x
 rw [Tm.cap]; rfl
theorem Tm.Vn:∀ (xs:List Tm) (n:Int),(∀ x∈xs,1≤x.cap∧x.cap≤x.nodes∧(x.cap≤30→x.cap=x.nodes))→1≤n→n≤Tm.PC xs n∧Tm.PC xs n≤n+Tm.Bf xs∧(Tm.PC xs n≤30→Tm.PC xs n=n+Tm.Bf xs)
 | [],n,_,h=>by simp [Tm.PC,Tm.Bf]
 | x :: xs,n,hx,h=>by
  rw [Tm.PC,Tm.Bf]
  have h1:=hx x (by simp)
  split
  ·omega
  ·have:=Tm.Vn xs (n+x.cap) (fun y hy=>hx y (by simp [hy])) (by omega)
   omega
theorem Tm.On (x:Tm):1≤x.cap∧x.cap≤x.nodes∧(x.cap≤30→x.cap=x.nodes):=by
 rw [Tm.Qdy,Tm.An]
 have:=Tm.Vn x.args 1 (fun y hy=>Tm.On y) (by omega)
 omega
termination_by SizeOf.sizeOf x
decreasing_by exact Tm.lt_of_mem hy
mutual
def Tm.many:Tm→Int→Int
 | .mk _ xs,m=>Tm.Jw xs m 1
def Tm.Jw:List Tm→Int→Int→Int
 | [],_,n=>n
 | x :: xs,m,n=>if n≤m then Tm.Jw xs m (n+Tm.many x (m-n)) else n
end
theorem Tm.Qbo (x:Tm) (m:Int):x.many m=Tm.Jw x.args m 1:=by
 obtain ⟨n,xs⟩:=x
 rw [Tm.many]; rfl
theorem Tm.SN (m:Int):∀ (xs:List Tm) (n:Int),(∀ x∈xs,∀ m,0≤m→1≤x.many m∧x.many m≤x.nodes∧(x.many m≤m→x.many m=x.nodes))→1≤n→n≤Tm.Jw xs m n∧Tm.Jw xs m n≤n+Tm.Bf xs∧(Tm.Jw xs m n≤m→Tm.Jw xs m n=n+Tm.Bf xs)
 | [],n,_,h=>by simp [Tm.Jw,Tm.Bf]
 | x :: xs,n,hx,h=>by
  rw [Tm.Jw,Tm.Bf]
  split
  ·have h1:=hx x (by simp) (m-n) (by omega)
   have:=Tm.SN m xs (n+x.many (m-n)) (fun y hy=>hx y (by simp [hy])) (by omega)
   omega
  ·omega
theorem Tm.Mv (x:Tm) (m:Int):1≤x.many m∧x.many m≤x.nodes∧(x.many m≤m→x.many m=x.nodes):=by
 rw [Tm.Qbo,Tm.An]
 have:=Tm.SN m x.args 1 (fun y hy m _=>Tm.Mv y m) (by omega)
 omega
termination_by SizeOf.sizeOf x
decreasing_by exact Tm.lt_of_mem hy
def QA:SC:=(.seq (.reg [⟨some 1,none,.boxv 33 2 (.t 0)⟩,⟨some 2,none,.mv (.c (.int .i64 0))⟩]) (.seq (.reg [⟨some 3,none,.mv (.c (.int .i64 1))⟩]) (.seq (.seq (.reg [⟨some 6,none,.faddr 1 (.t 1)⟩,⟨some 7,none,.load false 1 (.t 6)⟩,⟨some 8,none,.len false (.t 7)⟩,⟨some 9,none,.mv (.c (.int .i64 0))⟩]) (.block 0 (.loop [0,0,0,1,0,0,0,1,1,1,0,0,0,0,0,0,0,0,0,0,0,0] (.seq (.reg [⟨some 10,none,.bin .lss false (.t 9) (.t 8)⟩]) (.seq (.cond (.t 10) .skip (.exit 0)) (.seq (.block 1 (.seq (.reg [⟨some 11,none,.iaddr 2 (.t 7) (.t 9)⟩,⟨some 12,none,.load true 2 (.t 11)⟩,⟨(some 5),none,(.alloc 33 [(.str ⟨#[]⟩),.nil])⟩,⟨none,none,(.store 2 (.t 5) (.t 12))⟩]) (.seq (.seq (.reg [⟨some 13,none,.mv (.t 3)⟩,⟨some 14,none,.bin .gtr false (.t 13) (.c (.int .i64 30))⟩]) (.cond (.t 14) (.seq (.reg [⟨some 15,none,.mv (.t 3)⟩,⟨some 2,none,.mv (.t 15)⟩]) .ret) .skip)) (.reg [⟨some 16,none,.mv (.t 3)⟩,⟨some 17,none,.load true 2 (.t 5)⟩,⟨some 18,none,.call 296 [(.t 17)]⟩,⟨some 19,none,.bin .add false (.t 16) (.t 18)⟩,⟨some 3,none,.mv (.t 19)⟩])))) (.reg [⟨some 20,none,.bin .add false (.t 9) (.c (.int .i64 1))⟩,⟨some 9,none,.mv (.t 20)⟩]))))))) (.seq (.reg [⟨some 21,none,.mv (.t 3)⟩,⟨some 2,none,.mv (.t 21)⟩]) .ret))))
theorem Yu:codeOf Tryz.prog 296=some ⟨22,QA,[(.tmp 2)]⟩:=by kernel_rfl
theorem GE:modes 296=⟨[],.asis,none,false⟩:=by unfold modes; rfl
theorem QeK (x:Tm) (hn:x.nodes≤1099511627776) (ih:∀ y∈x.args,E 296 [y.sv] []=some (.int .i64 y.cap,[])):E 296 [x.sv] []=some (.int .i64 x.cap,[]):=by
 have hl:=Tm.length_le x.args
 have hx:=Tm.An x
 rw [Tm.Qdy]
 refine Ad Yu GE (of_decide_eq_true rfl) ?_
 simp (disch:=omega) only [QA,go_sem,Aa]
 refine go_loop (α:=Int × Int) (fun a=>⟨slots 22 0 [(3,.int .i64 a.2),(7,.arr (x.args.map Tm.d)),(8,.int .i64 x.args.length),(9,.int .i64 a.1)],[]⟩) (fun a=>∃ k:Nat,a.1=k∧k≤x.args.length∧1≤a.2∧a.2+Tm.Bf (x.args.drop k)≤x.nodes∧Tm.PC (x.args.drop k) a.2=Tm.PC x.args 1) (fun a=>x.args.length-a.1.toNat) (0,1) ⟨0,rfl,zR _,by dsimp only; omega,by rw [zS]; dsimp only; omega,rfl⟩ (by simp (disch:=omega) only [go_sem,Aa]) ?_
 rintro ⟨i,n⟩ ⟨k,hi,hk,hn0,hn1,hs⟩
 dsimp only at hi hn0 hn1 hs
 have hni:i.toNat=k:=by omega
 rcases zI k x.args.length with hlt | hge
 ·have hg:=get_at Tm.d hlt
  rw [Tm.d_eq] at hg
  have hd:x.args.drop k=x.args[k] :: x.args.drop (k+1):=zK hlt
  have hc:=ih x.args[k] (zH hlt)
  have hp:=Tm.On x.args[k]
  rw [hd,Tm.PC] at hs
  rw [hd,Tm.Bf] at hn1
  rcases y3 30 n with h30 | h30
  ·rw [if_pos h30] at hs
   simp (disch:=omega) only [go_sem,Aa,hni,hg,hc,GE]
   exact hs
  ·rw [if_neg (by omega)] at hs
   simp (disch:=omega) only [go_sem,Aa,hni,hg,hc,GE]
   refine ⟨(i+1,n+x.args[k].cap),⟨k+1,by dsimp only; omega,hlt,by dsimp only; omega,by dsimp only; omega,hs⟩,by dsimp only; omega,?_⟩
   simp only [and_self]
 ·have hd:x.args.drop k=[]:=zO hge
  rw [hd,Tm.PC] at hs
  simp (disch:=omega) only [go_sem,Aa,hni]
  exact hs
theorem Qdz (x:Tm) (hn:x.nodes≤1099511627776):E 296 [x.sv] []=some (.int .i64 x.cap,[]) :=
 QeK x hn fun y hy=>Qdz y (by have:=Tm.AW hy; have:=Tm.An x; omega)
termination_by SizeOf.sizeOf x
decreasing_by exact Tm.lt_of_mem hy
def MO:SC:=(.seq (.reg [⟨some 2,none,.boxv 33 2 (.t 0)⟩,⟨some 4,none,.mv (.c (.int .i64 0))⟩]) (.seq (.reg [⟨some 5,none,.mv (.c (.int .i64 1))⟩]) (.seq (.seq (.reg [⟨some 6,none,.mv (.c (.int .i64 0))⟩]) (.block 0 (.loop [0,1,1,0,0,1,1,0,0,0,0,0,0,0,0,0,0,0,0,0,0,0,0,0,0,0,0,0,0,0,0] (.seq (.seq (.reg [⟨some 7,none,.mv (.t 6)⟩,⟨some 8,none,.faddr 1 (.t 2)⟩,⟨some 9,none,.load false 1 (.t 8)⟩,⟨some 10,none,.len false (.t 9)⟩,⟨some 11,none,.bin .lss false (.t 7) (.t 10)⟩,⟨some 12,none,.mv (.t 11)⟩,⟨(some 13),(some (12,true)),(.mv (.t 5))⟩,⟨(some 14),(some (12,true)),(.mv (.t 1))⟩,⟨(some 15),(some (12,true)),(.bin .leq false (.t 13) (.t 14))⟩,⟨some 16,none,.pick (.t 12) (.t 15) (.c (.bool false))⟩]) (.cond (.t 16) .skip (.exit 0))) (.seq (.block 1 (.reg [⟨some 19,none,.mv (.t 5)⟩,⟨some 20,none,.faddr 1 (.t 2)⟩,⟨some 21,none,.load false 1 (.t 20)⟩,⟨some 22,none,.mv (.t 6)⟩,⟨some 23,none,.iaddr 2 (.t 21) (.t 22)⟩,⟨some 24,none,.load true 2 (.t 23)⟩,⟨some 25,none,.mv (.t 1)⟩,⟨some 26,none,.mv (.t 5)⟩,⟨some 27,none,.bin .sub false (.t 25) (.t 26)⟩,⟨some 28,none,.call 307 [(.t 24),(.t 27)]⟩,⟨some 29,none,.bin .add false (.t 19) (.t 28)⟩,⟨some 5,none,.mv (.t 29)⟩])) (.reg [⟨some 17,none,.mv (.t 6)⟩,⟨some 18,none,.bin .add false (.t 17) (.c (.int .i64 1))⟩,⟨some 6,none,.mv (.t 18)⟩])))))) (.seq (.reg [⟨some 30,none,.mv (.t 5)⟩,⟨some 4,none,.mv (.t 30)⟩]) .ret))))
theorem Uh:codeOf Tryz.prog 307=some ⟨31,MO,[(.tmp 4)]⟩:=by kernel_rfl
theorem Fa:modes 307=⟨[],.asis,none,false⟩:=by unfold modes; rfl
theorem QeL (x:Tm) (m:Int) (hm:0≤m) (hm1:m≤1099511627776) (hn:x.nodes≤1099511627776) (ih:∀ y∈x.args,∀ m:Int,0≤m→m≤1099511627776→E 307 [y.sv,.int .i64 m] []=some (.int .i64 (y.many m),[])):E 307 [x.sv,.int .i64 m] []=some (.int .i64 (x.many m),[]):=by
 have hl:=Tm.length_le x.args
 have hx:=Tm.An x
 rw [Tm.Qbo]
 refine Ad Uh Fa (of_decide_eq_true rfl) ?_
 simp (disch:=omega) only [MO,go_sem,Aa]
 refine go_loop (α:=Int × Int) (fun a=>⟨slots 31 0 [(1,.int .i64 m),(2,.ptr 0 0),(5,.int .i64 a.2),(6,.int .i64 a.1)],[.box 33 [.str x.name,.arr (x.args.map Tm.d)]]⟩) (fun a=>∃ k:Nat,a.1=k∧k≤x.args.length∧1≤a.2∧a.2+Tm.Bf (x.args.drop k)≤x.nodes∧Tm.Jw (x.args.drop k) m a.2=Tm.Jw x.args m 1) (fun a=>x.args.length-a.1.toNat) (0,1) ⟨0,rfl,zR _,by dsimp only; omega,by rw [zS]; dsimp only; omega,rfl⟩ (by simp (disch:=omega) only [go_sem,Aa]) ?_
 rintro ⟨i,n⟩ ⟨k,hi,hk,hn0,hn1,hs⟩
 dsimp only at hi hn0 hn1 hs
 have hni:i.toNat=k:=by omega
 rcases zI k x.args.length with hlt | hge
 ·have hg:=get_at Tm.d hlt
  rw [Tm.d_eq] at hg
  have hd:x.args.drop k=x.args[k] :: x.args.drop (k+1):=zK hlt
  rw [hd,Tm.Jw] at hs
  rw [hd,Tm.Bf] at hn1
  rcases y3 m n with h30 | h30
  ·rw [if_neg (by omega)] at hs
   simp (disch:=omega) only [go_sem,Aa,hni,hg,Fa]
   exact hs
  ·rw [if_pos h30] at hs
   have hc:=ih x.args[k] (zH hlt) (m-n) (by omega) (by omega)
   have hp:=Tm.Mv x.args[k] (m-n)
   simp (disch:=omega) only [go_sem,Aa,hni,hg,hc,Fa]
   refine ⟨(i+1,n+x.args[k].many (m-n)),⟨k+1,by dsimp only; omega,hlt,by dsimp only; omega,by dsimp only; omega,hs⟩,by dsimp only; omega,?_⟩
   simp only [and_self]
 ·have hd:x.args.drop k=[]:=zO hge
  rw [hd,Tm.Jw] at hs
  simp (disch:=omega) only [go_sem,Aa,hni]
  exact hs
theorem Qd0 (x:Tm) (m:Int) (hm:0≤m) (hm1:m≤1099511627776) (hn:x.nodes≤1099511627776):E 307 [x.sv,.int .i64 m] []=some (.int .i64 (x.many m),[]) :=
 QeL x m hm hm1 hn fun y hy m hm hm1=>Qd0 y m hm hm1 (by have:=Tm.AW hy; have:=Tm.An x; omega)
termination_by SizeOf.sizeOf x
decreasing_by exact Tm.lt_of_mem hy
def Oo:SC:=(.seq (.reg [⟨some 1,none,.boxv 33 2 (.t 0)⟩,⟨some 2,none,.mv (.c (.int .i64 0))⟩]) (.seq (.reg [⟨some 3,none,.mv (.c (.int .i64 0))⟩]) (.seq (.seq (.reg [⟨some 6,none,.faddr 1 (.t 1)⟩,⟨some 7,none,.load false 1 (.t 6)⟩,⟨some 8,none,.len false (.t 7)⟩,⟨some 9,none,.mv (.c (.int .i64 0))⟩]) (.block 0 (.loop [0,0,0,1,0,0,0,1,1,1,0,0,0,0,0,0,0,0,0,0] (.seq (.reg [⟨some 10,none,.bin .lss false (.t 9) (.t 8)⟩]) (.seq (.cond (.t 10) .skip (.exit 0)) (.seq (.block 1 (.seq (.reg [⟨some 11,none,.iaddr 2 (.t 7) (.t 9)⟩,⟨some 12,none,.load true 2 (.t 11)⟩,⟨(some 5),none,(.alloc 33 [(.str ⟨#[]⟩),.nil])⟩,⟨none,none,(.store 2 (.t 5) (.t 12))⟩]) (.reg [⟨some 13,none,.mv (.t 3)⟩,⟨some 14,none,.load true 2 (.t 5)⟩,⟨some 15,none,.call 297 [(.t 14)]⟩,⟨some 16,none,.minmax true (.t 13) (.t 15)⟩,⟨some 3,none,.mv (.t 16)⟩]))) (.reg [⟨some 17,none,.bin .add false (.t 9) (.c (.int .i64 1))⟩,⟨some 9,none,.mv (.t 17)⟩]))))))) (.seq (.reg [⟨some 18,none,.mv (.t 3)⟩,⟨some 19,none,.bin .add false (.t 18) (.c (.int .i64 1))⟩,⟨some 2,none,.mv (.t 19)⟩]) .ret))))
theorem WR:codeOf Tryz.prog 297=some ⟨20,Oo,[(.tmp 2)]⟩:=by kernel_rfl
theorem Hp:modes 297=⟨[],.asis,none,false⟩:=by unfold modes; rfl
def MP:SC:=(.seq (.reg [⟨some 4,none,.mv (.c (.int .i64 0))⟩]) (.seq (.seq (.reg [⟨some 5,none,.mv (.t 0)⟩,⟨some 6,none,.mv (.t 1)⟩,⟨some 7,none,.bin .gtr false (.t 5) (.t 6)⟩]) (.cond (.t 7) (.seq (.reg [⟨some 8,none,.mv (.t 0)⟩,⟨some 4,none,.mv (.t 8)⟩]) .ret) .skip)) (.seq (.reg [⟨some 9,none,.mv (.t 1)⟩,⟨some 4,none,.mv (.t 9)⟩]) .ret)))
theorem Ui:codeOf Tryz.prog 327=some ⟨10,MP,[(.tmp 4)]⟩:=by kernel_rfl
theorem MQ:modes 327=⟨[],.asis,none,false⟩:=by unfold modes; rfl
def Lp:SC:=(.seq (.reg [⟨some 1,none,.boxv 33 2 (.t 0)⟩,⟨some 2,none,.mv (.c (.int .i64 0))⟩]) (.seq (.reg [⟨some 3,none,.mv (.c (.int .i64 0))⟩]) (.seq (.seq (.reg [⟨some 4,none,.mv (.c (.int .i64 0))⟩]) (.block 0 (.loop [0,1,0,1,1,0,0,0,0,0,0,0,0,0,0,0,0,0,0,0,0,0] (.seq (.seq (.reg [⟨some 5,none,.mv (.t 4)⟩,⟨some 6,none,.faddr 1 (.t 1)⟩,⟨some 7,none,.load false 1 (.t 6)⟩,⟨some 8,none,.len false (.t 7)⟩,⟨some 9,none,.bin .lss false (.t 5) (.t 8)⟩]) (.cond (.t 9) .skip (.exit 0))) (.seq (.block 1 (.reg [⟨some 12,none,.mv (.t 3)⟩,⟨some 13,none,.faddr 1 (.t 1)⟩,⟨some 14,none,.load false 1 (.t 13)⟩,⟨some 15,none,.mv (.t 4)⟩,⟨some 16,none,.iaddr 2 (.t 14) (.t 15)⟩,⟨some 17,none,.load true 2 (.t 16)⟩,⟨some 18,none,.call 308 [(.t 17)]⟩,⟨some 19,none,.call 327 [(.t 12),(.t 18)]⟩,⟨some 3,none,.mv (.t 19)⟩])) (.reg [⟨some 10,none,.mv (.t 4)⟩,⟨some 11,none,.bin .add false (.t 10) (.c (.int .i64 1))⟩,⟨some 4,none,.mv (.t 11)⟩])))))) (.seq (.reg [⟨some 20,none,.mv (.t 3)⟩,⟨some 21,none,.bin .add false (.t 20) (.c (.int .i64 1))⟩,⟨some 2,none,.mv (.t 21)⟩]) .ret))))
theorem SO:codeOf Tryz.prog 308=some ⟨22,Lp,[(.tmp 2)]⟩:=by kernel_rfl
theorem F7:modes 308=⟨[],.asis,none,false⟩:=by unfold modes; rfl
theorem Qd1 (a b:Int):E 327 [.int .i64 a,.int .i64 b] []=some (.int .i64 (max a b),[]):=by
 refine Ad Ui MQ (of_decide_eq_true rfl) ?_
 simp (disch:=omega) only [MP,go_sem,Aa]
 repeat' (refine CL (fun hq=>?_) (fun hq=>?_) <;> (first | replace hq:=Ar.1 hq | replace hq:=C7.1 hq) <;> (try simp (disch:=omega) only [go_sem,Aa]))
 all_goals omega
theorem Qd2 (x:Tm) (hn:x.nodes≤1099511627776) (ih:∀ y∈x.args,E 297 [y.sv] []=some (.int .i64 y.deep,[])):E 297 [x.sv] []=some (.int .i64 x.deep,[]):=by
 have hl:=Tm.length_le x.args
 have hx:=Tm.An x
 have hd1:=Tm.Mu x
 have hd2:=Tm.IU x
 refine Ad WR Hp (of_decide_eq_true rfl) ?_
 simp (disch:=omega) only [Oo,go_sem,Aa]
 refine go_loop (α:=Int × (Int)) (fun a=>⟨slots 20 0 [(3,.int .i64 (a.2)),(7,.arr (x.args.map Tm.d)),(8,.int .i64 x.args.length),(9,.int .i64 (a.1))],[]⟩) (fun a=>∃ k:Nat,a.1=k∧k≤(x.args).length∧0≤(a.2)∧max (a.2) (Tm.EN (x.args.drop k):Nat)=(Tm.EN x.args:Nat)) (fun a=>(x.args).length-(a.1).toNat) (0,0) ⟨0,rfl,zR _,by dsimp only; omega,by rw [zS]; dsimp only; omega⟩ (by simp (disch:=omega) only [go_sem,Aa]) ?_
 rintro ⟨i,n⟩ ⟨k,hi,hk,hR⟩
 dsimp only at hi hR
 have hni:i.toNat=k:=by omega
 have hni1:(i+1).toNat=k+1:=by omega
 rcases zI k (x.args).length with hlt | hge
 ·have hg:=get_at Tm.d hlt
  rw [Tm.d_eq] at hg
  have hc:=ih x.args[k] (zH hlt)
  rw [zK hlt,Tm.EN] at hR
  simp (disch:=omega) only [go_sem,Aa,hni,hg,hc,Hp,QeJ]
  refine ⟨(i+1,max n (x.args[k].deep:Int)),⟨k+1,by dsimp only; omega,hlt,by dsimp only; omega⟩,by dsimp only; omega,?_⟩
  simp only [and_self]
 ·rw [zO hge,Tm.EN] at hR
  simp (disch:=omega) only [go_sem,Aa,hni]
  omega
theorem Qbp (x:Tm) (hn:x.nodes≤1099511627776):E 297 [x.sv] []=some (.int .i64 x.deep,[]) :=
 Qd2 x hn fun y hy=>Qbp y (by have:=Tm.AW hy; have:=Tm.An x; omega)
termination_by SizeOf.sizeOf x
decreasing_by exact Tm.lt_of_mem hy
theorem Qaq (x:Tm) (hn:x.nodes≤1099511627776) (ih:∀ y∈x.args,E 308 [y.sv] []=some (.int .i64 y.deep,[])):E 308 [x.sv] []=some (.int .i64 x.deep,[]):=by
 have hl:=Tm.length_le x.args
 have hx:=Tm.An x
 have hd1:=Tm.Mu x
 have hd2:=Tm.IU x
 refine Ad SO F7 (of_decide_eq_true rfl) ?_
 simp (disch:=omega) only [Lp,go_sem,Aa]
 refine go_loop (α:=Int × (Int)) (fun a=>⟨slots 22 0 [(1,.ptr 0 0),(3,.int .i64 (a.2)),(4,.int .i64 (a.1))],[.box 33 [.str x.name,.arr (x.args.map Tm.d)]]⟩) (fun a=>∃ k:Nat,a.1=k∧k≤(x.args).length∧0≤(a.2)∧max (a.2) (Tm.EN (x.args.drop k):Nat)=(Tm.EN x.args:Nat)) (fun a=>(x.args).length-(a.1).toNat) (0,0) ⟨0,rfl,zR _,by dsimp only; omega,by rw [zS]; dsimp only; omega⟩ (by simp (disch:=omega) only [go_sem,Aa]) ?_
 rintro ⟨i,n⟩ ⟨k,hi,hk,hR⟩
 dsimp only at hi hR
 have hni:i.toNat=k:=by omega
 have hni1:(i+1).toNat=k+1:=by omega
 rcases zI k (x.args).length with hlt | hge
 ·have hg:=get_at Tm.d hlt
  rw [Tm.d_eq] at hg
  have hc:=ih x.args[k] (zH hlt)
  rw [zK hlt,Tm.EN] at hR
  simp (disch:=omega) only [go_sem,Aa,hni,hg,hc,F7,Qd1,MQ]
  refine ⟨(i+1,max n (x.args[k].deep:Int)),⟨k+1,by dsimp only; omega,hlt,by dsimp only; omega⟩,by dsimp only; omega,?_⟩
  simp only [and_self]
 ·rw [zO hge,Tm.EN] at hR
  simp (disch:=omega) only [go_sem,Aa,hni]
  omega
theorem Vo (x:Tm) (hn:x.nodes≤1099511627776):E 308 [x.sv] []=some (.int .i64 x.deep,[]) :=
 Qaq x hn fun y hy=>Vo y (by have:=Tm.AW hy; have:=Tm.An x; omega)
termination_by SizeOf.sizeOf x
decreasing_by exact Tm.lt_of_mem hy
def C0:SC:=(.seq (.reg [⟨some 4,none,.mv (.c (.int .i64 0))⟩]) (.seq (.seq (.reg [⟨some 6,none,.mv (.t 0)⟩,⟨some 7,none,.len false (.t 6)⟩,⟨some 8,none,.mv (.c (.int .i64 0))⟩]) (.block 0 (.loop [1,1,0,0,0,0,0,1,1,0,0,0,0,0,0,0,0,0,0] (.seq (.reg [⟨some 9,none,.bin .lss false (.t 8) (.t 7)⟩]) (.seq (.cond (.t 9) .skip (.exit 0)) (.seq (.block 1 (.seq (.reg [⟨some 10,none,.mv (.t 8)⟩,⟨some 5,none,.mv (.t 10)⟩]) (.seq (.reg [⟨some 11,none,.mv (.t 1)⟩,⟨some 12,none,.mv (.t 0)⟩,⟨some 13,none,.mv (.t 5)⟩,⟨some 14,none,.iaddr 2 (.t 12) (.t 13)⟩,⟨some 15,none,.load true 2 (.t 14)⟩,⟨some 16,none,.callv (.t 11) [(.t 15)]⟩]) (.cond (.t 16) (.seq (.reg [⟨some 17,none,.mv (.t 5)⟩,⟨some 4,none,.mv (.t 17)⟩]) .ret) .skip)))) (.reg [⟨some 18,none,.bin .add false (.t 8) (.c (.int .i64 1))⟩,⟨some 8,none,.mv (.t 18)⟩]))))))) (.seq (.reg [⟨some 4,none,.mv (.c (.int .i64 (-(0+1))))⟩]) .ret)))
theorem E0:codeOf Tryz.prog 321=some ⟨19,C0,[(.tmp 4)]⟩:=by kernel_rfl
theorem C1:modes 321=⟨[],.asis,none,false⟩:=by unfold modes; rfl
def Cc:SC:=(.seq (.reg [⟨some 4,none,.mv (.c (.bool false))⟩]) (.seq (.reg [⟨some 5,none,.mv (.t 0)⟩,⟨some 6,none,.mv (.t 1)⟩,⟨some 7,none,.call 321 [(.t 5),(.t 6)]⟩,⟨some 8,none,.bin .geq false (.t 7) (.c (.int .i64 0))⟩,⟨some 4,none,.mv (.t 8)⟩]) .ret))
theorem DU:codeOf Tryz.prog 298=some ⟨9,Cc,[(.tmp 4)]⟩:=by kernel_rfl
theorem Cd:modes 298=⟨[],.asis,none,false⟩:=by unfold modes; rfl
theorem QX (fid:Nat) (p:Tm→Bool) (xs:List Tm) (hl:xs.length≤1099511627776) (hg:Ih Tryz.prog fid=true) (hm:(modes fid).hand=[]) (hE:∀ x∈xs,E fid [x.sv] []=some (.bool (p x),[])):E 321 [.arr (xs.map Tm.d),.fn fid []] []=some (.int .i64 (Dd p xs 0),[]):=by
 refine Ad E0 C1 (of_decide_eq_true rfl) ?_
 simp (disch:=omega) only [C0,go_sem,Aa]
 refine go_loop (α:=Int) (fun a=>⟨slots 19 0 [(0,.arr (xs.map Tm.d)),(1,.fn fid []),(7,.int .i64 xs.length),(8,.int .i64 a)],[]⟩) (fun a=>∃ k:Nat,a=k∧k≤(xs).length∧Dd p (xs.drop k) a=Dd p xs 0) (fun a=>(xs).length-(a).toNat) 0 ⟨0,rfl,zR _,by rw [zS]⟩ (by simp (disch:=omega) only [go_sem,Aa]) ?_
 rintro i ⟨k,hi,hk,hR⟩
 have hni:i.toNat=k:=by omega
 have hni1:(i+1).toNat=k+1:=by omega
 rcases zI k (xs).length with hlt | hge
 ·have hg':=get_at Tm.d hlt
  rw [Tm.d_eq] at hg'
  have hc:=hE xs[k] (zH hlt)
  rw [zK hlt,Dd] at hR
  cases hp:p xs[k] with
  | true =>
   rw [hp] at hc hR
   simp (disch:=omega) only [go_sem,Aa,hni,hg',hc,hg,hm]
   simpa using hR
  | false =>
   rw [hp] at hc hR
   simp (disch:=omega) only [go_sem,Aa,hni,hg',hc,hg,hm]
   exact ⟨i+1,⟨k+1,by omega,hlt,by simpa using hR⟩,by omega,by first | trivial | rfl⟩
 ·rw [zO hge,Dd] at hR
  simp (disch:=omega) only [go_sem,Aa,hni]
  exact hR
theorem Ny (fid:Nat) (p:Tm→Bool) (xs:List Tm) (hl:xs.length≤1099511627776) (hg:Ih Tryz.prog fid=true) (hm:(modes fid).hand=[]) (hE:∀ x∈xs,E fid [x.sv] []=some (.bool (p x),[])):E 298 [.arr (xs.map Tm.d),.fn fid []] []=some (.bool (xs.any p),[]):=by
 have h:=QX fid p xs hl hg hm hE
 refine Ad DU Cd (of_decide_eq_true rfl) ?_
 simp (disch:=omega) only [Cc,go_sem,Aa,h,C1]
 rw [Jv]
def DV:SC:=(.seq (.reg [⟨some 1,none,.boxv 33 2 (.t 0)⟩,⟨some 2,none,.mv (.c (.bool false))⟩]) (.seq (.seq (.reg [⟨some 3,none,.faddr 0 (.t 1)⟩,⟨some 4,none,.load false 1 (.t 3)⟩,⟨some 5,none,.call 177 [(.t 4)]⟩]) (.cond (.t 5) (.seq (.reg [⟨some 6,none,.faddr 1 (.t 1)⟩,⟨some 7,none,.load false 1 (.t 6)⟩,⟨some 8,none,.len false (.t 7)⟩,⟨some 9,none,.bin .eql false (.t 8) (.c (.int .i64 0))⟩,⟨some 2,none,.mv (.t 9)⟩]) .ret) .skip)) (.seq (.reg [⟨some 10,none,.faddr 0 (.t 1)⟩,⟨some 11,none,.load false 1 (.t 10)⟩,⟨some 12,none,.call 184 [(.t 11)]⟩,⟨some 13,none,.mv (.t 12)⟩,⟨(some 14),(some (13,true)),(.faddr 1 (.t 1))⟩,⟨(some 15),(some (13,true)),(.load false 1 (.t 14))⟩,⟨(some 16),(some (13,true)),(.len false (.t 15))⟩,⟨(some 17),(some (13,true)),(.bin .leq false (.t 16) (.c (.int .i64 4)))⟩,⟨some 18,none,.pick (.t 13) (.t 17) (.c (.bool false))⟩,⟨some 19,none,.mv (.t 18)⟩,⟨(some 20),(some (19,true)),(.faddr 1 (.t 1))⟩,⟨(some 21),(some (19,true)),(.load false 1 (.t 20))⟩,⟨(some 22),(some (19,true)),(.call 298 [(.t 21),(.c (.fn 299 []))])⟩,⟨(some 23),(some (19,true)),(.un .not (.t 22))⟩,⟨some 24,none,.pick (.t 19) (.t 23) (.c (.bool false))⟩,⟨some 2,none,.mv (.t 24)⟩]) .ret)))
theorem Fj:codeOf Tryz.prog 245=some ⟨25,DV,[(.tmp 2)]⟩:=by kernel_rfl
theorem AR:modes 245=⟨[],.asis,none,false⟩:=by unfold modes; rfl
def Iu:SC:=(.seq (.reg [⟨some 1,none,.boxv 33 2 (.t 0)⟩,⟨some 2,none,.mv (.c (.bool false))⟩]) (.seq (.reg [⟨some 3,none,.load true 2 (.t 1)⟩,⟨some 4,none,.call 245 [(.t 3)]⟩,⟨some 5,none,.un .not (.t 4)⟩,⟨some 2,none,.mv (.t 5)⟩]) .ret))
theorem Oq:codeOf Tryz.prog 299=some ⟨6,Iu,[(.tmp 2)]⟩:=by kernel_rfl
theorem Iv:modes 299=⟨[],.asis,none,false⟩:=by unfold modes; rfl
theorem Or:Ih Tryz.prog 299=true:=by kernel_rfl
theorem Tm.QeM (xs:List Tm):(!xs.any fun y=>!y.names)=Tm.Ez xs:=by
 rw [Tm.D6]
 induction xs with
 | nil=>rfl
 | cons x xs ih=>simp only [y9,List.all_cons,Bool.not_or,Bool.not_not,ih]
theorem Yv (x:Tm) (hn:x.nodes≤1099511627776) (ih:∀ y∈x.args,E 245 [y.sv] []=some (.bool y.names,[])):E 245 [x.sv] []=some (.bool x.names,[]):=by
 have hl:=Tm.length_le x.args
 have hx:=Tm.An x
 have h1:∀ y∈x.args,E 299 [y.sv] []=some (.bool (!y.names),[]):=fun y hy=>by
  have h:=ih y hy
  refine Ad Oq Iv (of_decide_eq_true rfl) ?_
  simp (disch:=omega) only [Iu,go_sem,Aa,h,AR]
 have h2:=Ny 299 (fun y=>!y.names) x.args (by omega) Or (by rw [Iv]) h1
 rw [Tm.EZ,← Tm.QeM]
 cases hv:Ao x.name with
 | true =>
  have h3:=EE x.name
  rw [hv] at h3
  refine Ad Fj AR (of_decide_eq_true rfl) ?_
  simp (disch:=omega) only [DV,go_sem,Aa,h3,Br]
  rw [KX]; cases x.args <;> simp <;> omega
 | false =>
  have h3:=EE x.name
  rw [hv] at h3
  have h4:=SL x.name
  cases hs:Fy x.name with
  | false =>
   rw [hs] at h4
   refine Ad Fj AR (of_decide_eq_true rfl) ?_
   simp (disch:=omega) only [DV,go_sem,Aa,h2,h3,h4,Br,By]
  | true =>
   rw [hs] at h4
   rcases zI 4 x.args.length with h5 | h5
   ·refine Ad Fj AR (of_decide_eq_true rfl) ?_
    simp (disch:=omega) only [DV,go_sem,Aa,h2,h3,h4,Br,By]
    simp; omega
   ·refine Ad Fj AR (of_decide_eq_true rfl) ?_
    simp (disch:=omega) only [DV,go_sem,Aa,h2,h3,h4,Br,By,Cd]
    simp [h5]
theorem JZ (x:Tm) (hn:x.nodes≤1099511627776):E 245 [x.sv] []=some (.bool x.names,[]) :=
 Yv x hn fun y hy=>JZ y (by have:=Tm.AW hy; have:=Tm.An x; omega)
termination_by SizeOf.sizeOf x
decreasing_by exact Tm.lt_of_mem hy
def E1:SC:=(.seq (.reg [⟨some 1,none,.boxv 33 2 (.t 0)⟩,⟨some 2,none,.mv (.c (.bool false))⟩]) (.seq (.seq (.reg [⟨some 4,none,.faddr 0 (.t 1)⟩,⟨some 5,none,.load false 1 (.t 4)⟩,⟨some 6,none,.call 191 [(.t 5)]⟩]) (.cond (.t 6) (.seq (.reg [⟨some 7,none,.faddr 1 (.t 1)⟩,⟨some 8,none,.load false 1 (.t 7)⟩,⟨some 9,none,.len false (.t 8)⟩,⟨some 10,none,.bin .eql false (.t 9) (.c (.int .i64 0))⟩,⟨some 2,none,.mv (.t 10)⟩]) .ret) .skip)) (.seq (.seq (.reg [⟨some 11,none,.faddr 0 (.t 1)⟩,⟨some 12,none,.load false 1 (.t 11)⟩,⟨some 13,none,.call 265 [(.t 12)]⟩,⟨some 14,none,.un .not (.t 13)⟩,⟨some 15,none,.mv (.t 14)⟩,⟨(some 16),(some (15,false)),(.faddr 1 (.t 1))⟩,⟨(some 17),(some (15,false)),(.load false 1 (.t 16))⟩,⟨(some 18),(some (15,false)),(.len false (.t 17))⟩,⟨(some 19),(some (15,false)),(.bin .gtr false (.t 18) (.c (.int .i64 4)))⟩,⟨some 20,none,.pick (.t 15) (.c (.bool true)) (.t 19)⟩]) (.cond (.t 20) (.seq (.reg [⟨some 2,none,.mv (.c (.bool false))⟩]) .ret) .skip)) (.seq (.seq (.reg [⟨some 3,none,.mv (.c (.int .i64 0))⟩]) (.block 0 (.loop [0,1,0,1,0,0,0,0,0,0,0,0,0,0,0,0,0,0,0,0,0,0,0,0,0,0,0,0,0,0,0,0,0,0,0] (.seq (.seq (.reg [⟨some 21,none,.mv (.t 3)⟩,⟨some 22,none,.faddr 1 (.t 1)⟩,⟨some 23,none,.load false 1 (.t 22)⟩,⟨some 24,none,.len false (.t 23)⟩,⟨some 25,none,.bin .lss false (.t 21) (.t 24)⟩]) (.cond (.t 25) .skip (.exit 0))) (.seq (.block 1 (.seq (.reg [⟨some 28,none,.faddr 1 (.t 1)⟩,⟨some 29,none,.load false 1 (.t 28)⟩,⟨some 30,none,.mv (.t 3)⟩,⟨some 31,none,.iaddr 2 (.t 29) (.t 30)⟩,⟨some 32,none,.load true 2 (.t 31)⟩,⟨some 33,none,.call 264 [(.t 32)]⟩,⟨some 34,none,.un .not (.t 33)⟩]) (.cond (.t 34) (.seq (.reg [⟨some 2,none,.mv (.c (.bool false))⟩]) .ret) .skip))) (.reg [⟨some 26,none,.mv (.t 3)⟩,⟨some 27,none,.bin .add false (.t 26) (.c (.int .i64 1))⟩,⟨some 3,none,.mv (.t 27)⟩])))))) (.seq (.reg [⟨some 2,none,.mv (.c (.bool true))⟩]) .ret)))))
theorem F8:codeOf Tryz.prog 264=some ⟨35,E1,[(.tmp 2)]⟩:=by kernel_rfl
theorem AS:modes 264=⟨[],.asis,none,false⟩:=by unfold modes; rfl
theorem Qar (x:Tm) (hn:x.nodes≤1099511627776) (ih:∀ y∈x.args,E 264 [y.sv] []=some (.bool y.names,[])):E 264 [x.sv] []=some (.bool x.names,[]):=by
 have hl:=Tm.length_le x.args
 have hx:=Tm.An x
 have h3:=Am x.name
 have h4:=SM x.name
 rw [Tm.EZ]
 cases hv:Ao x.name with
 | true =>
  rw [hv] at h3
  refine Ad F8 AS (of_decide_eq_true rfl) ?_
  simp (disch:=omega) only [E1,go_sem,Aa,h3,Ah]
  rw [KX]; cases x.args <;> simp <;> omega
 | false =>
  rw [hv] at h3
  cases hs:Fy x.name with
  | false =>
   rw [hs] at h4
   refine Ad F8 AS (of_decide_eq_true rfl) ?_
   simp (disch:=omega) only [E1,go_sem,Aa,h3,h4,Ah,Bz]
  | true =>
   rw [hs] at h4
   rcases zI 4 x.args.length with h5 | h5
   ·refine Ad F8 AS (of_decide_eq_true rfl) ?_
    simp (disch:=omega) only [E1,go_sem,Aa,h3,h4,Ah,Bz]
    simp; omega
   ·refine Ad F8 AS (of_decide_eq_true rfl) ?_
    simp (disch:=omega) only [E1,go_sem,Aa,h3,h4,Ah,Bz]
    refine go_loop (α:=Int) (fun a=>⟨slots 35 0 [(1,.ptr 0 0),(3,.int .i64 a)],[.box 33 [.str x.name,.arr (x.args.map Tm.d)]]⟩) (fun a=>∃ k:Nat,a=k∧k≤(x.args).length∧Tm.Ez (x.args.drop k)=Tm.Ez x.args) (fun a=>(x.args).length-(a).toNat) 0 ⟨0,rfl,zR _,by rw [zS]⟩ (by simp (disch:=omega) only [go_sem,Aa]) ?_
    rintro i ⟨k,hi,hk,hR⟩
    have hni:i.toNat=k:=by omega
    have hni1:(i+1).toNat=k+1:=by omega
    rcases zI k (x.args).length with hlt | hge
    ·have hg:=get_at Tm.d hlt
     rw [Tm.d_eq] at hg
     have hc:=ih x.args[k] (zH hlt)
     rw [zK hlt,Tm.Ez] at hR
     cases hp:x.args[k].names with
     | true =>
      rw [hp] at hc hR
      simp (disch:=omega) only [go_sem,Aa,hni,hg,hc,AS]
      exact ⟨i+1,⟨k+1,by omega,hlt,by simpa using hR⟩,by omega,by first | trivial | rfl⟩
     | false =>
      rw [hp] at hc hR
      simp (disch:=omega) only [go_sem,Aa,hni,hg,hc,AS]
      simp at hR ⊢; exact fun _=>hR
    ·rw [zO hge,Tm.Ez] at hR
     simp (disch:=omega) only [go_sem,Aa,hni]
     simp [h5,← hR]
theorem Mw (x:Tm) (hn:x.nodes≤1099511627776):E 264 [x.sv] []=some (.bool x.names,[]) :=
 Qar x hn fun y hy=>Mw y (by have:=Tm.AW hy; have:=Tm.An x; omega)
termination_by SizeOf.sizeOf x
decreasing_by exact Tm.lt_of_mem hy
def HN:SC:=(.seq (.reg [⟨some 1,none,.boxv 33 2 (.t 0)⟩,⟨some 2,none,.mv (.c (.bool false))⟩]) (.seq (.reg [⟨some 3,none,.load true 2 (.t 1)⟩,⟨some 4,none,.call 296 [(.t 3)]⟩,⟨some 5,none,.bin .leq false (.t 4) (.c (.int .i64 30))⟩,⟨some 6,none,.mv (.t 5)⟩,⟨(some 7),(some (6,true)),(.load true 2 (.t 1))⟩,⟨(some 8),(some (6,true)),(.call 297 [(.t 7)])⟩,⟨(some 9),(some (6,true)),(.bin .leq false (.t 8) (.c (.int .i64 8)))⟩,⟨some 10,none,.pick (.t 6) (.t 9) (.c (.bool false))⟩,⟨some 2,none,.mv (.t 10)⟩]) .ret))
theorem Lr:codeOf Tryz.prog 244=some ⟨11,HN,[(.tmp 2)]⟩:=by kernel_rfl
theorem Bl:modes 244=⟨[],.asis,none,false⟩:=by unfold modes; rfl
def IV:SC:=(.seq (.reg [⟨some 1,none,.boxv 33 2 (.t 0)⟩,⟨some 2,none,.mv (.c (.bool false))⟩]) (.seq (.reg [⟨some 3,none,.load true 2 (.t 1)⟩,⟨some 4,none,.call 307 [(.t 3),(.c (.int .i64 30))]⟩,⟨some 5,none,.bin .leq false (.t 4) (.c (.int .i64 30))⟩,⟨some 6,none,.mv (.t 5)⟩,⟨(some 7),(some (6,true)),(.load true 2 (.t 1))⟩,⟨(some 8),(some (6,true)),(.call 308 [(.t 7)])⟩,⟨(some 9),(some (6,true)),(.bin .leq false (.t 8) (.c (.int .i64 8)))⟩,⟨some 10,none,.pick (.t 6) (.t 9) (.c (.bool false))⟩,⟨some 2,none,.mv (.t 10)⟩]) .ret))
theorem MR:codeOf Tryz.prog 263=some ⟨11,IV,[(.tmp 2)]⟩:=by kernel_rfl
theorem BP:modes 263=⟨[],.asis,none,false⟩:=by unfold modes; rfl
def Fv:SC:=(.seq (.reg [⟨some 1,none,.boxv 33 2 (.t 0)⟩,⟨some 2,none,.mv (.c (.bool false))⟩]) (.seq (.reg [⟨some 3,none,.load true 2 (.t 1)⟩,⟨some 4,none,.call 244 [(.t 3)]⟩,⟨some 5,none,.mv (.t 4)⟩,⟨(some 6),(some (5,true)),(.load true 2 (.t 1))⟩,⟨(some 7),(some (5,true)),(.call 245 [(.t 6)])⟩,⟨some 8,none,.pick (.t 5) (.t 7) (.c (.bool false))⟩,⟨some 2,none,.mv (.t 8)⟩]) .ret))
theorem HO:codeOf Tryz.prog 246=some ⟨9,Fv,[(.tmp 2)]⟩:=by kernel_rfl
theorem AK:modes 246=⟨[],.asis,none,false⟩:=by unfold modes; rfl
def IW:SC:=(.seq (.reg [⟨some 1,none,.boxv 33 2 (.t 0)⟩,⟨some 2,none,.mv (.c (.bool false))⟩]) (.seq (.reg [⟨some 3,none,.load true 2 (.t 1)⟩,⟨some 4,none,.call 263 [(.t 3)]⟩,⟨some 5,none,.mv (.t 4)⟩,⟨(some 6),(some (5,true)),(.load true 2 (.t 1))⟩,⟨(some 7),(some (5,true)),(.call 264 [(.t 6)])⟩,⟨some 8,none,.pick (.t 5) (.t 7) (.c (.bool false))⟩,⟨some 2,none,.mv (.t 8)⟩]) .ret))
theorem MS:codeOf Tryz.prog 266=some ⟨9,IW,[(.tmp 2)]⟩:=by kernel_rfl
theorem Bg:modes 266=⟨[],.asis,none,false⟩:=by unfold modes; rfl
def Iw:SC:=(.seq (.reg [⟨some 1,none,.boxv 33 2 (.t 0)⟩,⟨some 2,none,.mv (.c (.bool false))⟩]) (.seq (.reg [⟨some 3,none,.faddr 0 (.t 1)⟩,⟨some 4,none,.load false 1 (.t 3)⟩,⟨(some 5),none,(.bin .eql false (.t 4) (.c (.str ⟨#[61]⟩)))⟩,⟨some 2,none,.mv (.t 5)⟩]) .ret))
theorem Ot:codeOf Tryz.prog 243=some ⟨6,Iw,[(.tmp 2)]⟩:=by kernel_rfl
theorem BR:modes 243=⟨[],.asis,none,false⟩:=by unfold modes; rfl
def BG:SC:=(.seq (.reg [⟨some 1,none,.boxv 33 2 (.t 0)⟩,⟨some 2,none,.mv (.c (.bool false))⟩]) (.seq (.seq (.reg [⟨some 3,none,.load true 2 (.t 1)⟩,⟨some 4,none,.call 243 [(.t 3)]⟩]) (.cond (.t 4) (.seq (.reg [⟨some 5,none,.faddr 1 (.t 1)⟩,⟨some 6,none,.load false 1 (.t 5)⟩,⟨some 7,none,.len false (.t 6)⟩,⟨some 8,none,.bin .eql false (.t 7) (.c (.int .i64 2))⟩,⟨some 9,none,.mv (.t 8)⟩,⟨(some 10),(some (9,true)),(.load true 2 (.t 1))⟩,⟨(some 11),(some (9,true)),(.call 244 [(.t 10)])⟩,⟨some 12,none,.pick (.t 9) (.t 11) (.c (.bool false))⟩,⟨some 13,none,.mv (.t 12)⟩,⟨(some 14),(some (13,true)),(.faddr 1 (.t 1))⟩,⟨(some 15),(some (13,true)),(.load false 1 (.t 14))⟩,⟨(some 16),(some (13,true)),(.iaddr 2 (.t 15) (.c (.int .i64 0)))⟩,⟨(some 17),(some (13,true)),(.load true 2 (.t 16))⟩,⟨(some 18),(some (13,true)),(.call 245 [(.t 17)])⟩,⟨some 19,none,.pick (.t 13) (.t 18) (.c (.bool false))⟩,⟨some 20,none,.mv (.t 19)⟩,⟨(some 21),(some (20,true)),(.faddr 1 (.t 1))⟩,⟨(some 22),(some (20,true)),(.load false 1 (.t 21))⟩,⟨(some 23),(some (20,true)),(.iaddr 2 (.t 22) (.c (.int .i64 1)))⟩,⟨(some 24),(some (20,true)),(.load true 2 (.t 23))⟩,⟨(some 25),(some (20,true)),(.call 245 [(.t 24)])⟩,⟨some 26,none,.pick (.t 20) (.t 25) (.c (.bool false))⟩,⟨some 2,none,.mv (.t 26)⟩]) .ret) .skip)) (.seq (.reg [⟨some 27,none,.faddr 0 (.t 1)⟩,⟨some 28,none,.load false 1 (.t 27)⟩,⟨some 29,none,.call 184 [(.t 28)]⟩,⟨some 30,none,.mv (.t 29)⟩,⟨(some 31),(some (30,true)),(.load true 2 (.t 1))⟩,⟨(some 32),(some (30,true)),(.call 246 [(.t 31)])⟩,⟨some 33,none,.pick (.t 30) (.t 32) (.c (.bool false))⟩,⟨some 2,none,.mv (.t 33)⟩]) .ret)))
theorem Cp:codeOf Tryz.prog 178=some ⟨34,BG,[(.tmp 2)]⟩:=by kernel_rfl
theorem BH:modes 178=⟨[],.asis,none,false⟩:=by unfold modes; rfl
def Ds:SC:=(.seq (.reg [⟨some 1,none,.boxv 33 2 (.t 0)⟩,⟨some 2,none,.mv (.c (.bool false))⟩]) (.seq (.seq (.reg [⟨some 3,none,.faddr 0 (.t 1)⟩,⟨some 4,none,.load false 1 (.t 3)⟩,⟨(some 5),none,(.bin .eql false (.t 4) (.c (.str ⟨#[61]⟩)))⟩]) (.cond (.t 5) (.seq (.reg [⟨some 6,none,.faddr 1 (.t 1)⟩,⟨some 7,none,.load false 1 (.t 6)⟩,⟨some 8,none,.len false (.t 7)⟩,⟨some 9,none,.bin .eql false (.t 8) (.c (.int .i64 2))⟩,⟨some 10,none,.mv (.t 9)⟩,⟨(some 11),(some (10,true)),(.load true 2 (.t 1))⟩,⟨(some 12),(some (10,true)),(.call 263 [(.t 11)])⟩,⟨some 13,none,.pick (.t 10) (.t 12) (.c (.bool false))⟩,⟨some 14,none,.mv (.t 13)⟩,⟨(some 15),(some (14,true)),(.faddr 1 (.t 1))⟩,⟨(some 16),(some (14,true)),(.load false 1 (.t 15))⟩,⟨(some 17),(some (14,true)),(.iaddr 2 (.t 16) (.c (.int .i64 0)))⟩,⟨(some 18),(some (14,true)),(.load true 2 (.t 17))⟩,⟨(some 19),(some (14,true)),(.call 264 [(.t 18)])⟩,⟨some 20,none,.pick (.t 14) (.t 19) (.c (.bool false))⟩,⟨some 21,none,.mv (.t 20)⟩,⟨(some 22),(some (21,true)),(.faddr 1 (.t 1))⟩,⟨(some 23),(some (21,true)),(.load false 1 (.t 22))⟩,⟨(some 24),(some (21,true)),(.iaddr 2 (.t 23) (.c (.int .i64 1)))⟩,⟨(some 25),(some (21,true)),(.load true 2 (.t 24))⟩,⟨(some 26),(some (21,true)),(.call 264 [(.t 25)])⟩,⟨some 27,none,.pick (.t 21) (.t 26) (.c (.bool false))⟩,⟨some 2,none,.mv (.t 27)⟩]) .ret) .skip)) (.seq (.reg [⟨some 28,none,.faddr 0 (.t 1)⟩,⟨some 29,none,.load false 1 (.t 28)⟩,⟨some 30,none,.call 265 [(.t 29)]⟩,⟨some 31,none,.mv (.t 30)⟩,⟨(some 32),(some (31,true)),(.load true 2 (.t 1))⟩,⟨(some 33),(some (31,true)),(.call 266 [(.t 32)])⟩,⟨some 34,none,.pick (.t 31) (.t 33) (.c (.bool false))⟩,⟨some 2,none,.mv (.t 34)⟩]) .ret)))
theorem Ef:codeOf Tryz.prog 194=some ⟨35,Ds,[(.tmp 2)]⟩:=by kernel_rfl
theorem AV:modes 194=⟨[],.asis,none,false⟩:=by unfold modes; rfl
def Ka:SC:=(.seq (.reg [⟨some 1,none,.boxv 33 2 (.t 0)⟩,⟨some 2,none,.mv (.c (.bool false))⟩]) (.seq (.reg [⟨some 3,none,.load true 2 (.t 1)⟩,⟨some 4,none,.call 266 [(.t 3)]⟩,⟨some 5,none,.mv (.t 4)⟩,⟨(some 6),(some (5,false)),(.load true 2 (.t 1))⟩,⟨(some 7),(some (5,false)),(.call 194 [(.t 6)])⟩,⟨some 8,none,.pick (.t 5) (.c (.bool true)) (.t 7)⟩,⟨some 2,none,.mv (.t 8)⟩]) .ret))
theorem Ou:codeOf Tryz.prog 311=some ⟨9,Ka,[(.tmp 2)]⟩:=by kernel_rfl
theorem F9:modes 311=⟨[],.asis,none,false⟩:=by unfold modes; rfl
theorem My (x:Tm) (hn:x.nodes≤1099511627776):E 244 [x.sv] []=some (.bool x.small,[]):=by
 have h1:=Qdz x hn
 have h2:=Qbp x hn
 have h3:=Tm.On x
 have h4:=Tm.Mv x 30
 unfold Tm.small
 rcases zI 30 x.nodes with h5 | h5
 ·rw [decide_eq_false (by omega),z7]
  refine Ad Lr Bl (of_decide_eq_true rfl) ?_
  simp (disch:=omega) only [HN,go_sem,Aa,h1,h2,GE,Hp]
 ·rw [decide_eq_true h5,yS]
  refine Ad Lr Bl (of_decide_eq_true rfl) ?_
  simp (disch:=omega) only [HN,go_sem,Aa,h1,h2,GE,Hp]
  rcases zI 8 x.deep with h6 | h6
  ·rw [decide_eq_false (by omega),Ay (by omega)]
  ·rw [decide_eq_true h6,At (by omega)]
theorem Yw (x:Tm) (hn:x.nodes≤1099511627776):E 263 [x.sv] []=some (.bool x.small,[]):=by
 have h1:=Qd0 x 30 (by omega) (by omega) hn
 have h2:=Vo x hn
 have h3:=Tm.On x
 have h4:=Tm.Mv x 30
 unfold Tm.small
 rcases zI 30 x.nodes with h5 | h5
 ·rw [decide_eq_false (by omega),z7]
  refine Ad MR BP (of_decide_eq_true rfl) ?_
  simp (disch:=omega) only [IV,go_sem,Aa,h1,h2,Fa,F7]
 ·rw [decide_eq_true h5,yS]
  refine Ad MR BP (of_decide_eq_true rfl) ?_
  simp (disch:=omega) only [IV,go_sem,Aa,h1,h2,Fa,F7]
  rcases zI 8 x.deep with h6 | h6
  ·rw [decide_eq_false (by omega),Ay (by omega)]
  ·rw [decide_eq_true h6,At (by omega)]
theorem MT (x:Tm) (hn:x.nodes≤1099511627776):E 246 [x.sv] []=some (.bool x.valid,[]):=by
 have h1:=My x hn
 have h2:=JZ x hn
 unfold Tm.valid
 cases h3:x.small <;> rw [h3] at h1
 ·refine Ad HO AK (of_decide_eq_true rfl) ?_
  simp (disch:=omega) only [Fv,go_sem,Aa,h1,h2,Bl,AR]
 ·refine Ad HO AK (of_decide_eq_true rfl) ?_
  simp (disch:=omega) only [Fv,go_sem,Aa,h1,h2,Bl,AR]
theorem SP (x:Tm) (hn:x.nodes≤1099511627776):E 266 [x.sv] []=some (.bool x.valid,[]):=by
 have h1:=Yw x hn
 have h2:=Mw x hn
 unfold Tm.valid
 cases h3:x.small <;> rw [h3] at h1
 ·refine Ad MS Bg (of_decide_eq_true rfl) ?_
  simp (disch:=omega) only [IW,go_sem,Aa,h1,h2,BP,AS]
 ·refine Ad MS Bg (of_decide_eq_true rfl) ?_
  simp (disch:=omega) only [IW,go_sem,Aa,h1,h2,BP,AS]
theorem Ov (x:Tm):E 243 [x.sv] []=some (.bool x.eqn,[]):=by
 unfold Tm.eqn
 refine Ad Ot BR (of_decide_eq_true rfl) ?_
 simp (disch:=omega) only [Iw,go_sem,Aa]
theorem Uj (x:Tm) (hn:x.nodes≤1099511627776):E 178 [x.sv] []=some (.bool x.atom,[]):=by
 have hl:=Tm.length_le x.args
 have hx:=Tm.An x
 have h0:=Ov x
 have h1:=My x hn
 have h2:=SL x.name
 have h3:=MT x hn
 have hE:dec (x.name=⟨#[61]⟩)=x.eqn:=rfl
 unfold Tm.atom
 cases he:x.eqn <;> rw [he] at h0 hE
 ·rw [if_neg (by simp)]
  cases hs:Fy x.name <;> rw [hs] at h2
  ·refine Ad Cp BH (of_decide_eq_true rfl) ?_
   simp (disch:=omega) only [BG,go_sem,Aa,h0,h1,h2,h3,hE,Bl,AR,By,AK,BR]
  ·refine Ad Cp BH (of_decide_eq_true rfl) ?_
   simp (disch:=omega) only [BG,go_sem,Aa,h0,h1,h2,h3,hE,Bl,AR,By,AK,BR]
 ·rw [if_pos rfl]
  by_cases hc:x.args.length=2
  ·have hlt0:0<x.args.length:=by omega
   have hlt1:1<x.args.length:=by omega
   have hg0:=get_at Tm.d hlt0
   have hg1:=get_at Tm.d hlt1
   rw [Tm.d_eq] at hg0 hg1
   have hb0:=Tm.GD x.args 0 hlt0
   have hb1:=Tm.GD x.args 1 hlt1
   have hn0:=JZ x.args[0] (by omega)
   have hn1:=JZ x.args[1] (by omega)
   rw [Vm hc,show (x.args.length == 2)=true by simpa using hc]
   cases hs:x.small <;> rw [hs] at h1
   ·refine Ad Cp BH (of_decide_eq_true rfl) ?_
    simp (disch:=omega) only [BG,go_sem,Aa,h0,h1,h2,h3,hE,hg0,hg1,hn0,hn1,hc,Bl,AR,By,AK,BR]
    try simp
   ·cases hq:(x.args[0]'hlt0).names <;> rw [hq] at hn0
    ·refine Ad Cp BH (of_decide_eq_true rfl) ?_
     simp (disch:=omega) only [BG,go_sem,Aa,h0,h1,h2,h3,hE,hg0,hg1,hn0,hn1,hc,Bl,AR,By,AK,BR]
     try simp
    ·refine Ad Cp BH (of_decide_eq_true rfl) ?_
     simp (disch:=omega) only [BG,go_sem,Aa,h0,h1,h2,h3,hE,hg0,hg1,hn0,hn1,hc,Bl,AR,By,AK,BR]
     try simp
  ·refine Ad Cp BH (of_decide_eq_true rfl) ?_
   simp (disch:=omega) only [BG,go_sem,Aa,h0,h1,h2,h3,hE,Bl,AR,By,AK,BR]
   rw [show (x.args.length == 2)=false by simpa using hc]
   try simp
theorem SQ (x:Tm) (hn:x.nodes≤1099511627776):E 194 [x.sv] []=some (.bool x.atom,[]):=by
 have hl:=Tm.length_le x.args
 have hx:=Tm.An x
 have h0:=Ov x
 have h1:=Yw x hn
 have h2:=SM x.name
 have h3:=SP x hn
 have hE:dec (x.name=⟨#[61]⟩)=x.eqn:=rfl
 unfold Tm.atom
 cases he:x.eqn <;> rw [he] at h0 hE
 ·rw [if_neg (by simp)]
  cases hs:Fy x.name <;> rw [hs] at h2
  ·refine Ad Ef AV (of_decide_eq_true rfl) ?_
   simp (disch:=omega) only [Ds,go_sem,Aa,h0,h1,h2,h3,hE,BP,AS,Bz,Bg]
  ·refine Ad Ef AV (of_decide_eq_true rfl) ?_
   simp (disch:=omega) only [Ds,go_sem,Aa,h0,h1,h2,h3,hE,BP,AS,Bz,Bg]
 ·rw [if_pos rfl]
  by_cases hc:x.args.length=2
  ·have hlt0:0<x.args.length:=by omega
   have hlt1:1<x.args.length:=by omega
   have hg0:=get_at Tm.d hlt0
   have hg1:=get_at Tm.d hlt1
   rw [Tm.d_eq] at hg0 hg1
   have hb0:=Tm.GD x.args 0 hlt0
   have hb1:=Tm.GD x.args 1 hlt1
   have hn0:=Mw x.args[0] (by omega)
   have hn1:=Mw x.args[1] (by omega)
   rw [Vm hc,show (x.args.length == 2)=true by simpa using hc]
   cases hs:x.small <;> rw [hs] at h1
   ·refine Ad Ef AV (of_decide_eq_true rfl) ?_
    simp (disch:=omega) only [Ds,go_sem,Aa,h0,h1,h2,h3,hE,hg0,hg1,hn0,hn1,hc,BP,AS,Bz,Bg]
    try simp
   ·cases hq:(x.args[0]'hlt0).names <;> rw [hq] at hn0
    ·refine Ad Ef AV (of_decide_eq_true rfl) ?_
     simp (disch:=omega) only [Ds,go_sem,Aa,h0,h1,h2,h3,hE,hg0,hg1,hn0,hn1,hc,BP,AS,Bz,Bg]
     try simp
    ·refine Ad Ef AV (of_decide_eq_true rfl) ?_
     simp (disch:=omega) only [Ds,go_sem,Aa,h0,h1,h2,h3,hE,hg0,hg1,hn0,hn1,hc,BP,AS,Bz,Bg]
     try simp
  ·refine Ad Ef AV (of_decide_eq_true rfl) ?_
   simp (disch:=omega) only [Ds,go_sem,Aa,h0,h1,h2,h3,hE,BP,AS,Bz,Bg]
   rw [show (x.args.length == 2)=false by simpa using hc]
   try simp
theorem PD {xs ys:List Tm} {k:Nat} (h:k<xs.length) (h':k<ys.length):Tm.cmpL (xs.drop k) (ys.drop k)=orZ (xs[k].cmp ys[k]) (Tm.cmpL (xs.drop (k+1)) (ys.drop (k+1))):=by
 rw [zK h,zK h',Tm.cmpL]
theorem SR {xs ys:List Tm} {k:Nat} (h:k<xs.length) (h':ys.length≤k):Tm.cmpL (xs.drop k) (ys.drop k)=1:=by
 rw [zK h,zO h',Tm.cmpL]
theorem Yx {xs ys:List Tm} {k:Nat} (h:xs.length≤k) (h':k<ys.length):Tm.cmpL (xs.drop k) (ys.drop k)=-1:=by
 rw [zK h',zO h,Tm.cmpL]
theorem PE {xs ys:List Tm} {k:Nat} (h:xs.length≤k) (h':ys.length≤k):Tm.cmpL (xs.drop k) (ys.drop k)=0:=by
 rw [zO h',zO h,Tm.cmpL]
theorem HP {p:Nat→Int→Bool} {s:ByteArray} (h:FV p s s.size=true) (hs:0<s.size):p 0 (Kz s 0)=true:=by
 unfold FV at h
 rw [List.all_eq_true] at h
 exact h 0 (yJ.2 hs)
theorem Qck {s:ByteArray} (h:Ao s=true):Li s=true:=by
 have h0:=h
 unfold Ao inB at h
 rw [zB,zB,decide_eq_true_eq,decide_eq_true_eq] at h
 have hs:0<s.size:=by omega
 have h1:=HP h.1 hs
 unfold K0 at h1
 unfold Li
 rw [h0]
 simp at h1
 simp [hs,h1]
theorem Vp {s:ByteArray} (hs:0<s.size) (h:S2 (Kz s 0)=false):Li s=true:=by
 have hv:Ao s=false:=by
  rw [Bool.eq_false_iff]
  intro hv
  unfold Ao at hv
  rw [zB] at hv
  have h1:=HP hv.1 hs
  unfold K0 at h1
  rw [h] at h1
  simp at h1
 unfold Li
 rw [hv,h]
 simp [hs]
theorem Qcl {s:ByteArray} (h:Fy s=true):Li s=true:=by
 unfold Fy inB at h
 rw [zB,zB,zB,decide_eq_true_eq,decide_eq_true_eq] at h
 have hs:0<s.size:=by omega
 refine Vp hs ?_
 have h1:=HP h.1.1 hs
 unfold Lg at h1
 simp at h1
 have h2:=h1.1
 unfold Wq at h2
 unfold S2
 simp at h2 ⊢
 omega
theorem Qcm {s:ByteArray} (h:s.toList=[61]):Li s=true:=by
 have hs:s.size=1:=by
  have:=congrArg List.length h
  rw [ByteArray.toList_eq] at this
  simpa using this
 refine Vp (by omega) ?_
 unfold Kz
 rw [h]
 rfl
mutual
theorem Tm.Jx:∀ x:Tm,x.names=true→x.cok=true
 | .mk n xs,h=>by
  rw [Tm.names] at h
  rw [Tm.cok,zB]
  split at h
  ·rename_i hv
   have:xs=[]:=by
    rw [beq_iff_eq] at h
    exact yA h
   subst this
   exact ⟨Qck hv,rfl⟩
  ·rw [zB,zB] at h
   exact ⟨Qcl h.1.1,Tm.Nz xs h.2⟩
theorem Tm.Nz:∀ xs:List Tm,Tm.Ez xs=true→Tm.Uf xs=true
 | [],_=>rfl
 | x :: xs,h=>by
  rw [Tm.Ez,zB] at h
  rw [Tm.Uf,zB]
  exact ⟨Tm.Jx x h.1,Tm.Nz xs h.2⟩
end
theorem Tm.HQ {x:Tm} (h:x.atom=true):x.cok=true:=by
 unfold Tm.atom at h
 rcases he:x.eqn with _ | _
 ·rw [he,if_neg (by simp),zB] at h
  unfold Tm.valid at h
  rw [zB] at h
  exact Tm.Jx x h.2.2
 ·rw [he,if_pos rfl,zB,zB] at h
  unfold Tm.eqn at he
  rw [Ar] at he
  rw [Tm.Lj,zB]
  exact ⟨Qcm (by rw [he,ByteArray.toList_eq]),Tm.Nz _ h.2⟩
theorem Qcn {s:ByteArray} {k:Nat} (h:k<s.size):JL s k=Kz s k:=by
 rw [←Gi h]
 unfold JL
 rw [show s[k]?=some s[k] from getElem?_pos s k h]; rfl
theorem Vq {s:ByteArray} (h:Li s=true):0<s.size∧(dec (65≤JL s 0)&&dec (JL s 0≤90))=Ao s:=by
 unfold Li at h
 rw [zB,decide_eq_true_eq,beq_iff_eq] at h
 refine ⟨h.1,?_⟩
 rw [←h.2,Qcn h.1,KX,KX]
 unfold S2
 rfl
theorem HS (a:ByteArray):strLt a a=false:=by
 unfold strLt
 have key:∀ l:List UInt8,Op.bytesLess l l=false:=by
  intro l
  induction l with
  | nil=>rfl
  | cons x l ih=>simp [Op.bytesLess,ih]
 exact key _
def CQ:SC:=(.seq (.reg [⟨some 2,none,.mv (.c (.bool false))⟩]) (.seq (.reg [⟨some 3,none,.mv (.t 0)⟩,⟨some 4,none,.mv (.t 0)⟩,⟨some 5,none,.bin .neq false (.t 3) (.t 4)⟩,⟨some 2,none,.mv (.t 5)⟩]) .ret))
theorem Fw:codeOf Tryz.prog 305=some ⟨6,CQ,[(.tmp 2)]⟩:=by kernel_rfl
theorem Bj:modes 305=⟨[],.asis,none,false⟩:=by unfold modes; rfl
def DW:SC:=(.seq (.reg [⟨some 2,none,.mv (.c (.bool false))⟩]) (.seq (.reg [⟨some 3,none,.mv (.t 0)⟩,⟨some 4,none,.mv (.t 0)⟩,⟨some 5,none,.bin .neq false (.t 3) (.t 4)⟩,⟨some 2,none,.mv (.t 5)⟩]) .ret))
theorem GU:codeOf Tryz.prog 314=some ⟨6,DW,[(.tmp 2)]⟩:=by kernel_rfl
theorem BC:modes 314=⟨[],.asis,none,false⟩:=by unfold modes; rfl
def AT:SC:=(.seq (.reg [⟨some 4,none,.mv (.c (.int .i64 0))⟩]) (.seq (.reg [⟨some 7,none,.mv (.t 0)⟩,⟨some 8,none,.call 305 [(.t 7)]⟩,⟨some 5,none,.mv (.t 8)⟩]) (.seq (.reg [⟨some 9,none,.mv (.t 1)⟩,⟨some 10,none,.call 305 [(.t 9)]⟩,⟨some 6,none,.mv (.t 10)⟩]) (.seq (.seq (.reg [⟨some 11,none,.mv (.t 5)⟩]) (.cond (.t 11) (.seq (.seq (.reg [⟨some 12,none,.mv (.t 6)⟩]) (.cond (.t 12) (.seq (.reg [⟨some 4,none,.mv (.c (.int .i64 0))⟩]) .ret) .skip)) (.seq (.reg [⟨some 4,none,.mv (.c (.int .i64 (-(0+1))))⟩]) .ret)) .skip)) (.seq (.seq (.reg [⟨some 13,none,.mv (.t 6)⟩]) (.cond (.t 13) (.seq (.reg [⟨some 4,none,.mv (.c (.int .i64 1))⟩]) .ret) .skip)) (.seq (.seq (.reg [⟨some 14,none,.mv (.t 0)⟩,⟨some 15,none,.mv (.t 1)⟩,⟨some 16,none,.bin .lss false (.t 14) (.t 15)⟩]) (.cond (.t 16) (.seq (.reg [⟨some 4,none,.mv (.c (.int .i64 (-(0+1))))⟩]) .ret) .skip)) (.seq (.seq (.reg [⟨some 17,none,.mv (.t 0)⟩,⟨some 18,none,.mv (.t 1)⟩,⟨some 19,none,.bin .gtr false (.t 17) (.t 18)⟩]) (.cond (.t 19) (.seq (.reg [⟨some 4,none,.mv (.c (.int .i64 1))⟩]) .ret) .skip)) (.seq (.reg [⟨some 4,none,.mv (.c (.int .i64 0))⟩]) .ret))))))))
theorem Bx:codeOf Tryz.prog 283=some ⟨20,AT,[(.tmp 4)]⟩:=by kernel_rfl
theorem A8:modes 283=⟨[],.asis,none,false⟩:=by unfold modes; rfl
def Bs:SC:=(.seq (.reg [⟨some 4,none,.mv (.c (.int .i64 0))⟩]) (.seq (.reg [⟨some 7,none,.mv (.t 0)⟩,⟨some 8,none,.call 314 [(.t 7)]⟩,⟨some 5,none,.mv (.t 8)⟩]) (.seq (.reg [⟨some 9,none,.mv (.t 1)⟩,⟨some 10,none,.call 314 [(.t 9)]⟩,⟨some 6,none,.mv (.t 10)⟩]) (.seq (.seq (.reg [⟨some 11,none,.mv (.t 5)⟩]) (.cond (.t 11) (.seq (.seq (.reg [⟨some 12,none,.mv (.t 6)⟩]) (.cond (.t 12) (.seq (.reg [⟨some 4,none,.mv (.c (.int .i64 0))⟩]) .ret) .skip)) (.seq (.reg [⟨some 4,none,.mv (.c (.int .i64 (-(0+1))))⟩]) .ret)) .skip)) (.seq (.seq (.reg [⟨some 13,none,.mv (.t 6)⟩]) (.cond (.t 13) (.seq (.reg [⟨some 4,none,.mv (.c (.int .i64 1))⟩]) .ret) .skip)) (.seq (.seq (.reg [⟨some 14,none,.mv (.t 0)⟩,⟨some 15,none,.mv (.t 1)⟩,⟨some 16,none,.bin .lss false (.t 14) (.t 15)⟩]) (.cond (.t 16) (.seq (.reg [⟨some 4,none,.mv (.c (.int .i64 (-(0+1))))⟩]) .ret) .skip)) (.seq (.seq (.reg [⟨some 17,none,.mv (.t 0)⟩,⟨some 18,none,.mv (.t 1)⟩,⟨some 19,none,.bin .gtr false (.t 17) (.t 18)⟩]) (.cond (.t 19) (.seq (.reg [⟨some 4,none,.mv (.c (.int .i64 1))⟩]) .ret) .skip)) (.seq (.reg [⟨some 4,none,.mv (.c (.int .i64 0))⟩]) .ret))))))))
theorem BS:codeOf Tryz.prog 274=some ⟨20,Bs,[(.tmp 4)]⟩:=by kernel_rfl
theorem AI:modes 274=⟨[],.asis,none,false⟩:=by unfold modes; rfl
def FA:SC:=(.seq (.reg [⟨some 2,none,.mv (.c (.int .i64 0))⟩]) (.seq (.reg [⟨some 3,none,.mv (.c (.int .i64 0))⟩]) (.seq (.seq (.reg [⟨some 6,none,.mv (.t 0)⟩,⟨some 7,none,.len false (.t 6)⟩,⟨some 8,none,.mv (.c (.int .i64 0))⟩]) (.block 0 (.loop [0,0,0,1,0,0,1,1,1,0,0,0,0,0,0,0,0,0] (.seq (.reg [⟨some 9,none,.bin .lss false (.t 8) (.t 7)⟩]) (.seq (.cond (.t 9) .skip (.exit 0)) (.seq (.block 1 (.seq (.reg [⟨some 10,none,.iaddr 1 (.t 6) (.t 8)⟩,⟨some 11,none,.load false 1 (.t 10)⟩,⟨some 5,none,.mv (.t 11)⟩]) (.seq (.reg [⟨some 12,none,.mv (.t 5)⟩,⟨some 13,none,.mv (.t 3)⟩,⟨some 14,none,.bin .neq false (.t 12) (.t 13)⟩]) (.cond (.t 14) (.seq (.reg [⟨some 15,none,.mv (.t 5)⟩,⟨some 2,none,.mv (.t 15)⟩]) .ret) .skip)))) (.reg [⟨some 16,none,.bin .add false (.t 8) (.c (.int .i64 1))⟩,⟨some 8,none,.mv (.t 16)⟩]))))))) (.seq (.reg [⟨some 17,none,.mv (.t 3)⟩,⟨some 2,none,.mv (.t 17)⟩]) .ret))))
theorem Kb:codeOf Tryz.prog 272=some ⟨18,FA,[(.tmp 2)]⟩:=by kernel_rfl
theorem CG:modes 272=⟨[],.asis,none,false⟩:=by unfold modes; rfl
theorem Ls (a:ByteArray):E 305 [.str a] []=some (.bool false,[]):=by
 refine Ad Fw Bj (of_decide_eq_true rfl) ?_
 simp (disch:=omega) only [CQ,go_sem,Aa]
theorem Lu (a:Int):E 314 [.int .i64 a] []=some (.bool false,[]):=by
 refine Ad GU BC (of_decide_eq_true rfl) ?_
 simp (disch:=omega) only [DW,go_sem,Aa]
theorem Kc (a b:ByteArray):E 283 [.str a,.str b] []=some (.int .i64 (ED a b),[]):=by
 have h1:=Ls a
 have h2:=Ls b
 unfold ED
 cases h3:strLt a b
 ·cases h4:dec (a=b)
  ·refine Ad Bx A8 (of_decide_eq_true rfl) ?_
   simp (disch:=omega) only [AT,go_sem,Aa,h1,h2,h3,h4,Bj]
  ·refine Ad Bx A8 (of_decide_eq_true rfl) ?_
   simp (disch:=omega) only [AT,go_sem,Aa,h1,h2,h3,h4,Bj]
 ·refine Ad Bx A8 (of_decide_eq_true rfl) ?_
  simp (disch:=omega) only [AT,go_sem,Aa,h1,h2,h3,Bj]
theorem HT (a b:Int):E 274 [.int .i64 a,.int .i64 b] []=some (.int .i64 (Ho a b),[]):=by
 have h1:=Lu a
 have h2:=Lu b
 unfold Ho
 cases h3:dec (a<b)
 ·cases h4:dec (b<a)
  ·refine Ad BS AI (of_decide_eq_true rfl) ?_
   simp (disch:=omega) only [Bs,go_sem,Aa,h1,h2,h3,h4,BC]
  ·refine Ad BS AI (of_decide_eq_true rfl) ?_
   simp (disch:=omega) only [Bs,go_sem,Aa,h1,h2,h3,h4,BC]
 ·refine Ad BS AI (of_decide_eq_true rfl) ?_
  simp (disch:=omega) only [Bs,go_sem,Aa,h1,h2,h3,BC]
def orL:List Int→Int
 | []=>0
 | x :: xs=>if x=0 then orL xs else x
theorem QfH (xs:List Int) (hl:xs.length≤1099511627776):E 272 [.arr (xs.map fun n=>[D.int n])] []=some (.int .i64 (orL xs),[]):=by
 refine Ad Kb CG (of_decide_eq_true rfl) ?_
 simp (disch:=omega) only [FA,go_sem,Aa]
 refine go_loop (α:=Int) (fun a=>⟨slots 18 0 [(3,.int .i64 0),(6,.arr (xs.map fun n=>[D.int n])),(7,.int .i64 xs.length),(8,.int .i64 a)],[]⟩) (fun a=>∃ k:Nat,a=k∧k≤(xs).length∧orL (xs.drop k)=orL xs) (fun a=>(xs).length-(a).toNat) 0 ⟨0,rfl,zR _,by rw [zS]⟩ (by simp (disch:=omega) only [go_sem,Aa]) ?_
 rintro i ⟨k,hi,hk,hR⟩
 have hni:i.toNat=k:=by omega
 have hni1:(i+1).toNat=k+1:=by omega
 rcases zI k (xs).length with hlt | hge
 ·have hg:=get_at (fun n=>[D.int n]) hlt
  rw [zK hlt,orL] at hR
  by_cases h0:xs[k]=0
  ·rw [if_pos h0] at hR
   simp (disch:=omega) only [go_sem,Aa,hni,hg,h0]
   exact ⟨i+1,⟨k+1,by omega,hlt,hR⟩,by omega,by first | trivial | rfl⟩
  ·rw [if_neg h0] at hR
   simp (disch:=omega) only [go_sem,Aa,hni,hg,h0]
   exact hR
 ·rw [zO hge,orL] at hR
  simp (disch:=omega) only [go_sem,Aa,hni]
  exact hR
theorem Yy (a b:Int):E 272 [.arr [[.int a],[.int b]]] []=some (.int .i64 (orZ a b),[]):=by
 have h:=QfH [a,b] (by simp)
 have e:orL [a,b]=orZ a b:=by
  simp only [orL,orZ]
  split
  ·split <;> omega
  ·rfl
 rw [e] at h
 exact h
def CR:SC:=(.seq (.reg [⟨some 2,none,.mv (.c (.bool false))⟩]) (.seq (.reg [⟨some 3,none,.mv (.t 0)⟩,⟨some 4,none,.bin .geq false (.t 3) (.c (.int .u8 65))⟩,⟨some 5,none,.mv (.t 4)⟩,⟨(some 6),(some (5,true)),(.mv (.t 0))⟩,⟨(some 7),(some (5,true)),(.bin .leq false (.t 6) (.c (.int .u8 90)))⟩,⟨some 8,none,.pick (.t 5) (.t 7) (.c (.bool false))⟩,⟨some 2,none,.mv (.t 8)⟩]) .ret))
theorem E2:codeOf Tryz.prog 240=some ⟨9,CR,[(.tmp 2)]⟩:=by kernel_rfl
theorem CS:modes 240=⟨[],.asis,none,false⟩:=by unfold modes; rfl
def FB:SC:=(.seq (.reg [⟨some 1,none,.boxv 33 2 (.t 0)⟩,⟨some 2,none,.mv (.c (.bool false))⟩]) (.seq (.reg [⟨some 3,none,.faddr 0 (.t 1)⟩,⟨some 4,none,.load false 1 (.t 3)⟩,⟨some 5,none,.idx (.t 4) (.c (.int .i64 0))⟩,⟨some 6,none,.call 240 [(.t 5)]⟩,⟨some 2,none,.mv (.t 6)⟩]) .ret))
theorem Kd:codeOf Tryz.prog 209=some ⟨7,FB,[(.tmp 2)]⟩:=by kernel_rfl
theorem Ak:modes 209=⟨[],.asis,none,false⟩:=by unfold modes; rfl
theorem PF (n:Int):E 240 [.int .u8 n] []=some (.bool (dec (65≤n)&&dec (n≤90)),[]):=by
 cases h1:dec (65≤n)
 ·refine Ad E2 CS (of_decide_eq_true rfl) ?_
  simp (disch:=omega) only [CR,go_sem,Aa,h1]
 ·refine Ad E2 CS (of_decide_eq_true rfl) ?_
  simp (disch:=omega) only [CR,go_sem,Aa,h1]
theorem D0 (x:Tm) (h:x.cok=true):E 209 [x.sv] []=some (.bool (Ao x.name),[]):=by
 rw [Tm.Lj,zB] at h
 obtain ⟨h1,h2⟩:=Vq h.1
 have h3:=PF (JL x.name 0)
 rw [h2] at h3
 refine Ad Kd Ak (of_decide_eq_true rfl) ?_
 simp (disch:=omega) only [FB,go_sem,Aa,h3,CS]
def Au:SC:=(.seq (.reg [⟨some 6,none,.mv (.c (.int .i64 0))⟩]) (.seq (.seq (.reg [⟨some 11,none,.mv (.t 0)⟩,⟨some 12,none,.len false (.t 11)⟩,⟨some 13,none,.mv (.c (.int .i64 0))⟩]) (.block 0 (.loop [1,1,1,0,0,0,0,0,0,0,0,1,1,1,0,0,0,0,0,0,0,0,0,0,0,0,0,0,0,0,0,0,0,0,0,0,0,0,0] (.seq (.reg [⟨some 14,none,.bin .lss false (.t 13) (.t 12)⟩]) (.seq (.cond (.t 14) .skip (.exit 0)) (.seq (.block 1 (.seq (.reg [⟨some 15,none,.mv (.t 13)⟩,⟨some 16,none,.iaddr 2 (.t 11) (.t 13)⟩,⟨some 17,none,.load true 2 (.t 16)⟩,⟨(some 8),none,(.alloc 33 [(.str ⟨#[]⟩),.nil])⟩,⟨some 7,none,.mv (.t 15)⟩,⟨none,none,(.store 2 (.t 8) (.t 17))⟩]) (.seq (.seq (.reg [⟨some 18,none,.mv (.t 7)⟩,⟨some 19,none,.mv (.t 1)⟩,⟨some 20,none,.len false (.t 19)⟩,⟨some 21,none,.bin .geq false (.t 18) (.t 20)⟩]) (.cond (.t 21) (.seq (.reg [⟨some 6,none,.mv (.c (.int .i64 1))⟩]) .ret) .skip)) (.seq (.reg [⟨some 22,none,.mv (.t 1)⟩,⟨some 23,none,.mv (.t 7)⟩,⟨some 24,none,.iaddr 2 (.t 22) (.t 23)⟩,⟨some 25,none,.load true 2 (.t 24)⟩,⟨(some 9),none,(.alloc 33 [(.str ⟨#[]⟩),.nil])⟩,⟨none,none,(.store 2 (.t 9) (.t 25))⟩]) (.seq (.reg [⟨some 26,none,.mv (.t 2)⟩,⟨some 27,none,.load true 2 (.t 8)⟩,⟨some 28,none,.load true 2 (.t 9)⟩,⟨some 29,none,.callv (.t 26) [(.t 27),(.t 28)]⟩,⟨some 10,none,.mv (.t 29)⟩]) (.seq (.reg [⟨some 30,none,.mv (.t 10)⟩,⟨some 31,none,.bin .neq false (.t 30) (.c (.int .i64 0))⟩]) (.cond (.t 31) (.seq (.reg [⟨some 32,none,.mv (.t 10)⟩,⟨some 6,none,.mv (.t 32)⟩]) .ret) .skip))))))) (.reg [⟨some 33,none,.bin .add false (.t 13) (.c (.int .i64 1))⟩,⟨some 13,none,.mv (.t 33)⟩]))))))) (.seq (.seq (.reg [⟨some 34,none,.mv (.t 0)⟩,⟨some 35,none,.len false (.t 34)⟩,⟨some 36,none,.mv (.t 1)⟩,⟨some 37,none,.len false (.t 36)⟩,⟨some 38,none,.bin .lss false (.t 35) (.t 37)⟩]) (.cond (.t 38) (.seq (.reg [⟨some 6,none,.mv (.c (.int .i64 (-(0+1))))⟩]) .ret) .skip)) (.seq (.reg [⟨some 6,none,.mv (.c (.int .i64 0))⟩]) .ret))))
theorem A9:codeOf Tryz.prog 313=some ⟨39,Au,[(.tmp 6)]⟩:=by kernel_rfl
theorem Av:modes 313=⟨[],.asis,none,false⟩:=by unfold modes; rfl
def B4:SC:=(.seq (.reg [⟨some 2,none,.boxv 33 2 (.t 0)⟩,⟨some 3,none,.boxv 33 2 (.t 1)⟩,⟨some 4,none,.mv (.c (.int .i64 0))⟩]) (.seq (.dreg [[],[0],[],[2,1,0],[1,0,3,2],[3,2,1,0,4]] [⟨some 8,none,.load true 2 (.t 2)⟩,⟨some 9,none,.call 209 [(.t 8)]⟩,⟨some 10,none,.load true 2 (.t 3)⟩,⟨some 11,none,.call 209 [(.t 10)]⟩,⟨some 5,none,.mv (.t 9)⟩,⟨some 6,none,.mv (.t 11)⟩]) (.seq (.block 0 (.seq (.reg [⟨some 13,none,.mv (.t 5)⟩,⟨some 14,none,.mv (.t 13)⟩,⟨(some 15),(some (14,true)),(.mv (.t 6))⟩,⟨(some 16),(some (14,true)),(.un .not (.t 15))⟩,⟨some 17,none,.pick (.t 14) (.t 16) (.c (.bool false))⟩,⟨some 12,none,.mv (.t 17)⟩]) (.cond (.t 12) (.seq (.reg [⟨some 4,none,.mv (.c (.int .i64 (-(0+1))))⟩]) .ret) (.seq (.reg [⟨some 19,none,.mv (.t 6)⟩,⟨some 20,none,.mv (.t 19)⟩,⟨(some 21),(some (20,true)),(.mv (.t 5))⟩,⟨(some 22),(some (20,true)),(.un .not (.t 21))⟩,⟨some 23,none,.pick (.t 20) (.t 22) (.c (.bool false))⟩,⟨some 18,none,.mv (.t 23)⟩]) (.cond (.t 18) (.seq (.reg [⟨some 4,none,.mv (.c (.int .i64 1))⟩]) .ret) .skip))))) (.seq (.seq (.dreg [[],[0],[],[2],[1,0,3,2],[],[5],[6,5],[],[8],[9,8],[7,6,5,10,9,8,4,1,0,3,2],[4,1,0,3,2,11,7,6,5,10,9,8],[12,4,1,0,3,2,11,7,6,5,10,9,8],[13,12,4,1,0,3,2,11,7,6,5,10,9,8]] [⟨some 24,none,.faddr 0 (.t 2)⟩,⟨some 25,none,.load false 1 (.t 24)⟩,⟨some 26,none,.faddr 0 (.t 3)⟩,⟨some 27,none,.load false 1 (.t 26)⟩,⟨some 28,none,.call 283 [(.t 25),(.t 27)]⟩,⟨some 29,none,.faddr 1 (.t 2)⟩,⟨some 30,none,.load false 1 (.t 29)⟩,⟨some 31,none,.len false (.t 30)⟩,⟨some 32,none,.faddr 1 (.t 3)⟩,⟨some 33,none,.load false 1 (.t 32)⟩,⟨some 34,none,.len false (.t 33)⟩,⟨some 35,none,.call 274 [(.t 31),(.t 34)]⟩,⟨some 36,none,.mkrow 3 1 [(.int .i64 0)] 2 [(0,(.t 28)),(1,(.t 35))]⟩,⟨some 37,none,.call 272 [(.t 36)]⟩,⟨some 7,none,.mv (.t 37)⟩]) (.seq (.reg [⟨some 38,none,.mv (.t 7)⟩,⟨some 39,none,.bin .neq false (.t 38) (.c (.int .i64 0))⟩]) (.cond (.t 39) (.seq (.reg [⟨some 40,none,.mv (.t 7)⟩,⟨some 4,none,.mv (.t 40)⟩]) .ret) .skip))) (.seq (.reg [⟨some 41,none,.faddr 1 (.t 2)⟩,⟨some 42,none,.load false 1 (.t 41)⟩,⟨some 43,none,.faddr 1 (.t 3)⟩,⟨some 44,none,.load false 1 (.t 43)⟩,⟨some 45,none,.call 313 [(.t 42),(.t 44),(.c (.fn 273 []))]⟩,⟨some 4,none,.mv (.t 45)⟩]) .ret)))))
theorem CC:codeOf Tryz.prog 273=some ⟨46,B4,[(.tmp 4)]⟩:=by kernel_rfl
theorem AY:modes 273=⟨[],.asis,none,false⟩:=by unfold modes; rfl
theorem EP:Ih Tryz.prog 273=true:=by kernel_rfl
theorem IX (fid:Nat) (xs ys:List Tm) (hl:xs.length≤1099511627776) (hl':ys.length≤1099511627776) (hg:Ih Tryz.prog fid=true) (hm:(modes fid).hand=[]) (hE:∀ x∈xs,∀ y∈ys,E fid [x.sv,y.sv] []=some (.int .i64 (x.cmp y),[])):E 313 [.arr (xs.map Tm.d),.arr (ys.map Tm.d),.fn fid []] []=some (.int .i64 (Tm.cmpL xs ys),[]):=by
 refine Ad A9 Av (of_decide_eq_true rfl) ?_
 simp (disch:=omega) only [Au,go_sem,Aa]
 refine go_loop (α:=Int) (fun a=>⟨slots 39 0 [(0,.arr (xs.map Tm.d)),(1,.arr (ys.map Tm.d)),(2,.fn fid []),(11,.arr (xs.map Tm.d)),(12,.int .i64 xs.length),(13,.int .i64 a)],[]⟩) (fun a=>∃ k:Nat,a=k∧k≤(xs).length∧k≤ys.length∧Tm.cmpL (xs.drop k) (ys.drop k)=Tm.cmpL xs ys) (fun a=>(xs).length-(a).toNat) 0 ⟨0,rfl,zR _,zR _,by rw [zS,zS]⟩ (by simp (disch:=omega) only [go_sem,Aa]) ?_
 rintro i ⟨k,hi,hk,hR⟩
 have hni:i.toNat=k:=by omega
 have hni1:(i+1).toNat=k+1:=by omega
 rcases zI k (xs).length with hlt | hge
 ·obtain ⟨hk',hR⟩:=hR
  have hgx:=get_at Tm.d hlt
  rw [Tm.d_eq] at hgx
  rcases zI k ys.length with hlt' | hge'
  ·have hgy:=get_at Tm.d hlt'
   rw [Tm.d_eq] at hgy
   have hc:=hE xs[k] (zH hlt) ys[k] (zH hlt')
   rw [PD hlt hlt'] at hR
   by_cases h0:xs[k].cmp ys[k]=0
   ·rw [orZ,if_pos h0] at hR
    rw [h0] at hc
    simp (disch:=omega) only [go_sem,Aa,hni,hgx,hgy,hc,hg,hm]
    exact ⟨i+1,⟨k+1,by omega,hlt,hlt',hR⟩,by omega,by first | trivial | rfl⟩
   ·rw [orZ,if_neg h0] at hR
    simp (disch:=omega) only [go_sem,Aa,hni,hgx,hgy,hc,hg,hm,h0]
    exact hR
  ·rw [SR hlt hge'] at hR
   simp (disch:=omega) only [go_sem,Aa,hni,hgx]
   exact hR
 ·obtain ⟨hk',hR⟩:=hR
  obtain rfl:k=xs.length:=by omega
  rcases zI xs.length ys.length with hlt' | hge'
  ·rw [Yx (zQ _) hlt'] at hR
   simp (disch:=omega) only [go_sem,Aa,hni]
   exact hR
  ·rw [PE (zQ _) hge'] at hR
   simp (disch:=omega) only [go_sem,Aa,hni]
   exact hR
abbrev Uk (f:FuncId) (x y:Tm):Prop:=x.cok=true→y.cok=true→x.nodes≤1099511627776→y.nodes≤1099511627776→E f [x.sv,y.sv] []=some (.int .i64 (x.cmp y),[])
theorem GV (x:Tm) (ih:∀ x'∈x.args,∀ y,Uk 273 x' y) (y:Tm):Uk 273 x y:=by
 intro hx hy hnx hny
 have lx:=Tm.length_le x.args
 have ly:=Tm.length_le y.args
 have nx:=Tm.An x
 have ny:=Tm.An y
 have h1:=D0 x hx
 have h2:=D0 y hy
 have h3:=Kc x.name y.name
 have h4:=HT x.args.length y.args.length
 have h5:=Yy (ED x.name y.name) (Ho x.args.length y.args.length)
 rw [Tm.Lj,zB] at hx hy
 have h6:=IX 273 x.args y.args (by omega) (by omega) EP (by rw [AY]) fun x' hx' y' hy'=>ih x' hx' y' (Tm.HH hx.2 hx') (Tm.HH hy.2 hy') (by have:=Tm.AW hx'; omega) (by have:=Tm.AW hy'; omega)
 rw [Tm.Wu]
 cases vx:Ao x.name <;> rw [vx] at h1 <;> cases vy:Ao y.name <;> rw [vy] at h2
 all_goals
  simp only [xA,y7,zN,yZ,yS,z7,if_true,if_false,yD]
  by_cases h0:orZ (ED x.name y.name) (Ho x.args.length y.args.length)=0
  ·rw [h0] at h5
   try rw [h0]
   refine Ad CC AY (of_decide_eq_true rfl) ?_
   simp (disch:=omega) only [B4,go_sem,Aa,h1,h2,h3,h4,h5,h6,Ak,A8,AI,CG,Av]
   try rfl
  ·try rw [orZ.eq_1 (orZ _ _) _,if_neg h0]
   refine Ad CC AY (of_decide_eq_true rfl) ?_
   simp (disch:=omega) only [B4,go_sem,Aa,h0,h1,h2,h3,h4,h5,Ak,A8,AI,CG]
theorem E3 (x y:Tm):Uk 273 x y:=GV x (fun x' hx' y'=>E3 x' y') y
termination_by SizeOf.sizeOf x
decreasing_by exact Tm.lt_of_mem hx'
def Gx:SC:=(.seq (.reg [⟨some 4,none,.mv (.c (.int .i64 0))⟩]) (.seq (.block 0 (.seq (.reg [⟨some 6,none,.mv (.t 0)⟩,⟨some 7,none,.mv (.t 1)⟩,⟨some 8,none,.bin .lss false (.t 6) (.t 7)⟩,⟨some 5,none,.mv (.t 8)⟩]) (.cond (.t 5) (.seq (.reg [⟨some 4,none,.mv (.c (.int .i64 (-(0+1))))⟩]) .ret) (.seq (.reg [⟨some 10,none,.mv (.t 0)⟩,⟨some 11,none,.mv (.t 1)⟩,⟨some 12,none,.bin .gtr false (.t 10) (.t 11)⟩,⟨some 9,none,.mv (.t 12)⟩]) (.cond (.t 9) (.seq (.reg [⟨some 4,none,.mv (.c (.int .i64 1))⟩]) .ret) .skip))))) (.seq (.reg [⟨some 4,none,.mv (.c (.int .i64 0))⟩]) .ret)))
theorem IY:codeOf Tryz.prog 309=some ⟨13,Gx,[(.tmp 4)]⟩:=by kernel_rfl
theorem Gy:modes 309=⟨[],.asis,none,false⟩:=by unfold modes; rfl
def Cq:SC:=(.seq (.reg [⟨some 2,none,.boxv 33 2 (.t 0)⟩,⟨some 3,none,.boxv 33 2 (.t 1)⟩,⟨some 4,none,.mv (.c (.int .i64 0))⟩]) (.seq (.dreg [[],[0],[1,0],[],[3],[4,3,2,1,0],[2,1,0,5,4,3],[5,4,3,2,1,0,6]] [⟨some 9,none,.faddr 0 (.t 2)⟩,⟨some 10,none,.load false 1 (.t 9)⟩,⟨some 11,none,.call 191 [(.t 10)]⟩,⟨some 12,none,.faddr 0 (.t 3)⟩,⟨some 13,none,.load false 1 (.t 12)⟩,⟨some 14,none,.call 191 [(.t 13)]⟩,⟨some 5,none,.mv (.t 11)⟩,⟨some 6,none,.mv (.t 14)⟩]) (.seq (.block 0 (.seq (.reg [⟨some 16,none,.mv (.t 5)⟩,⟨some 17,none,.mv (.t 16)⟩,⟨(some 18),(some (17,true)),(.mv (.t 6))⟩,⟨(some 19),(some (17,true)),(.un .not (.t 18))⟩,⟨some 20,none,.pick (.t 17) (.t 19) (.c (.bool false))⟩,⟨some 15,none,.mv (.t 20)⟩]) (.cond (.t 15) (.seq (.reg [⟨some 4,none,.mv (.c (.int .i64 (-(0+1))))⟩]) .ret) (.seq (.reg [⟨some 22,none,.mv (.t 5)⟩,⟨some 23,none,.un .not (.t 22)⟩,⟨some 24,none,.mv (.t 23)⟩,⟨(some 25),(some (24,true)),(.mv (.t 6))⟩,⟨some 26,none,.pick (.t 24) (.t 25) (.c (.bool false))⟩,⟨some 21,none,.mv (.t 26)⟩]) (.cond (.t 21) (.seq (.reg [⟨some 4,none,.mv (.c (.int .i64 1))⟩]) .ret) (.seq (.reg [⟨some 28,none,.faddr 0 (.t 2)⟩,⟨some 29,none,.load false 1 (.t 28)⟩,⟨some 30,none,.faddr 0 (.t 3)⟩,⟨some 31,none,.load false 1 (.t 30)⟩,⟨some 32,none,.bin .neq false (.t 29) (.t 31)⟩,⟨some 27,none,.mv (.t 32)⟩]) (.cond (.t 27) (.seq (.reg [⟨some 33,none,.faddr 0 (.t 2)⟩,⟨some 34,none,.load false 1 (.t 33)⟩,⟨some 35,none,.faddr 0 (.t 3)⟩,⟨some 36,none,.load false 1 (.t 35)⟩,⟨some 37,none,.call 309 [(.t 34),(.t 36)]⟩,⟨some 4,none,.mv (.t 37)⟩]) .ret) (.seq (.reg [⟨some 39,none,.faddr 1 (.t 2)⟩,⟨some 40,none,.load false 1 (.t 39)⟩,⟨some 41,none,.len false (.t 40)⟩,⟨some 42,none,.faddr 1 (.t 3)⟩,⟨some 43,none,.load false 1 (.t 42)⟩,⟨some 44,none,.len false (.t 43)⟩,⟨some 45,none,.bin .lss false (.t 41) (.t 44)⟩,⟨some 38,none,.mv (.t 45)⟩]) (.cond (.t 38) (.seq (.reg [⟨some 4,none,.mv (.c (.int .i64 (-(0+1))))⟩]) .ret) (.seq (.reg [⟨some 47,none,.faddr 1 (.t 2)⟩,⟨some 48,none,.load false 1 (.t 47)⟩,⟨some 49,none,.len false (.t 48)⟩,⟨some 50,none,.faddr 1 (.t 3)⟩,⟨some 51,none,.load false 1 (.t 50)⟩,⟨some 52,none,.len false (.t 51)⟩,⟨some 53,none,.bin .gtr false (.t 49) (.t 52)⟩,⟨some 46,none,.mv (.t 53)⟩]) (.cond (.t 46) (.seq (.reg [⟨some 4,none,.mv (.c (.int .i64 1))⟩]) .ret) .skip))))))))))) (.seq (.seq (.reg [⟨some 7,none,.mv (.c (.int .i64 0))⟩]) (.block 1 (.loop [0,0,1,1,0,0,0,1,0,0,0,0,0,0,0,0,0,0,0,0,0,0,0,0,0,0,0,0,0,0,0,0,0,0,0,0,0,0,0,0,0,0,0,0,0,0,0,0,0,0,0,0,0,0,0,0,0,0,0,0,0,0,0,0,0,0,0,0,0,0,0,0,0,0,0] (.seq (.seq (.reg [⟨some 54,none,.mv (.t 7)⟩,⟨some 55,none,.faddr 1 (.t 2)⟩,⟨some 56,none,.load false 1 (.t 55)⟩,⟨some 57,none,.len false (.t 56)⟩,⟨some 58,none,.bin .lss false (.t 54) (.t 57)⟩]) (.cond (.t 58) .skip (.exit 1))) (.seq (.block 2 (.seq (.dreg [[],[0],[],[1,0,2],[3,1,0,2],[],[5],[],[6,5,7],[8,6,5,7],[4,3,1,0,2,9,8,6,5,7],[10,4,3,1,0,2,9,8,6,5,7]] [⟨some 61,none,.faddr 1 (.t 2)⟩,⟨some 62,none,.load false 1 (.t 61)⟩,⟨some 63,none,.mv (.t 7)⟩,⟨some 64,none,.iaddr 2 (.t 62) (.t 63)⟩,⟨some 65,none,.load true 2 (.t 64)⟩,⟨some 66,none,.faddr 1 (.t 3)⟩,⟨some 67,none,.load false 1 (.t 66)⟩,⟨some 68,none,.mv (.t 7)⟩,⟨some 69,none,.iaddr 2 (.t 67) (.t 68)⟩,⟨some 70,none,.load true 2 (.t 69)⟩,⟨some 71,none,.call 267 [(.t 65),(.t 70)]⟩,⟨some 8,none,.mv (.t 71)⟩]) (.seq (.reg [⟨some 72,none,.mv (.t 8)⟩,⟨some 73,none,.bin .neq false (.t 72) (.c (.int .i64 0))⟩]) (.cond (.t 73) (.seq (.reg [⟨some 74,none,.mv (.t 8)⟩,⟨some 4,none,.mv (.t 74)⟩]) .ret) .skip)))) (.reg [⟨some 59,none,.mv (.t 7)⟩,⟨some 60,none,.bin .add false (.t 59) (.c (.int .i64 1))⟩,⟨some 7,none,.mv (.t 60)⟩])))))) (.seq (.reg [⟨some 4,none,.mv (.c (.int .i64 0))⟩]) .ret)))))
theorem CM:codeOf Tryz.prog 267=some ⟨75,Cq,[(.tmp 4)]⟩:=by kernel_rfl
theorem Bn:modes 267=⟨[],.asis,none,false⟩:=by unfold modes; rfl
theorem Qd3 (a b:ByteArray):E 309 [.str a,.str b] []=some (.int .i64 (ED a b),[]):=by
 unfold ED
 cases h3:strLt a b
 ·cases h4:dec (a=b)
  ·refine Ad IY Gy (of_decide_eq_true rfl) ?_
   simp (disch:=omega) only [Gx,go_sem,Aa,h3,h4]
  ·refine Ad IY Gy (of_decide_eq_true rfl) ?_
   simp (disch:=omega) only [Gx,go_sem,Aa,h3,h4]
 ·refine Ad IY Gy (of_decide_eq_true rfl) ?_
  simp (disch:=omega) only [Gx,go_sem,Aa,h3]
theorem QeN {a b:ByteArray} (h:¬ a=b):ED a b≠0:=by
 unfold ED
 rw [Ay h]
 cases strLt a b <;> simp
theorem QeO (a:ByteArray):ED a a=0:=by
 unfold ED
 rw [HS,At rfl]; rfl
theorem WS (x:Tm) (ih:∀ x'∈x.args,∀ y,Uk 267 x' y) (y:Tm):Uk 267 x y:=by
 intro hx hy hnx hny
 have lx:=Tm.length_le x.args
 have ly:=Tm.length_le y.args
 have nx:=Tm.An x
 have ny:=Tm.An y
 have h1:=Am x.name
 have h2:=Am y.name
 have h3:=Qd3 x.name y.name
 rw [Tm.Lj,zB] at hx hy
 rw [Tm.Wu]
 cases vx:Ao x.name <;> rw [vx] at h1 <;> cases vy:Ao y.name <;> rw [vy] at h2
 case' false.true =>
           refine Ad CM Bn (of_decide_eq_true rfl) ?_
           simp (disch:=omega) only [Cq,go_sem,Aa,h1,h2,Ah]
 case' true.false =>
           refine Ad CM Bn (of_decide_eq_true rfl) ?_
           simp (disch:=omega) only [Cq,go_sem,Aa,h1,h2,Ah]
 case' false.false=>skip
 case' true.true=>skip
 all_goals (try trivial)
 all_goals
  simp only [xA,y7,zN,yZ,yS,z7,if_true,if_false,yD]
  by_cases h0:x.name=y.name
  ·rw [show ED x.name y.name=0 by rw [h0]; exact QeO _]
   unfold Ho
   rcases zI x.args.length y.args.length with h4 | h4
   ·rw [At (by omega)]
    refine Ad CM Bn (of_decide_eq_true rfl) ?_
    simp (disch:=omega) only [Cq,go_sem,Aa,h0,h1,h2,Ah]
    rfl
   ·rcases zI y.args.length x.args.length with h5 | h5
    ·rw [Ay (by omega),At (by omega)]
     refine Ad CM Bn (of_decide_eq_true rfl) ?_
     simp (disch:=omega) only [Cq,go_sem,Aa,h0,h1,h2,Ah]
     rfl
    ·rw [Ay (by omega),Ay (by omega)]
     refine Ad CM Bn (of_decide_eq_true rfl) ?_
     simp (disch:=omega) only [Cq,go_sem,Aa,h0,h1,h2,Ah]
     refine go_loop (α:=Int) (fun a=>⟨slots 75 0 [(2,.ptr 0 0),(3,.ptr 1 0),(7,.int .i64 a)],[.box 33 [.str x.name,.arr (x.args.map Tm.d)],.box 33 [.str y.name,.arr (y.args.map Tm.d)]]⟩) (fun a=>∃ k:Nat,a=k∧k≤(x.args).length∧Tm.cmpL (x.args.drop k) (y.args.drop k)=Tm.cmpL x.args y.args) (fun a=>(x.args).length-(a).toNat) 0 ⟨0,rfl,zR _,by rw [zS,zS]⟩ (by simp (disch:=omega) only [go_sem,Aa,h0]) ?_
     rintro i ⟨k,hi,hk,hR⟩
     have hni:i.toNat=k:=by omega
     have hni1:(i+1).toNat=k+1:=by omega
     rcases zI k (x.args).length with hlt | hge
     ·have hlt':k<y.args.length:=by omega
      have hgx:=get_at Tm.d hlt
      rw [Tm.d_eq] at hgx
      have hgy:=get_at Tm.d hlt'
      rw [Tm.d_eq] at hgy
      have hc:=ih x.args[k] (zH hlt) y.args[k] (Tm.HH hx.2 (zH hlt)) (Tm.HH hy.2 (zH hlt')) (by have:=Tm.GD x.args k hlt; omega) (by have:=Tm.GD y.args k hlt'; omega)
      rw [PD hlt hlt'] at hR
      by_cases hz:x.args[k].cmp y.args[k]=0
      ·rw [orZ,if_pos hz] at hR
       rw [hz] at hc
       simp (disch:=omega) only [go_sem,Aa,hni,hgx,hgy,hc,Bn]
       exact ⟨i+1,⟨k+1,by omega,hlt,hR⟩,by omega,by first | trivial | rfl | simp only [h0,and_self]⟩
      ·rw [orZ,if_neg hz] at hR
       simp (disch:=omega) only [go_sem,Aa,hni,hgx,hgy,hc,hz,Bn]
       exact hR
     ·rw [PE hge (by omega)] at hR
      simp (disch:=omega) only [go_sem,Aa,hni]
      exact hR
  ·have h6:=QeN h0
   rw [show orZ (orZ (ED x.name y.name) (Ho x.args.length y.args.length)) (Tm.cmpL x.args y.args)=ED x.name y.name by unfold orZ; rw [if_neg h6,if_neg h6]]
   refine Ad CM Bn (of_decide_eq_true rfl) ?_
   simp (disch:=omega) only [Cq,go_sem,Aa,h0,h1,h2,h3,Ah,Gy]
theorem QB (x y:Tm):Uk 267 x y:=WS x (fun x' hx' y'=>QB x' y') y
termination_by SizeOf.sizeOf x
decreasing_by exact Tm.lt_of_mem hx'
noncomputable def Qco (xs:List Lt) (k:Nat):Bool:=match xs[k]? with
 | none=>true
 | some x=>x.atom.atom&&(match k with
  | 0=>true
  | j+1=>match xs[j]? with
   | none=>true
   | some y=>decide (y.cmp x < 0))
noncomputable def Hq (xs:List Lt):Nat→Bool
 | 0=>true
 | k+1=>Hq xs k&&Qco xs k
theorem Qcp {xs:List Lt} {k n:Nat} (h:Hq xs k=false) (hn:k≤n):Hq xs n=false:=by
 induction n with
 | zero =>
      obtain rfl:k=0:=by omega
      exact h
 | succ n ih =>
  rcases zI n k with h1 | h1
  ·obtain rfl:k=n+1:=by omega
   exact h
  ·rw [Hq,ih h1]; rfl
theorem Hx {xs:List Lt} (h:0<xs.length):Qco xs 0=xs[0].atom.atom:=by
 unfold Qco
 rw [zA h]
 simp
theorem EF {xs:List Lt} {j:Nat} (h:j+1<xs.length):Qco xs (j+1)=(xs[j+1].atom.atom&&decide (xs[j].cmp xs[j+1]<0)):=by
 unfold Qco
 rw [zA h]
 simp only [zA (show j<xs.length by omega)]
theorem PG {xs:List Lt} {k j:Nat} (h:Hq xs k=true) (hj:j<k) (hl:j<xs.length):xs[j].atom.atom=true:=by
 induction k with
 | zero=>omega
 | succ k ih =>
  rw [Hq,zB] at h
  rcases zI j k with h1 | h1
  ·exact ih h.1 h1
  ·obtain rfl:j=k:=by omega
   cases j with
   | zero=>rw [←Hx hl]; exact h.2
   | succ j =>
    have:=h.2
    rw [EF hl,zB] at this
    exact this.1
noncomputable def Cl.ok (x:Cl):Bool:=decide (x.lits.length≤8)&&Hq x.lits x.lits.length
theorem Cl.not_ok {x:Cl} {k:Nat} (h:Hq x.lits k=true) (h':Qco x.lits k=false) (hk:k<x.lits.length):x.ok=false:=by
 have:Hq x.lits x.lits.length=false:=Qcp (k:=k+1) (by rw [Hq,h,h']; rfl) (by omega)
 unfold Cl.ok
 rw [this,yZ]
def Cl.tame (x:Cl):Prop:=x.lits.length≤1099511627776∧∀ y∈x.lits,y.atom.nodes≤1099511627776
theorem Cl.tame_at {x:Cl} (h:x.tame) {k:Nat} (hk:k<x.lits.length):x.lits[k].atom.nodes≤1099511627776:=h.2 _ (zH hk)
def E4:SC:=(.seq (.reg [⟨some 2,none,.mv (.c (.int .i64 0))⟩]) (.seq (.seq (.reg [⟨some 3,none,.mv (.t 0)⟩]) (.cond (.t 3) (.seq (.reg [⟨some 2,none,.mv (.c (.int .i64 1))⟩]) .ret) .skip)) (.seq (.reg [⟨some 2,none,.mv (.c (.int .i64 0))⟩]) .ret)))
theorem GF:codeOf Tryz.prog 88=some ⟨4,E4,[(.tmp 2)]⟩:=by kernel_rfl
theorem Dm:modes 88=⟨[],.asis,none,false⟩:=by unfold modes; rfl
def BT:SC:=(.seq (.reg [⟨some 2,none,.boxv 122 3 (.t 0)⟩,⟨some 3,none,.boxv 122 3 (.t 1)⟩,⟨some 4,none,.mv (.c (.int .i64 0))⟩]) (.seq (.dreg [[],[0],[],[2],[1,0,3,2],[],[5],[6,5,4,1,0,3,2],[],[8],[9,8,7,6,5,4,1,0,3,2],[7,6,5,4,1,0,3,2,10,9,8],[4,1,0,3,2,11,7,6,5,10,9,8],[12,4,1,0,3,2,11,7,6,5,10,9,8],[13,12,4,1,0,3,2,11,7,6,5,10,9,8]] [⟨some 5,none,.faddr 1 (.t 2)⟩,⟨some 6,none,.load true 2 (.t 5)⟩,⟨some 7,none,.faddr 1 (.t 3)⟩,⟨some 8,none,.load true 2 (.t 7)⟩,⟨some 9,none,.call 273 [(.t 6),(.t 8)]⟩,⟨some 10,none,.faddr 0 (.t 2)⟩,⟨some 11,none,.load false 1 (.t 10)⟩,⟨some 12,none,.call 88 [(.t 11)]⟩,⟨some 13,none,.faddr 0 (.t 3)⟩,⟨some 14,none,.load false 1 (.t 13)⟩,⟨some 15,none,.call 88 [(.t 14)]⟩,⟨some 16,none,.call 274 [(.t 12),(.t 15)]⟩,⟨some 17,none,.mkrow 3 1 [(.int .i64 0)] 2 [(0,(.t 9)),(1,(.t 16))]⟩,⟨some 18,none,.call 272 [(.t 17)]⟩,⟨some 4,none,.mv (.t 18)⟩]) .ret))
theorem DL:codeOf Tryz.prog 203=some ⟨19,BT,[(.tmp 4)]⟩:=by kernel_rfl
theorem Bk:modes 203=⟨[],.asis,none,false⟩:=by unfold modes; rfl
def FD:SC:=(.seq (.reg [⟨some 2,none,.boxv 122 3 (.t 0)⟩,⟨some 3,none,.boxv 122 3 (.t 1)⟩,⟨some 4,none,.mv (.c (.int .i64 0))⟩]) (.seq (.reg [⟨some 6,none,.faddr 1 (.t 2)⟩,⟨some 7,none,.load true 2 (.t 6)⟩,⟨some 8,none,.faddr 1 (.t 3)⟩,⟨some 9,none,.load true 2 (.t 8)⟩,⟨some 10,none,.call 267 [(.t 7),(.t 9)]⟩,⟨some 5,none,.mv (.t 10)⟩]) (.seq (.block 0 (.seq (.reg [⟨some 12,none,.mv (.t 5)⟩,⟨some 13,none,.bin .neq false (.t 12) (.c (.int .i64 0))⟩,⟨some 11,none,.mv (.t 13)⟩]) (.cond (.t 11) (.seq (.reg [⟨some 14,none,.mv (.t 5)⟩,⟨some 4,none,.mv (.t 14)⟩]) .ret) (.seq (.reg [⟨some 16,none,.faddr 0 (.t 2)⟩,⟨some 17,none,.load false 1 (.t 16)⟩,⟨some 18,none,.un .not (.t 17)⟩,⟨some 19,none,.mv (.t 18)⟩,⟨(some 20),(some (19,true)),(.faddr 0 (.t 3))⟩,⟨(some 21),(some (19,true)),(.load false 1 (.t 20))⟩,⟨some 22,none,.pick (.t 19) (.t 21) (.c (.bool false))⟩,⟨some 15,none,.mv (.t 22)⟩]) (.cond (.t 15) (.seq (.reg [⟨some 4,none,.mv (.c (.int .i64 (-(0+1))))⟩]) .ret) (.seq (.reg [⟨some 24,none,.faddr 0 (.t 2)⟩,⟨some 25,none,.load false 1 (.t 24)⟩,⟨some 26,none,.mv (.t 25)⟩,⟨(some 27),(some (26,true)),(.faddr 0 (.t 3))⟩,⟨(some 28),(some (26,true)),(.load false 1 (.t 27))⟩,⟨(some 29),(some (26,true)),(.un .not (.t 28))⟩,⟨some 30,none,.pick (.t 26) (.t 29) (.c (.bool false))⟩,⟨some 23,none,.mv (.t 30)⟩]) (.cond (.t 23) (.seq (.reg [⟨some 4,none,.mv (.c (.int .i64 1))⟩]) .ret) .skip))))))) (.seq (.reg [⟨some 4,none,.mv (.c (.int .i64 0))⟩]) .ret))))
theorem Ix:codeOf Tryz.prog 195=some ⟨31,FD,[(.tmp 4)]⟩:=by kernel_rfl
theorem Bt:modes 195=⟨[],.asis,none,false⟩:=by unfold modes; rfl
def FX:SC:=(.seq (.reg [⟨some 1,none,.boxv 122 3 (.t 0)⟩,⟨some 2,none,.mv (.c (.bool false))⟩]) (.seq (.reg [⟨some 3,none,.faddr 1 (.t 1)⟩,⟨some 4,none,.load true 2 (.t 3)⟩,⟨some 5,none,.call 178 [(.t 4)]⟩,⟨some 2,none,.mv (.t 5)⟩]) .ret))
theorem KJ:codeOf Tryz.prog 202=some ⟨6,FX,[(.tmp 2)]⟩:=by kernel_rfl
theorem Cn:modes 202=⟨[],.asis,none,false⟩:=by unfold modes; rfl
def GG:SC:=(.seq (.reg [⟨some 1,none,.boxv 60 1 (.t 0)⟩,⟨some 2,none,.mv (.c (.bool false))⟩]) (.seq (.seq (.reg [⟨some 5,none,.faddr 0 (.t 1)⟩,⟨some 6,none,.load false 1 (.t 5)⟩,⟨some 7,none,.len false (.t 6)⟩,⟨some 8,none,.mv (.c (.int .i64 0))⟩]) (.block 0 (.loop [0,1,0,0,0,0,1,1,1,0,0,0,0,0,0,0,0,0,0,0,0,0,0,0,0,0,0,0,0,0,0,0,0,0,0,0] (.seq (.reg [⟨some 9,none,.bin .lss false (.t 8) (.t 7)⟩]) (.seq (.cond (.t 9) .skip (.exit 0)) (.seq (.block 1 (.seq (.reg [⟨some 10,none,.mv (.t 8)⟩,⟨some 11,none,.iaddr 3 (.t 6) (.t 8)⟩,⟨some 12,none,.load true 3 (.t 11)⟩,⟨(some 4),none,(.alloc 122 [(.bool false),(.str ⟨#[]⟩),.nil])⟩,⟨some 3,none,.mv (.t 10)⟩,⟨none,none,(.store 3 (.t 4) (.t 12))⟩]) (.seq (.dreg [[],[0],[1,0],[2,1,0],[3,2,1,0],[4,3,2,1,0],[5,4,3,2,1,0],[6,5,4,3,2,1,0],[7,6,5,4,3,2,1,0],[6,5,4,3,2,1,0],[9,6,5,4,3,2,1,0],[8,7,6,5,4,3,2,1,0,10,9],[11,8,7,6,5,4,3,2,1,0,10,9],[6,5,4,3,2,1,0],[12,11,8,7,6,5,4,3,2,1,0,10,9,13],[14,12,11,8,7,6,5,4,3,2,1,0,10,9,13],[6,5,4,3,2,1,0,15,14,12,11,8,7,10,9,13],[3,2,1,0,16,6,5,4,15,14,12,11,8,7,10,9,13]] [⟨some 13,none,.load true 3 (.t 4)⟩,⟨some 14,none,.call 202 [(.t 13)]⟩,⟨some 15,none,.un .not (.t 14)⟩,⟨some 16,none,.mv (.t 15)⟩,⟨(some 17),(some (16,false)),(.mv (.t 3))⟩,⟨(some 18),(some (16,false)),(.bin .gtr false (.t 17) (.c (.int .i64 0)))⟩,⟨(some 19),(some (16,false)),(.mv (.t 18))⟩,⟨(some 20),(some (19,true)),(.faddr 0 (.t 1))⟩,⟨(some 21),(some (19,true)),(.load false 1 (.t 20))⟩,⟨(some 22),(some (19,true)),(.mv (.t 3))⟩,⟨(some 23),(some (19,true)),(.bin .sub false (.t 22) (.c (.int .i64 1)))⟩,⟨(some 24),(some (19,true)),(.iaddr 3 (.t 21) (.t 23))⟩,⟨(some 25),(some (19,true)),(.load true 3 (.t 24))⟩,⟨(some 26),(some (19,true)),(.load true 3 (.t 4))⟩,⟨(some 27),(some (19,true)),(.call 203 [(.t 25),(.t 26)])⟩,⟨(some 28),(some (19,true)),(.bin .geq false (.t 27) (.c (.int .i64 0)))⟩,⟨(some 29),(some (16,false)),(.pick (.t 19) (.t 28) (.c (.bool false)))⟩,⟨some 30,none,.pick (.t 16) (.c (.bool true)) (.t 29)⟩]) (.cond (.t 30) (.seq (.reg [⟨some 2,none,.mv (.c (.bool false))⟩]) .ret) .skip)))) (.reg [⟨some 31,none,.bin .add false (.t 8) (.c (.int .i64 1))⟩,⟨some 8,none,.mv (.t 31)⟩]))))))) (.seq (.reg [⟨some 32,none,.faddr 0 (.t 1)⟩,⟨some 33,none,.load false 1 (.t 32)⟩,⟨some 34,none,.len false (.t 33)⟩,⟨some 35,none,.bin .leq false (.t 34) (.c (.int .i64 8))⟩,⟨some 2,none,.mv (.t 35)⟩]) .ret)))
theorem Lv:codeOf Tryz.prog 147=some ⟨36,GG,[(.tmp 2)]⟩:=by kernel_rfl
theorem C2:modes 147=⟨[],.asis,none,false⟩:=by unfold modes; rfl
def IZ:SC:=(.seq (.reg [⟨some 1,none,.boxv 60 1 (.t 0)⟩,⟨some 2,none,.mv (.c (.bool false))⟩]) (.seq (.seq (.reg [⟨some 4,none,.faddr 0 (.t 1)⟩,⟨some 5,none,.load false 1 (.t 4)⟩,⟨some 6,none,.len false (.t 5)⟩,⟨some 7,none,.bin .gtr false (.t 6) (.c (.int .i64 8))⟩]) (.cond (.t 7) (.seq (.reg [⟨some 2,none,.mv (.c (.bool false))⟩]) .ret) .skip)) (.seq (.seq (.reg [⟨some 3,none,.mv (.c (.int .i64 0))⟩]) (.block 0 (.loop [0,1,0,1,0,0,0,0,0,0,0,0,0,0,0,0,0,0,0,0,0,0,0,0,0,0,0,0,0,0,0,0,0,0,0,0,0,0,0,0,0,0] (.seq (.seq (.reg [⟨some 8,none,.mv (.t 3)⟩,⟨some 9,none,.faddr 0 (.t 1)⟩,⟨some 10,none,.load false 1 (.t 9)⟩,⟨some 11,none,.len false (.t 10)⟩,⟨some 12,none,.bin .lss false (.t 8) (.t 11)⟩]) (.cond (.t 12) .skip (.exit 0))) (.seq (.block 1 (.seq (.dreg [[],[0],[],[1,0,2],[3,1,0,2],[4,3,1,0,2],[5,4,3,1,0,2],[6,5,4,3,1,0,2],[7,6,5,4,3,1,0,2],[8,7,6,5,4,3,1,0,2],[9,8,7,6,5,4,3,1,0,2],[10,9,8,7,6,5,4,3,1,0,2],[11,10,9,8,7,6,5,4,3,1,0,2],[12,11,10,9,8,7,6,5,4,3,1,0,2],[11,10,9,8,7,6,5,4,3,1,0,2],[14,11,10,9,8,7,6,5,4,3,1,0,2],[13,12,11,10,9,8,7,6,5,4,3,1,0,2,15,14],[16,13,12,11,10,9,8,7,6,5,4,3,1,0,2,15,14],[11,10,9,8,7,6,5,4,3,1,0,2],[18,11,10,9,8,7,6,5,4,3,1,0,2],[11,10,9,8,7,6,5,4,3,1,0,2],[19,18,11,10,9,8,7,6,5,4,3,1,0,2,20],[21,19,18,11,10,9,8,7,6,5,4,3,1,0,2,20],[17,16,13,12,11,10,9,8,7,6,5,4,3,1,0,2,15,14,22,21,19,18,20],[23,17,16,13,12,11,10,9,8,7,6,5,4,3,1,0,2,15,14,22,21,19,18,20],[11,10,9,8,7,6,5,4,3,1,0,2,24,23,17,16,13,12,15,14,22,21,19,18,20],[8,7,6,5,4,3,1,0,2,25,11,10,9,24,23,17,16,13,12,15,14,22,21,19,18,20]] [⟨some 15,none,.faddr 0 (.t 1)⟩,⟨some 16,none,.load false 1 (.t 15)⟩,⟨some 17,none,.mv (.t 3)⟩,⟨some 18,none,.iaddr 3 (.t 16) (.t 17)⟩,⟨some 19,none,.faddr 1 (.t 18)⟩,⟨some 20,none,.load true 2 (.t 19)⟩,⟨some 21,none,.call 194 [(.t 20)]⟩,⟨some 22,none,.un .not (.t 21)⟩,⟨some 23,none,.mv (.t 22)⟩,⟨(some 24),(some (23,false)),(.mv (.t 3))⟩,⟨(some 25),(some (23,false)),(.bin .gtr false (.t 24) (.c (.int .i64 0)))⟩,⟨(some 26),(some (23,false)),(.mv (.t 25))⟩,⟨(some 27),(some (26,true)),(.faddr 0 (.t 1))⟩,⟨(some 28),(some (26,true)),(.load false 1 (.t 27))⟩,⟨(some 29),(some (26,true)),(.mv (.t 3))⟩,⟨(some 30),(some (26,true)),(.bin .sub false (.t 29) (.c (.int .i64 1)))⟩,⟨(some 31),(some (26,true)),(.iaddr 3 (.t 28) (.t 30))⟩,⟨(some 32),(some (26,true)),(.load true 3 (.t 31))⟩,⟨(some 33),(some (26,true)),(.faddr 0 (.t 1))⟩,⟨(some 34),(some (26,true)),(.load false 1 (.t 33))⟩,⟨(some 35),(some (26,true)),(.mv (.t 3))⟩,⟨(some 36),(some (26,true)),(.iaddr 3 (.t 34) (.t 35))⟩,⟨(some 37),(some (26,true)),(.load true 3 (.t 36))⟩,⟨(some 38),(some (26,true)),(.call 195 [(.t 32),(.t 37)])⟩,⟨(some 39),(some (26,true)),(.bin .geq false (.t 38) (.c (.int .i64 0)))⟩,⟨(some 40),(some (23,false)),(.pick (.t 26) (.t 39) (.c (.bool false)))⟩,⟨some 41,none,.pick (.t 23) (.c (.bool true)) (.t 40)⟩]) (.cond (.t 41) (.seq (.reg [⟨some 2,none,.mv (.c (.bool false))⟩]) .ret) .skip))) (.reg [⟨some 13,none,.mv (.t 3)⟩,⟨some 14,none,.bin .add false (.t 13) (.c (.int .i64 1))⟩,⟨some 3,none,.mv (.t 14)⟩])))))) (.seq (.reg [⟨some 2,none,.mv (.c (.bool true))⟩]) .ret))))
theorem MU:codeOf Tryz.prog 143=some ⟨42,IZ,[(.tmp 2)]⟩:=by kernel_rfl
theorem B9:modes 143=⟨[],.asis,none,false⟩:=by unfold modes; rfl
theorem PH (b:Bool):E 88 [.bool b] []=some (.int .i64 (GC b),[]):=by
 cases b
 ·refine Ad GF Dm (of_decide_eq_true rfl) ?_
  simp (disch:=omega) only [E4,go_sem,Aa]
  rfl
 ·refine Ad GF Dm (of_decide_eq_true rfl) ?_
  simp (disch:=omega) only [E4,go_sem,Aa]
  rfl
theorem compareLiterals_E (x y:Lt) (hx:x.atom.cok=true) (hy:y.atom.cok=true) (hnx:x.atom.nodes≤1099511627776) (hny:y.atom.nodes≤1099511627776):E 203 [x.sv,y.sv] []=some (.int .i64 (x.cmp y),[]):=by
 have h1:=E3 x.atom y.atom hx hy hnx hny
 have h2:=PH x.pos
 have h3:=PH y.pos
 have h4:=HT (GC x.pos) (GC y.pos)
 have h5:=Yy (x.atom.cmp y.atom) (Ho (GC x.pos) (GC y.pos))
 unfold Lt.cmp
 refine Ad DL Bk (of_decide_eq_true rfl) ?_
 simp (disch:=omega) only [BT,go_sem,Aa,h1,h2,h3,h4,h5,AY,Dm,AI,CG]
theorem Ow (x y:Lt) (hx:x.atom.cok=true) (hy:y.atom.cok=true) (hnx:x.atom.nodes≤1099511627776) (hny:y.atom.nodes≤1099511627776):E 195 [x.sv,y.sv] []=some (.int .i64 (x.cmp y),[]):=by
 have h1:=QB x.atom y.atom hx hy hnx hny
 unfold Lt.cmp
 by_cases h0:x.atom.cmp y.atom=0
 ·rw [h0] at h1 ⊢
  cases hp:x.pos <;> cases hq:y.pos
  all_goals
   simp only [GC,Ho,orZ,if_true,if_false,yD]
   refine Ad Ix Bt (of_decide_eq_true rfl) ?_
   simp (disch:=omega) only [FD,go_sem,Aa,h1,hp,hq,Bn]
 ·rw [orZ,if_neg h0]
  refine Ad Ix Bt (of_decide_eq_true rfl) ?_
  simp (disch:=omega) only [FD,go_sem,Aa,h1,h0,Bn]
theorem PI (x:Lt) (hn:x.atom.nodes≤1099511627776):E 202 [x.sv] []=some (.bool x.atom.atom,[]):=by
 have h:=Uj x.atom hn
 refine Ad KJ Cn (of_decide_eq_true rfl) ?_
 simp (disch:=omega) only [FX,go_sem,Aa,h,BH]
theorem GW (x:Cl) (hn:x.tame):E 147 [x.sv] []=some (.bool x.ok,[]):=by
 have hl:=hn.1
 refine Ad Lv C2 (of_decide_eq_true rfl) ?_
 simp (disch:=omega) only [GG,go_sem,Aa]
 refine go_loop (α:=Int) (fun a=>⟨slots 36 0 [(1,.ptr 0 0),(6,.arr (x.lits.map Lt.d)),(7,.int .i64 x.lits.length),(8,.int .i64 a)],[.box 60 [.arr (x.lits.map Lt.d)]]⟩) (fun a=>∃ k:Nat,a=k∧k≤(x.lits).length∧Hq x.lits k=true) (fun a=>(x.lits).length-(a).toNat) 0 ⟨0,rfl,zR _,by rw [Hq]⟩ (by simp (disch:=omega) only [go_sem,Aa]) ?_
 rintro i ⟨k,hi,hk,hR⟩
 have hni:i.toNat=k:=by omega
 have hni1:(i+1).toNat=k+1:=by omega
 rcases zI k (x.lits).length with hlt | hge
 ·have hg:=get_at Lt.d hlt
  rw [Lt.d_eq] at hg
  have hv:=PI x.lits[k] (Cl.tame_at hn hlt)
  cases ha:x.lits[k].atom.atom <;> rw [ha] at hv
  ·have e:x.ok=false:=Cl.not_ok hR (by cases k with | zero=>rw [Hx hlt,ha] | succ j=>rw [EF hlt,ha,z7]) hlt
   rw [e]
   simp (disch:=omega) only [go_sem,Aa,hni,hg,hv,Cn,Bk]
  ·cases k with
   | zero =>
    obtain rfl:i=0:=hi
    simp (disch:=omega) only [go_sem,Aa,hni,hg,hv,Cn,Bk]
    exact ⟨1,⟨1,rfl,hlt,by rw [Hq,hR,Hx hlt,ha]; rfl⟩,by omega,by first | trivial | rfl⟩
   | succ j =>
    have hj:j<x.lits.length:=by omega
    have hg2:=get_at Lt.d hj
    rw [Lt.d_eq] at hg2
    have hni2:(i-1).toNat=j:=by omega
    have hc:=compareLiterals_E x.lits[j] x.lits[j+1] (Tm.HQ (PG hR (by omega) (by omega))) (Tm.HQ ha) (Cl.tame_at hn hj) (Cl.tame_at hn hlt)
    rcases y3 (x.lits[j].cmp x.lits[j+1]) 0 with hq | hq
    ·simp (disch:=omega) only [go_sem,Aa,hni,hg,hv,Cn,Bk,hni2,hg2,hc]
     exact ⟨i+1,⟨j+1+1,by omega,hlt,by rw [Hq,hR,EF hlt,ha,decide_eq_true hq]; rfl⟩,by omega,by first | trivial | rfl⟩
    ·have e:x.ok=false:=Cl.not_ok hR (by rw [EF hlt,ha,decide_eq_false (by omega)]; rfl) hlt
     rw [e]
     simp (disch:=omega) only [go_sem,Aa,hni,hg,hv,Cn,Bk,hni2,hg2,hc]
 ·obtain rfl:k=x.lits.length:=by omega
  simp (disch:=omega) only [go_sem,Aa,hni]
  unfold Cl.ok
  rw [hR,zN,KX]
  exact decide_eq_decide.2 (by omega)
theorem SS (x:Cl) (hn:x.tame):E 143 [x.sv] []=some (.bool x.ok,[]):=by
 have hl:=hn.1
 rcases zI 8 x.lits.length with h8 | h8
 ·have e:x.ok=false:=by unfold Cl.ok; rw [decide_eq_false (by omega),z7]
  rw [e]
  refine Ad MU B9 (of_decide_eq_true rfl) ?_
  simp (disch:=omega) only [IZ,go_sem,Aa]
 refine Ad MU B9 (of_decide_eq_true rfl) ?_
 simp (disch:=omega) only [IZ,go_sem,Aa]
 refine go_loop (α:=Int) (fun a=>⟨slots 42 0 [(1,.ptr 0 0),(3,.int .i64 a)],[.box 60 [.arr (x.lits.map Lt.d)]]⟩) (fun a=>∃ k:Nat,a=k∧k≤(x.lits).length∧Hq x.lits k=true) (fun a=>(x.lits).length-(a).toNat) 0 ⟨0,rfl,zR _,by rw [Hq]⟩ (by simp (disch:=omega) only [go_sem,Aa]) ?_
 rintro i ⟨k,hi,hk,hR⟩
 have hni:i.toNat=k:=by omega
 have hni1:(i+1).toNat=k+1:=by omega
 rcases zI k (x.lits).length with hlt | hge
 ·have hg:=get_at Lt.d hlt
  rw [Lt.d_eq] at hg
  have hv:=SQ x.lits[k].atom (Cl.tame_at hn hlt)
  cases ha:x.lits[k].atom.atom <;> rw [ha] at hv
  ·have e:x.ok=false:=Cl.not_ok hR (by cases k with | zero=>rw [Hx hlt,ha] | succ j=>rw [EF hlt,ha,z7]) hlt
   rw [e]
   simp (disch:=omega) only [go_sem,Aa,hni,hg,hv,AV,Bt]
  ·cases k with
   | zero =>
    obtain rfl:i=0:=hi
    simp (disch:=omega) only [go_sem,Aa,hni,hg,hv,AV,Bt]
    exact ⟨1,⟨1,rfl,hlt,by rw [Hq,hR,Hx hlt,ha]; rfl⟩,by omega,by first | trivial | rfl⟩
   | succ j =>
    have hj:j<x.lits.length:=by omega
    have hg2:=get_at Lt.d hj
    rw [Lt.d_eq] at hg2
    have hni2:(i-1).toNat=j:=by omega
    have hc:=Ow x.lits[j] x.lits[j+1] (Tm.HQ (PG hR (by omega) (by omega))) (Tm.HQ ha) (Cl.tame_at hn hj) (Cl.tame_at hn hlt)
    rcases y3 (x.lits[j].cmp x.lits[j+1]) 0 with hq | hq
    ·simp (disch:=omega) only [go_sem,Aa,hni,hg,hv,AV,Bt,hni2,hg2,hc]
     exact ⟨i+1,⟨j+1+1,by omega,hlt,by rw [Hq,hR,EF hlt,ha,decide_eq_true hq]; rfl⟩,by omega,by first | trivial | rfl⟩
    ·have e:x.ok=false:=Cl.not_ok hR (by rw [EF hlt,ha,decide_eq_false (by omega)]; rfl) hlt
     rw [e]
     simp (disch:=omega) only [go_sem,Aa,hni,hg,hv,AV,Bt,hni2,hg2,hc]
 ·obtain rfl:k=x.lits.length:=by omega
  simp (disch:=omega) only [go_sem,Aa,hni]
  unfold Cl.ok
  rw [hR,decide_eq_true h8]; rfl
end Go.Proofs.YtepbennkcbmgoaaGreatDoor
