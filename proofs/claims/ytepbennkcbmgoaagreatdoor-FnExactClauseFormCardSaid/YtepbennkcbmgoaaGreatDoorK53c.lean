/-
  Texts of this claim, one behind the other, each built on those ahead of it. No condition.
-/
import Derived.Test.YtepbennkcbmgoaaGreatDoorK53a
import Derived.Test.YtepbennkcbmgoaaGreatDoorK53b
import Derived.Shelf.GgSortFunc.InsertionK
import Derived.Shelf.Sort.Plain
import Derived.Sort.EncStr
import Derived.Shelf.SlLaysF0
import Derived.Test.YtepbennkcbmgoaaGreatDoorChecked
import Derived.Shelf.SlSortCmp.NoneTotal
import Derived.Lib.QuietBelow
import Derived.Deep.LoopGhost
import Derived.Lib.SliceRun
import Derived.Shelf.Abstract
import Derived.Shelf.Spec.SlicesGrow
import Derived.Shelf.RegionOpenPlain
import Derived.Deep.RegionLaw
import Derived.Shelf.Lays2
import Derived.Shelf.Slices.Clone
import Derived.Shelf.Lays
import Derived.Shelf.Slices.In.SortNone
import Derived.Shelf.Slices.CompactS
import Derived.Shelf.LaysM
import Derived.Shelf.Strconv.Itoa3
set_option maxHeartbeats 16000000
open List renaming getElem?_eq_getElem → zA, length_map → zD, map_cons → zF, getElem_mem → zH, mem_cons → zL, drop_eq_getElem_cons → zM, drop_eq_nil_of_le → zP, getElem_map → zS, eq_nil_of_length_eq_zero → zU, drop_zero → zW, pairwise_iff_getElem → z6, getElem_cons_zero → z8, getD_eq_getElem?_getD → yB, pairwise_cons → yC, getElem_toArray → yF, toArray → yG, range → yI, mem_range → yJ, getElem_of_mem → yK, size_toArray → yO, mem_of_getElem? → yS, take_succ_cons → yV, drop_succ_cons → yW, getElem?_eq_some_iff → yY, getElem_append_left → yZ, mem_map → y4, mem_filter → y7, map_append → y9, take_zero → xA, replicate → xB, finRange → xD, drop_nil → xF, any_cons → xG
open Bool renaming and_eq_true → zB, and_self → zG, and_true → zO, false_and → yD, false_eq_true → yN, true_and → yQ, or_eq_false_iff → yR, and_false → yX, or_eq_true → y6, not_false → xC, not_true → xH
open Option.some renaming injEq → zC, inj → zE
open Array renaming getElem?_eq_getElem → zI, getD_eq_getD_getElem? → zN, getElem?_eq_some_iff → zV, getElem?_modify → yE, getElem?_mapIdx → yP, getElem?_setIfInBounds → yU, size_push → y8
open Prod.mk renaming injEq → zJ, inj → zY
open Nat renaming lt_or_ge → zK, lt_of_lt_of_le → zQ, zero_le → zR, le_refl → zT, zero_add → zX, add_zero → zZ, eq_zero_or_pos → z7, mul_one → yT
open Option renaming getD_some → yA, map_some → yL, isSome_none → yM
open List.cons renaming injEq → yH
open Int renaming lt_or_le → y5
set_option maxRecDepth 100000
set_option linter.unusedSimpArgs false
set_option linter.unusedVariables false
set_option linter.unusedSectionVars false
namespace Go.Proofs.YtepbennkcbmgoaaGreatDoor
open Go.RowKit
def Vi (b:Int):Bool:=decide (97≤b)&&decide (b≤122)
def Qeb (b:Int):Bool:=decide (48≤b)&&decide (b≤57)
def RD (b:Int):Bool:=decide (65≤b)&&decide (b≤90)
def inB (n lo hi:Int):Bool:=decide (lo≤n)&&decide (n≤hi)
theorem MP (n lo hi:Int) (w:World) :
  Calls Tryz.prog 205 #[.int .i64 n,.int .i64 lo,.int .i64 hi] w (Same w (.bool (inB n lo hi))):=by
 by_cases h1:lo≤n <;> by_cases h2:n≤hi
 all_goals
  go_enter Tryz.func205,Tryz.ntmps205
  go_wp2
  go_ret
  exact Same.mk' _ (by simp [inB,h1,h2])
theorem KH (n lo hi:Int) (w:World) :
  Calls Tryz.prog 198 #[.int .i64 n,.int .i64 lo,.int .i64 hi] w (Same w (.bool (inB n lo hi))):=by
 by_cases h1:lo≤n <;> by_cases h2:n≤hi
 all_goals
  go_enter Tryz.func198,Tryz.ntmps198
  go_wp2
  go_ret
  exact Same.mk' _ (by simp [inB,h1,h2])
theorem PK (n:Int) (w:World):Calls Tryz.prog 241 #[.int .u8 n] w (Same w (.bool (Vi n))):=by
 by_cases h1:97≤n <;> by_cases h2:n≤122
 all_goals
  go_enter Tryz.func241,Tryz.ntmps241
  go_wp2
  go_ret
  exact Same.mk' _ (by simp [Vi,h1,h2])
theorem PL (n:Int) (w:World):Calls Tryz.prog 242 #[.int .u8 n] w (Same w (.bool (Qeb n))):=by
 by_cases h1:48≤n <;> by_cases h2:n≤57
 all_goals
  go_enter Tryz.func242,Tryz.ntmps242
  go_wp2
  go_ret
  exact Same.mk' _ (by simp [Qeb,h1,h2])
theorem WZ (n:Int) (w:World):Calls Tryz.prog 240 #[.int .u8 n] w (Same w (.bool (RD n))):=by
 by_cases h1:65≤n <;> by_cases h2:n≤90
 all_goals
  go_enter Tryz.func240,Tryz.ntmps240
  go_wp2
  go_ret
  exact Same.mk' _ (by simp [RD,h1,h2])
def J6 (n:Int):Bool:=Vi n || Qeb n
theorem PM (n:Int) (w:World):Calls Tryz.prog 262 #[.int .u8 n] w (Same w (.bool (J6 n))):=by
 by_cases h1:97≤n <;> by_cases h2:n≤122 <;> by_cases h3:48≤n <;> by_cases h4:n≤57 <;> first | (exfalso; omega) | skip
 all_goals
  go_enter Tryz.func262,Tryz.ntmps262
  go_wp2
  go_ret
  exact Same.mk' _ (by simp [J6,Vi,Qeb,h1,h2,h3,h4])
def Kd (s:ByteArray) (k:Nat):Int:=((s.toList.getD k 0).toNat:Int)
theorem FE {s:ByteArray} {k:Nat} (h:k<s.size):(s[k].toNat:Int)=Kd s k:=by
 have h':k<s.data.toList.length:=h
 unfold Kd
 rw [ByteArray.toList_eq,yB,zA h']
 rfl
def F2 (p:Nat→Int→Bool) (s:ByteArray) (k:Nat):Bool:=(yI k).all fun j=>p j (Kd s j)
theorem Hf {p:Nat→Int→Bool} {s:ByteArray} {k:Nat}:F2 p s (k+1)=(F2 p s k&&p k (Kd s k)):=by
 unfold F2
 rw [List.range_succ,List.all_append]
 simp
theorem J7 {p:Nat→Int→Bool} {s:ByteArray} {k:Nat} (h:F2 p s k=true) (hk:p k (Kd s k)=true):F2 p s (k+1)=true:=by
 rw [Hf,h,hk]; rfl
theorem YP {p:Nat→Int→Bool} {s:ByteArray} {k n:Nat} (h:F2 p s k=false) (hn:k≤n):F2 p s n=false:=by
 induction n with
 | zero =>
      have:k=0:=by omega
      subst this; exact h
 | succ n ih =>
  by_cases hk:k=n+1
  ·subst hk; exact h
  ·rw [Hf,ih (by omega)]; rfl
theorem FF {p:Nat→Int→Bool} {s:ByteArray} {k:Nat} (hk:k<s.size) (h:p k (Kd s k)=false):F2 p s s.size=false :=
 YP (k:=k+1) (by rw [Hf,h]; simp) (by omega)
def KI (k:Nat) (b:Int):Bool:=(k != 0 || Vi b)&&(J6 b || b == 95)
def Ke (k:Nat) (b:Int):Bool:=(k != 0 || RD b)&&(k == 0 || J6 b)
def words:List (List UInt8):=[[116,114,117,101],[102,97,108,115,101],[116,114,117,116,104],[98,111,116,104],[101,105,116,104,101,114],[105,102],[97,108,108],[115,111,109,101]]
def Qcr (s:ByteArray):Bool:=QbK (fun k=>s.toList == words.getD k []) 8
def E0 (s:ByteArray):Bool:=F2 KI s s.size&&inB s.size 1 6&&!Qcr s
def AY (s:ByteArray):Bool:=F2 Ke s s.size&&inB s.size 1 4
theorem RE (s:ByteArray) (w:World) (hs:s.size≤9223372036854775807):Calls Tryz.prog 177 #[.string s] w (Same w (.bool (AY s))):=by
  go_enter Tryz.func177,Tryz.ntmps177
  go_wp2
  go_loopw [6] (fun i wr=>Cnt w s.size (fun k=>F2 Ke s k=true) i wr) (fun i _=>s.size-(intOf i).toNat)
  case atStart=>exact ⟨0,zR _,rfl,rfl,rfl⟩
  case round =>
    obtain ⟨k,hk,rfl,hok,rfl⟩:=hrel
    have Hok:=Lib.hid hok
    clear hok
    by_cases hlt:k<s.size
    · have Hb:=Lib.hid (FE hlt)
      rcases z7 k with rfl | hpos
      all_goals
        go_wp2_with (first
          | (go_at_call 241; refine (PK _ _).mono ?_; rintro e w' ⟨rfl,rfl⟩)
          | (go_at_call 240; refine (WZ _ _).mono ?_; rintro e w' ⟨rfl,rfl⟩)
          | (go_at_call 242; refine (PL _ _).mono ?_; rintro e w' ⟨rfl,rfl⟩))
        all_goals first
          | (go_ret
             refine Same.mk' _ ?_
             unfold AY
             rw [FF hlt (by rw [←Hb.out]; simp_all [Ke,J6] <;> omega)]
             rfl)
          | (go_roundw
             case rel=>exact ⟨_,hlt,by go_num,J7 Hok.out (by rw [←Hb.out]; simp_all [Ke,J6] <;> omega),rfl⟩
             case measure=>first | exact K2 hlt | (simp [intOf]; omega))
    · obtain rfl:k=s.size:=by omega
      go_wp2_with (first
        | (go_at_call 205; refine (MP _ _ _ _).mono ?_; rintro e w' ⟨rfl,rfl⟩))
      go_ret
      exact Same.mk' _ (by unfold AY; rw [Hok.out]; rfl)
theorem YQ (b n c:Nat) (f:Nat→ByteArray) (x:ByteArray) (w:World) (hn:n≤9223372036854775807)
  (hc:∀ k,k<n→w.cell? ⟨b,k,none⟩=some (.string (f k))):Calls Tryz.prog 259 #[.slice (some ⟨b,0,none⟩) n c,.string x] w (Same w (.int .i64 (W0 (fun k=>x.toList == (f k).toList) n))):=by
 go_enter Tryz.func259,Tryz.ntmps259
 go_wp2
 go_loopw [8] (fun i wr=>Cnt w n (fun k=>∀ j,j<k→(x.toList == (f j).toList)=false) i wr) (fun i _=>n-(intOf i).toNat)
 case atStart=>exact ⟨0,zR _,rfl,fun j hj=>absurd hj (by omega),rfl⟩
 case round =>
  obtain ⟨k,hk,rfl,hok,rfl⟩:=hrel
  have Hok:=Lib.hid hok
  clear hok
  by_cases hlt:k<n
  ·have hck:=hc k (by omega)
   go_wp2_with fail
   ·go_ret
    exact Same.mk' _ (by rw [W1 hlt Hok.out (by assumption)]; rfl)
   ·go_roundw
    case rel=>exact ⟨_,hlt,by go_num,W2 Hok.out (by assumption),rfl⟩
    case measure=>exact K2 hlt
  ·obtain rfl:k=n:=by omega
   go_wp2_with fail
   go_ret
   exact Same.mk' _ (by rw [Ty Hok.out]; rfl)
theorem SU (b n c:Nat) (f:Nat→ByteArray) (x:ByteArray) (w:World) (hn:n≤9223372036854775807)
  (hc:∀ k,k<n→w.cell? ⟨b,k,none⟩=some (.string (f k))):Calls Tryz.prog 185 #[.slice (some ⟨b,0,none⟩) n c,.string x] w (Same w (.bool (QbK (fun k=>x.toList == (f k).toList) n))):=by
 have Hc:=Lib.hid hc
 clear hc
 go_enter Tryz.func185,Tryz.ntmps185
 go_wp2_with (first
  |(go_at_call 259; refine (YQ _ _ _ f _ _ hn Hc.out).mono ?_; rintro e w' ⟨rfl,rfl⟩))
 go_ret
 exact Same.mk' _ (by rw [←Qd7]; rfl)
theorem Vj (w:World):Calls Tryz.prog 258 #[] w fun e w'=>e=.returned (.slice (some ⟨w.heap.size,0,none⟩) 8 8)∧w'=w.alloc (.cells ((words.map fun l=>Value.string ⟨l.toArray⟩).toArray) 9):=by
 go_enter Tryz.func258,Tryz.ntmps258
 go_wp2
 go_ret
 exact ⟨rfl,rfl⟩
theorem Xa (w:World):∀ k,k<8→(w.alloc (.cells ((words.map fun l=>Value.string ⟨l.toArray⟩).toArray) 9)).cell? ⟨w.heap.size,k,none⟩=some (.string ⟨(words.getD k []).toArray⟩):=by
 intro k hk
 have hh:(w.alloc (.cells ((words.map fun l=>Value.string ⟨l.toArray⟩).toArray) 9)).heap[w.heap.size]?=some (.cells ((words.map fun l=>Value.string ⟨l.toArray⟩).toArray) 9):=heap_alloc_new w _
 unfold World.cell?
 rw [hh]
 match k,hk with
 | 0,_=>rfl
 | 1,_=>rfl
 | 2,_=>rfl
 | 3,_=>rfl
 | 4,_=>rfl
 | 5,_=>rfl
 | 6,_=>rfl
 | 7,_=>rfl
theorem Vk (s:ByteArray) (w:World) (hs:s.size≤9223372036854775807):Calls Tryz.prog 184 #[.string s] w (Ret w (.bool (E0 s))):=by
  go_enter Tryz.func184,Tryz.ntmps184
  go_wp2
  go_loopw [6] (fun i wr=>Cnt w s.size (fun k=>F2 KI s k=true) i wr) (fun i _=>s.size-(intOf i).toNat)
  case atStart=>exact ⟨0,zR _,rfl,rfl,rfl⟩
  case round =>
    obtain ⟨k,hk,rfl,hok,rfl⟩:=hrel
    have Hok:=Lib.hid hok
    clear hok
    by_cases hlt:k<s.size
    · have Hb:=Lib.hid (FE hlt)
      rcases z7 k with rfl | hpos
      all_goals
        go_wp2_with (first
          | (go_at_call 241; refine (PK _ _).mono ?_; rintro e w' ⟨rfl,rfl⟩)
          | (go_at_call 242; refine (PL _ _).mono ?_; rintro e w' ⟨rfl,rfl⟩))
        all_goals first
          | (go_ret
             refine Ret.same _ ?_
             unfold E0
             rw [FF hlt (by rw [←Hb.out]; simp_all [KI,J6] <;> omega)]
             rfl)
          | (go_roundw
             case rel=>exact ⟨_,hlt,by go_num,J7 Hok.out (by rw [←Hb.out]; simp_all [KI,J6] <;> omega),rfl⟩
             case measure=>first | exact K2 hlt | (simp [intOf]; omega))
    · obtain rfl:k=s.size:=by omega
      cases hin:inB s.size 1 6
      · go_wp2_with (first
          | (go_at_call 205; refine (MP _ _ _ _).mono ?_; rintro e w' ⟨rfl,rfl⟩))
        go_ret
        exact Ret.same _ (by unfold E0; rw [hin]; simp)
      · go_wp2_with (first
          | (go_at_call 205; refine (MP _ _ _ _).mono ?_; rintro e w' ⟨rfl,rfl⟩)
          | (go_at_call 258; refine (Vj _).mono ?_; rintro e w' ⟨rfl,rfl⟩)
          | (go_at_call 185; refine (SU _ _ _ (fun k=>⟨(words.getD k []).toArray⟩) _ _ (by omega) (Xa w)).mono ?_; rintro e w' ⟨rfl,rfl⟩))
        go_ret
        refine Ret.bel ?_ ((Below.refl _ _).alloc (zT _) _)
        unfold E0 Qcr
        rw [hin,Hok.out]
        simp
theorem Qbd (s:ByteArray) (w:World) (hs:s.size≤9223372036854775807):Calls Tryz.prog 191 #[.string s] w (Same w (.bool (AY s))):=by
  cases hin:inB s.size 1 4
  · go_enter Tryz.func191,Tryz.ntmps191
    go_wp2_with (first
      | (go_at_call 198; refine (KH _ _ _ _).mono ?_; rintro e w' ⟨rfl,rfl⟩))
    go_ret
    exact Same.mk' _ (by unfold AY; rw [hin]; simp)
  · have hpos:0<s.size:=by simp [inB] at hin; omega
    have Hb:=Lib.hid (FE hpos)
    go_enter Tryz.func191,Tryz.ntmps191
    go_wp2_with (first
      | (go_at_call 198; refine (KH _ _ _ _).mono ?_; rintro e w' ⟨rfl,rfl⟩))
    all_goals first
      | (go_ret
         refine Same.mk' _ ?_
         unfold AY
         rw [FF hpos (by rw [←Hb.out]; simp [Ke,RD]; omega)]
         rfl)
      | skip
    · go_loopw [3] (fun i wr=>Cnt w s.size (fun k=>1≤k∧F2 Ke s k=true) i wr) (fun i _=>s.size-(intOf i).toNat)
      case atStart=>exact ⟨1,hpos,rfl,⟨zT _,by rw [Hf,← Hb.out]; simp [F2,Ke,RD]; omega⟩,rfl⟩
      case round =>
        obtain ⟨k,hk,rfl,⟨hk1,hok⟩,rfl⟩:=hrel
        have Hok:=Lib.hid hok
        clear hok
        by_cases hlt:k<s.size
        · have Hbk:=Lib.hid (FE hlt)
          have hk0:k≠0:=by omega
          go_wp2_with (first
            | (go_at_call 262; refine (PM _ _).mono ?_; rintro e w' ⟨rfl,rfl⟩))
          all_goals first
            | (go_ret
               refine Same.mk' _ ?_
               unfold AY
               rw [FF hlt (by rw [←Hbk.out]; simp_all [Ke] <;> omega)]
               rfl)
            | (go_roundw
               case rel=>exact ⟨_,hlt,by go_num,⟨by omega,J7 Hok.out (by rw [←Hbk.out]; simp_all [Ke] <;> omega)⟩,rfl⟩
               case measure=>first | exact K2 hlt | (simp [intOf]; omega))
        · obtain rfl:k=s.size:=by omega
          go_wp2_with fail
          go_ret
          exact Same.mk' _ (by unfold AY; rw [Hok.out,hin]; rfl)
theorem Qae (s:ByteArray):Qcr s=(s.toList == [116,114,117,101] || s.toList == [102,97,108,115,101] || s.toList == [116,114,117,116,104] || s.toList == [98,111,116,104] || s.toList == [101,105,116,104,101,114] || s.toList == [105,102] || s.toList == [97,108,108] || s.toList == [115,111,109,101]):=by
 unfold Qcr QbK words
 simp [yI,List.range.loop,Bool.or_assoc]
theorem Vl (s:ByteArray) (w:World) (hs:s.size≤9223372036854775807):Calls Tryz.prog 265 #[.string s] w (Same w (.bool (E0 s))):=by
  cases hin:inB s.size 1 6
  · go_enter Tryz.func265,Tryz.ntmps265
    go_wp2_with (first
      | (go_at_call 198; refine (KH _ _ _ _).mono ?_; rintro e w' ⟨rfl,rfl⟩))
    go_ret
    exact Same.mk' _ (by unfold E0; rw [hin]; simp)
  · have hpos:0<s.size:=by simp [inB] at hin; omega
    have Hb:=Lib.hid (FE hpos)
    cases hres:Qcr s
    case true =>
      have Hres:=Lib.hid hres
      rw [Qae] at hres
      go_enter Tryz.func265,Tryz.ntmps265
      go_wp2_with (first
        | (go_at_call 198; refine (KH _ _ _ _).mono ?_; rintro e w' ⟨rfl,rfl⟩))
      all_goals first
        | (go_ret
           refine Same.mk' _ ?_
           unfold E0
           rw [Hres.out]; simp)
        | (exfalso; simp_all; done)
    have Hres:=Lib.hid hres
    rw [Qae] at hres
    simp only [yR] at hres
    obtain ⟨⟨⟨⟨⟨⟨⟨e1,e2⟩,e3⟩,e4⟩,e5⟩,e6⟩,e7⟩,e8⟩:=hres
    go_enter Tryz.func265,Tryz.ntmps265
    go_wp2_with (first
      | (go_at_call 198; refine (KH _ _ _ _).mono ?_; rintro e w' ⟨rfl,rfl⟩))
    all_goals first
      | (go_ret
         refine Same.mk' _ ?_
         unfold E0
         rw [FF hpos (by rw [←Hb.out]; simp [KI,Vi]; omega)]; rfl)
      | skip
    go_loopw [3] (fun i wr=>Cnt w s.size (fun k=>1≤k∧F2 KI s k=true) i wr) (fun i _=>s.size-(intOf i).toNat)
    case atStart=>exact ⟨1,hpos,rfl,⟨zT _,by rw [Hf,← Hb.out]; simp [F2,KI,J6,Vi]; omega⟩,rfl⟩
    case round =>
      obtain ⟨k,hk,rfl,⟨hk1,hok⟩,rfl⟩:=hrel
      have Hok:=Lib.hid hok
      clear hok
      by_cases hlt:k<s.size
      · have Hbk:=Lib.hid (FE hlt)
        have hk0:k≠0:=by omega
        go_wp2_with (first
          | (go_at_call 262; refine (PM _ _).mono ?_; rintro e w' ⟨rfl,rfl⟩))
        all_goals first
          | (go_ret
             refine Same.mk' _ ?_
             unfold E0
             rw [FF hlt (by rw [←Hbk.out]; simp_all [KI] <;> omega)]
             rfl)
          | (go_roundw
             case rel=>exact ⟨_,hlt,by go_num,⟨by omega,J7 Hok.out (by rw [←Hbk.out]; simp_all [KI] <;> omega)⟩,rfl⟩
             case measure=>first | exact K2 hlt | (simp [intOf]; omega))
      · obtain rfl:k=s.size:=by omega
        go_wp2_with fail
        go_ret
        exact Same.mk' _ (by unfold E0; rw [Hok.out,hin,Hres.out]; rfl)
end Go.Proofs.YtepbennkcbmgoaaGreatDoor
set_option maxRecDepth 100000
set_option linter.unusedSimpArgs false
set_option linter.unusedVariables false
set_option linter.unusedSectionVars false
namespace Go.Proofs.YtepbennkcbmgoaaGreatDoor
open Go.RowKit Go.Shelf Go.Lib Go.Sort
theorem Qaf {w w':World} {I:Nat→Prop} {V:Nat→Option Value} {B:Nat→Nat→Prop} {t:TypeId} {sz:Nat} {es es':List (List OT)} {b cap:Nat} {cur cur':Array Value} (Sub:Nat→Nat→Nat→Prop)
  (hwf:Wf w I V B (Ap [.row t sz es])) (hv:V 0=some (.slice (some ⟨b,0,none⟩) es.length cap)) (hn:es'.length=es.length) (hs:B 0 b) (hb:w.heap[b]?=some (.cells cur t (0,0)))
  (h1:es.length≤cap) (h2:cap≤9223372036854775807) (h3:cur.size=cap*sz) (h4:∀ i (h:i<es'.length),es'[i].length=sz) (h5:∀ i j x,Sub i j x→B 0 x∧x≠b)
  (h6:∀ i j i' j' x,Sub i j x→Sub i' j' x→i=i'∧j=j')
  (hos:w'.os=w.os) (htape:TapeOk w w') (hout:w'.output=w.output) (hsz:w.heap.size≤w'.heap.size) (hblk:∀ x,x<w.heap.size→x≠b→w'.heap[x]?=w.heap[x]?)
  (hb':w'.heap[b]?=some (.cells cur' t (0,0))) (hcs:cur'.size=cur.size)
  (h7:∀ i j (h:i<es'.length) (h':j<es'[i].length),ORep w' I (Sub i j) (es'[i][j]) (cur'.getD (i*sz+j) undef)) :
  FunPost w I V B [.row t sz es] [.row t sz es'] w' I V B:=by
 have g0:∀ (e:List (List OT)),Ap [Ob.row t sz e] 0=.row t sz e:=fun _=>rfl
 have gS:∀ (e:List (List OT)) (g:Nat),Ap [Ob.row t sz e] (g+1)=.free:=fun _ _=>rfl
 have lv:∀ (e e':List (List OT)) (g:Nat),(Ap [Ob.row t sz e] g).live→(Ap [Ob.row t sz e'] g).live:=fun e e' g h=>by
  cases g with
  | zero=>trivial
  | succ g=>rw [gS] at h; exact h.elim
 have hbS:∀ x,B 0 x→HB B [Ob.row t sz es] x:=fun x hx=>⟨0,trivial,hx⟩
 refine ⟨⟨hos,htape,hout,hsz,fun x hx hn=>hblk x hx fun e=>hn (hbS x (e▸hs))⟩,fun _ h=>h,fun _ h=>.inl h,VLe.refl _,?_,fun g x hl hx=>.inl ⟨g,lv _ _ g hl,hx⟩⟩
 refine ⟨fun x hx=>zQ (hwf.ilt x hx) hsz,fun g hl=>?_,fun g x hl hx=>zQ (hwf.lt g x (lv _ _ g hl) hx) hsz,fun g x hl hx=>hwf.dI g x (lv _ _ g hl) hx,fun g g' x hl hl' hx hx'=>hwf.dO g g' x (lv _ _ g hl) (lv _ _ g' hl') hx hx',fun g hf=>?_,hwf.gl.keep ⟨hsz,fun x hx hlt=>hblk x hlt fun e=>hwf.dI 0 x trivial (e▸hs) hx⟩ fun _ h=>h⟩
 ·cases g with
  | zero =>
   refine ⟨_,hv,.inr ⟨b,cap,cur',Sub,by rw [hn],hs,hb',by rw [hn]; exact h1,h2,by rw [hcs]; exact h3,h4,h5,h6,h7⟩⟩
  | succ g=>rw [gS] at hl; exact hl.elim
 ·cases g with
  | zero=>cases hf
  | succ g=>exact hwf.fr (g+1) rfl
theorem N4 {w:World} {I:Nat→Prop} {V:Nat→Option Value} {B:Nat→Nat→Prop} {ob:List Ob} (hwf:Wf w I V B (Ap ob)):FunPost w I V B ob ob w I V B :=
 ⟨⟨rfl,TapeOk.mk' rfl rfl,rfl,zT _,fun _ _ _=>rfl⟩,fun _ h=>h,fun _ h=>.inl h,VLe.refl _,hwf,fun g b hl hb=>.inl ⟨g,hl,hb⟩⟩
def KJ:List OT→ByteArray
 | .str s :: _=>s
 | _=>⟨#[]⟩
def Qfu (x y:List OT):Bool:=!Op.bytesLess (KJ y).toList (KJ x).toList
theorem ORep.owV {w:World} {I S:Nat→Prop} {es:List (List OT)} {v:Value} (h:ORep w I S (.ow es) v):∃ a n c,v=.slice a n c:=by
 cases h with
 | nil=>exact ⟨_,_,_,rfl⟩
 | row=>exact ⟨_,_,_,rfl⟩
theorem MQ {α:Type} [Inhabited α] (enc:α→List Value) (k:Nat) (w:World) (b m:Nat) (dk:Array α) (os:Array Obj) (x:Nat) (hx:x<w.heap.size) :
  (sortWorldK enc k w b 0 m dk os).heap[x]?=if b=x then (w.heap[x]?).map (onCells (putCells id 0 (flatK enc k dk))) else w.heap[x]?:=by
 unfold sortWorldK grow putRowK putRow mapBlock Sort.ahead
 have hx':x<(w.heap.modify b (onCells (putCells id 0 (flatK enc k dk)))).size:=by simpa using hx
 simp only [Array.getElem?_append,Array.size_modify,hx,if_true,yE]
theorem Xb {α:Type} [Inhabited α] (enc:α→List Value) (k:Nat) (w:World) (b m:Nat) (dk:Array α) (os:Array Obj) {cur:Array Value} {t:TypeId} {fr:Nat × Nat} (hb:w.heap[b]?=some (.cells cur t fr)) :
  (sortWorldK enc k w b 0 m dk os).heap[b]?=some (.cells (putCells id 0 (flatK enc k dk) cur) t fr):=by
 rw [MQ enc k w b m dk os b (zV.1 hb).1,if_pos rfl,hb]
 rfl
theorem Xc {α:Type} [Inhabited α] (enc:α→List Value) (k:Nat) (dk:Array α) (cur:Array Value) {i j:Nat} (hi:i<dk.size) (hj:j<k) (hc:dk.size*k≤cur.size) :
  (putCells id 0 (flatK enc k dk) cur).getD (i*k+j) undef=(enc dk[i]!)[j]!:=by
 have hlt:i*k+j<dk.size*k:=mul_lt hi hj
 have e1:(i*k+j) / k=i:=by rw [Nat.mul_comm,Nat.mul_add_div (by omega),Nat.div_eq_of_lt hj,zZ]
 have e2:(i*k+j) % k=j:=by rw [Nat.mul_comm,Nat.mul_add_mod,Nat.mod_eq_of_lt hj]
 have h:=get_flatK enc k dk (i*k+j) hlt
 rw [e1,e2] at h
 have hlt2:i*k+j<cur.size:=zQ hlt hc
 simp only [putCells,zN,yP,zI hlt2,yL,yA,zR,true_and,size_flatK,zX,hlt,if_true,Nat.sub_zero,id]
 exact h
end Go.Proofs.YtepbennkcbmgoaaGreatDoor
set_option maxRecDepth 100000
set_option linter.unusedSimpArgs false
set_option linter.unusedVariables false
set_option linter.unusedSectionVars false
namespace Go.Proofs.YtepbennkcbmgoaaGreatDoor
open Go.RowKit Go.Shelf Go.Lib Go.Sort
def keyed (es:List (List OT)):Prop:=(∀ e∈es,∃ s n us,e=[.str s,.str n,.ow us])∧(es.map KJ).Nodup∧es.length≤1099511627776
noncomputable def Qe1 (xs:List SV) (ob:List Ob):Option (SV × List Ob) :=
 match xs,ob with
 | [.ref 0,.fn f []],[.row t sz es]=>bif dec (f=282∧sz=3∧keyed es) then some (.tup [],[.row t sz (es.mergeSort Qfu)]) else none
 | [.nil,.fn f []],[]=>bif dec (f=282) then some (.tup [],[]) else none
 | _,_=>none
end Go.Proofs.YtepbennkcbmgoaaGreatDoor
set_option maxRecDepth 100000
set_option linter.unusedSimpArgs false
set_option linter.unusedVariables false
set_option linter.unusedSectionVars false
namespace Go.Proofs.YtepbennkcbmgoaaGreatDoor
open Go.RowKit
noncomputable def Gi (a b:ByteArray):Int:=bif strLt a b then -1 else bif dec (a=b) then 0 else 1
noncomputable def Hg (a b:Int):Int:=bif dec (a<b) then -1 else bif dec (b<a) then 1 else 0
def orZ (x y:Int):Int:=if x=0 then y else x
mutual
noncomputable def Tm.cmp:Tm→Tm→Int
 | .mk n xs,y=>if AY n&&!AY y.name then -1 else if AY y.name&&!AY n then 1 else orZ (orZ (Gi n y.name) (Hg xs.length y.args.length)) (Tm.CG xs y.args)
noncomputable def Tm.CG:List Tm→List Tm→Int
 | [],[]=>0
 | [],_ :: _=>-1
 | _ :: _,[]=>1
 | x :: xs,y :: ys=>orZ (Tm.cmp x y) (Tm.CG xs ys)
end
theorem Tm.Vm (x y:Tm):x.cmp y=if AY x.name&&!AY y.name then -1 else if AY y.name&&!AY x.name then 1 else orZ (orZ (Gi x.name y.name) (Hg x.args.length y.args.length)) (Tm.CG x.args y.args):=by
 obtain ⟨n,xs⟩:=x
 rw [Tm.cmp]; rfl
def Ml (s:ByteArray):Bool:=decide (0<s.size)&&(RD (Kd s 0) == AY s)
mutual
def Tm.cok:Tm→Bool
 | .mk n xs=>Ml n&&Tm.YR xs
def Tm.YR:List Tm→Bool
 | []=>true
 | x :: xs=>Tm.cok x&&Tm.YR xs
end
theorem Tm.MR (x:Tm):x.cok=(Ml x.name&&Tm.YR x.args):=by
 obtain ⟨n,xs⟩:=x
 rw [Tm.cok]; rfl
theorem Tm.Hh {xs:List Tm} (h:Tm.YR xs=true) {y:Tm} (hy:y∈xs):y.cok=true:=by
 induction xs with
 | nil=>cases hy
 | cons x xs ih =>
  rw [Tm.YR,zB] at h
  rcases zL.1 hy with rfl | hy
  ·exact h.1
  ·exact ih h.2 hy
def Hi (b:Bool):Int:=if b then 1 else 0
noncomputable def Lt.cmp (x y:Lt):Int:=orZ (x.atom.cmp y.atom) (Hg (Hi x.pos) (Hi y.pos))
theorem OE:∀ x:List UInt8,Op.bytesLess x x=false
 | []=>rfl
 | a :: x=>by simp [Op.bytesLess,OE x]
theorem RF:∀ x y z:List UInt8,Op.bytesLess x y=true→Op.bytesLess y z=true→Op.bytesLess x z=true
 | [],_,[],_,h=>by cases ‹List UInt8› <;> simp [Op.bytesLess] at *
 | [],_,_ :: _,_,_=>rfl
 | _ :: _,[],_,h,_=>by simp [Op.bytesLess] at h
 | _ :: _,_ :: _,[],_,h=>by simp [Op.bytesLess] at h
 | a :: x,b :: y,c :: z,h,k=>by
  simp only [Op.bytesLess,y6,decide_eq_true_eq,zB,beq_iff_eq] at h k ⊢
  rcases h with h | ⟨rfl,h⟩
  ·rcases k with k | ⟨rfl,k⟩
   ·exact .inl (UInt8.lt_trans h k)
   ·exact .inl h
  ·rcases k with k | ⟨rfl,k⟩
   ·exact .inl k
   ·exact .inr ⟨rfl,RF x y z h k⟩
theorem Qcs:∀ x y:List UInt8,Op.bytesLess x y=false→Op.bytesLess y x=false→x=y
 | [],[],_,_=>rfl
 | [],_ :: _,h,_=>by simp [Op.bytesLess] at h
 | _ :: _,[],_,h=>by simp [Op.bytesLess] at h
 | a :: x,b :: y,h,k=>by
  simp only [Op.bytesLess,yR,decide_eq_false_iff_not] at h k
  have hab:a=b:=by
   have h1:=h.1; have h2:=k.1
   rw [UInt8.lt_iff_toNat_lt] at h1 h2
   exact UInt8.toNat_inj.1 (by omega)
  subst hab
  have h1:Op.bytesLess x y=false:=by simpa using h.2
  have h2:Op.bytesLess y x=false:=by simpa using k.2
  rw [Qcs x y h1 h2]
theorem Qct {a b:ByteArray} (h:a.toList=b.toList):a=b:=by
 rw [ByteArray.toList_eq,ByteArray.toList_eq] at h
 obtain ⟨⟨x⟩⟩:=a
 obtain ⟨⟨y⟩⟩:=b
 simp at h
 rw [h]
structure Ord3 {α:Type} (c:α→α→Int) (a b d:α):Prop where
 anti:c b a=- c a b
 zero:c a b=0 ↔ a=b
 trans:c a b<0→c b d<0→c a d<0
theorem RG (a b d:ByteArray):Ord3 Gi a b d:=by
 have key:∀ x y:ByteArray,(Gi x y=-1∧strLt x y=true∧x≠y)∨(Gi x y=0∧x=y)∨(Gi x y=1∧strLt y x=true∧strLt x y=false∧x≠y):=by
  intro x y
  unfold Gi
  cases h:strLt x y with
  | true =>
   refine .inl ⟨rfl,rfl,?_⟩
   rintro rfl
   unfold strLt at h
   rw [OE] at h; cases h
  | false =>
   by_cases e:x=y
   ·refine .inr (.inl ⟨?_,e⟩)
    rw [An e]; rfl
   ·refine .inr (.inr ⟨?_,?_,rfl,e⟩)
    ·rw [Aj e]; rfl
    ·cases h2:strLt y x with
     | true=>rfl
     | false=>exact absurd (Qct (Qcs _ _ h h2)) e
 have asy:∀ x y:ByteArray,strLt x y=true→strLt y x=true→False:=fun x y h k=>by
  have:=RF _ _ _ h k
  rw [OE] at this; cases this
 refine ⟨?_,?_,?_⟩
 ·rcases key a b with ⟨h,h1,h2⟩ | ⟨h,rfl⟩ | ⟨h,h1,h2,h3⟩
  ·rcases key b a with ⟨k,k1,k2⟩ | ⟨k,rfl⟩ | ⟨k,k1,k2,k3⟩
   ·exact (asy _ _ h1 k1).elim
   ·exact absurd rfl h2
   ·rw [h,k]; rfl
  ·rw [h]; rfl
  ·rcases key b a with ⟨k,k1,k2⟩ | ⟨k,rfl⟩ | ⟨k,k1,k2,k3⟩
   ·rw [h,k]
   ·exact absurd rfl h3
   ·exact (asy _ _ h1 k1).elim
 ·rcases key a b with ⟨h,h1,h2⟩ | ⟨h,rfl⟩ | ⟨h,h1,h2,h3⟩
  ·rw [h]; constructor
   ·intro e; cases e
   ·intro e; exact absurd e h2
  ·rw [h]; simp
  ·rw [h]; constructor
   ·intro e; cases e
   ·intro e; exact absurd e h3
 ·intro h k
  rcases key a b with ⟨_,h1,h2⟩ | ⟨e,_⟩ | ⟨e,_⟩
  ·rcases key b d with ⟨_,k1,k2⟩ | ⟨e,_⟩ | ⟨e,_⟩
   ·have:=RF _ _ _ h1 k1
    have e:strLt a d=true:=this
    unfold Gi
    rw [e]; exact (by decide:(-1:Int)<0)
   ·omega
   ·omega
  ·omega
  ·omega
theorem EY (a b d:Int):Ord3 Hg a b d:=by
 have key:∀ x y:Int,Hg x y=if x<y then -1 else if y<x then 1 else 0:=fun x y=>by
  unfold Hg
  by_cases h:x<y
  ·rw [An h,if_pos h]; rfl
  ·rw [Aj h,if_neg h]
   by_cases h2:y<x
   ·rw [An h2,if_pos h2]; rfl
   ·rw [Aj h2,if_neg h2]; rfl
 refine ⟨?_,?_,?_⟩ <;> simp only [key]
 ·split <;> split <;> omega
 ·split
  ·constructor <;> omega
  ·split <;> constructor <;> omega
 ·split <;> split <;> split <;> omega
theorem KL {a b a' b':Int} (h:a'=-a) (k:b'=-b):orZ a' b'=- orZ a b:=by
 unfold orZ
 subst h k
 split <;> split <;> omega
theorem KM {a b:Int}:orZ a b=0 ↔ a=0∧b=0:=by
 unfold orZ
 split
 ·rename_i h; simp [h]
 ·rename_i h; simp [h]
theorem QE {a b:Int}:orZ a b<0 ↔ a<0∨(a=0∧b<0):=by
 unfold orZ
 split <;> omega
theorem N5 {α:Type} {c:α→α→Int} (hc:∀ a b d,Ord3 c a b d) {a b d:α} {p q r:Int} (hk:p<0→q<0→r<0) (h1:orZ (c a b) p<0) (h2:orZ (c b d) q<0):orZ (c a d) r<0:=by
 rw [QE] at h1 h2 ⊢
 rcases h1 with h1 | ⟨h1,h3⟩
 ·rcases h2 with h2 | ⟨h2,h4⟩
  ·exact .inl ((hc a b d).trans h1 h2)
  ·have e:=(hc b d d).zero.1 h2
   subst e
   exact .inl h1
 ·have e:=(hc a b d).zero.1 h1
  subst e
  rcases h2 with h2 | ⟨h2,h4⟩
  ·exact .inl h2
  ·exact .inr ⟨h2,hk h3 h4⟩
def kvZ (n:ByteArray):Int:=if AY n then 0 else 1
theorem Tm.OF (x y:Tm):x.cmp y=orZ (Hg (kvZ x.name) (kvZ y.name)) (orZ (Gi x.name y.name) (orZ (Hg x.args.length y.args.length) (Tm.CG x.args y.args))):=by
 rw [Tm.Vm]
 have hI:∀ p q:Int,Hg p q=if p<q then -1 else if q<p then 1 else 0:=fun x y=>by
  unfold Hg
  by_cases h:x<y
  ·rw [An h,if_pos h]; rfl
  ·rw [Aj h,if_neg h]
   by_cases h2:y<x
   ·rw [An h2,if_pos h2]; rfl
   ·rw [Aj h2,if_neg h2]; rfl
 rw [hI (kvZ _) (kvZ _)]
 have e:∀ p q r:Int,orZ (orZ p q) r=orZ p (orZ q r):=fun p q r=>by
  unfold orZ
  by_cases h:p=0
  ·simp [h]
  ·simp [h]
 unfold kvZ
 cases AY x.name <;> cases AY y.name <;> simp [e] <;> rfl
mutual
theorem Tm.RH:∀ x y:Tm,y.cmp x=- x.cmp y
 | .mk n xs,.mk m ys=>by
  rw [Tm.OF,Tm.OF (.mk n xs)]
  exact KL (EY _ _ 0).anti (KL (RG _ _ m).anti (KL (EY _ _ 0).anti (Tm.TV xs ys)))
theorem Tm.TV:∀ xs ys:List Tm,Tm.CG ys xs=- Tm.CG xs ys
 | [],[]=>rfl
 | [],y :: ys=>by rw [Tm.CG,Tm.CG]; rfl
 | x :: xs,[]=>by rw [Tm.CG,Tm.CG]
 | x :: xs,y :: ys=>by
  rw [Tm.CG,Tm.CG]
  exact KL (Tm.RH x y) (Tm.TV xs ys)
end
mutual
theorem Tm.N6:∀ x y:Tm,x.cmp y=0 ↔ x=y
 | .mk n xs,.mk m ys=>by
  rw [Tm.OF,KM,KM,KM,(EY _ _ 0).zero,(RG _ _ m).zero,(EY _ _ 0).zero,show Tm.CG (Tm.mk n xs).args (Tm.mk m ys).args=0 ↔ xs=ys from Tm.TW xs ys]
  constructor
  ·rintro ⟨_,h1,_,h2⟩
   have h1:n=m:=h1
   rw [h1,h2]
  ·intro h
   injection h with h1 h2
   subst h1 h2
   exact ⟨rfl,rfl,rfl,rfl⟩
theorem Tm.TW:∀ xs ys:List Tm,Tm.CG xs ys=0 ↔ xs=ys
 | [],[]=>by rw [Tm.CG]; simp
 | [],y :: ys=>by rw [Tm.CG]; simp
 | x :: xs,[]=>by rw [Tm.CG]; simp
 | x :: xs,y :: ys=>by rw [Tm.CG,KM,Tm.N6 x y,Tm.TW xs ys,yH]
end
mutual
theorem Tm.TX:∀ x y z:Tm,x.cmp y<0→y.cmp z<0→x.cmp z<0
 | .mk n xs,.mk m ys,.mk k zs=>by
  rw [Tm.OF,Tm.OF (.mk m ys),Tm.OF (.mk n xs)]
  exact N5 EY (N5 RG (N5 EY (Tm.RI xs ys zs)))
theorem Tm.RI:∀ xs ys zs:List Tm,Tm.CG xs ys<0→Tm.CG ys zs<0→Tm.CG xs zs<0
 | [],[],zs=>by rw [Tm.CG]; intro h; omega
 | [],y :: ys,[]=>by intro _ h; rw [Tm.CG] at h; omega
 | [],y :: ys,z :: zs=>by intro _ _; rw [Tm.CG]; omega
 | x :: xs,[],zs=>by intro h; rw [Tm.CG] at h; omega
 | x :: xs,y :: ys,[]=>by intro _ h; rw [Tm.CG] at h; omega
 | x :: xs,y :: ys,z :: zs=>by
  rw [Tm.CG,Tm.CG,Tm.CG,QE,QE,QE]
  intro h1 h2
  rcases h1 with h1 | ⟨h1,h3⟩
  ·rcases h2 with h2 | ⟨h2,h4⟩
   ·exact .inl (Tm.TX x y z h1 h2)
   ·obtain rfl:=(Tm.N6 y z).1 h2
    exact .inl h1
  ·obtain rfl:=(Tm.N6 x y).1 h1
   rcases h2 with h2 | ⟨h2,h4⟩
   ·exact .inl h2
   ·exact .inr ⟨h2,Tm.RI xs ys zs h3 h4⟩
end
theorem Tm.cmp_ord (x y z:Tm):Ord3 Tm.cmp x y z:=⟨Tm.RH x y,Tm.N6 x y,Tm.TX x y z⟩
theorem Qbe {a b:Bool}:Hi a=Hi b ↔ a=b:=by cases a <;> cases b <;> decide
theorem Lt.cmp_ord (x y z:Lt):Ord3 Lt.cmp x y z:=by
 refine ⟨KL (Tm.RH _ _) (EY _ _ 0).anti,?_,?_⟩
 ·unfold Lt.cmp
  rw [KM,(Tm.cmp_ord _ _ x.atom).zero,(EY _ _ 0).zero,Qbe]
  cases x; cases y
  simp [and_comm]
 ·exact N5 Tm.cmp_ord fun h k=>(EY _ _ _).trans h k
abbrev Tm.sv (x:Tm):SV:=.agg [.str x.name,.arr (x.args.map Tm.d)]
mutual
def Tm.o:Tm→List OT
 | .mk name args=>[.str name,.ow (Tm.os args)]
def Tm.os:List Tm→List (List OT)
 | []=>[]
 | x :: xs=>Tm.o x :: Tm.os xs
end
theorem Tm.os_eq:∀ xs:List Tm,Tm.os xs=xs.map Tm.o
 | []=>rfl
 | x :: xs=>by rw [Tm.os,Tm.os_eq xs]; rfl
theorem Tm.o_eq (x:Tm):Tm.o x=[.str x.name,.ow (x.args.map Tm.o)]:=by
 obtain ⟨name,args⟩:=x
 rw [Tm.o,Tm.os_eq]; rfl
theorem Tm.ers_of:∀ xs:List Tm,(∀ x∈xs,OT.ers (Tm.o x)=Tm.d x)→OT.erss (xs.map Tm.o)=xs.map Tm.d
 | [],_=>rfl
 | x :: xs,h=>by
  simp only [zF,OT.erss]
  rw [h x (by simp),Tm.ers_of xs fun y hy=>h y (by simp [hy])]
theorem Tm.er (x:Tm):OT.ers (Tm.o x)=Tm.d x:=by
 have h:=Tm.ers_of x.args fun y hy=>Tm.er y
 rw [Tm.o_eq,Tm.d_eq]
 simp only [OT.ers,OT.er,h]
termination_by SizeOf.sizeOf x
decreasing_by exact Tm.lt_of_mem hy
theorem Tm.erss (xs:List Tm):OT.erss (xs.map Tm.o)=xs.map Tm.d:=Tm.ers_of xs fun x _=>Tm.er x
theorem Tm.nos_of:∀ xs:List Tm,(∀ x∈xs,OT.Dq (Tm.o x)=true)→OT.BD (xs.map Tm.o)=true
 | [],_=>rfl
 | x :: xs,h=>by
  simp only [zF,OT.BD]
  rw [h x (by simp),Tm.nos_of xs fun y hy=>h y (by simp [hy])]; rfl
theorem Tm.no (x:Tm):OT.Dq (Tm.o x)=true:=by
 have h:=Tm.nos_of x.args fun y hy=>Tm.no y
 rw [Tm.o_eq]
 simp only [OT.Dq,OT.noSh,h,zG,zO]
termination_by SizeOf.sizeOf x
decreasing_by exact Tm.lt_of_mem hy
theorem Tm.noss (xs:List Tm):OT.BD (xs.map Tm.o)=true:=Tm.nos_of xs fun x _=>Tm.no x
abbrev Tm.osv (x:Tm):SV:=.agg [.str x.name,.ref 0]
abbrev Tm.obs (x:Tm):List Ob:=[.row 33 2 (x.args.map Tm.o)]
abbrev Fm.sv (x:Fm):SV:=.agg [.int .i64 x.op,.str x.atom.name,.arr (x.atom.args.map Tm.d),.str x.var,.arr (x.parts.map Fm.d)]
mutual
def Fm.o:Fm→List OT
 | .mk op atom var parts=>[.int op,.str atom.name,.ow (atom.args.map Tm.o),.str var,.ow (Fm.os parts)]
def Fm.os:List Fm→List (List OT)
 | []=>[]
 | x :: xs=>Fm.o x :: Fm.os xs
end
theorem Fm.os_eq:∀ xs:List Fm,Fm.os xs=xs.map Fm.o
 | []=>rfl
 | x :: xs=>by rw [Fm.os,Fm.os_eq xs]; rfl
theorem Fm.o_eq (x:Fm):Fm.o x=[.int x.op,.str x.atom.name,.ow (x.atom.args.map Tm.o),.str x.var,.ow (x.parts.map Fm.o)]:=by
 obtain ⟨op,atom,var,parts⟩:=x
 rw [Fm.o,Fm.os_eq]; rfl
theorem Fm.ers_of:∀ xs:List Fm,(∀ x∈xs,OT.ers (Fm.o x)=Fm.d x)→OT.erss (xs.map Fm.o)=xs.map Fm.d
 | [],_=>rfl
 | x :: xs,h=>by
  simp only [zF,OT.erss]
  rw [h x (by simp),Fm.ers_of xs fun y hy=>h y (by simp [hy])]
theorem Fm.er (x:Fm):OT.ers (Fm.o x)=Fm.d x:=by
 have h:=Fm.ers_of x.parts fun y hy=>Fm.er y
 rw [Fm.o_eq,Fm.d_eq]
 simp only [OT.ers,OT.er,h,Tm.erss]
termination_by SizeOf.sizeOf x
decreasing_by exact Fm.lt_of_mem hy
theorem Fm.erss (xs:List Fm):OT.erss (xs.map Fm.o)=xs.map Fm.d:=Fm.ers_of xs fun x _=>Fm.er x
theorem Fm.nos_of:∀ xs:List Fm,(∀ x∈xs,OT.Dq (Fm.o x)=true)→OT.BD (xs.map Fm.o)=true
 | [],_=>rfl
 | x :: xs,h=>by
  simp only [zF,OT.BD]
  rw [h x (by simp),Fm.nos_of xs fun y hy=>h y (by simp [hy])]; rfl
theorem Fm.no (x:Fm):OT.Dq (Fm.o x)=true:=by
 have h:=Fm.nos_of x.parts fun y hy=>Fm.no y
 rw [Fm.o_eq]
 simp only [OT.Dq,OT.noSh,h,Tm.noss,zG,zO]
termination_by SizeOf.sizeOf x
decreasing_by exact Fm.lt_of_mem hy
theorem Fm.noss (xs:List Fm):OT.BD (xs.map Fm.o)=true:=Fm.nos_of xs fun x _=>Fm.no x
abbrev Fm.osv (x:Fm):SV:=.agg [.int .i64 x.op,.str x.atom.name,.ref 0,.str x.var,.ref 1]
abbrev Fm.obs (x:Fm):List Ob:=[.row 33 2 (x.atom.args.map Tm.o),.row 36 5 (x.parts.map Fm.o)]
abbrev Lt.sv (x:Lt):SV:=.agg [.bool x.pos,.str x.atom.name,.arr (x.atom.args.map Tm.d)]
def Lt.o (x:Lt):List OT:=[.bool x.pos,.str x.atom.name,.ow (x.atom.args.map Tm.o)]
theorem Lt.o_eq (x:Lt):Lt.o x=[.bool x.pos,.str x.atom.name,.ow (x.atom.args.map Tm.o)]:=rfl
theorem Lt.er (x:Lt):OT.ers (Lt.o x)=Lt.d x:=by
 simp only [Lt.o,Lt.d,OT.ers,OT.er,Tm.erss]
theorem Lt.erss:∀ xs:List Lt,OT.erss (xs.map Lt.o)=xs.map Lt.d
 | []=>rfl
 | x :: xs=>by simp only [zF,OT.erss,Lt.er,Lt.erss xs]
theorem Lt.no (x:Lt):OT.Dq (Lt.o x)=true:=by
 simp only [Lt.o,OT.Dq,OT.noSh,Tm.noss,zG,zO]
theorem Lt.noss:∀ xs:List Lt,OT.BD (xs.map Lt.o)=true
 | []=>rfl
 | x :: xs=>by simp only [zF,OT.BD,Lt.no,Lt.noss xs,zG]
abbrev Lt.osv (x:Lt):SV:=.agg [.bool x.pos,.str x.atom.name,.ref 0]
abbrev Lt.obs (x:Lt):List Ob:=[.row 33 2 (x.atom.args.map Tm.o)]
abbrev Cl.sv (x:Cl):SV:=.agg [.arr (x.lits.map Lt.d)]
def Cl.o (x:Cl):List OT:=[.ow (x.lits.map Lt.o)]
theorem Cl.o_eq (x:Cl):Cl.o x=[.ow (x.lits.map Lt.o)]:=rfl
theorem Cl.er (x:Cl):OT.ers (Cl.o x)=Cl.d x:=by
 simp only [Cl.o,Cl.d,OT.ers,OT.er,Lt.erss]
theorem Cl.erss:∀ xs:List Cl,OT.erss (xs.map Cl.o)=xs.map Cl.d
 | []=>rfl
 | x :: xs=>by simp only [zF,OT.erss,Cl.er,Cl.erss xs]
theorem Cl.no (x:Cl):OT.Dq (Cl.o x)=true:=by
 simp only [Cl.o,OT.Dq,OT.noSh,Lt.noss,zG,zO]
theorem Cl.noss:∀ xs:List Cl,OT.BD (xs.map Cl.o)=true
 | []=>rfl
 | x :: xs=>by simp only [zF,OT.BD,Cl.no,Cl.noss xs,zG]
abbrev Cl.osv (x:Cl):SV:=.agg [.ref 0]
abbrev Cl.obs (x:Cl):List Ob:=[.row 122 3 (x.lits.map Lt.o)]
def Bd.o (x:Bd):List OT:=[.str x.var,.str x.term.name,.ow (x.term.args.map Tm.o)]
theorem Bd.er (x:Bd):OT.ers (Bd.o x)=Bd.d x:=by
 simp only [Bd.o,Bd.d,OT.ers,OT.er,Tm.erss]
theorem Bd.erss:∀ xs:List Bd,OT.erss (xs.map Bd.o)=xs.map Bd.d
 | []=>rfl
 | x :: xs=>by simp only [zF,OT.erss,Bd.er,Bd.erss xs]
theorem Bd.no (x:Bd):OT.Dq (Bd.o x)=true:=by
 simp only [Bd.o,OT.Dq,OT.noSh,Tm.noss,zG,zO]
theorem Bd.noss:∀ xs:List Bd,OT.BD (xs.map Bd.o)=true
 | []=>rfl
 | x :: xs=>by simp only [zF,OT.BD,Bd.no,Bd.noss xs,zG]
def Sb.o (x:Sb):List OT:=[.ow (x.binds.map Bd.o)]
theorem Sb.er (x:Sb):OT.ers (Sb.o x)=Sb.d x:=by
 simp only [Sb.o,Sb.d,OT.ers,OT.er,Bd.erss]
theorem Sb.erss:∀ xs:List Sb,OT.erss (xs.map Sb.o)=xs.map Sb.d
 | []=>rfl
 | x :: xs=>by simp only [zF,OT.erss,Sb.er,Sb.erss xs]
theorem Sb.no (x:Sb):OT.Dq (Sb.o x)=true:=by
 simp only [Sb.o,OT.Dq,OT.noSh,Bd.noss,zG,zO]
theorem Sb.noss:∀ xs:List Sb,OT.BD (xs.map Sb.o)=true
 | []=>rfl
 | x :: xs=>by simp only [zF,OT.BD,Sb.no,Sb.noss xs,zG]
def Df.o (x:Df):List OT:=[.str x.name,.ow (x.vars.map fun s=>[OT.str s]),.int x.form.op,.str x.form.atom.name,.ow (x.form.atom.args.map Tm.o),.str x.form.var,.ow (x.form.parts.map Fm.o)]
theorem Df.er (x:Df):OT.ers (Df.o x)=Df.d x:=by
 simp only [Df.o,Df.d,OT.ers,OT.er,J5,Tm.erss,Fm.erss]
theorem Df.erss:∀ xs:List Df,OT.erss (xs.map Df.o)=xs.map Df.d
 | []=>rfl
 | x :: xs=>by simp only [zF,OT.erss,Df.er,Df.erss xs]
theorem Df.no (x:Df):OT.Dq (Df.o x)=true:=by
 simp only [Df.o,OT.Dq,OT.noSh,Qad,Tm.noss,Fm.noss,zG,zO]
theorem Df.noss:∀ xs:List Df,OT.BD (xs.map Df.o)=true
 | []=>rfl
 | x :: xs=>by simp only [zF,OT.BD,Df.no,Df.noss xs,zG]
end Go.Proofs.YtepbennkcbmgoaaGreatDoor
set_option maxRecDepth 100000
namespace Go.Proofs.YtepbennkcbmgoaaGreatDoor
open Go.Shelf
def so_SortL_ren:Go.Shelf.Ren:=⟨fun | 6=>287 | 15=>182 | 14=>319 | 28=>256 | 29=>257 | 20=>337 | 21=>338 | 22=>339 | 23=>340 | 24=>341 | 25=>342 | 26=>343 | 27=>344 | 46=>352 | 47=>301 | 48=>302 | 49=>353 | 50=>354 | 57=>358 | n=>n,fun | 22=>58 | 24=>122 | 25=>191 | 3=>3 | 39=>184 | 0=>0 | 53=>239 | 55=>241 | 4=>4 | 46=>231 | 45=>230 | 50=>236 | 5=>5 | 9=>9 | 66=>271 | 70=>275 | 76=>286 | 77=>287 | n=>n,fun | n=>n⟩
theorem RJ:Go.Proofs.SlLaysF0.n6 Tryz.prog so_SortL_ren:={
 mixed:=by kernel_rfl,
 f6:=⟨Tryz.f287.name,by decide,Tryz.func287.trans (congrArg some (by kernel_rfl))⟩,
 f14:=⟨Tryz.f319.name,by decide,Tryz.func319.trans (congrArg some (by kernel_rfl))⟩,
 f15:=Tryz.func182.trans (congrArg some (by kernel_rfl)),
 f20:=⟨Tryz.f337.name,by decide,Tryz.func337.trans (congrArg some (by kernel_rfl))⟩,
 f21:=⟨Tryz.f338.name,by decide,Tryz.func338.trans (congrArg some (by kernel_rfl))⟩,
 f22:=⟨Tryz.f339.name,by decide,Tryz.func339.trans (congrArg some (by kernel_rfl))⟩,
 f23:=⟨Tryz.f340.name,by decide,Tryz.func340.trans (congrArg some (by kernel_rfl))⟩,
 f24:=⟨Tryz.f341.name,by decide,Tryz.func341.trans (congrArg some (by kernel_rfl))⟩,
 f25:=⟨Tryz.f342.name,by decide,Tryz.func342.trans (congrArg some (by kernel_rfl))⟩,
 f26:=⟨Tryz.f343.name,by decide,Tryz.func343.trans (congrArg some (by kernel_rfl))⟩,
 f27:=⟨Tryz.f344.name,by decide,Tryz.func344.trans (congrArg some (by kernel_rfl))⟩,
 f28:=Tryz.func256.trans (congrArg some (by kernel_rfl)),
 f29:=Tryz.func257.trans (congrArg some (by kernel_rfl)),
 f46:=⟨Tryz.f352.name,by decide,Tryz.func352.trans (congrArg some (by kernel_rfl))⟩,
 f47:=Tryz.func301.trans (congrArg some (by kernel_rfl)),
 f48:=Tryz.func302.trans (congrArg some (by kernel_rfl)),
 f49:=⟨Tryz.f353.name,by decide,Tryz.func353.trans (congrArg some (by kernel_rfl))⟩,
 f50:=⟨Tryz.f354.name,by decide,Tryz.func354.trans (congrArg some (by kernel_rfl))⟩,
 f57:=⟨Tryz.f358.name,by decide,Tryz.func358.trans (congrArg some (by kernel_rfl))⟩,
 t0:=Tryz.underlying0,
 a0:=Tryz.isAgg0,
 z0:=Tryz.sizeOf0,
 v0:=Tryz.zeroValue0,
 t3:=Tryz.underlying3,
 a3:=Tryz.isAgg3,
 z3:=Tryz.sizeOf3,
 v3:=Tryz.zeroValue3,
 t4:=Tryz.underlying4,
 a4:=Tryz.isAgg4,
 z4:=Tryz.sizeOf4,
 v4:=Tryz.zeroValue4,
 t5:=Tryz.underlying5,
 a5:=Tryz.isAgg5,
 z5:=Tryz.sizeOf5,
 v5:=Tryz.zeroValue5,
 t9:=Tryz.underlying9,
 a9:=Tryz.isAgg9,
 z9:=Tryz.sizeOf9,
 v9:=Tryz.zeroValue9,
 t22:=Tryz.underlying58,
 a22:=Tryz.isAgg58,
 z22:=Tryz.sizeOf58,
 v22:=Tryz.zeroValue58,
 t25:=Tryz.underlying191,
 a25:=Tryz.isAgg191,
 z25:=Tryz.sizeOf191,
 v25:=Tryz.zeroValue191,
 t39:=Tryz.underlying184,
 a39:=Tryz.isAgg184,
 z39:=Tryz.sizeOf184,
 v39:=Tryz.zeroValue184,
 t45:=Tryz.underlying230,
 a45:=Tryz.isAgg230,
 z45:=Tryz.sizeOf230,
 v45:=Tryz.zeroValue230,
 t46:=Tryz.underlying231,
 a46:=Tryz.isAgg231,
 z46:=Tryz.sizeOf231,
 v46:=Tryz.zeroValue231,
 t50:=Tryz.underlying236,
 a50:=Tryz.isAgg236,
 z50:=Tryz.sizeOf236,
 v50:=Tryz.zeroValue236,
 t53:=Tryz.underlying239,
 a53:=Tryz.isAgg239,
 z53:=Tryz.sizeOf239,
 v53:=Tryz.zeroValue239,
 t55:=Tryz.underlying241,
 a55:=Tryz.isAgg241,
 z55:=Tryz.sizeOf241,
 v55:=Tryz.zeroValue241,
 t66:=Tryz.underlying271,
 a66:=Tryz.isAgg271,
 z66:=Tryz.sizeOf271,
 v66:=Tryz.zeroValue271,
 t70:=Tryz.underlying275,
 a70:=Tryz.isAgg275,
 z70:=Tryz.sizeOf275,
 v70:=Tryz.zeroValue275,
 t76:=Tryz.underlying286,
 a76:=Tryz.isAgg286,
 z76:=Tryz.sizeOf286,
 v76:=Tryz.zeroValue286,
 t77:=Tryz.underlying287,
 a77:=Tryz.isAgg287,
 z77:=Tryz.sizeOf287,
 v77:=Tryz.zeroValue287 }
end Go.Proofs.YtepbennkcbmgoaaGreatDoor
set_option maxRecDepth 100000
set_option linter.unusedSimpArgs false
set_option linter.unusedVariables false
set_option linter.unusedSectionVars false
namespace Go.Proofs.YtepbennkcbmgoaaGreatDoor
open Go.RowKit Go.Shelf Go.Lib Go.Sort
mutual
theorem Tm.o_inj:∀ x y:Tm,Tm.o x=Tm.o y→x=y
 | .mk n xs,.mk m ys,h=>by
  rw [Tm.o_eq,Tm.o_eq] at h
  simp only [yH,OT.str.injEq,OT.ow.injEq,and_true] at h
  have h1:n=m:=h.1
  rw [h1,Tm.os_inj xs ys h.2]
theorem Tm.os_inj:∀ xs ys:List Tm,xs.map Tm.o=ys.map Tm.o→xs=ys
 | [],[],_=>rfl
 | [],y :: ys,h=>by simp at h
 | x :: xs,[],h=>by simp at h
 | x :: xs,y :: ys,h=>by
  simp only [zF,yH] at h
  rw [Tm.o_inj x y h.1,Tm.os_inj xs ys h.2]
end
theorem Lt.o_inj (x y:Lt) (h:Lt.o x=Lt.o y):x=y:=by
 rw [Lt.o_eq,Lt.o_eq] at h
 simp only [yH,OT.bool.injEq,OT.str.injEq,OT.ow.injEq,and_true] at h
 obtain ⟨p,⟨n,xs⟩⟩:=x
 obtain ⟨q,⟨m,ys⟩⟩:=y
 obtain ⟨h1,h2,h3⟩:=h
 have h1:p=q:=h1
 have h2:n=m:=h2
 rw [h1,h2,Tm.os_inj xs ys h3]
theorem Lt.os_inj:∀ {xs ys:List Lt},xs.map Lt.o=ys.map Lt.o→xs=ys
 | [],[],_=>rfl
 | [],y :: ys,h=>by simp at h
 | x :: xs,[],h=>by simp at h
 | x :: xs,y :: ys,h=>by
  simp only [zF,yH] at h
  rw [Lt.o_inj x y h.1,Lt.os_inj h.2]
theorem YS:∀ xs:List Tm,(∀ x∈xs,OT.C6 (Tm.o x)=true)→OT.AO (xs.map Tm.o)=true
 | [],_=>rfl
 | x :: xs,h=>by
  simp only [zF,OT.AO]
  rw [h x (by simp),YS xs fun y hy=>h y (by simp [hy])]; rfl
theorem lfu (x:Tm):OT.C6 (Tm.o x)=true:=by
 have h:=YS x.args fun y hy=>lfu y
 rw [Tm.o_eq]
 simp only [OT.C6,OT.full,h,zG,zO]
termination_by SizeOf.sizeOf x
decreasing_by exact Tm.lt_of_mem hy
noncomputable def unL (es:List (List OT)):List Lt:=match Classical.propDecidable (∃ xs:List Lt,es=xs.map Lt.o) with
 | .isTrue h=>Classical.choose h
 | .isFalse _=>[]
theorem QF (xs:List Lt):unL (xs.map Lt.o)=xs:=by
 unfold unL
 split
 ·rename_i h _
  exact (Lt.os_inj (Classical.choose_spec h)).symm
 ·rename_i h _
  exact absurd ⟨xs,rfl⟩ h
theorem Lt.N7 {x y z:Lt} (h:x.cmp y≤0) (k:y.cmp z≤0):x.cmp z≤0:=by
 by_cases h0:x.cmp y=0
 ·rw [(Lt.cmp_ord x y z).zero.1 h0]; exact k
 ·by_cases k0:y.cmp z=0
  ·rw [←(Lt.cmp_ord y z z).zero.1 k0]; exact h
  ·have:=(Lt.cmp_ord x y z).trans (by omega) (by omega)
   omega
noncomputable def N8 (xs:List Lt):List Lt:=xs.mergeSort fun x y=>decide (x.cmp y≤0)
def N9 (xs:List Lt):Prop:=xs.Pairwise fun x y=>x.cmp y≤0
theorem NA:∀ {xs ys:List Lt},xs.Perm ys→N9 xs→N9 ys→xs=ys
 | [],ys,h,_,_=>(List.nil_perm.1 h).symm
 | x :: xs,[],h,_,_=>by simp at h
 | x :: xs,y :: ys,h,h1,h2=>by
  have hx:x.cmp y≤0:=by
   have hm:y∈x :: xs:=h.mem_iff.2 (by simp)
   rcases zL.1 hm with e | hm
   ·subst e
    have:=(Lt.cmp_ord y y y).zero.2 rfl
    omega
   ·exact (yC.1 h1).1 y hm
  have hy:y.cmp x≤0:=by
   have hm:x∈y :: ys:=h.mem_iff.1 (by simp)
   rcases zL.1 hm with e | hm
   ·subst e
    have:=(Lt.cmp_ord x x x).zero.2 rfl
    omega
   ·exact (yC.1 h2).1 x hm
  have ha:=(Lt.cmp_ord x y y).anti
  have e:x=y:=(Lt.cmp_ord x y y).zero.1 (by omega)
  subst e
  rw [NA ((List.perm_cons x).1 h) (yC.1 h1).2 (yC.1 h2).2]
theorem GP (xs:List Lt):(N8 xs).Perm xs:=List.mergeSort_perm _ _
theorem PN (xs:List Lt):N9 (N8 xs):=by
 have h:=List.pairwise_mergeSort (le:=fun x y:Lt=>decide (x.cmp y≤0)) (fun a b c h k=>by
  simp only [decide_eq_true_eq] at h k ⊢
  exact Lt.N7 h k) (fun a b=>by
  have:=(Lt.cmp_ord a b b).anti
  simp only [y6,decide_eq_true_eq]
  omega) xs
 exact h.imp fun h=>by simpa using h
theorem Xd (g:Nat):¬ (Ap ([]:List Ob) g).live:=fun h=>by
 have e:Ap ([]:List Ob) g=.free:=rfl
 rw [e] at h
 exact h
theorem Qec {W:World} {J:Nat→Prop} (h:∀ b,J b→b<W.heap.size) (hg:GL W J):Wf W J (fun _=>none) (fun _ _=>False) (Ap []) :=
 ⟨h,fun g hl=>(Xd g hl).elim,fun g b hl=>(Xd g hl).elim,fun g b hl=>(Xd g hl).elim,fun g g' b hl=>(Xd g hl).elim,fun g _=>rfl,hg⟩
theorem grown_of {W w':World} (h:Below W.heap.size W w') (hd:W.drawn≤w'.drawn):∃ q os',w'=Sort.grow (W.drewN q) os':=by
 obtain ⟨⟨d,os⟩,e⟩:=regrown_of_below h
 refine ⟨d-W.drawn,os,?_⟩
 have hd':w'.drawn=d:=by rw [e]; rfl
 have e2:redrawn W d=W.drewN (d-W.drawn):=by
  unfold redrawn World.drewN
  rw [show W.drawn+(d-W.drawn)=d by omega]
 rw [e]
 show Sort.grow (redrawn W d) os=_
 rw [e2]
theorem TY [Flag] {f:FuncId} {x y z:SV} (hF:Fun Tryz.prog f [x,y] [] z []) {W:World} {J:Nat→Prop} (hJ:∀ b,J b→b<W.heap.size) (hg:GL W J) {vx vy:Value} (hx:RepV W J (fun _=>none) x vx) (hy:RepV W J (fun _=>none) y vy) :
  Calls Tryz.prog f #[vx,vy] W fun e w'=>(∃ v I' V',e=.returned v∧RepV w' I' V' z v)∧Below W.heap.size W w'∧(Flag.d→W.drawn≤w'.drawn):=by
 have h:=hF W J (fun _=>none) (fun _ _=>False) [vx,vy] (Qec hJ hg) (by simp only [RepVs]; exact ⟨vx,_,rfl,hx,vy,_,rfl,hy,rfl⟩)
 refine h.mono ?_
 rintro e w' ⟨v,I',V',B',rfl,hr,hp⟩
 exact ⟨⟨v,I',V',rfl,hr⟩,⟨hp.fr.os,hp.fr.tape.1,hp.fr.output,hp.fr.size,fun b hb=>hp.fr.block b hb fun ⟨g,hl,_⟩=>Xd g hl⟩,hp.fr.tape.2⟩
theorem Qed {f:FuncId} {x y:SV} {z:Int} (hF:FunD Tryz.prog f [x,y] [] (.int .i64 z) []) {W:World} {J:Nat→Prop} (hJ:∀ b,J b→b<W.heap.size) (hg:GL W J) {vx vy:Value} (hx:RepV W J (fun _=>none) x vx) (hy:RepV W J (fun _=>none) y vy) :
  Calls Tryz.prog f #[vx,vy] W fun e w'=>e=.returned (.int .i64 z)∧∃ q os',w'=Sort.grow (W.drewN q) os':=by
 refine (@TY QC f x y _ hF W J hJ hg vx vy hx hy).mono ?_
 rintro e w' ⟨⟨v,I',V',rfl,hr⟩,hb,hd⟩
 simp only [RepV] at hr
 subst hr
 exact ⟨rfl,grown_of hb (hd trivial)⟩
theorem QeN {f:FuncId} {x y:SV} {z:Bool} (hF:Fun Tryz.prog f [x,y] [] (.bool z) []) {W:World} {J:Nat→Prop} (hJ:∀ b,J b→b<W.heap.size) (hg:GL W J) {vx vy:Value} (hx:RepV W J (fun _=>none) x vx) (hy:RepV W J (fun _=>none) y vy) :
  Calls Tryz.prog f #[vx,vy] W (Ret W (.bool z)):=by
 refine (TY hF hJ hg hx hy).mono ?_
 rintro e w' ⟨⟨v,I',V',rfl,hr⟩,hb,_⟩
 simp only [RepV] at hr
 subst hr
 exact ⟨rfl,hb⟩
theorem Qag {α:Type} (d:Array α) (n:Nat) (h:d.size=n):d.extract 0 n=d:=by
 subst h
 exact Array.extract_size
theorem Qcu {w:World} {I S:Nat→Prop} {b:Nat} {cur:Array Value} {Sub:Nat→Nat→Nat→Prop} {xs:List Lt}
  (h5:∀ i j x,Sub i j x→S x∧x≠b) (h7:∀ i j (h:i<(xs.map Lt.o).length) (h':j<(xs.map Lt.o)[i].length),ORep w I (Sub i j) ((xs.map Lt.o)[i][j]) (cur.getD (i*3+j) undef)) (i:Nat) (hi:i<xs.length) :
  ∃ (a:Option Addr) (l c:Nat),cur.getD (i*3+0) undef=.bool xs[i].pos∧cur.getD (i*3+1) undef=.string xs[i].atom.name∧cur.getD (i*3+2) undef=.slice a l c ∧
   RepV w (fun x=>I x∨(S x∧x≠b)) (fun _=>none) xs[i].sv (.agg #[.bool xs[i].pos,.string xs[i].atom.name,.slice a l c]):=by
 have hi':i<(xs.map Lt.o).length:=by simpa using hi
 have he:(xs.map Lt.o)[i]=[.bool xs[i].pos,.str xs[i].atom.name,.ow (xs[i].atom.args.map Tm.o)]:=by rw [zS,Lt.o_eq]
 have l0:=h7 i 0 hi' (by rw [he]; simp)
 have l1:=h7 i 1 hi' (by rw [he]; simp)
 have l2:=h7 i 2 hi' (by rw [he]; simp)
 simp only [he,z8,List.getElem_cons_succ] at l0 l1 l2
 obtain ⟨a,l,c,e2⟩:=l2.owV
 have e0:cur.getD (i*3+0) undef=.bool xs[i].pos:=by cases h:cur.getD (i*3+0) undef <;> rw [h] at l0 <;> cases l0 <;> rfl
 have e1:cur.getD (i*3+1) undef=.string xs[i].atom.name∧xs[i].atom.name.size≤9223372036854775807:=by
  cases h:cur.getD (i*3+1) undef <;> rw [h] at l1 <;> cases l1
  exact ⟨rfl,by assumption⟩
 refine ⟨a,l,c,e0,e1.1,e2,?_⟩
 rw [e2] at l2
 have hd:=l2.er (T:=fun x=>I x∨(S x∧x≠b)) (fun x hx=>.inr (h5 _ _ _ hx)) (fun x hx=>.inl hx) (by
  simp only [OT.full]
  exact YS _ fun y _=>lfu y)
 simp only [OT.er,Tm.erss] at hd
 simp only [RepV,RepVs]
 exact ⟨_,rfl,_,_,rfl,rfl,_,_,rfl,⟨rfl,e1.2⟩,_,_,rfl,hd,rfl⟩
noncomputable def HV (xs:List SV) (ob:List Ob):Option (SV × List Ob) :=
 match xs,ob with
 | [.ref 0,.fn f []],[.row t sz es]=>bif dec (f=203∧sz=3∧es.length≤1099511627776∧∃ xs:List Lt,es=xs.map Lt.o∧∀ x∈xs,∀ y∈xs,FunD Tryz.prog f [x.sv,y.sv] [] (.int .i64 (x.cmp y)) []) then some (.tup [],[.row t sz ((N8 (unL es)).map Lt.o)]) else none
 | [.nil,.fn f []],[]=>bif dec (f=203) then some (.tup [],[]) else none
 | _,_=>none
theorem QfB (n:Nat) (key:_root_.Fin n→Lt):SWO (ltOf fun x y=>(key x).cmp (key y)):=by
 refine ⟨fun x=>?_,fun x y z h k=>?_,fun x y z h k=>?_⟩
 ·show decide ((key x).cmp (key x)<0)=false
  rw [(Lt.cmp_ord (key x) (key x) (key x)).zero.2 rfl]; rfl
 ·unfold ltOf at *
  simp only [decide_eq_true_eq] at *
  exact (Lt.cmp_ord _ _ _).trans h k
 ·unfold ltOf at *
  simp only [decide_eq_false_iff_not] at *
  have a1:=(Lt.cmp_ord (key x) (key y) (key y)).anti
  have a2:=(Lt.cmp_ord (key y) (key z) (key z)).anti
  have a3:=(Lt.cmp_ord (key x) (key z) (key z)).anti
  have:=Lt.N7 (x:=key z) (y:=key y) (z:=key x) (by omega) (by omega)
  omega
theorem Vn {xs:List SV} {ob:List Ob} {r:SV} {ob':List Ob} (h:HV xs ob=some (r,ob')):Fun Tryz.prog 287 xs ob r ob':=by
 unfold HV at h
 split at h
 ·rename_i f t sz es
  obtain ⟨h1,h2⟩:=As h
  obtain ⟨rfl,rfl,hk3,xs,rfl,hF⟩:=Aq.1 h1
  simp only [zC,zJ] at h2
  obtain ⟨rfl,rfl⟩:=h2
  rw [QF]
  rw [zD] at hk3
  intro w I V B vs hwf hvs
  obtain ⟨v,q,rfl,hv,hvs⟩:=Ba hvs
  obtain ⟨v2,q,rfl,hv2,hvs⟩:=Ba hvs
  obtain rfl:=Gh hvs
  simp only [RepV] at hv hv2
  obtain ⟨vs2,rfl,hv2⟩:=hv2
  simp only [RepVs] at hv2
  subst hv2
  obtain ⟨val,hval,hrow⟩:=hwf.obj 0 trivial
  rw [hv.1] at hval
  obtain rfl:=zE hval
  have hv0:=hv.1
  have hrow:RowR w I (B 0) t 3 (xs.map Lt.o) v:=hrow
  rcases z7 xs.length with h0 | h0
  ·have he:xs=[]:=zU h0
   subst he
   obtain ⟨a,c,rfl,_⟩:=hrow.form
   have hcon:=AnyF.slices_SortFunc_none RJ a c (.func (.func 203) #[] #[]) w
   change Calls Tryz.prog 287 _ _ _ at hcon
   refine hcon.mono ?_
   rintro e w' ⟨rfl,rfl⟩
   have e0:N8 []=[]:=List.mergeSort_nil
   rw [e0]
   exact ⟨_,I,V,B,rfl,by simp only [RepV,RepVs]; exact ⟨[],rfl,rfl⟩,N4 hwf⟩
  ·rcases hrow with ⟨he,_⟩ | ⟨b,cap,cur,Sub,rfl,hs,hb,g1,g2,g3,g4,g5,g6,g7⟩
   ·simp only [List.map_eq_nil_iff] at he
    subst he; simp at h0
   have hblt:=(zV.1 hb).1
   have view:=fun i hi=>Qcu (xs:=xs) (S:=B 0) g5 g7 i hi
   rw [zD] at g1
   haveI:Inhabited (_root_.Fin xs.length):=⟨⟨0,h0⟩⟩
   let cell:Nat→Nat→Value:=fun i j=>cur.getD (i*3+j) undef
   let enc:_root_.Fin xs.length→List Value:=fun i=>[cell i 0,cell i 1,cell i 2]
   let d:Array (_root_.Fin xs.length):=(xD xs.length).toArray
   have hdsz:d.size=xs.length:=by simp [d]
   have hdget:∀ i (hi:i<xs.length),d[i]! = ⟨i,hi⟩:=fun i hi=>by
    rw [getElem!_pos d i (by rw [hdsz]; exact hi)]
    simp [d]
   have hJb:∀ x,(I x∨(B 0 x∧x≠b))→x≠b:=fun x hx=>by
    rcases hx with hx | hx
    ·intro e; subst e; exact hwf.dI 0 x trivial hs hx
    ·exact hx.2
   have hJl:∀ x,(I x∨(B 0 x∧x≠b))→x<w.heap.size:=fun x hx=>by
    rcases hx with hx | hx
    ·exact hwf.ilt x hx
    ·exact hwf.lt 0 x trivial hx.1
   have forms:∀ i:_root_.Fin xs.length,∃ (a:Option Addr) (l c:Nat),enc i=[.bool xs[i].pos,.string xs[i].atom.name,.slice a l c]∧RepV w (fun x=>I x∨(B 0 x∧x≠b)) (fun _=>none) xs[i].sv (.agg #[.bool xs[i].pos,.string xs[i].atom.name,.slice a l c]):=fun i=>by
    obtain ⟨a,l,c,e0,e1,e2,hr⟩:=view i i.2
    refine ⟨a,l,c,?_,hr⟩
    show [cell i 0,cell i 1,cell i 2]=_
    rw [show cell i 0=_ from e0,show cell i 1=_ from e1,show cell i 2=_ from e2]
    rfl
   have hlen:∀ x,(enc x).length=3:=fun _=>rfl
   have hone:∀ x,∀ v∈enc x,v.oneCell'=true:=fun x v hv=>by
    obtain ⟨a,l,c,e,_⟩:=forms x
    rw [e] at hv
    simp only [zL,List.not_mem_nil,or_false] at hv
    rcases hv with rfl | rfl | rfl <;> rfl
   have hH:HoldsK enc 3 w b 0 d:=by
    intro j hj
    rw [size_flatK] at hj
    have hq:j / 3<d.size:=by omega
    have hq':j / 3<xs.length:=by rw [←hdsz]; exact hq
    have hlt:j<cur.size:=by rw [g3]; have:=Nat.mul_le_mul_right 3 g1; omega
    refine ⟨?_,?_⟩
    ·rw [zX,cell_of_row w b _ _ _ _ hb,get_flatK enc 3 d j hj,hdget _ hq']
     show cur[j]?=some ([cell (j / 3) 0,cell (j / 3) 1,cell (j / 3) 2][j % 3]!)
     have hm:j % 3=0∨j % 3=1∨j % 3=2:=by omega
     have e:cur[j]?=some (cell (j / 3) (j % 3)):=by
      show cur[j]?=some (cur.getD (j / 3*3+j % 3) undef)
      rw [show j / 3*3+j % 3=j by omega,zI hlt]
      simp [zN,hlt]
     rw [e]
     rcases hm with hm | hm | hm <;> rw [hm] <;> rfl
    ·unfold World.frozen?
     rw [hb]
     simp
   have hcmp:CmpLays Tryz.prog 203 #[] enc 3 (fun x y=>xs[x].cmp xs[y]) b 0 d.size w:=by
    intro m os dk _ x y
    obtain ⟨a,l,c,e,hrx⟩:=forms x
    obtain ⟨a',l',c',e',hry⟩:=forms y
    have hsz:=size_sortWorldK_c enc 3 w b 0 m dk os
    have hk:KeepS (fun x=>I x∨(B 0 x∧x≠b)) w (sortWorldK enc 3 w b 0 m dk os):=⟨hsz,fun x hx hlt=>by rw [MQ enc 3 w b m _ os x hlt,if_neg (fun e=>hJb x hx e.symm)]⟩
    have hc:=Qed (hF xs[x] (zH _) xs[y] (zH _)) (W:=sortWorldK enc 3 w b 0 m dk os) (J:=fun x=>I x∨(B 0 x∧x≠b)) (fun x hx=>zQ (hJl x hx) hsz) (hwf.gl.keep ⟨hsz,fun x hx hlt=>hk.block x (.inl hx) hlt⟩ fun x hx=>.inl hx) (RepV.mono hk (fun _ h=>h) (VLe.refl _) _ _ hrx) (RepV.mono hk (fun _ h=>h) (VLe.refl _) _ _ hry)
    rw [e,e']
    exact hc
   have eg:∀ args w,(callFunc 203 args).run Tryz.prog w=.ok (.enter 203 args) w:=enters_of Tryz.func203 (by kernel_rfl) rfl
   have hcon:=AnyQ.slices_SortFunc RJ 3 Tryz.isAgg122 Tryz.sizeOf122 enc hlen hone (fun x y=>xs[x].cmp xs[y]) (QfB _ fun i=>xs[i]) 203 #[] b 0 cap d w eg hcmp hH hblt (by rw [hdsz]; omega)
   change Calls Tryz.prog 287 _ _ _ at hcon
   rw [hdsz] at hcon
   rw [zD]
   refine hcon.mono ?_
   rintro e w' ⟨rfl,d',m,os,hp,hsd,rfl⟩
   refine ⟨_,I,V,B,rfl,by simp only [RepV,RepVs]; exact ⟨[],rfl,rfl⟩,?_⟩
   obtain ⟨hp1,_,hp3⟩:=hp
   rw [hdsz] at hp1
   obtain ⟨L,rfl⟩:∃ L:List (_root_.Fin xs.length),d'=L.toArray:=⟨d'.toList,by simp⟩
   have hLp:L.Perm (xD xs.length):=by
    rw [Qag _ _ hp1,Qag d _ hdsz] at hp3
    exact hp3
   have hLl:L.length=xs.length:=by rw [hLp.length_eq]; simp
   have hLn:L.Nodup:=hLp.nodup_iff.2 (List.nodup_finRange _)
   have hes:N8 xs=L.map fun i=>xs[i]:=by
    have e:(xD xs.length).map (fun i=>xs[i])=xs:=by
     apply List.ext_getElem
     ·simp
     ·intro i h1 h2; simp
    refine (NA ?_ ?_ (PN xs)).symm
    ·refine List.Perm.trans (hLp.map _) ?_
     rw [e]
     exact (GP xs).symm
    ·unfold N9
     rw [List.pairwise_map,z6]
     intro i j hi hj hij
     have:=hsd i j (zR _) hij (by omega)
     rw [getElem!_pos L.toArray i (by simpa using hi),getElem!_pos L.toArray j (by simpa using hj)] at this
     simp only [yF,ltOf,decide_eq_false_iff_not] at this
     have a1:=(Lt.cmp_ord xs[L[i]] xs[L[j]] xs[L[j]]).anti
     omega
   rw [hes]
   have hg:∀ i (hi:i<L.length) (j:Nat),j<3→(putCells id 0 (flatK enc 3 L.toArray) cur).getD (i*3+j) undef=cell L[i] j:=fun i hi j hj=>by
    have:=Xc enc 3 L.toArray cur (i:=i) (j:=j) (by simpa using hi) hj (by rw [g3]; simp only [yO,hLl]; exact Nat.mul_le_mul_right 3 g1)
    rw [this,getElem!_pos L.toArray i (by simpa using hi)]
    simp only [yF]
    show [cell L[i] 0,cell L[i] 1,cell L[i] 2][j]! = _
    have hm:j=0∨j=1∨j=2:=by omega
    rcases hm with rfl | rfl | rfl <;> rfl
   have hgrow:∀ x,x<w.heap.size→x≠b→(sortWorldK enc 3 w b 0 m L.toArray os).heap[x]?=w.heap[x]?:=fun x hx hne=>by
    rw [MQ enc 3 w b m _ os x hx,if_neg (fun e=>hne e.symm)]
   have hlx:∀ i:_root_.Fin xs.length,(Lt.o xs[i]).length=3:=fun i=>by rw [Lt.o_eq]; rfl
   refine Qaf (es':=(L.map fun i=>xs[i]).map Lt.o) (fun i j x=>∃ h:i<L.length,Sub (L[i]).val j x) hwf hv0 (by rw [zD,zD,zD,hLl]) hs hb (by rw [zD]; exact g1) g2 g3 (fun i hi=>by rw [zS,zS]; exact hlx _) (fun i j x h=>g5 _ _ _ h.2) (fun i j i' j' x h h'=>?_) rfl ⟨rfl,fun h=>False.elim h⟩ rfl (size_sortWorldK_c enc 3 w b 0 m L.toArray os) hgrow (Xb enc 3 w b m L.toArray os hb) (by simp [putCells]) (fun i j hi hj=>?_)
   ·obtain ⟨a1,a2⟩:=h
    obtain ⟨b1,b2⟩:=h'
    obtain ⟨c1,c2⟩:=g6 _ _ _ _ _ a2 b2
    exact ⟨(List.getElem_inj hLn).1 (_root_.Fin.ext c1),c2⟩
   ·have hi':i<L.length:=by simpa using hi
    have e1:((L.map fun i=>xs[i]).map Lt.o)[i]=(xs.map Lt.o)[(L[i]).val]'(by rw [zD]; exact (L[i]).2):=by simp only [zS]; rfl
    have hj':j<3:=by rw [e1] at hj; have:=g4 (L[i]).val (by rw [zD]; exact (L[i]).2); omega
    rw [hg i hi' j hj']
    have:=g7 (L[i]).val j (by rw [zD]; exact (L[i]).2) (by rw [g4]; exact hj')
    have hk:KeepS I w (sortWorldK enc 3 w b 0 m L.toArray os):=⟨size_sortWorldK_c enc 3 w b 0 m _ os,fun x hx hlt=>hgrow x hlt fun e=>hwf.dI 0 x trivial (e▸hs) hx⟩
    have h2:=(this.keep hk (fun _ h=>h) (fun x hx hlt=>hgrow x hlt (g5 _ _ _ hx).2)).up (S':=fun x=>∃ h:i<L.length,Sub (L[i]).val j x) (fun x hx=>⟨hi',hx⟩)
    simp only [e1]
    exact h2
 ·rename_i f
  obtain ⟨h1,h2⟩:=As h
  obtain rfl:=Aq.1 h1
  simp only [zC,zJ] at h2
  obtain ⟨rfl,rfl⟩:=h2
  intro w I V B vs hwf hvs
  obtain ⟨v,q,rfl,hv,hvs⟩:=Ba hvs
  obtain ⟨v2,q,rfl,hv2,hvs⟩:=Ba hvs
  obtain rfl:=Gh hvs
  simp only [RepV] at hv hv2
  obtain ⟨vs2,rfl,hv2⟩:=hv2
  simp only [RepVs] at hv2
  subst hv2 hv
  have hcon:=AnyF.slices_SortFunc_none RJ none 0 (.func (.func 203) #[] #[]) w
  change Calls Tryz.prog 287 _ _ _ at hcon
  refine hcon.mono ?_
  rintro e w' ⟨rfl,rfl⟩
  exact ⟨_,I,V,B,rfl,by simp only [RepV,RepVs]; exact ⟨[],rfl,rfl⟩,N4 hwf⟩
 ·cases h
end Go.Proofs.YtepbennkcbmgoaaGreatDoor
set_option maxRecDepth 100000
set_option linter.unusedSimpArgs false
set_option linter.unusedVariables false
set_option linter.unusedSectionVars false
namespace Go.Proofs.YtepbennkcbmgoaaGreatDoor
open Go.RowKit Go.Shelf
def DT (eq:Nat→Nat→Bool) (i:Nat):Bool:=i == 0 || !eq i (i-1)
def kept (eq:Nat→Nat→Bool) (m:Nat):List Nat:=(yI m).filter (DT eq)
theorem OG (eq:Nat→Nat→Bool) (m:Nat):kept eq (m+1)=if DT eq m then kept eq m++[m] else kept eq m:=by
 unfold kept
 rw [List.range_succ,List.filter_append]
 cases h:DT eq m <;> simp [h]
theorem Qah (eq:Nat→Nat→Bool) (m:Nat):(kept eq m).length≤m:=by
 have:=List.length_filter_le (DT eq) (yI m)
 simpa [kept] using this
theorem RK {eq:Nat→Nat→Bool} {m:Nat} (h:∀ i,i<m→DT eq i=true):kept eq m=yI m:=by
 unfold kept
 exact List.filter_eq_self.2 fun i hi=>h i (yJ.1 hi)
structure RowOnly (w:World) (b:Nat) (t:TypeId) (cur:Array Value) (w':World):Prop where
 os:w'.os=w.os
 tape:w'.tape=w.tape
 output:w'.output=w.output
 size:w.heap.size≤w'.heap.size
 block:∀ x,x<w.heap.size→x≠b→w'.heap[x]?=w.heap[x]?
 row:w'.heap[b]?=some (.cells cur t (0,0))
structure CompI (eq:Nat→Nat→Bool) (cur:Array Value) (m kk:Nat) (cur2:Array Value):Prop where
 len:kk=(kept eq m).length
 lt:kk<m
 size:cur2.size=cur.size
 low:∀ p (hp:p<(kept eq m).length) j,j<3→cur2.getD (p*3+j) undef=cur.getD ((kept eq m)[p]*3+j) undef
 high:∀ {q},kk*3≤q→cur2.getD q undef=cur.getD q undef
theorem CompI.start {eq:Nat→Nat→Bool} {cur:Array Value} {k:Nat} (h:kept eq (k+1)=yI k):CompI eq cur (k+1) k cur :=
 ⟨by rw [h]; simp,by omega,rfl,fun p hp j hj=>by simp only [h,List.getElem_range],fun _=>rfl⟩
theorem CompI.skip {eq:Nat→Nat→Bool} {cur cur2:Array Value} {m kk:Nat} (h:CompI eq cur m kk cur2) (hk:DT eq m=false):CompI eq cur (m+1) kk cur2:=by
 have e:kept eq (m+1)=kept eq m:=by rw [OG,if_neg (by rw [hk]; simp)]
 exact ⟨by rw [e]; exact h.len,by have:=h.lt; omega,h.size,fun p hp j hj=>by simp only [e] at hp ⊢; exact h.low p hp j hj,h.high⟩
theorem RowOnly.below {w w1 w2:World} {b:Nat} {t:TypeId} {cur:Array Value} (h:RowOnly w b t cur w1) (k:Below w1.heap.size w1 w2) (hb:b<w1.heap.size):RowOnly w b t cur w2 :=
 ⟨k.os.trans h.os,k.tape.trans h.tape,k.output.trans h.output,Nat.le_trans h.size k.size,fun x hx hne=>by rw [k.block x (zQ hx h.size),h.block x hx hne],by rw [k.block b hb]; exact h.row⟩
theorem Qai {w:World} {b:Nat} {cur:Array Value} {t:TypeId} (hb:w.heap[b]?=some (.cells cur t (0,0))) (o:Nat):w.frozen? ⟨b,o,none⟩=false:=by
 unfold World.frozen?
 rw [hb]
 simp
theorem Qcv {w:World} {b:Nat} {cur:Array Value} {t:TypeId} (hb:w.heap[b]?=some (.cells cur t (0,0))) {i j:Nat} (hlt:i*3+j<cur.size):w.cell? ⟨b,i*3+j,none⟩=some cur[i*3+j]:=by
 unfold World.cell?
 simp only [hb,yM,if_false]
 rw [zI hlt]
 rfl
theorem CompI.keep {eq:Nat→Nat→Bool} {cur cur2:Array Value} {m kk:Nat} (h:CompI eq cur m kk cur2) (hk:DT eq m=true) (hs:kk*3+2<cur2.size) {v0 v1 v2:Value} (e0:cur.getD (m*3+0) undef=v0) (e1:cur.getD (m*3+1) undef=v1) (e2:cur.getD (m*3+2) undef=v2) :
  CompI eq cur (m+1) (kk+1) (((cur2.setIfInBounds (kk*3) v0).setIfInBounds (kk*3+1) v1).setIfInBounds (kk*3+2) v2):=by
 have e:kept eq (m+1)=kept eq m++[m]:=by rw [OG,if_pos hk]
 have hl:=h.len
 have hget:∀ q,(((cur2.setIfInBounds (kk*3) v0).setIfInBounds (kk*3+1) v1).setIfInBounds (kk*3+2) v2).getD q undef=if q=kk*3+2 then v2 else if q=kk*3+1 then v1 else if q=kk*3 then v0 else cur2.getD q undef:=fun q=>by
  simp only [zN,yU,Array.size_setIfInBounds]
  by_cases h2:kk*3+2=q
  ·subst h2; simp [hs]
  ·rw [if_neg h2,if_neg (show ¬ q=kk*3+2 from fun e=>h2 e.symm)]
   by_cases h1:kk*3+1=q
   ·subst h1; simp [show kk*3+1<cur2.size by omega]
   ·rw [if_neg h1,if_neg (show ¬ q=kk*3+1 from fun e=>h1 e.symm)]
    by_cases h0:kk*3=q
    ·subst h0; simp [show kk*3<cur2.size by omega]
    ·rw [if_neg h0,if_neg (show ¬ q=kk*3 from fun e=>h0 e.symm)]
 refine ⟨by rw [e]; simp [hl],by have:=h.lt; omega,by simp [h.size],fun p hp j hj=>?_,fun {q} hq=>?_⟩
 ·simp only [e,List.length_append,List.length_singleton] at hp
  rw [hget]
  rcases zK p (kept eq m).length with hlt | hge
  ·rw [if_neg (by omega),if_neg (by omega),if_neg (by omega)]
   simp only [e,yZ hlt]
   exact h.low p hlt j hj
  ·have hp2:p=kk:=by omega
   subst hp2
   have eg:(kept eq (m+1))[p]'(by rw [e]; simpa using hp)=m:=by
    simp only [e]
    rw [List.getElem_append_right (by omega)]
    simp [hl]
   rw [eg]
   have hj3:j=0∨j=1∨j=2:=by omega
   rcases hj3 with rfl | rfl | rfl
   ·rw [if_neg (by omega),if_neg (by omega),if_pos (by omega),e0]
   ·rw [if_neg (by omega),if_pos (by omega),e1]
   ·rw [if_pos (by omega),e2]
 ·rw [hget,if_neg (by omega),if_neg (by omega),if_neg (by omega)]
  exact h.high (by omega)
theorem RowOnly.set {w V:World} {b:Nat} {t:TypeId} {cur:Array Value} (h:RowOnly w b t cur V) (o:Nat) (v:Value):RowOnly w b t (cur.setIfInBounds o v) (V.setCell ⟨b,o,none⟩ v):=by
 refine ⟨h.os,h.tape,h.output,by simpa [World.setCell] using h.size,fun x hx hne=>?_,?_⟩
 ·simp only [World.setCell,yE]
  rw [if_neg (fun e=>hne e.symm)]
  exact h.block x hx hne
 ·simp only [World.setCell,yE,if_true,h.row,yL,yM,if_false]
  rfl
theorem RowOnly.setCells {w:World} {b:Nat} {t:TypeId}:∀ (vs:List Value) (o:Nat) {V:World} {cur:Array Value},RowOnly w b t cur V→∃ cur',RowOnly w b t cur' (V.setCells b o vs)∧cur'.size=cur.size∧∀ q,q<o→cur'.getD q undef=cur.getD q undef
 | [],o,V,cur,h=>⟨cur,h,rfl,fun _ _=>rfl⟩
 | v :: r,o,V,cur,h=>by
  obtain ⟨cur',h1,h2,h3⟩:=RowOnly.setCells r (o+1) (h.set o v)
  refine ⟨cur',h1,by simpa using h2,fun q hq=>?_⟩
  rw [h3 q (by omega)]
  simp only [zN,yU]
  rw [if_neg (by omega)]
def J8 (n:Nat):List Value:=(Builtin.zeroCells #[.bool false,.string ⟨#[]⟩,.slice none 0 0] n).toList
theorem YT {n:Nat} {v:Value} (h:v∈J8 n):v.oneCell'=true:=by
 unfold J8 Builtin.zeroCells at h
 simp only [Array.toList_map,y4,Array.toList_range,yJ] at h
 obtain ⟨i,_,rfl⟩:=h
 have hm:i % 3=0∨i % 3=1∨i % 3=2:=by omega
 show (#[Value.bool false,.string ⟨#[]⟩,.slice none 0 0][i % 3]!).oneCell'=true
 rcases hm with e | e | e <;> rw [e] <;> rfl
theorem YU (n:Nat):(J8 n).length=n*3:=by
 unfold J8 Builtin.zeroCells
 simp
theorem YV (ty:TypeId) {w:World} {b:Nat} {cur:Array Value} {t:TypeId} {o n c:Nat} (hb:w.heap[b]?=some (.cells cur t (0,0))) (hn:0<n) (hl:o+n*3≤cur.size) :
  (Builtin.clear_ #[58] ty #[.slice (some ⟨b,o,none⟩) n c]).run Tryz.prog w=.ok (.tuple #[]) (w.setCells b o (J8 n)):=by
 have hv:=fun w=>Tryz.zeroValue122 w
 have hst:=run_storeCells_cells (P:=Tryz.prog) b o (J8 n) 0 w (fun j hj=>by
  rw [YU] at hj
  have:o+j<cur.size:=by omega
  unfold World.cell?
  simp only [hb,yM,if_false,zZ]
  rw [zI this]
  rfl) (fun j hj=>Qai hb _) (fun v hv=>YT hv)
 simp only [zZ] at hst
 obtain ⟨m,rfl⟩:∃ m,n=m+1:=⟨n-1,by omega⟩
 unfold J8 at hst ⊢
 simp [Builtin.clear_,Tryz.underlying58,hv,Value.cells,hst]
theorem Kf {w:World} {b:Nat} {cur:Array Value} {t:TypeId} (hb:w.heap[b]?=some (.cells cur t (0,0))) {i j:Nat} {v:Value} (hlt:i*3+j<cur.size) (hv:True) (h:cur.getD (i*3+j) undef=v):w.cell? ⟨b,i*3+j,none⟩=some v:=by
 unfold World.cell?
 simp only [hb,yM,if_false]
 rw [zN,zI hlt,yA] at h
 rw [zI hlt,h]
 rfl
theorem Qn (n:Nat) (eq:Nat→Nat→Bool) (w:World) (b cap:Nat) (cur:Array Value) (t:TypeId) (hb:w.heap[b]?=some (.cells cur t (0,0))) (hsz:cur.size=cap*3) (hn:n≤cap) (hcap:cap≤9223372036854775807)
  (pB:Nat→Bool) (pS:Nat→ByteArray) (pA:Nat→Option Addr) (pL pC:Nat→Nat)
  (hc:∀ i,i<n→cur.getD (i*3+0) undef=.bool (pB i)∧cur.getD (i*3+1) undef=.string (pS i)∧cur.getD (i*3+2) undef=.slice (pA i) (pL i) (pC i))
  (hcall:∀ i j,i<n→j<n→∀ W,w.heap.size≤W.heap.size→(∀ x,x<w.heap.size→x≠b→W.heap[x]?=w.heap[x]?)→Calls Tryz.prog 217 #[.agg #[.bool (pB i),.string (pS i),.slice (pA i) (pL i) (pC i)],.agg #[.bool (pB j),.string (pS j),.slice (pA j) (pL j) (pC j)]] W (Ret W (.bool (eq i j)))) :
  Calls Tryz.prog 288 #[.slice (some ⟨b,0,none⟩) n cap,.func (.func 217) #[] #[]] w fun e w'=>e=.returned (.slice (some ⟨b,0,none⟩) (kept eq n).length cap)∧∃ cur',RowOnly w b t cur' w'∧cur'.size=cur.size∧∀ p (hp:p<(kept eq n).length) j,j<3→cur'.getD (p*3+j) undef=cur.getD ((kept eq n)[p]*3+j) undef:=by
 have hF:∀ (args:Array Value) (W:World),(callFunc 217 args).run Tryz.prog W=.ok (.enter 217 args) W:=enters_of Tryz.func217 (by kernel_rfl) rfl
 have hblt:=(zV.1 hb).1
 have HC:=Lib.hid hcall
 clear hcall
 have HE:=Lib.hid hc
 clear hc
 by_cases h2:n<2
 ·have hk:kept eq n=yI n:=RK fun i hi=>by
   have:i=0:=by omega
   subst this; rfl
  rw [hk]
  go_enter Tryz.func288,Tryz.ntmps288
  go_wp2
  go_ret
  refine ⟨by simp,cur,⟨rfl,rfl,rfl,zT _,fun _ _ _=>rfl,hb⟩,rfl,fun p hp j hj=>?_⟩
  simp
 ·go_enter Tryz.func288,Tryz.ntmps288
  go_wp2
  go_loopg [5] n (fun g s5 wr=>∃ k:Nat,1≤k∧k≤n∧n-k≤g∧s5=.int .i64 k∧Below w.heap.size w wr∧∀ j,j<k→DT eq j=true)
  case atStart =>
   refine ⟨1,zT _,by omega,by omega,rfl,Below.refl _ _,fun j hj=>?_⟩
   obtain rfl:j=0:=by omega
   rfl
  case round =>
   have HB0:=Lib.hid hb
   obtain ⟨k,hk1,hk,hg,rfl,hbw,hall⟩:=hrel
   have HA:=Lib.hid hall
   clear hall
   have hzw:=hbw.size
   by_cases hlt:k<n
   ·obtain ⟨e0,e1,e2⟩:=HE.out k hlt
    obtain ⟨d0,d1,d2⟩:=HE.out (k-1) (by omega)
    have hbr:wr.heap[b]?=some (.cells cur t (0,0)):=by rw [hbw.block b hblt]; exact hb
    have q0:=Kf hbr (i:=k) (j:=0) (by omega) trivial e0
    have q1:=Kf hbr (i:=k) (j:=1) (by omega) trivial e1
    have q2:=Kf hbr (i:=k) (j:=2) (by omega) trivial e2
    have r0:=Kf hbr (i:=k-1) (j:=0) (by omega) trivial d0
    have r1:=Kf hbr (i:=k-1) (j:=1) (by omega) trivial d1
    have r2:=Kf hbr (i:=k-1) (j:=2) (by omega) trivial d2
    have hbrz:b<wr.heap.size:=by omega
    simp only [zZ] at q0 r0
    have z1:IntKind.i64.wrap ((k:Int)-1)=(k:Int)-1:=IntWalk.i64_in _ (by omega)
    have z2:(0:Int)≤(k:Int)-1:=by omega
    have z3:(1:Int)≤(k:Int):=by omega
    have z4:(k:Int)-1<(n:Int):=by omega
    have z5:((k:Int)-1).toNat=k-1:=by omega
    have HB:=Lib.hid hb
    clear hb hbr e0 e1 e2 d0 d1 d2
    go_wp2
    refine Flow.wp_region_flow 11 [(10,.fixed (.bool (eq k (k-1))))] [] (by kernel_rfl) (by kernel_rfl) (No rfl) ?_
    intro hgrow
    simp only [yV,xA]
    repeat (first | ((with_reducible refine Flow.flow_quiet ?_ ?_ ?_); (focus (exact rfl)); (focus (exact rfl)); intro K hK; go_simp; refine hK _ ?_; clear hK K) | ((with_reducible refine Flow.flow_pass ?_); intro K hK; go_simp; (first | refine hK _ ?_ | (refine ⟨?_,hK _ ?_⟩; (focus (simp [undef]; done)))); clear hK K))
    refine Flow.flow_exact _ rfl (by go_simp) (fun W hW=>Wz (by go_simp) (HC.out k (k-1) hlt (by omega) _ (by have:=hW.size; omega) (fun x hx _=>by rw [hW.block x (by omega),hbw.block x hx]))) ?_
    repeat (first | ((with_reducible refine Flow.flow_quiet ?_ ?_ ?_); (focus (exact rfl)); (focus (exact rfl)); intro K hK; go_simp; refine hK _ ?_; clear hK K) | ((with_reducible refine Flow.flow_pass ?_); intro K hK; go_simp; (first | refine hK _ ?_ | (refine ⟨?_,hK _ ?_⟩; (focus (simp [undef]; done)))); clear hK K))
    with_reducible refine Flow.flow_nil ?_
    clear hgrow
    intro W hW _
    have hzW:=hW.size
    try simp at hzW
    obtain ⟨hcW,hfW⟩:=Qey hW
    simp only [yW,zW,xF]
    have hWb:Below w.heap.size w W:=hbw.trans (hW.mono hzw)
    cases heq:eq k (k-1) with
    | false =>
     go_wp2
     go_roundg (n-(k+1))
     case measure=>omega
     case rel =>
      refine ⟨k+1,by omega,by omega,zT _,by go_num,hWb,fun j hj=>?_⟩
      by_cases e:j=k
      ·subst e; unfold DT; rw [heq]; simp
      ·exact HA.out j (by omega)
    | true =>
     have hkk:kept eq (k+1)=yI k:=by
      rw [OG,RK HA.out]
      unfold DT
      rw [heq]
      simp; omega
     have hb2:W.heap[b]?=some (.cells cur t (0,0)):=by rw [hWb.block b hblt]; exact HB.out
     clear q0 q1 q2 r0 r1 r2 z1 z2 z3 z4 z5 hcW hfW hzW hW
     go_wp2
     go_loopg [5,7] n (fun g s5 s7 wr2=>∃ (kk k2:Nat) (cur2:Array Value),s5=.int .i64 kk∧s7=.int .i64 k2∧1≤k2∧k+k2≤n∧n-(k+k2)≤g∧RowOnly w b t cur2 wr2∧CompI eq cur (k+k2) kk cur2)
     case atStart=>exact ⟨k,1,cur,rfl,rfl,zT _,by omega,by omega,⟨hWb.os,hWb.tape,hWb.output,hWb.size,fun x hx _=>hWb.block x hx,hb2⟩,CompI.start hkk⟩
     case round =>
      obtain ⟨kk,k2,cur2,rfl,rfl,hk2,hle,hg2,hro,hI⟩:=hrel
      have HI:=Lib.hid hI
      have HR:=Lib.hid hro
      have hkl:=hI.lt
      have hs2:=hI.size
      have hzr:=hro.size
      by_cases hlt2:k+k2<n
      ·have hrow:=hro.row
       obtain ⟨e0,e1,e2⟩:=HE.out (k+k2) hlt2
       obtain ⟨d0,d1,d2⟩:=HE.out (k+k2-1) (by omega)
       rw [←hI.high (by omega)] at e0 e1 e2 d0 d1 d2
       have q0:=Kf hrow (i:=k+k2) (j:=0) (by omega) trivial e0
       have q1:=Kf hrow (i:=k+k2) (j:=1) (by omega) trivial e1
       have q2:=Kf hrow (i:=k+k2) (j:=2) (by omega) trivial e2
       have r0:=Kf hrow (i:=k+k2-1) (j:=0) (by omega) trivial d0
       have r1:=Kf hrow (i:=k+k2-1) (j:=1) (by omega) trivial d1
       have r2:=Kf hrow (i:=k+k2-1) (j:=2) (by omega) trivial d2
       rw [show (k+k2)*3=k*3+k2*3 by omega] at q0 q1 q2
       rw [show (k+k2-1)*3=k*3+(k2-1)*3 by omega] at r0 r1 r2
       simp only [zZ] at q0 r0
       have hbz:b<wr.heap.size:=by omega
       have z1:IntKind.i64.wrap ((k2:Int)-1)=(k2:Int)-1:=IntWalk.i64_in _ (by omega)
       have z2:(0:Int)≤(k2:Int)-1:=by omega
       have z3:(1:Int)≤(k2:Int):=by omega
       have z4:(k2:Int)-1<((n-k:Nat):Int):=by omega
       have z5:((k2:Int)-1).toNat=k2-1:=by omega
       clear hI hro hrow e0 e1 e2 d0 d1 d2 hb2
       go_wp2
       refine Flow.wp_region_flow 12 [(10,.fixed (.bool (eq (k+k2) (k+k2-1))))] [] (by kernel_rfl) (by kernel_rfl) (No rfl) ?_
       intro hgrow
       simp only [yV,xA]
       repeat (first | ((with_reducible refine Flow.flow_quiet ?_ ?_ ?_); (focus (exact rfl)); (focus (exact rfl)); intro K hK; go_simp; refine hK _ ?_; clear hK K) | ((with_reducible refine Flow.flow_pass ?_); intro K hK; go_simp; (first | refine hK _ ?_ | (refine ⟨?_,hK _ ?_⟩; (focus (simp [undef]; done)))); clear hK K))
       refine Flow.flow_exact _ rfl (by go_simp) (fun W hW=>Wz (by go_simp) (HC.out (k+k2) (k+k2-1) hlt2 (by omega) _ (by have:=hW.size; omega) (fun x hx hxb=>by rw [hW.block x (by omega),HR.out.block x hx hxb]))) ?_
       repeat (first | ((with_reducible refine Flow.flow_quiet ?_ ?_ ?_); (focus (exact rfl)); (focus (exact rfl)); intro K hK; go_simp; refine hK _ ?_; clear hK K) | ((with_reducible refine Flow.flow_pass ?_); intro K hK; go_simp; (first | refine hK _ ?_ | (refine ⟨?_,hK _ ?_⟩; (focus (simp [undef]; done)))); clear hK K))
       with_reducible refine Flow.flow_nil ?_
       clear hgrow
       intro V hV _
       have hzV:=hV.size
       try simp at hzV
       obtain ⟨hcV,hfV⟩:=Qey hV
       simp only [yW,zW,xF]
       have hVR:RowOnly w b t cur2 V:=HR.out.below hV (by omega)
       have f0:∀ o,wr.frozen? ⟨b,o,none⟩=false:=fun o=>Qai HR.out.row o
       cases heq2:eq (k+k2) (k+k2-1) with
       | true =>
        go_wp2
        go_roundg (n-(k+(k2+1)))
        case measure=>omega
        case rel=>exact ⟨kk,k2+1,cur2,rfl,by go_num,by omega,by omega,zT _,hVR,HI.out.skip (by unfold DT; rw [heq2]; simp; omega)⟩
       | false =>
        have w0:=Qcv HR.out.row (i:=kk) (j:=0) (by omega)
        have w1:=Qcv HR.out.row (i:=kk) (j:=1) (by omega)
        have w2:=Qcv HR.out.row (i:=kk) (j:=2) (by omega)
        simp only [zZ] at w0
        have g0:=f0 (kk*3)
        have g1:=f0 (kk*3+1)
        have g2:=f0 (kk*3+2)
        have zz:kk<n:=by omega
        have HVR:=Lib.hid hVR
        clear hVR f0
        go_wp2
        go_roundg (n-(k+(k2+1)))
        case measure=>omega
        case rel =>
         refine ⟨kk+1,k2+1,_,by go_num,by go_num,by omega,by omega,zT _,((HVR.out.set _ _).set _ _).set _ _,?_⟩
         obtain ⟨e0,e1,e2⟩:=HE.out (k+k2) hlt2
         exact HI.out.keep (by unfold DT; rw [heq2]; simp) (by omega) e0 e1 e2
      ·have hend:k+k2=n:=by omega
       have hcl:∀ ty,(Builtin.clear_ #[58] ty #[.slice (some ⟨b,kk*3,none⟩) (n-kk) (cap-kk)]).run Tryz.prog wr=.ok (.tuple #[]) (wr.setCells b (kk*3) (J8 (n-kk))):=fun ty=>YV ty hro.row (by omega) (by omega)
       clear hI hro
       go_wp2
       go_ret
       have hI:=HI.out
       rw [hend] at hI
       obtain ⟨cur3,h1,h2,h3⟩:=HR.out.setCells (J8 (n-kk)) (kk*3)
       refine ⟨by rw [hI.len]; rfl,cur3,h1,by rw [h2,hI.size],fun p hp j hj=>?_⟩
       have:=hI.len
       rw [h3 _ (by omega)]
       exact hI.low p hp j hj
   ·obtain rfl:k=n:=by omega
    have hk:kept eq k=yI k:=RK HA.out
    clear hb
    go_wp2
    go_ret
    rw [hk]
    refine ⟨by simp,cur,⟨hbw.os,hbw.tape,hbw.output,hbw.size,fun x hx _=>hbw.block x hx,by rw [hbw.block b hblt]; exact HB0.out⟩,rfl,fun p hp j hj=>?_⟩
    simp
end Go.Proofs.YtepbennkcbmgoaaGreatDoor
set_option maxRecDepth 100000
set_option linter.unusedSimpArgs false
set_option linter.unusedVariables false
set_option linter.unusedSectionVars false
namespace Go.Proofs.YtepbennkcbmgoaaGreatDoor
open Go.RowKit Go.Shelf
noncomputable def Hj (xs:List Lt) (i j:Nat):Bool:=dec (xs[i]?=xs[j]?)
noncomputable def Hk (xs:List Lt):List Lt:=(kept (Hj xs) xs.length).filterMap fun i=>xs[i]?
theorem NB {eq:Nat→Nat→Bool} {m i:Nat} (h:i∈kept eq m):i<m∧DT eq i=true:=by
 unfold kept at h
 rw [y7,yJ] at h
 exact h
theorem Xe {eq:Nat→Nat→Bool} {m i:Nat} (h:i<m) (hk:DT eq i=true):i∈kept eq m:=by
 unfold kept
 rw [y7,yJ]
 exact ⟨h,hk⟩
theorem PO (eq:Nat→Nat→Bool) (m:Nat):(kept eq m).Pairwise (· < ·):=(List.pairwise_lt_range (n:=m)).filter _
theorem YW (eq:Nat→Nat→Bool) (m:Nat):(kept eq m).Nodup:=(PO eq m).imp fun h e=>absurd e (Nat.ne_of_lt h)
theorem I3 (xs:List Lt):∀ l:List Nat,(∀ i∈l,i<xs.length)→(l.filterMap fun i=>xs[i]?).length=l.length∧∀ p i:Nat,l[p]?=some i→(l.filterMap fun i=>xs[i]?)[p]?=xs[i]?
 | [],_=>⟨rfl,fun p i h=>by simp at h⟩
 | i :: l,hl=>by
  have hi:=hl i (by simp)
  obtain ⟨h1,h2⟩:=I3 xs l fun j hj=>hl j (by simp [hj])
  have e:((i :: l).filterMap fun i=>xs[i]?)=xs[i] :: l.filterMap fun i=>xs[i]?:=by
   rw [List.filterMap_cons,zA hi]
  refine ⟨by rw [e]; simp [h1],fun p j hp=>?_⟩
  rw [e]
  cases p with
  | zero =>
   simp only [List.getElem?_cons_zero,zC] at hp ⊢
   subst hp
   exact (zA hi).symm
  | succ p =>
   simp only [List.getElem?_cons_succ] at hp ⊢
   exact h2 p j hp
theorem OH (xs:List Lt):(Hk xs).length=(kept (Hj xs) xs.length).length:=(I3 xs _ fun i hi=>(NB hi).1).1
theorem OI (xs:List Lt) {p i:Nat} (h:(kept (Hj xs) xs.length)[p]?=some i) (hp:p<(Hk xs).length):∃ hi:i<xs.length,(Hk xs)[p]=xs[i]:=by
 have hi:=(NB (yS h)).1
 have:=(I3 xs _ fun i hi=>(NB hi).1).2 p i h
 refine ⟨hi,?_⟩
 have e:(Hk xs)[p]?=xs[i]?:=this
 rw [zA hp,zA hi] at e
 exact zE e
def Du (xs:List Lt):Prop:=xs.Pairwise fun x y=>x.cmp y<0
theorem J9:∀ {xs ys:List Lt},Du xs→Du ys→(∀ z,z∈xs ↔ z∈ys)→xs=ys
 | [],[],_,_,_=>rfl
 | [],y :: ys,_,_,h=>by simpa using (h y).2 (by simp)
 | x :: xs,[],_,_,h=>by simpa using (h x).1 (by simp)
 | x :: xs,y :: ys,h1,h2,h=>by
  obtain ⟨a1,a2⟩:=yC.1 h1
  obtain ⟨b1,b2⟩:=yC.1 h2
  have irr:∀ z:Lt,¬ z.cmp z<0:=fun z hz=>by
   have:=(Lt.cmp_ord z z z).zero.2 rfl
   omega
  have e:x=y:=by
   rcases zL.1 ((h x).1 (by simp)) with e | hx
   ·exact e
   ·rcases zL.1 ((h y).2 (by simp)) with e | hy
    ·exact e.symm
    ·exact (irr x ((Lt.cmp_ord x y x).trans (a1 y hy) (b1 x hx))).elim
  subst e
  rw [J9 a2 b2 fun z=>?_]
  constructor
  ·intro hz
   rcases zL.1 ((h z).1 (by simp [hz])) with e | hz'
   ·subst e; exact (irr _ (a1 _ hz)).elim
   ·exact hz'
  ·intro hz
   rcases zL.1 ((h z).2 (by simp [hz])) with e | hz'
   ·subst e; exact (irr _ (b1 _ hz)).elim
   ·exact hz'
theorem Vo {xs:List Lt} (hs:N9 xs):Du (Hk xs):=by
 unfold Du
 rw [z6]
 intro p q hp hq hpq
 have e1:=OH xs
 obtain ⟨i,hpi⟩:∃ i,(kept (Hj xs) xs.length)[p]?=some i:=⟨_,zA (by omega)⟩
 obtain ⟨j,hqj⟩:∃ j,(kept (Hj xs) xs.length)[q]?=some j:=⟨_,zA (by omega)⟩
 have hlt:=z6.1 (PO (Hj xs) xs.length) p q (by omega) (by omega) hpq
 rw [(yY.1 hpi).2,(yY.1 hqj).2] at hlt
 obtain ⟨hi,e2⟩:=OI xs hpi hp
 obtain ⟨hj,e3⟩:=OI xs hqj hq
 rw [e2,e3]
 have hkq:=(NB (yS hqj)).2
 have hne:xs[j-1]≠xs[j]:=fun e=>by
  unfold DT Hj at hkq
  rw [zA hj,zA (show j-1<xs.length by omega),e,An rfl] at hkq
  simp at hkq
  omega
 have h2:xs[j-1].cmp xs[j]≤0:=z6.1 hs (j-1) j (by omega) hj (by omega)
 have h3:xs[j-1].cmp xs[j]<0:=by
  have:=(Lt.cmp_ord xs[j-1] xs[j] xs[j]).zero
  have:xs[j-1].cmp xs[j]≠0:=fun e=>hne (this.1 e)
  omega
 rcases zK i (j-1) with h4 | h4
 ·have h5:xs[i].cmp xs[j-1]≤0:=z6.1 hs i (j-1) (by omega) (by omega) h4
  by_cases h6:xs[i].cmp xs[j-1]=0
  ·rw [(Lt.cmp_ord xs[i] xs[j-1] xs[j]).zero.1 h6]; exact h3
  ·exact (Lt.cmp_ord xs[i] xs[j-1] xs[j]).trans (by omega) h3
 ·have:i=j-1:=by omega
  subst this
  exact h3
theorem Qbf (xs:List Lt) (z:Lt):z∈Hk xs ↔ z∈xs:=by
 constructor
 ·intro h
  unfold Hk at h
  obtain ⟨i,_,h2⟩:=List.mem_filterMap.1 h
  exact yS h2
 ·intro h
  obtain ⟨i,hi,rfl⟩:=yK h
  have key:∀ i (hi:i<xs.length),∃ j,j∈kept (Hj xs) xs.length∧xs[j]?=some xs[i]:=by
   intro i
   induction i with
   | zero=>intro hi; exact ⟨0,Xe hi rfl,zA hi⟩
   | succ i ih =>
    intro hi
    cases hk:DT (Hj xs) (i+1) with
    | true=>exact ⟨i+1,Xe hi hk,zA hi⟩
    | false =>
     obtain ⟨j,h1,h2⟩:=ih (by omega)
     refine ⟨j,h1,?_⟩
     unfold DT Hj at hk
     simp only [Nat.add_sub_cancel,yR,Bool.not_eq_false',Aq] at hk
     rw [h2,← zA,← zA]
     exact hk.2.symm
  obtain ⟨j,h1,h2⟩:=key i hi
  exact List.mem_filterMap.2 ⟨j,h1,h2⟩
noncomputable def DU (xs:List SV) (ob:List Ob):Option (SV × List Ob) :=
 match xs,ob with
 | [.ref 0,.fn f []],[.row t sz es]=>bif dec (f=217∧sz=3∧es.length≤1099511627776∧∃ xs:List Lt,es=xs.map Lt.o∧∀ x∈xs,∀ y∈xs,Fun Tryz.prog f [x.sv,y.sv] [] (.bool (dec (x=y))) []) then some (.ref 1,[.gone,.row t sz ((Hk (unL es)).map Lt.o)]) else none
 | [.nil,.fn f []],[]=>bif dec (f=217) then some (.nil,[]) else none
 | _,_=>none
def vB:Value→Bool
 | .bool b=>b
 | _=>false
def vS:Value→ByteArray
 | .string s=>s
 | _=>⟨#[]⟩
def vA:Value→Option Addr × Nat × Nat
 | .slice a n c=>(a,n,c)
 | _=>(none,0,0)
theorem Kg (w:World):Calls Tryz.prog 288 #[.slice none 0 0,.func (.func 217) #[] #[]] w fun e w'=>e=.returned (.slice none 0 0)∧w'=w:=by
 go_enter Tryz.func288,Tryz.ntmps288
 go_wp2
 go_ret
 exact ⟨rfl,rfl⟩
theorem Xf {w w':World} {I:Nat→Prop} {V:Nat→Option Value} {B:Nat→Nat→Prop} {t:TypeId} {es es':List (List OT)} {v':Value} (hwf:Wf w I V B (Ap [.row t 3 es]))
  (hos:w'.os=w.os) (htape:TapeOk w w') (hout:w'.output=w.output) (hsz:w.heap.size≤w'.heap.size) (hblk:∀ x,x<w.heap.size→¬ B 0 x→w'.heap[x]?=w.heap[x]?) (hrow:RowR w' I (B 0) t 3 es' v') :
  FunPost w I V B [.row t 3 es] [.gone,.row t 3 es'] w' I (fun g=>if g=1 then some v' else V g) (fun g=>if g=1 then B 0 else B g):=by
 have hB0:∀ x,B 0 x→HB B [Ob.row t 3 es] x:=fun x hx=>⟨0,trivial,hx⟩
 have hlv:∀ g,(Ap [Ob.gone,.row t 3 es'] g).live→g=1:=fun g h=>by
  match g with
  | 0=>exact h.elim
  | 1=>rfl
  | g+2=>exact h.elim
 refine ⟨⟨hos,htape,hout,hsz,fun x hx hn=>hblk x hx fun h=>hn (hB0 x h)⟩,fun _ h=>h,fun _ h=>.inl h,fun g u hu=>?_,?_,fun g x hl hx=>?_⟩
 ·by_cases e:g=1
  ·subst e
   rw [hwf.fr 1 rfl] at hu; cases hu
  ·simp only [e,if_false]; exact hu
 ·refine ⟨fun x hx=>zQ (hwf.ilt x hx) hsz,fun g hl=>?_,fun g x hl hx=>?_,fun g x hl hx=>?_,fun g g' x hl hl' _ _=>by rw [hlv g hl,hlv g' hl'],fun g hf=>?_,hwf.gl.keep ⟨hsz,fun x hx hlt=>hblk x hlt fun h=>hwf.dI 0 x trivial h hx⟩ fun _ h=>h⟩
  ·obtain rfl:=hlv g hl
   exact ⟨v',by simp,hrow⟩
  ·obtain rfl:=hlv g hl
   simp only [if_true] at hx
   exact zQ (hwf.lt 0 x trivial hx) hsz
  ·obtain rfl:=hlv g hl
   simp only [if_true] at hx
   exact hwf.dI 0 x trivial hx
  ·match g with
   | 0=>cases hf
   | 1=>cases hf
   | g+2 =>
    have e:¬ g+2=1:=by omega
    simp only [e,if_false]
    exact hwf.fr (g+2) rfl
 ·obtain rfl:=hlv g hl
  simp only [if_true] at hx
  exact .inl (hB0 x hx)
theorem Qo {xs:List SV} {ob:List Ob} {r:SV} {ob':List Ob} (h:DU xs ob=some (r,ob')):Fun Tryz.prog 288 xs ob r ob':=by
 unfold DU at h
 split at h
 ·rename_i f t sz es
  obtain ⟨h1,h2⟩:=As h
  obtain ⟨rfl,rfl,hk3,xs,rfl,hF⟩:=Aq.1 h1
  simp only [zC,zJ] at h2
  obtain ⟨rfl,rfl⟩:=h2
  clear h h1
  rw [QF]
  rw [zD] at hk3
  intro w I V B vs hwf hvs
  obtain ⟨v,q,rfl,hv,hvs⟩:=Ba hvs
  obtain ⟨v2,q,rfl,hv2,hvs⟩:=Ba hvs
  obtain rfl:=Gh hvs
  simp only [RepV] at hv hv2
  obtain ⟨vs2,rfl,hv2⟩:=hv2
  simp only [RepVs] at hv2
  subst hv2
  obtain ⟨val,hval,hrow⟩:=hwf.obj 0 trivial
  rw [hv.1] at hval
  obtain rfl:=zE hval
  have hv0:=hv.1
  have hrow:RowR w I (B 0) t 3 (xs.map Lt.o) v:=hrow
  have hrow0:=hrow
  rcases hrow with ⟨he,rfl⟩ | ⟨b,cap,cur,Sub,rfl,hs,hb,g1,g2,g3,g4,g5,g6,g7⟩
  ·simp only [List.map_eq_nil_iff] at he
   subst he
   refine (Kg w).mono ?_
   rintro e w' ⟨rfl,rfl⟩
   have e0:Hk []=[]:=rfl
   rw [e0]
   exact ⟨_,I,_,_,rfl,by simp only [RepV]; exact ⟨rfl,rfl⟩,Xf hwf rfl (TapeOk.mk' rfl rfl) rfl (zT _) (fun _ _ _=>rfl) (.inl ⟨rfl,rfl⟩)⟩
  ·have hblt:=(zV.1 hb).1
   have view:=fun i hi=>Qcu (xs:=xs) (S:=B 0) g5 g7 i hi
   rw [zD] at g1
   have hJb:∀ x,(I x∨(B 0 x∧x≠b))→x≠b:=fun x hx=>by
    rcases hx with hx | hx
    ·intro e; subst e; exact hwf.dI 0 x trivial hs hx
    ·exact hx.2
   have hJl:∀ x,(I x∨(B 0 x∧x≠b))→x<w.heap.size:=fun x hx=>by
    rcases hx with hx | hx
    ·exact hwf.ilt x hx
    ·exact hwf.lt 0 x trivial hx.1
   have hcon:=Qn xs.length (Hj xs) w b cap cur t hb g3 g1 g2 (fun i=>vB (cur.getD (i*3+0) undef)) (fun i=>vS (cur.getD (i*3+1) undef)) (fun i=>(vA (cur.getD (i*3+2) undef)).1) (fun i=>(vA (cur.getD (i*3+2) undef)).2.1) (fun i=>(vA (cur.getD (i*3+2) undef)).2.2)
    (fun i hi=>by
     obtain ⟨a,l,c,e0,e1,e2,_⟩:=view i hi
     rw [e0,e1,e2]
     exact ⟨rfl,rfl,rfl⟩)
    (fun i j hi hj W hW1 hW2=>by
     obtain ⟨a,l,c,e0,e1,e2,hrx⟩:=view i hi
     obtain ⟨a',l',c',e0',e1',e2',hry⟩:=view j hj
     have hk:KeepS (fun x=>I x∨(B 0 x∧x≠b)) w W:=⟨hW1,fun x hx hlt=>hW2 x hlt (hJb x hx)⟩
     have hc:=QeN (hF xs[i] (zH _) xs[j] (zH _)) (W:=W) (J:=fun x=>I x∨(B 0 x∧x≠b)) (fun x hx=>zQ (hJl x hx) hW1) (hwf.gl.keep ⟨hW1,fun x hx hlt=>hk.block x (.inl hx) hlt⟩ fun x hx=>.inl hx) (RepV.mono hk (fun _ h=>h) (VLe.refl _) _ _ hrx) (RepV.mono hk (fun _ h=>h) (VLe.refl _) _ _ hry)
     rw [e0,e1,e2,e0',e1',e2']
     have e:Hj xs i j=dec (xs[i]=xs[j]):=by
      unfold Hj
      rw [zA hi,zA hj]
      by_cases h:xs[i]=xs[j]
      ·rw [An h,An (by rw [h])]
      ·rw [Aj h,Aj (fun e=>h (zE e))]
     rw [e]
     exact hc)
   rw [zD]
   refine hcon.mono ?_
   rintro e w' ⟨rfl,cur',hro,hcs,hcell⟩
   have c1:=OH xs
   have hkl:=Qah (Hj xs) xs.length
   refine ⟨_,I,_,_,rfl,by simp only [RepV]; exact ⟨rfl,rfl⟩,Xf hwf hro.os ⟨hro.tape,fun h=>False.elim h⟩ hro.output hro.size (fun x hx hn=>hro.block x hx fun e=>hn (e▸hs)) ?_⟩
   refine .inr ⟨b,cap,cur',fun p j x=>∃ h:p<(kept (Hj xs) xs.length).length,Sub ((kept (Hj xs) xs.length)[p]) j x,by rw [zD,c1],hs,hro.row,by rw [zD,c1]; omega,g2,by rw [hcs]; exact g3,fun i hi=>by rw [zS,Lt.o_eq]; rfl,fun i j x h=>g5 _ _ _ h.2,fun i j i' j' x h h'=>?_,fun i j hi hj=>?_⟩
   ·obtain ⟨a1,a2⟩:=h
    obtain ⟨b1,b2⟩:=h'
    obtain ⟨d1,d2⟩:=g6 _ _ _ _ _ a2 b2
    exact ⟨(List.getElem_inj (YW _ _)).1 d1,d2⟩
   ·have hi':i<(kept (Hj xs) xs.length).length:=by rw [←c1]; simpa using hi
    have hlt:=(NB (zH hi')).1
    have e1:((Hk xs).map Lt.o)[i]=(xs.map Lt.o)[(kept (Hj xs) xs.length)[i]]'(by rw [zD]; exact hlt):=by
     obtain ⟨_,c2⟩:=OI xs (zA hi') (by rw [c1]; exact hi')
     rw [zS,c2,zS]
    have hj':j<3:=by rw [e1] at hj; have:=g4 _ (show (kept (Hj xs) xs.length)[i]<(xs.map Lt.o).length by rw [zD]; exact hlt); omega
    rw [hcell i hi' j hj']
    have h7:=g7 ((kept (Hj xs) xs.length)[i]) j (by rw [zD]; exact hlt) (by rw [g4]; exact hj')
    have hk:KeepS I w w':=⟨hro.size,fun x hx hlt=>hro.block x hlt fun e=>hwf.dI 0 x trivial (e▸hs) hx⟩
    have h2:=(h7.keep hk (fun _ h=>h) (fun x hx hlt=>hro.block x hlt (g5 _ _ _ hx).2)).up (S':=fun x=>∃ h:i<(kept (Hj xs) xs.length).length,Sub ((kept (Hj xs) xs.length)[i]) j x) (fun x hx=>⟨hi',hx⟩)
    simp only [e1]
    exact h2
 ·rename_i f
  obtain ⟨h1,h2⟩:=As h
  obtain rfl:=Aq.1 h1
  simp only [zC,zJ] at h2
  obtain ⟨rfl,rfl⟩:=h2
  intro w I V B vs hwf hvs
  obtain ⟨v,q,rfl,hv,hvs⟩:=Ba hvs
  obtain ⟨v2,q,rfl,hv2,hvs⟩:=Ba hvs
  obtain rfl:=Gh hvs
  simp only [RepV] at hv hv2
  obtain ⟨vs2,rfl,hv2⟩:=hv2
  simp only [RepVs] at hv2
  subst hv2 hv
  refine (Kg w).mono ?_
  rintro e w' ⟨rfl,rfl⟩
  exact ⟨_,I,V,B,rfl,by simp only [RepV],N4 hwf⟩
 ·cases h
end Go.Proofs.YtepbennkcbmgoaaGreatDoor
set_option maxRecDepth 100000
set_option linter.unusedSimpArgs false
set_option linter.unusedVariables false
set_option linter.unusedSectionVars false
namespace Go.Proofs.YtepbennkcbmgoaaGreatDoor
open Go.RowKit Go.Shelf
theorem OJ {w w':World} {I:Nat→Prop} {V:Nat→Option Value} {B:Nat→Nat→Prop} {t:TypeId} {sz:Nat} {es:List (List OT)} {v':Value} {S:Nat→Prop} (hwf:Wf w I V B (Ap []))
  (hos:w'.os=w.os) (htape:TapeOk w w') (hout:w'.output=w.output) (hsz:w.heap.size≤w'.heap.size) (hblk:∀ x,x<w.heap.size→w'.heap[x]?=w.heap[x]?) (hS:∀ x,S x→w.heap.size≤x∧x<w'.heap.size) (hrow:RowR w' I S t sz es v') :
  FunPost w I V B [] [.row t sz es] w' I (fun g=>if g=0 then some v' else V g) (fun g=>if g=0 then S else B g):=by
 have hlv:∀ g,(Ap [Ob.row t sz es] g).live→g=0:=fun g h=>by
  match g with
  | 0=>rfl
  | g+1=>exact h.elim
 refine ⟨⟨hos,htape,hout,hsz,fun x hx hn=>hblk x hx⟩,fun _ h=>h,fun _ h=>.inl h,fun g u hu=>?_,?_,fun g x hl hx=>?_⟩
 ·rw [hwf.fr g rfl] at hu; cases hu
 ·refine ⟨fun x hx=>zQ (hwf.ilt x hx) hsz,fun g hl=>?_,fun g x hl hx=>?_,fun g x hl hx hI=>?_,fun g g' x hl hl' _ _=>by rw [hlv g hl,hlv g' hl'],fun g hf=>?_,hwf.gl.keep ⟨hsz,fun x _ hlt=>hblk x hlt⟩ fun _ h=>h⟩
  ·obtain rfl:=hlv g hl
   exact ⟨v',by simp,hrow⟩
  ·obtain rfl:=hlv g hl
   simp only [if_true] at hx
   exact (hS x hx).2
  ·obtain rfl:=hlv g hl
   simp only [if_true] at hx
   have:=hwf.ilt x hI
   have:=(hS x hx).1
   omega
  ·match g with
   | 0=>cases hf
   | g+1 =>
    have e:¬ g+1=0:=by omega
    simp only [e,if_false]
    exact hwf.fr (g+1) rfl
 ·obtain rfl:=hlv g hl
  simp only [if_true] at hx
  exact .inr (hS x hx).1
theorem Qcw:∃ (i:TypeInfo) (z:Value),Tryz.prog.info? 122=some i∧i.zero=some z∧i.size=3∧z.cells.size=3∧i.bytes=48:=by
 have h:(match Tryz.prog.info? 122 with
  | some i=>match i.zero with
   | some z=>i.size == 3&&z.cells.size == 3&&i.bytes == 48
   | none=>false
  | none=>false)=true:=by kernel_rfl
 split at h
 ·rename_i i hi
  split at h
  ·rename_i z hz
   rw [zB,zB,beq_iff_eq,beq_iff_eq,beq_iff_eq] at h
   exact ⟨i,z,hi,hz,h.1.1,h.1.2,h.2⟩
  ·cases h
 ·cases h
noncomputable def QfC (xs:List SV) (ob:List Ob):Option (SV × List Ob) :=
 match xs,ob with
 | [.arr es],[]=>bif dec (es≠[]∧es.length≤1048576∧∀ e∈es,e.length=3) then some (.ref 0,[.row 122 3 (es.map fun e=>e.map D.ot)]) else none
 | _,_=>none
theorem YX (w:World):Calls Tryz.prog 213 #[.slice none 0 0,.int .i64 0] w fun e w'=>e=.returned (.slice none 0 0)∧w'=w:=by
 go_enter Tryz.func213,Tryz.ntmps213
 go_wp2
 go_ret
 exact ⟨rfl,rfl⟩
theorem YY (n:Nat) (hn:0<n) (hb:n≤1048576) (w:World):Calls Tryz.prog 213 #[.slice none 0 0,.int .i64 n] w fun e w'=>∃ (cs:Array Value) (G:Nat),e=.returned (.slice (some ⟨w.heap.size,0,none⟩) 0 G)∧w'=w.drew.alloc (.cells cs 122)∧cs.size=G*3∧G≤9223372036854775807:=by
 obtain ⟨i0,z,hi0,hz0,hs0,hzc,hby⟩:=Qcw
 have hold:(Builtin.firstCells i0.size 0 (.slice none 0 0)).run Tryz.prog w.drew=.ok (yG []) w.drew:=run_firstCells_none w.drew i0.size 0 0 0
 have hrz:∀ ty,(Builtin.append_ #[58,3] ty #[.slice none 0 0,.int .i64 (n:Int)]).run Tryz.prog w =
   .ok (.slice (some ⟨w.heap.size,0,none⟩) n (grownCap w n 0 122)) (w.drew.alloc (.cells (yG []++Builtin.zeroCells z.cells n++Builtin.zeroCells z.cells (grownCap w n 0 122-n)) 122)):=fun ty=>by
  have h:=Lib.run_append_grow_zeros w 58 3 ty 122 i0 z .i64 .i64 Tryz.underlying58 Tryz.underlying3 hi0 hz0 none 0 0 [] hold n (by omega) (by omega) (by omega) (by omega)
   (by rw [hby]; omega) (by rw [zX]; exact growslice_fits (by omega) (by rw [hby]; omega))
  rw [zX] at h
  exact h
 have hGn:n≤grownCap w n 0 122:=grownCap_ge w _ _ _
 have hG63:=grownCap_le_maxLen w n 0 122 (by unfold maxLen; omega)
 obtain ⟨G,hG⟩:∃ G,G=grownCap w n 0 122:=⟨_,rfl⟩
 rw [←hG] at hrz hGn hG63
 have hG63':G≤9223372036854775807:=by unfold maxLen at hG63; omega
 obtain ⟨cs,hcs⟩:∃ cs,cs=yG []++Builtin.zeroCells z.cells n++Builtin.zeroCells z.cells (G-n):=⟨_,rfl⟩
 rw [←hcs] at hrz
 have hcl:cs.size=G*3:=by
  rw [hcs]
  simp [Builtin.zeroCells,hzc]
  omega
 clear hG hcs hold hG63
 go_enter Tryz.func213,Tryz.ntmps213
 go_wp2_with (at_builtin; refine Lib.wpList_append_run _ rfl _ _ _ _ rfl _ _ rfl rfl _ _ (hrz _) ?_)
 all_goals (go_ret; exact ⟨cs,G,rfl,rfl,hcl,hG63'⟩)
noncomputable def PP (xs:List SV) (ob:List Ob):Option (SV × List Ob) :=
 match xs,ob with
 | [.nil,.int .i64 n],[]=>bif dec (n=0) then some (.nil,[]) else bif dec (0 < n∧n≤1048576) then some (.ref 0,[.row 122 3 []]) else none
 | _,_=>none
theorem YZ {xs:List SV} {ob:List Ob} {r:SV} {ob':List Ob} (h:PP xs ob=some (r,ob')):Fun Tryz.prog 213 xs ob r ob':=by
 unfold PP at h
 split at h
 ·rename_i n
  intro w I V B vs hwf hvs
  obtain ⟨v,q,rfl,hv,hvs⟩:=Ba hvs
  obtain ⟨v2,q,rfl,hv2,hvs⟩:=Ba hvs
  obtain rfl:=Gh hvs
  simp only [RepV] at hv hv2
  subst hv hv2
  cases hd:dec (n=0) with
  | true =>
   obtain rfl:=Aq.1 hd
   rw [hd] at h
   simp only [cond_true,zC,zJ] at h
   obtain ⟨rfl,rfl⟩:=h
   refine (YX w).mono ?_
   rintro e w' ⟨rfl,rfl⟩
   exact ⟨_,I,V,B,rfl,by simp only [RepV],⟨⟨rfl,TapeOk.mk' rfl rfl,rfl,zT _,fun _ _ _=>rfl⟩,fun _ h=>h,fun _ h=>.inl h,VLe.refl _,hwf,fun g b hl hb=>.inl ⟨g,hl,hb⟩⟩⟩
  | false =>
   rw [hd,cond_false] at h
   obtain ⟨h1,h2⟩:=As h
   obtain ⟨k1,k2⟩:=Aq.1 h1
   simp only [zC,zJ] at h2
   obtain ⟨rfl,rfl⟩:=h2
   obtain ⟨m,rfl⟩:∃ m:Nat,n=m:=⟨n.toNat,by omega⟩
   refine (YY m (by omega) (by omega) w).mono ?_
   rintro e w' ⟨cs,G,rfl,rfl,hcs,hG⟩
   have hnew:=heap_alloc_new w.drew (.cells cs 122)
   have hbl:∀ x,x<w.heap.size→(w.drew.alloc (.cells cs 122)).heap[x]?=w.heap[x]?:=fun x hx=>Below.heap_alloc w.drew _ x hx
   have hsz:(w.drew.alloc (.cells cs 122)).heap.size=w.heap.size+1:=y8 _
   exact ⟨_,I,_,_,rfl,by simp only [RepV]; exact ⟨rfl,rfl⟩,OJ (S:=fun x=>x=w.heap.size) hwf rfl (TapeOk.le rfl (Nat.le_succ _)) rfl (by omega) hbl (fun x hx=>by omega) (.inr ⟨w.heap.size,G,cs,fun _ _ _=>False,rfl,rfl,hnew,zR _,hG,hcs,fun i hi=>absurd hi (by simp),fun _ _ _ h=>h.elim,fun _ _ _ _ _ h=>h.elim,fun i j hi=>absurd hi (by simp)⟩)⟩
 ·cases h
end Go.Proofs.YtepbennkcbmgoaaGreatDoor
set_option maxRecDepth 100000
set_option linter.unusedSimpArgs false
set_option linter.unusedVariables false
set_option linter.unusedSectionVars false
namespace Go.Proofs.YtepbennkcbmgoaaGreatDoor
open Go.RowKit Go.Shelf
noncomputable def Qf9 (xs:List SV) (ob:List Ob):Option (SV × List Ob) :=
 match xs,ob with
 | [.ref 0,.int .i64 i,.int .i64 j],[.row t sz es]=>bif dec (sz=3∧0≤i∧i.toNat < es.length∧j=i+1∧es.length≤1099511627776) then some (.ref 1,[.gone,.row t sz (es.eraseIdx i.toNat)]) else none
 | _,_=>none
end Go.Proofs.YtepbennkcbmgoaaGreatDoor
set_option maxRecDepth 100000
namespace Go.Proofs.YtepbennkcbmgoaaGreatDoor
open Go.Shelf
def so_CloneS_ren:Go.Shelf.Ren:=⟨fun | 16=>57 | n=>n,fun | 24=>28 | 9=>9 | 4=>4 | n=>n,fun | n=>n⟩
theorem OK:Go.Proofs.Lays2.n16 Tryz.prog so_CloneS_ren:={
 mixed:=by kernel_rfl,
 f16:=Tryz.func57.trans (congrArg some (by kernel_rfl)),
 t4:=Tryz.underlying4,
 a4:=Tryz.isAgg4,
 z4:=Tryz.sizeOf4,
 v4:=Tryz.zeroValue4,
 t9:=Tryz.underlying9,
 a9:=Tryz.isAgg9,
 z9:=Tryz.sizeOf9,
 v9:=Tryz.zeroValue9,
 t24:=Tryz.underlying28,
 a24:=Tryz.isAgg28,
 z24:=Tryz.sizeOf28,
 v24:=Tryz.zeroValue28,
 i9:=by kernel_rfl }
end Go.Proofs.YtepbennkcbmgoaaGreatDoor
set_option maxRecDepth 100000
set_option linter.unusedSimpArgs false
set_option linter.unusedVariables false
set_option linter.unusedSectionVars false
namespace Go.Proofs.YtepbennkcbmgoaaGreatDoor
open Go.RowKit
theorem KN {w w':World} {I:Nat→Prop} {V:Nat→Option Value} {B:Nat→Nat→Prop} (hwf:Wf w I V B (Ap [])) (hbel:Below w.heap.size w w') {v:Value} {t:TypeId} {os:List OT} {vals:List Value} (hl:vals.length=os.length)
  (hown:w'.ownsRow w.heap.size t 1 v os.length vals) (hv:∀ i (h:i<os.length),ORep w' I (fun _=>False) os[i] (vals.getD i undef)) :
  ∃ V' B',RepV w' I V' (.ref 0) v∧FunPost w I V B [] [.row t 1 (os.map fun o=>[o])] w' I V' B':=by
 have hV0:V 0=none:=hwf.fr 0 rfl
 have hn:=hbel.size
 have gS:∀ (e:List (List OT)) (g:Nat),Ap [Ob.row t 1 e] (g+1)=.free:=fun _ _=>rfl
 obtain ⟨hx,hform⟩:=hown
 let B':Nat→Nat→Prop:=fun g b=>g=0∧w.heap.size≤b∧b<w'.heap.size∧∃ o n c,v=.slice (some ⟨b,o,none⟩) n c
 have hform2:∃ a n c,v=.slice a n c:=by
  rcases hform with ⟨rfl,_⟩ | ⟨g,cap,cur,rfl,_⟩
  ·exact ⟨_,_,_,rfl⟩
  ·exact ⟨_,_,_,rfl⟩
 have hrow:RowR w' I (B' 0) t 1 (os.map fun o=>[o]) v:=by
  rcases hform with ⟨rfl,h0⟩ | ⟨g,cap,cur,rfl,hg,hb,h1,h2,h3,h4⟩
  ·left
   have:os=[]:=zU h0
   subst this
   exact ⟨rfl,rfl⟩
  ·right
   have hlt:=(zV.1 hb).1
   refine ⟨g,cap,cur,fun _ _ _=>False,by rw [zD],⟨rfl,hg,hlt,_,_,_,rfl⟩,hb,by rw [zD]; exact h1,by unfold maxLen at h2; omega,h3,fun i hi=>by simp,fun _ _ _ h=>h.elim,fun _ _ _ _ _ h=>h.elim,fun i j hi hj=>?_⟩
   have hi':i<os.length:=by simpa using hi
   have hj0:j=0:=by simpa using hj
   subst hj0
   have e:cur.getD (i*1+0) undef=vals.getD i undef:=by
    have hc:i<cur.size:=by omega
    rw [←h4,yT,zZ,zN,yB,List.getElem?_take]
    simp only [yT,hi',if_true,Array.getElem?_toList]
   rw [e]
   have:=hv i hi'
   simpa using this
 refine ⟨fun g=>if g=0 then some v else V g,B',?_,?_⟩
 ·simp only [RepV]
  exact ⟨by simp,by obtain ⟨a,n,c,e⟩:=hform2; rw [e]; rfl⟩
 ·refine ⟨⟨hbel.os,⟨hbel.tape,fun h=>False.elim h⟩,hbel.output,hn,fun x hx _=>hbel.block x hx⟩,fun x hx=>hx,fun x hx=>.inl hx,fun g u hu=>?_,⟨fun x hx=>zQ (hwf.ilt x hx) hn,fun g hl=>?_,fun g b hl hb=>hb.2.2.1,fun g b hl hb hI=>?_,fun g g' b hl hl' hb hb'=>?_,fun g hg=>?_,hwf.gl.keep ⟨hn,fun x _ hlt=>hbel.block x hlt⟩ fun _ h=>h⟩,fun g b hl hb=>.inr hb.2.1⟩
  ·by_cases h0:g=0
   ·subst h0; rw [hV0] at hu; cases hu
   ·simp only [if_neg h0]; exact hu
  ·cases g with
   | zero=>exact ⟨v,by simp,hrow⟩
   | succ g=>rw [gS] at hl; exact hl.elim
  ·have:=hwf.ilt b hI
   have:=hb.2.1
   omega
  ·rw [hb.1,hb'.1]
  ·cases g with
   | zero=>cases hg
   | succ g=>simp only [Nat.add_eq_zero_iff,Nat.succ_ne_self,and_false,if_false]; exact hwf.fr (g+1) rfl
theorem Za {w:World} {I:Nat→Prop} {es:List (List D)} {v:Value} (h:DRep false w I (.arr es) v) (hsz:∀ e∈es,e.length=1) :
  (es=[]∧∃ a c,v=.slice a 0 c)∨∃ b off cap,v=.slice (some ⟨b,off,none⟩) es.length cap∧∀ i (hi:i<es.length),∃ u,w.cell? ⟨b,off+i,none⟩=some u∧∃ S,DRep false w S (es[i].headD (.int 0)) u:=by
 cases h with
 | arr S sz es a cap f Sub h1 h2 h3 h4 h5 h6 h7 =>
  rcases h3 with h3 | ⟨b,off,rfl,hS,hb,hc,_⟩
  ·left
   have he:es=[]:=zU h3
   subst he
   exact ⟨rfl,_,_,rfl⟩
  ·rcases z7 es.length with h0 | h0
   ·left
    have he:es=[]:=zU h0
    subst he
    exact ⟨rfl,_,_,rfl⟩
   ·right
    have hs1:sz=1:=by rw [←h4 0 h0]; exact hsz _ (zH h0)
    subst hs1
    refine ⟨b,off,cap,rfl,fun i hi=>⟨f i 0,by have:=hc i 0 hi (by omega); simpa using this,Sub i 0,?_⟩⟩
    have hl:=hsz _ (zH hi)
    have:=h7 i 0 hi (by omega)
    have key:∀ (l:List D) (h:0<l.length),l.headD (.int 0)=l[0]:=fun l h=>by
     cases l with
     | nil=>cases h
     | cons d r=>rfl
    have e:=key es[i] (by omega)
    rw [e]
    exact this
def unS:List D→ByteArray
 | D.str s :: _=>s
 | _=>⟨#[]⟩
noncomputable def OL (xs:List SV) (ob:List Ob):Option (SV × List Ob) :=
 match xs,ob with
 | [.arr es],[]=>bif dec ((∀ e∈es,∃ s,e=[D.str s])∧es.length≤1048576) then some (.ref 0,[.row 9 1 (es.map fun e=>[OT.str (unS e)])]) else none
 | _,_=>none
theorem Xg {xs:List SV} {ob:List Ob} {r:SV} {ob':List Ob} (h:OL xs ob=some (r,ob')):Fun Tryz.prog 57 xs ob r ob':=by
 unfold OL at h
 split at h
 ·rename_i es
  obtain ⟨h1,h2⟩:=As h
  obtain ⟨k1,k2⟩:=Aq.1 h1
  simp only [zC,zJ] at h2
  obtain ⟨rfl,rfl⟩:=h2
  intro w I V B vs hwf hvs
  obtain ⟨v,q,rfl,hv,hvs⟩:=Ba hvs
  obtain rfl:=Gh hvs
  simp only [RepV] at hv
  have hsz:∀ e∈es,e.length=1:=fun e he=>by obtain ⟨s,rfl⟩:=k1 e he; rfl
  have hmap:(es.map fun e=>[OT.str (unS e)])=((es.map fun e=>OT.str (unS e)).map fun o=>[o]):=by rw [List.map_map]; rfl
  rcases Za hv hsz with ⟨rfl,a,c,rfl⟩ | ⟨b,off,cap,rfl,hcell⟩
  ·cases a with
   | none =>
    have hcon:=Any.slices_Clone_string_nil OK 0 c w
    change Calls Tryz.prog 57 _ _ _ at hcon
    refine hcon.mono ?_
    rintro e w' ⟨rfl,rfl⟩
    obtain ⟨V',B',h3,h4⟩:=KN (t:=9) (os:=[]) (vals:=[]) hwf (Below.refl _ _) rfl ⟨rfl,.inl ⟨rfl,rfl⟩⟩ (fun i h=>absurd h (by simp))
    exact ⟨_,I,V',B',rfl,h3,h4⟩
   | some a =>
    have hcon:=Any.slices_Clone_string_zero OK a c w
    change Calls Tryz.prog 57 _ _ _ at hcon
    refine hcon.mono ?_
    rintro e w' ⟨v',rfl,hown,_,hbel⟩
    obtain ⟨V',B',h3,h4⟩:=KN (t:=9) (os:=[]) (vals:=[]) hwf hbel rfl hown (fun i h=>absurd h (by simp))
    exact ⟨_,I,V',B',rfl,h3,h4⟩
  ·obtain ⟨zs,hzs⟩:∃ zs,zs=es.map unS:=⟨_,rfl⟩
   have hzl:zs.length=es.length:=by rw [hzs,zD]
   have hcz:∀ j (hj:j<es.length),w.cell? ⟨b,off+j,none⟩=some (Value.string (unS es[j]))∧(unS es[j]).size≤9223372036854775807:=fun j hj=>by
    obtain ⟨u,hu,S,hd⟩:=hcell j hj
    obtain ⟨s,he⟩:=k1 es[j] (zH hj)
    rw [he] at hd ⊢
    simp only [List.headD_cons] at hd
    cases hd
    exact ⟨hu,by assumption⟩
   have hcon:=Any.slices_Clone_string OK b off es.length cap zs w (by omega) (by omega) (fun j hj=>by
    have hj':j<es.length:=by omega
    rw [(hcz j hj').1]
    rw [yB,zA hj]
    simp [hzs])
   change Calls Tryz.prog 57 _ _ _ at hcon
   refine hcon.mono ?_
   rintro e w' ⟨v',rfl,hown,_,hbel⟩
   have ht:zs.take es.length=zs:=List.take_of_length_le (by omega)
   rw [ht] at hown
   have hown2:w'.ownsRow w.heap.size 9 1 v' (es.map fun e=>OT.str (unS e)).length (zs.map Value.string):=by rw [zD]; exact hown
   obtain ⟨V',B',h3,h4⟩:=KN (t:=9) (os:=es.map fun e=>OT.str (unS e)) (vals:=zs.map Value.string) hwf hbel (by simp [hzl]) hown2 (fun i hi=>by
    have hi':i<es.length:=by simpa using hi
    have e:(zs.map Value.string).getD i undef=Value.string (unS es[i]):=by
     rw [yB,List.getElem?_map,zA (by omega)]
     simp [hzs]
    rw [e,zS]
    exact .str _ _ (hcz i hi').2)
   rw [hmap]
   exact ⟨_,I,V',B',rfl,h3,h4⟩
 ·cases h
noncomputable def CW:List ByteArray→ByteArray→List ByteArray
 | [],n=>[n]
 | x :: xs,n=>bif strLt x n then x :: CW xs n else bif dec (x=n) then x :: xs else n :: x :: xs
noncomputable def CH:List ByteArray→ByteArray→Nat
 | [],_=>0
 | x :: xs,n=>bif strLt x n then CH xs n+1 else 0
theorem FunD.toFun {P:Program} {f:FuncId} {xs:List SV} {ob:List Ob} {r:SV} {ob':List Ob} (h:FunD P f xs ob r ob'):Fun P f xs ob r ob':=by
 intro w I V B vs hwf hvs
 refine (h w I V B vs hwf hvs).mono ?_
 rintro e w' ⟨v,I',V',B',he,hr,⟨⟨f1,⟨f2,_⟩,f3,f4,f5⟩,p1,p2,p3,p4,p5⟩⟩
 exact ⟨v,I',V',B',he,hr,⟨⟨f1,⟨f2,fun h=>h.elim⟩,f3,f4,f5⟩,p1,p2,p3,p4,p5⟩⟩
theorem Fun.taken {P:Program} {f:FuncId} {t:TypeId} {sz:Nat} {es:List (List OT)} {n:ByteArray} {t':TypeId} {sz':Nat} {es':List (List OT)} (hf:OT.AO es=true)
  (h:Fun P f [.arr (OT.erss es),.str n] [] (.ref 0) [.row t' sz' es']):Fun P f [.ref 0,.str n] [.row t sz es] (.ref 1) [.gone,.row t' sz' es']:=by
 intro w I V B vs hwf hvs
 obtain ⟨v,q,rfl,hv,hvs⟩:=Ba hvs
 obtain ⟨v2,q,rfl,hv2,hvs⟩:=Ba hvs
 obtain rfl:=Gh hvs
 simp only [RepV] at hv hv2
 obtain ⟨val,hval,hrow⟩:=hwf.obj 0 trivial
 rw [hv.1] at hval
 obtain rfl:=zE hval
 have hrow:RowR w I (B 0) t sz es v:=hrow
 have hn:∀ g,Ap ([]:List Ob) g=.free:=fun g=>by cases g <;> rfl
 have hnl:∀ g,¬ (Ap ([]:List Ob) g).live:=fun g hl=>by rw [hn] at hl; exact hl
 have hHB0:∀ b,¬ HB (fun _ _=>False) ([]:List Ob) b:=fun b ⟨g,hl,_⟩=>hnl g hl
 have hwf0:Wf w (fun x=>I x∨B 0 x) (fun _=>none) (fun _ _=>False) (Ap []) :=
  ⟨fun b hb=>hb.elim (hwf.ilt b) (hwf.lt 0 b trivial),fun g hl=>(hnl g hl).elim,fun g b hl=>(hnl g hl).elim,fun g b hl=>(hnl g hl).elim,fun g g' b hl=>(hnl g hl).elim,fun g _=>rfl,hwf.gl.keep ⟨zT _,fun x _ _=>rfl⟩ fun x hx=>.inl hx⟩
 have hD:DRep false w (fun x=>I x∨B 0 x) (.arr (OT.erss es)) v:=hrow.er (fun b hb=>.inr hb) (fun b hb=>.inl hb) hf
 refine (h w _ _ _ [v,v2] hwf0 (by simp only [RepVs,RepV]; exact ⟨v,_,rfl,hD,v2,_,rfl,hv2,rfl⟩)).mono ?_
 rintro e w' ⟨rv,I2,V2,B2,rfl,hr,hp⟩
 simp only [RepV] at hr
 have hlv:∀ g,(Ap [Ob.gone,.row t' sz' es'] g).live→g=1:=fun g h=>by
  match g with
  | 0=>exact h.elim
  | 1=>rfl
  | g+2=>exact h.elim
 obtain ⟨f1,f2,f3,f4,f5⟩:=hp.fr
 refine ⟨rv,I2,fun g=>if g=1 then V2 0 else V g,fun g=>if g=1 then B2 0 else B g,rfl,by simp only [RepV]; exact ⟨by simp [hr.1],hr.2⟩,⟨⟨f1,f2,f3,f4,fun x hx _=>f5 x hx (hHB0 x)⟩,fun b hb=>hp.i0 b (.inl hb),fun b hb=>?_,fun g u hu=>?_,?_,fun g x hl hx=>?_⟩⟩
 ·rcases hp.i1 b hb with (h1 | h1) | h1 | h1
  ·exact .inl h1
  ·exact .inr (.inr ⟨0,trivial,h1⟩)
  ·exact .inr (.inl h1)
  ·exact (hHB0 b h1).elim
 ·by_cases e:g=1
  ·subst e
   rw [hwf.fr 1 rfl] at hu; cases hu
  ·simp only [e,if_false]; exact hu
 ·refine ⟨hp.wf.ilt,fun g hl=>?_,fun g x hl hx=>?_,fun g x hl hx=>?_,fun g g' x hl hl' _ _=>by rw [hlv g hl,hlv g' hl'],fun g hfr=>?_,hp.wf.gl⟩
  ·obtain rfl:=hlv g hl
   obtain ⟨val,hv0,hob⟩:=hp.wf.obj 0 trivial
   exact ⟨val,by simp [hv0],hob⟩
  ·obtain rfl:=hlv g hl
   simp only [if_true] at hx
   exact hp.wf.lt 0 x trivial hx
  ·obtain rfl:=hlv g hl
   simp only [if_true] at hx
   exact hp.wf.dI 0 x trivial hx
  ·match g with
   | 0=>cases hfr
   | 1=>cases hfr
   | g+2 =>
    have e:¬ g+2=1:=by omega
    simp only [e,if_false]
    exact hwf.fr (g+2) rfl
 ·obtain rfl:=hlv g hl
  simp only [if_true] at hx
  rcases hp.bh 0 x trivial hx with h1 | h1
  ·exact (hHB0 x h1).elim
  ·exact .inr h1
def NC (es:List (List OT)):List ByteArray:=es.map fun e=>match e with
 | .str s :: _=>s
 | _=>⟨#[]⟩
theorem Qcx (l:List ByteArray):NC (l.map fun s=>[OT.str s])=l:=by
 unfold NC
 rw [List.map_map]
 exact (List.map_congr_left fun s _=>rfl).trans (List.map_id l)
theorem Xh:∀ xs:List ByteArray,OT.AO (xs.map fun s=>[OT.str s])=true
 | []=>rfl
 | x :: xs=>by simp only [zF,OT.AO,OT.C6,OT.full,Xh xs,zG]
noncomputable def OM (xs:List SV) (ob:List Ob):Option (SV × List Ob) :=
 match xs,ob with
 | [.ref 0,.str n],[.row t sz es] =>
  bif dec (es=(NC es).map (fun s=>[OT.str s])∧(¬ (NC es).length<(CW (NC es) n).length→Fun Tryz.prog 238 [.ref 0,.str n] [.row t sz es] (.ref 0) [.row t sz es])∧((NC es).length<(CW (NC es) n).length→Fun Tryz.prog 238 [.arr ((NC es).map fun s=>[D.str s]),.str n] [] (.ref 0) [.row 9 1 ((CW (NC es) n).map fun s=>[OT.str s])])) then
   bif dec ((NC es).length<(CW (NC es) n).length) then some (.ref 1,[.gone,.row 9 1 ((CW (NC es) n).map fun s=>[OT.str s])]) else some (.ref 0,[.row t sz es])
  else none
 | _,_=>none
theorem Xi {xs:List SV} {ob:List Ob} {r:SV} {ob':List Ob} (h:OM xs ob=some (r,ob')):Fun Tryz.prog 238 xs ob r ob':=by
 unfold OM at h
 split at h
 ·rename_i n t sz es
  obtain ⟨h1,h2⟩:=As h
  obtain ⟨k1,k2,k3⟩:=Aq.1 h1
  by_cases hq:(NC es).length<(CW (NC es) n).length
  ·rw [An hq,cond_true] at h2
   simp only [zC,zJ] at h2
   obtain ⟨rfl,rfl⟩:=h2
   have h3:=k3 hq
   rw [←J5,← k1] at h3
   exact Fun.taken (by rw [k1]; exact Xh _) h3
  ·rw [Aj hq,cond_false] at h2
   simp only [zC,zJ] at h2
   obtain ⟨rfl,rfl⟩:=h2
   exact k2 hq
 ·cases h
end Go.Proofs.YtepbennkcbmgoaaGreatDoor
set_option maxRecDepth 100000
namespace Go.Proofs.YtepbennkcbmgoaaGreatDoor
open Go.Shelf
def so_SortS_ren:Go.Shelf.Ren:=⟨fun | 190=>119 | 125=>182 | 258=>181 | 128=>256 | 129=>257 | 302=>247 | 303=>248 | 304=>249 | 305=>250 | 306=>251 | 307=>252 | 308=>253 | 309=>254 | 310=>255 | 333=>300 | 329=>301 | 330=>302 | 334=>303 | 335=>304 | 336=>305 | 344=>322 | n=>n,fun | 31=>28 | 9=>9 | 3=>3 | 46=>184 | 0=>0 | 51=>239 | 53=>241 | 4=>4 | 183=>231 | 182=>230 | 131=>236 | 5=>5 | 218=>271 | 222=>275 | 228=>286 | 229=>287 | n=>n,fun | n=>n⟩
theorem Xj:Go.Proofs.Lays.n190 Tryz.prog so_SortS_ren:={
 mixed:=by kernel_rfl,
 f125:=Tryz.func182.trans (congrArg some (by kernel_rfl)),
 f128:=Tryz.func256.trans (congrArg some (by kernel_rfl)),
 f129:=Tryz.func257.trans (congrArg some (by kernel_rfl)),
 f190:=Tryz.func119.trans (congrArg some (by kernel_rfl)),
 f258:=Tryz.func181.trans (congrArg some (by kernel_rfl)),
 f302:=Tryz.func247.trans (congrArg some (by kernel_rfl)),
 f303:=Tryz.func248.trans (congrArg some (by kernel_rfl)),
 f304:=Tryz.func249.trans (congrArg some (by kernel_rfl)),
 f305:=Tryz.func250.trans (congrArg some (by kernel_rfl)),
 f306:=Tryz.func251.trans (congrArg some (by kernel_rfl)),
 f307:=Tryz.func252.trans (congrArg some (by kernel_rfl)),
 f308:=Tryz.func253.trans (congrArg some (by kernel_rfl)),
 f309:=Tryz.func254.trans (congrArg some (by kernel_rfl)),
 f310:=Tryz.func255.trans (congrArg some (by kernel_rfl)),
 f329:=Tryz.func301.trans (congrArg some (by kernel_rfl)),
 f330:=Tryz.func302.trans (congrArg some (by kernel_rfl)),
 f333:=Tryz.func300.trans (congrArg some (by kernel_rfl)),
 f334:=Tryz.func303.trans (congrArg some (by kernel_rfl)),
 f335:=Tryz.func304.trans (congrArg some (by kernel_rfl)),
 f336:=Tryz.func305.trans (congrArg some (by kernel_rfl)),
 f344:=Tryz.func322.trans (congrArg some (by kernel_rfl)),
 t0:=Tryz.underlying0,
 a0:=Tryz.isAgg0,
 z0:=Tryz.sizeOf0,
 v0:=Tryz.zeroValue0,
 t3:=Tryz.underlying3,
 a3:=Tryz.isAgg3,
 z3:=Tryz.sizeOf3,
 v3:=Tryz.zeroValue3,
 t4:=Tryz.underlying4,
 a4:=Tryz.isAgg4,
 z4:=Tryz.sizeOf4,
 v4:=Tryz.zeroValue4,
 t5:=Tryz.underlying5,
 a5:=Tryz.isAgg5,
 z5:=Tryz.sizeOf5,
 v5:=Tryz.zeroValue5,
 t9:=Tryz.underlying9,
 a9:=Tryz.isAgg9,
 z9:=Tryz.sizeOf9,
 v9:=Tryz.zeroValue9,
 t31:=Tryz.underlying28,
 a31:=Tryz.isAgg28,
 z31:=Tryz.sizeOf28,
 v31:=Tryz.zeroValue28,
 t46:=Tryz.underlying184,
 a46:=Tryz.isAgg184,
 z46:=Tryz.sizeOf184,
 v46:=Tryz.zeroValue184,
 t51:=Tryz.underlying239,
 a51:=Tryz.isAgg239,
 z51:=Tryz.sizeOf239,
 v51:=Tryz.zeroValue239,
 t53:=Tryz.underlying241,
 a53:=Tryz.isAgg241,
 z53:=Tryz.sizeOf241,
 v53:=Tryz.zeroValue241,
 t131:=Tryz.underlying236,
 a131:=Tryz.isAgg236,
 z131:=Tryz.sizeOf236,
 v131:=Tryz.zeroValue236,
 t182:=Tryz.underlying230,
 a182:=Tryz.isAgg230,
 z182:=Tryz.sizeOf230,
 v182:=Tryz.zeroValue230,
 t183:=Tryz.underlying231,
 a183:=Tryz.isAgg231,
 z183:=Tryz.sizeOf231,
 v183:=Tryz.zeroValue231,
 t218:=Tryz.underlying271,
 a218:=Tryz.isAgg271,
 z218:=Tryz.sizeOf271,
 v218:=Tryz.zeroValue271,
 t222:=Tryz.underlying275,
 a222:=Tryz.isAgg275,
 z222:=Tryz.sizeOf275,
 v222:=Tryz.zeroValue275,
 t228:=Tryz.underlying286,
 a228:=Tryz.isAgg286,
 z228:=Tryz.sizeOf286,
 v228:=Tryz.zeroValue286,
 t229:=Tryz.underlying287,
 a229:=Tryz.isAgg287,
 z229:=Tryz.sizeOf287,
 v229:=Tryz.zeroValue287 }
end Go.Proofs.YtepbennkcbmgoaaGreatDoor
set_option maxRecDepth 100000
set_option linter.unusedSimpArgs false
set_option linter.unusedVariables false
set_option linter.unusedSectionVars false
namespace Go.Proofs.YtepbennkcbmgoaaGreatDoor
open Go.RowKit Go.Shelf Go.Lib Go.Sort
theorem TZ (w:World) (b m:Nat) (ss:List (List UInt8)) (os:Array Obj) (x:Nat) (hx:x<w.heap.size) :
  (Sort.grow (putRow encStr (Sort.ahead w m) b 0 ss.toArray) os).heap[x]?=if b=x then (w.heap[x]?).map (onCells (putCells encStr 0 ss.toArray)) else w.heap[x]?:=by
 unfold Sort.grow putRow mapBlock Sort.ahead
 have hx':x<(w.heap.modify b (onCells (putCells encStr 0 ss.toArray))).size:=by simpa using hx
 simp only [Array.getElem?_append,Array.size_modify,hx,if_true,yE]
def srt (ss:List (List UInt8)):List (List UInt8):=ss.mergeSort fun x y=>decide (x≤y)
def PQ (l:List UInt8):List OT:=[.str ⟨l.toArray⟩]
noncomputable def sortStr (xs:List SV) (ob:List Ob):Option (SV × List Ob) :=
 match xs,ob with
 | [.ref 0],[.row t sz es]=>bif dec (sz=1∧(∀ e∈es,∃ s,e=[.str s])∧es.length≤1099511627776) then some (.tup [],[.row t sz ((srt (es.map fun e=>(KJ e).toList)).map PQ)]) else none
 | _,_=>none
theorem ORep.Qfv {w:World} {I S:Nat→Prop} {s:ByteArray} {v:Value} (h:ORep w I S (.str s) v):v=.string s∧s.size≤9223372036854775807:=by
 cases h with
 | str _ _ hz=>exact ⟨rfl,hz⟩
theorem EH (s:ByteArray):(⟨s.toList.toArray⟩:ByteArray)=s:=O7 (by rw [ByteArray.toList_eq])
theorem Vp {xs:List SV} {ob:List Ob} {r:SV} {ob':List Ob} (h:sortStr xs ob=some (r,ob')):Fun Tryz.prog 119 xs ob r ob':=by
 unfold sortStr at h
 split at h
 ·rename_i t sz es
  obtain ⟨h1,h2⟩:=As h
  obtain ⟨rfl,hk1,hk3⟩:=Aq.1 h1
  simp only [zC,zJ] at h2
  obtain ⟨rfl,rfl⟩:=h2
  intro w I V B vs hwf hvs
  obtain ⟨v,q,rfl,hv,hvs⟩:=Ba hvs
  obtain rfl:=Gh hvs
  simp only [RepV] at hv
  obtain ⟨val,hval,hrow⟩:=hwf.obj 0 trivial
  rw [hv.1] at hval
  obtain rfl:=zE hval
  have hv0:=hv.1
  have hrow:RowR w I (B 0) t 1 es v:=hrow
  rcases z7 es.length with h0 | h0
  ·have he:es=[]:=zU h0
   subst he
   obtain ⟨a,c,rfl,_⟩:=hrow.form
   have hcon:=Any.slices_Sort_string_none Xj a c w
   change Calls Tryz.prog 119 _ _ _ at hcon
   refine hcon.mono ?_
   rintro e w' ⟨rfl,rfl⟩
   have e0:(srt ([].map fun e:List OT=>(KJ e).toList)).map PQ=[]:=by simp [srt]
   rw [e0]
   exact ⟨_,I,V,B,rfl,by simp only [RepV,RepVs]; exact ⟨[],rfl,rfl⟩,N4 hwf⟩
  ·rcases hrow with ⟨he,_⟩ | ⟨b,cap,cur,Sub,rfl,hs,hb,g1,g2,g3,g4,g5,g6,g7⟩
   ·subst he; simp at h0
   have hblt:=(zV.1 hb).1
   obtain ⟨ss,hss⟩:∃ ss,ss=es.map fun e=>(KJ e).toList:=⟨_,rfl⟩
   have hsl:ss.length=es.length:=by rw [hss]; simp
   rw [←hss]
   have cellv:∀ i (hi:i<es.length),cur[i]?=some (.string (KJ es[i]))∧(KJ es[i]).size≤9223372036854775807:=fun i hi=>by
    obtain ⟨s,he⟩:=hk1 es[i] (zH hi)
    have hlt:i<cur.size:=by rw [g3]; omega
    have l0:=g7 i 0 hi (by rw [g4 i hi]; omega)
    simp only [he,z8,yT,zZ,zN,zI hlt,yA] at l0
    rw [zI hlt,he]
    obtain ⟨z1,z2⟩:=ORep.Qfv l0
    exact ⟨by rw [z1]; rfl,z2⟩
   have hH:Holds encStr w b 0 ss.toArray:=by
    intro j hj
    have hj1:j<ss.length:=by simpa using hj
    have hj':j<es.length:=by rw [←hsl]; exact hj1
    refine ⟨?_,?_⟩
    ·rw [zX,cell_of_row w b _ _ _ _ hb,(cellv j hj').1,getElem!_pos ss.toArray j hj]
     simp only [yF,hss,zS,encStr,EH]
    ·unfold World.frozen?
     rw [hb]
     simp
   have hcon:=Any.slices_Sort_string Xj b 0 cap ss w hH hblt (by rw [hsl]; omega)
   change Calls Tryz.prog 119 _ _ _ at hcon
   rw [hsl] at hcon
   refine hcon.mono ?_
   rintro e w' ⟨rfl,m,os,rfl⟩
   refine ⟨_,I,V,B,rfl,by simp only [RepV,RepVs]; exact ⟨[],rfl,rfl⟩,?_⟩
   have hper:(srt ss).Perm ss:=List.mergeSort_perm _ _
   have hsl2:(srt ss).length=es.length:=by rw [hper.length_eq,hsl]
   have hgrow:∀ x,x<w.heap.size→x≠b→(Sort.grow (putRow encStr (Sort.ahead w m) b 0 (srt ss).toArray) os).heap[x]?=w.heap[x]?:=fun x hx hne=>by
    rw [TZ w b m _ os x hx,if_neg (fun e=>hne e.symm)]
   have hbl:(Sort.grow (putRow encStr (Sort.ahead w m) b 0 (srt ss).toArray) os).heap[b]?=some (.cells (putCells encStr 0 (srt ss).toArray cur) t (0,0)):=by
    rw [TZ w b m _ os b hblt,if_pos rfl,hb]; rfl
   have hsz:w.heap.size≤(Sort.grow (putRow encStr (Sort.ahead w m) b 0 (srt ss).toArray) os).heap.size:=by
    unfold Sort.grow
    simp [putRow,mapBlock,Sort.ahead]
   have hmem:∀ l∈ss,∃ e∈es,(KJ e).toList=l:=by
    rw [hss]
    intro l h
    exact y4.1 h
   have hstr:∀ i (hi:i<(srt ss).length),(⟨(srt ss)[i].toArray⟩:ByteArray).size≤9223372036854775807:=fun i hi=>by
    obtain ⟨e,he,heq⟩:=hmem _ (hper.mem_iff.1 (zH hi))
    obtain ⟨k,hk,rfl⟩:=yK he
    have:=(cellv k hk).2
    rw [←heq,EH]
    exact this
   refine Qaf (fun _ _ _=>False) hwf hv0 (by rw [zD,hsl2]) hs hb g1 g2 g3 (fun i hi=>by rw [zS]; rfl) (fun i j x h=>h.elim) (fun i j i' j' x h h'=>h.elim) rfl ⟨rfl,fun h=>False.elim h⟩ rfl hsz hgrow hbl (by simp [putCells]) (fun i j hi hj=>?_)
   have hi':i<(srt ss).length:=by simpa using hi
   have hj':j<1:=by simpa [PQ] using hj
   obtain rfl:j=0:=by omega
   have hlt:i<cur.size:=by rw [g3]; omega
   have hc:(putCells encStr 0 (srt ss).toArray cur).getD (i*1+0) undef=.string ⟨(srt ss)[i].toArray⟩:=by
    simp only [yT,zZ,putCells,zN,yP,zI hlt,yL,yA,zR,true_and,zX,yO,hi',if_true,Nat.sub_zero]
    rw [getElem!_pos (srt ss).toArray i (by simpa using hi')]
    rfl
   rw [hc]
   simp only [zS,PQ,z8]
   exact .str _ _ (hstr i hi')
 ·cases h
end Go.Proofs.YtepbennkcbmgoaaGreatDoor
set_option maxRecDepth 100000
namespace Go.Proofs.YtepbennkcbmgoaaGreatDoor
open Go.Shelf
def so_CompS_ren:Go.Shelf.Ren:=⟨fun | 194=>120 | n=>n,fun | 31=>28 | 9=>9 | 3=>3 | 4=>4 | 0=>0 | n=>n,fun | n=>n⟩
theorem Xk:Go.Proofs.Lays.n194 Tryz.prog so_CompS_ren:={
 mixed:=by kernel_rfl,
 f194:=Tryz.func120.trans (congrArg some (by kernel_rfl)),
 t0:=Tryz.underlying0,
 a0:=Tryz.isAgg0,
 z0:=Tryz.sizeOf0,
 v0:=Tryz.zeroValue0,
 t3:=Tryz.underlying3,
 a3:=Tryz.isAgg3,
 z3:=Tryz.sizeOf3,
 v3:=Tryz.zeroValue3,
 t4:=Tryz.underlying4,
 a4:=Tryz.isAgg4,
 z4:=Tryz.sizeOf4,
 v4:=Tryz.zeroValue4,
 t9:=Tryz.underlying9,
 a9:=Tryz.isAgg9,
 z9:=Tryz.sizeOf9,
 v9:=Tryz.zeroValue9,
 t31:=Tryz.underlying28,
 a31:=Tryz.isAgg28,
 z31:=Tryz.sizeOf28,
 v31:=Tryz.zeroValue28 }
end Go.Proofs.YtepbennkcbmgoaaGreatDoor
set_option maxRecDepth 100000
set_option linter.unusedSimpArgs false
set_option linter.unusedVariables false
set_option linter.unusedSectionVars false
namespace Go.Proofs.YtepbennkcbmgoaaGreatDoor
open Go.RowKit Go.Shelf Go.Lib Go.Sort
theorem Qaj {w w':World} {I:Nat→Prop} {V:Nat→Option Value} {B:Nat→Nat→Prop} {t:TypeId} {sz:Nat} {es es':List (List OT)} {v':Value} (hwf:Wf w I V B (Ap [.row t sz es]))
  (hos:w'.os=w.os) (htape:TapeOk w w') (hout:w'.output=w.output) (hsz:w.heap.size≤w'.heap.size) (hblk:∀ x,x<w.heap.size→¬ B 0 x→w'.heap[x]?=w.heap[x]?) (hrow:RowR w' I (B 0) t sz es' v') :
  FunPost w I V B [.row t sz es] [.gone,.row t sz es'] w' I (fun g=>if g=1 then some v' else V g) (fun g=>if g=1 then B 0 else B g):=by
 have hB0:∀ x,B 0 x→HB B [Ob.row t sz es] x:=fun x hx=>⟨0,trivial,hx⟩
 have hlv:∀ g,(Ap [Ob.gone,.row t sz es'] g).live→g=1:=fun g h=>by
  match g with
  | 0=>exact h.elim
  | 1=>rfl
  | g+2=>exact h.elim
 refine ⟨⟨hos,htape,hout,hsz,fun x hx hn=>hblk x hx fun h=>hn (hB0 x h)⟩,fun _ h=>h,fun _ h=>.inl h,fun g u hu=>?_,?_,fun g x hl hx=>?_⟩
 ·by_cases e:g=1
  ·subst e
   rw [hwf.fr 1 rfl] at hu; cases hu
  ·simp only [e,if_false]; exact hu
 ·refine ⟨fun x hx=>zQ (hwf.ilt x hx) hsz,fun g hl=>?_,fun g x hl hx=>?_,fun g x hl hx=>?_,fun g g' x hl hl' _ _=>by rw [hlv g hl,hlv g' hl'],fun g hf=>?_,hwf.gl.keep ⟨hsz,fun x hx hlt=>hblk x hlt fun h=>hwf.dI 0 x trivial h hx⟩ fun _ h=>h⟩
  ·obtain rfl:=hlv g hl
   exact ⟨v',by simp,hrow⟩
  ·obtain rfl:=hlv g hl
   simp only [if_true] at hx
   exact zQ (hwf.lt 0 x trivial hx) hsz
  ·obtain rfl:=hlv g hl
   simp only [if_true] at hx
   exact hwf.dI 0 x trivial hx
  ·match g with
   | 0=>cases hf
   | 1=>cases hf
   | g+2 =>
    have e:¬ g+2=1:=by omega
    simp only [e,if_false]
    exact hwf.fr (g+2) rfl
 ·obtain rfl:=hlv g hl
  simp only [if_true] at hx
  exact .inl (hB0 x hx)
theorem Ua (w:World) (b m:Nat) (ss:List (List UInt8)) (x:Nat):(putRow encStr (Sort.ahead w m) b 0 ss.toArray).heap[x]?=if b=x then (w.heap[x]?).map (onCells (putCells encStr 0 ss.toArray)) else w.heap[x]?:=by
 unfold putRow mapBlock Sort.ahead
 simp only [yE]
theorem Xl (zs:List (List UInt8)):(Lib.compact zs).length≤zs.length:=by
 unfold Lib.compact Lib.compactUpTo
 rw [zD]
 exact Nat.le_trans (List.length_filter_le _ _) (by simp)
theorem Xm {zs:List (List UInt8)} {z:List UInt8} (h:z∈Lib.compact zs):z∈zs:=by
 unfold Lib.compact Lib.compactUpTo at h
 obtain ⟨i,hi,rfl⟩:=y4.1 h
 have hi:=yJ.1 (y7.1 hi).1
 rw [getElem!_pos zs.toArray i (by simpa using hi)]
 simp
noncomputable def FG (xs:List SV) (ob:List Ob):Option (SV × List Ob) :=
 match xs,ob with
 | [.ref 0],[.row t sz es]=>bif dec (sz=1∧(∀ e∈es,∃ s,e=[.str s])∧es.length≤1099511627776) then some (.ref 1,[.gone,.row t sz ((Lib.compact (es.map fun e=>(KJ e).toList)).map PQ)]) else none
 | _,_=>none
theorem Qp {xs:List SV} {ob:List Ob} {r:SV} {ob':List Ob} (h:FG xs ob=some (r,ob')):Fun Tryz.prog 120 xs ob r ob':=by
 unfold FG at h
 split at h
 ·rename_i t sz es
  obtain ⟨h1,h2⟩:=As h
  obtain ⟨rfl,hk1,hk3⟩:=Aq.1 h1
  simp only [zC,zJ] at h2
  obtain ⟨rfl,rfl⟩:=h2
  intro w I V B vs hwf hvs
  obtain ⟨v,q,rfl,hv,hvs⟩:=Ba hvs
  obtain rfl:=Gh hvs
  simp only [RepV] at hv
  obtain ⟨val,hval,hrow⟩:=hwf.obj 0 trivial
  rw [hv.1] at hval
  obtain rfl:=zE hval
  have hv0:=hv.1
  have hrow:RowR w I (B 0) t 1 es v:=hrow
  rcases z7 es.length with h0 | h0
  ·have he:es=[]:=zU h0
   subst he
   obtain ⟨a,c,rfl,_⟩:=hrow.form
   have hcon:=Any.slices_Compact_string_empty Xk a c w
   change Calls Tryz.prog 120 _ _ _ at hcon
   refine hcon.mono ?_
   rintro e w' ⟨rfl,rfl⟩
   have e0:(Lib.compact ([].map fun e:List OT=>(KJ e).toList)).map PQ=[]:=rfl
   rw [e0]
   exact ⟨_,I,_,_,rfl,by simp only [RepV]; exact ⟨rfl,rfl⟩,Qaj hwf rfl (TapeOk.mk' rfl rfl) rfl (zT _) (fun _ _ _=>rfl) hrow⟩
  ·rcases hrow with ⟨he,_⟩ | ⟨b,cap,cur,Sub,rfl,hs,hb,g1,g2,g3,g4,g5,g6,g7⟩
   ·subst he; simp at h0
   have hblt:=(zV.1 hb).1
   obtain ⟨ss,hss⟩:∃ ss,ss=es.map fun e=>(KJ e).toList:=⟨_,rfl⟩
   have hsl:ss.length=es.length:=by rw [hss]; simp
   rw [←hss]
   have cellv:∀ i (hi:i<es.length),cur[i]?=some (.string (KJ es[i]))∧(KJ es[i]).size≤9223372036854775807:=fun i hi=>by
    obtain ⟨s,he⟩:=hk1 es[i] (zH hi)
    have hlt:i<cur.size:=by rw [g3]; omega
    have l0:=g7 i 0 hi (by rw [g4 i hi]; omega)
    simp only [he,z8,yT,zZ,zN,zI hlt,yA] at l0
    rw [zI hlt,he]
    obtain ⟨z1,z2⟩:=ORep.Qfv l0
    exact ⟨by rw [z1]; rfl,z2⟩
   have hH:Holds encStr w b 0 ss.toArray:=by
    intro j hj
    have hj1:j<ss.length:=by simpa using hj
    have hj':j<es.length:=by rw [←hsl]; exact hj1
    refine ⟨?_,?_⟩
    ·rw [zX,cell_of_row w b _ _ _ _ hb,(cellv j hj').1,getElem!_pos ss.toArray j hj]
     simp only [yF,hss,zS,encStr,EH]
    ·unfold World.frozen?
     rw [hb]
     simp
   have hcon:=Any.slices_Compact_string Xk b 0 cap ss w hH (by omega) (by omega)
   change Calls Tryz.prog 120 _ _ _ at hcon
   rw [hsl] at hcon
   refine hcon.mono ?_
   rintro e w' ⟨rfl,m,rfl⟩
   have hcl:=Xl ss
   obtain ⟨cs,hcs⟩:∃ cs,cs=Lib.compact ss:=⟨_,rfl⟩
   obtain ⟨zs,hzs⟩:∃ zs,zs=Lib.compact ss++xB (es.length-(Lib.compact ss).length) ([]:List UInt8):=⟨_,rfl⟩
   rw [←hzs]
   have hgrow:∀ x,x<w.heap.size→¬ B 0 x→(putRow encStr (Sort.ahead w m) b 0 zs.toArray).heap[x]?=w.heap[x]?:=fun x hx hn=>by
    rw [Ua,if_neg (fun e:b=x=>hn (by rw [←e]; exact hs))]
   have hbl:(putRow encStr (Sort.ahead w m) b 0 zs.toArray).heap[b]?=some (.cells (putCells encStr 0 zs.toArray cur) t (0,0)):=by
    rw [Ua,if_pos rfl,hb]; rfl
   have hsz:w.heap.size≤(putRow encStr (Sort.ahead w m) b 0 zs.toArray).heap.size:=by simp [putRow,mapBlock,Sort.ahead]
   have hmem:∀ l∈ss,∃ e∈es,(KJ e).toList=l:=by
    rw [hss]
    intro l h
    exact y4.1 h
   have hstr:∀ i (hi:i<cs.length),(⟨cs[i].toArray⟩:ByteArray).size≤9223372036854775807:=fun i hi=>by
    obtain ⟨e,he,heq⟩:=hmem _ (Xm (by rw [←hcs]; exact zH hi))
    obtain ⟨k,hk,rfl⟩:=yK he
    have:=(cellv k hk).2
    rw [←heq,EH]
    exact this
   rw [←hcs] at hcl hzs ⊢
   refine ⟨_,I,_,_,rfl,by simp only [RepV]; exact ⟨rfl,rfl⟩,Qaj hwf rfl (TapeOk.le rfl (Nat.le_add_right _ _)) rfl hsz hgrow ?_⟩
   refine .inr ⟨b,cap,putCells encStr 0 zs.toArray cur,fun _ _ _=>False,by rw [zD],hs,hbl,by rw [zD]; omega,g2,by simp [putCells]; omega,fun i hi=>by rw [zS]; rfl,fun i j x h=>h.elim,fun i j i' j' x h h'=>h.elim,fun i j hi hj=>?_⟩
   have hi':i<cs.length:=by simpa using hi
   have hj':j<1:=by simpa [PQ] using hj
   obtain rfl:j=0:=by omega
   have hlt:i<cur.size:=by rw [g3]; omega
   have hiz:i<zs.length:=by rw [hzs,List.length_append]; omega
   have hc:(putCells encStr 0 zs.toArray cur).getD (i*1+0) undef=.string ⟨cs[i].toArray⟩:=by
    simp only [yT,zZ,putCells,zN,yP,zI hlt,yL,yA,zR,true_and,zX,yO,hiz,if_true,Nat.sub_zero]
    rw [getElem!_pos zs.toArray i (by simpa using hiz)]
    simp only [yF,hzs,yZ hi']
    first | done | rfl
   rw [hc]
   simp only [zS,PQ,z8]
   exact .str _ _ (hstr i hi')
 ·cases h
end Go.Proofs.YtepbennkcbmgoaaGreatDoor
set_option maxRecDepth 100000
set_option linter.unusedSimpArgs false
set_option linter.unusedVariables false
set_option linter.unusedSectionVars false
namespace Go.Proofs.YtepbennkcbmgoaaGreatDoor
open Go.RowKit Go.Shelf
theorem Qfw:∃ (i:TypeInfo) (z:Value),Tryz.prog.info? 9=some i∧i.zero=some z∧i.size=1∧z.cells.size=1∧i.bytes=16:=by
 have h:(match Tryz.prog.info? 9 with
  | some i=>match i.zero with
   | some z=>i.size == 1&&z.cells.size == 1&&i.bytes == 16
   | none=>false
  | none=>false)=true:=by kernel_rfl
 split at h
 ·rename_i i hi
  split at h
  ·rename_i z hz
   rw [zB,zB,beq_iff_eq,beq_iff_eq,beq_iff_eq] at h
   exact ⟨i,z,hi,hz,h.1.1,h.1.2,h.2⟩
  ·cases h
 ·cases h
theorem Zb (w:World):Calls Tryz.prog 188 #[.slice none 0 0,.int .i64 0] w fun e w'=>e=.returned (.slice none 0 0)∧w'=w:=by
 go_enter Tryz.func188,Tryz.ntmps188
 go_wp2
 go_ret
 exact ⟨rfl,rfl⟩
theorem Zc (n:Nat) (hn:0<n) (hb:n≤1048576) (w:World):Calls Tryz.prog 188 #[.slice none 0 0,.int .i64 n] w fun e w'=>∃ (cs:Array Value) (G:Nat),e=.returned (.slice (some ⟨w.heap.size,0,none⟩) 0 G)∧w'=w.drew.alloc (.cells cs 9)∧cs.size=G*1∧G≤9223372036854775807:=by
 obtain ⟨i0,z,hi0,hz0,hs0,hzc,hby⟩:=Qfw
 have hold:(Builtin.firstCells i0.size 0 (.slice none 0 0)).run Tryz.prog w.drew=.ok (yG []) w.drew:=run_firstCells_none w.drew i0.size 0 0 0
 have hrz:∀ ty,(Builtin.append_ #[28,3] ty #[.slice none 0 0,.int .i64 (n:Int)]).run Tryz.prog w =
   .ok (.slice (some ⟨w.heap.size,0,none⟩) n (grownCap w n 0 9)) (w.drew.alloc (.cells (yG []++Builtin.zeroCells z.cells n++Builtin.zeroCells z.cells (grownCap w n 0 9-n)) 9)):=fun ty=>by
  have h:=Lib.run_append_grow_zeros w 28 3 ty 9 i0 z .i64 .i64 Tryz.underlying28 Tryz.underlying3 hi0 hz0 none 0 0 [] hold n (by omega) (by omega) (by omega) (by omega)
   (by rw [hby]; omega) (by rw [zX]; exact growslice_fits (by omega) (by rw [hby]; omega))
  rw [zX] at h
  exact h
 have hGn:n≤grownCap w n 0 9:=grownCap_ge w _ _ _
 have hG63:=grownCap_le_maxLen w n 0 9 (by unfold maxLen; omega)
 obtain ⟨G,hG⟩:∃ G,G=grownCap w n 0 9:=⟨_,rfl⟩
 rw [←hG] at hrz hGn hG63
 have hG63':G≤9223372036854775807:=by unfold maxLen at hG63; omega
 obtain ⟨cs,hcs⟩:∃ cs,cs=yG []++Builtin.zeroCells z.cells n++Builtin.zeroCells z.cells (G-n):=⟨_,rfl⟩
 rw [←hcs] at hrz
 have hcl:cs.size=G*1:=by
  rw [hcs]
  simp [Builtin.zeroCells,hzc]
  omega
 clear hG hcs hold hG63
 go_enter Tryz.func188,Tryz.ntmps188
 go_wp2_with (at_builtin; refine Lib.wpList_append_run _ rfl _ _ _ _ rfl _ _ rfl rfl _ _ (hrz _) ?_)
 all_goals (go_ret; exact ⟨cs,G,rfl,rfl,hcl,hG63'⟩)
noncomputable def Qe2 (xs:List SV) (ob:List Ob):Option (SV × List Ob) :=
 match xs,ob with
 | [.nil,.int .i64 n],[]=>bif dec (n=0) then some (.nil,[]) else bif dec (0 < n∧n≤1048576) then some (.ref 0,[.row 9 1 []]) else none
 | _,_=>none
theorem QeO {xs:List SV} {ob:List Ob} {r:SV} {ob':List Ob} (h:Qe2 xs ob=some (r,ob')):Fun Tryz.prog 188 xs ob r ob':=by
 unfold Qe2 at h
 split at h
 ·rename_i n
  intro w I V B vs hwf hvs
  obtain ⟨v,q,rfl,hv,hvs⟩:=Ba hvs
  obtain ⟨v2,q,rfl,hv2,hvs⟩:=Ba hvs
  obtain rfl:=Gh hvs
  simp only [RepV] at hv hv2
  subst hv hv2
  cases hd:dec (n=0) with
  | true =>
   obtain rfl:=Aq.1 hd
   rw [hd] at h
   simp only [cond_true,zC,zJ] at h
   obtain ⟨rfl,rfl⟩:=h
   refine (Zb w).mono ?_
   rintro e w' ⟨rfl,rfl⟩
   exact ⟨_,I,V,B,rfl,by simp only [RepV],⟨⟨rfl,TapeOk.mk' rfl rfl,rfl,zT _,fun _ _ _=>rfl⟩,fun _ h=>h,fun _ h=>.inl h,VLe.refl _,hwf,fun g b hl hb=>.inl ⟨g,hl,hb⟩⟩⟩
  | false =>
   rw [hd,cond_false] at h
   obtain ⟨h1,h2⟩:=As h
   obtain ⟨k1,k2⟩:=Aq.1 h1
   simp only [zC,zJ] at h2
   obtain ⟨rfl,rfl⟩:=h2
   obtain ⟨m,rfl⟩:∃ m:Nat,n=m:=⟨n.toNat,by omega⟩
   refine (Zc m (by omega) (by omega) w).mono ?_
   rintro e w' ⟨cs,G,rfl,rfl,hcs,hG⟩
   have hnew:=heap_alloc_new w.drew (.cells cs 9)
   have hbl:∀ x,x<w.heap.size→(w.drew.alloc (.cells cs 9)).heap[x]?=w.heap[x]?:=fun x hx=>Below.heap_alloc w.drew _ x hx
   have hsz:(w.drew.alloc (.cells cs 9)).heap.size=w.heap.size+1:=y8 _
   exact ⟨_,I,_,_,rfl,by simp only [RepV]; exact ⟨rfl,rfl⟩,OJ (S:=fun x=>x=w.heap.size) hwf rfl (TapeOk.le rfl (Nat.le_succ _)) rfl (by omega) hbl (fun x hx=>by omega) (.inr ⟨w.heap.size,G,cs,fun _ _ _=>False,rfl,rfl,hnew,zR _,hG,hcs,fun i hi=>absurd hi (by simp),fun _ _ _ h=>h.elim,fun _ _ _ _ _ h=>h.elim,fun i j hi=>absurd hi (by simp)⟩)⟩
 ·cases h
theorem Qfx:∃ (i:TypeInfo) (z:Value),Tryz.prog.info? 60=some i∧i.zero=some z∧i.size=1∧z.cells.size=1∧i.bytes=24:=by
 have h:(match Tryz.prog.info? 60 with
  | some i=>match i.zero with
   | some z=>i.size == 1&&z.cells.size == 1&&i.bytes == 24
   | none=>false
  | none=>false)=true:=by kernel_rfl
 split at h
 ·rename_i i hi
  split at h
  ·rename_i z hz
   rw [zB,zB,beq_iff_eq,beq_iff_eq,beq_iff_eq] at h
   exact ⟨i,z,hi,hz,h.1.1,h.1.2,h.2⟩
  ·cases h
 ·cases h
theorem Zd (w:World):Calls Tryz.prog 290 #[.slice none 0 0,.int .i64 0] w fun e w'=>e=.returned (.slice none 0 0)∧w'=w:=by
 go_enter Tryz.func290,Tryz.ntmps290
 go_wp2
 go_ret
 exact ⟨rfl,rfl⟩
theorem Ze (n:Nat) (hn:0<n) (hb:n≤1048576) (w:World):Calls Tryz.prog 290 #[.slice none 0 0,.int .i64 n] w fun e w'=>∃ (cs:Array Value) (G:Nat),e=.returned (.slice (some ⟨w.heap.size,0,none⟩) 0 G)∧w'=w.drew.alloc (.cells cs 60)∧cs.size=G*1∧G≤9223372036854775807:=by
 obtain ⟨i0,z,hi0,hz0,hs0,hzc,hby⟩:=Qfx
 have hold:(Builtin.firstCells i0.size 0 (.slice none 0 0)).run Tryz.prog w.drew=.ok (yG []) w.drew:=run_firstCells_none w.drew i0.size 0 0 0
 have hrz:∀ ty,(Builtin.append_ #[55,3] ty #[.slice none 0 0,.int .i64 (n:Int)]).run Tryz.prog w =
   .ok (.slice (some ⟨w.heap.size,0,none⟩) n (grownCap w n 0 60)) (w.drew.alloc (.cells (yG []++Builtin.zeroCells z.cells n++Builtin.zeroCells z.cells (grownCap w n 0 60-n)) 60)):=fun ty=>by
  have h:=Lib.run_append_grow_zeros w 55 3 ty 60 i0 z .i64 .i64 Tryz.underlying55 Tryz.underlying3 hi0 hz0 none 0 0 [] hold n (by omega) (by omega) (by omega) (by omega)
   (by rw [hby]; omega) (by rw [zX]; exact growslice_fits (by omega) (by rw [hby]; omega))
  rw [zX] at h
  exact h
 have hGn:n≤grownCap w n 0 60:=grownCap_ge w _ _ _
 have hG63:=grownCap_le_maxLen w n 0 60 (by unfold maxLen; omega)
 obtain ⟨G,hG⟩:∃ G,G=grownCap w n 0 60:=⟨_,rfl⟩
 rw [←hG] at hrz hGn hG63
 have hG63':G≤9223372036854775807:=by unfold maxLen at hG63; omega
 obtain ⟨cs,hcs⟩:∃ cs,cs=yG []++Builtin.zeroCells z.cells n++Builtin.zeroCells z.cells (G-n):=⟨_,rfl⟩
 rw [←hcs] at hrz
 have hcl:cs.size=G*1:=by
  rw [hcs]
  simp [Builtin.zeroCells,hzc]
  omega
 clear hG hcs hold hG63
 go_enter Tryz.func290,Tryz.ntmps290
 go_wp2_with (at_builtin; refine Lib.wpList_append_run _ rfl _ _ _ _ rfl _ _ rfl rfl _ _ (hrz _) ?_)
 all_goals (go_ret; exact ⟨cs,G,rfl,rfl,hcl,hG63'⟩)
noncomputable def PR (xs:List SV) (ob:List Ob):Option (SV × List Ob) :=
 match xs,ob with
 | [.nil,.int .i64 n],[]=>bif dec (n=0) then some (.nil,[]) else bif dec (0 < n∧n≤1048576) then some (.ref 0,[.row 60 1 []]) else none
 | _,_=>none
theorem Zf {xs:List SV} {ob:List Ob} {r:SV} {ob':List Ob} (h:PR xs ob=some (r,ob')):Fun Tryz.prog 290 xs ob r ob':=by
 unfold PR at h
 split at h
 ·rename_i n
  intro w I V B vs hwf hvs
  obtain ⟨v,q,rfl,hv,hvs⟩:=Ba hvs
  obtain ⟨v2,q,rfl,hv2,hvs⟩:=Ba hvs
  obtain rfl:=Gh hvs
  simp only [RepV] at hv hv2
  subst hv hv2
  cases hd:dec (n=0) with
  | true =>
   obtain rfl:=Aq.1 hd
   rw [hd] at h
   simp only [cond_true,zC,zJ] at h
   obtain ⟨rfl,rfl⟩:=h
   refine (Zd w).mono ?_
   rintro e w' ⟨rfl,rfl⟩
   exact ⟨_,I,V,B,rfl,by simp only [RepV],⟨⟨rfl,TapeOk.mk' rfl rfl,rfl,zT _,fun _ _ _=>rfl⟩,fun _ h=>h,fun _ h=>.inl h,VLe.refl _,hwf,fun g b hl hb=>.inl ⟨g,hl,hb⟩⟩⟩
  | false =>
   rw [hd,cond_false] at h
   obtain ⟨h1,h2⟩:=As h
   obtain ⟨k1,k2⟩:=Aq.1 h1
   simp only [zC,zJ] at h2
   obtain ⟨rfl,rfl⟩:=h2
   obtain ⟨m,rfl⟩:∃ m:Nat,n=m:=⟨n.toNat,by omega⟩
   refine (Ze m (by omega) (by omega) w).mono ?_
   rintro e w' ⟨cs,G,rfl,rfl,hcs,hG⟩
   have hnew:=heap_alloc_new w.drew (.cells cs 60)
   have hbl:∀ x,x<w.heap.size→(w.drew.alloc (.cells cs 60)).heap[x]?=w.heap[x]?:=fun x hx=>Below.heap_alloc w.drew _ x hx
   have hsz:(w.drew.alloc (.cells cs 60)).heap.size=w.heap.size+1:=y8 _
   exact ⟨_,I,_,_,rfl,by simp only [RepV]; exact ⟨rfl,rfl⟩,OJ (S:=fun x=>x=w.heap.size) hwf rfl (TapeOk.le rfl (Nat.le_succ _)) rfl (by omega) hbl (fun x hx=>by omega) (.inr ⟨w.heap.size,G,cs,fun _ _ _=>False,rfl,rfl,hnew,zR _,hG,hcs,fun i hi=>absurd hi (by simp),fun _ _ _ h=>h.elim,fun _ _ _ _ _ h=>h.elim,fun i j hi=>absurd hi (by simp)⟩)⟩
 ·cases h
end Go.Proofs.YtepbennkcbmgoaaGreatDoor
set_option maxRecDepth 100000
namespace Go.Proofs.YtepbennkcbmgoaaGreatDoor
open Go.Shelf
def so_Itoa_ren:Go.Shelf.Ren:=⟨fun | 171=>189 | 243=>261 | 246=>306 | 283=>323 | 284=>324 | 285=>325 | 286=>326 | 129=>257 | 317=>345 | 318=>346 | 319=>347 | 320=>348 | 337=>355 | 338=>356 | n=>n,fun | 3=>3 | 9=>9 | 2=>2 | 4=>4 | 171=>289 | 0=>0 | 53=>241 | 37=>159 | 5=>5 | 173=>291 | 212=>305 | 51=>239 | 20=>20 | 213=>306 | 46=>184 | 232=>313 | 233=>314 | n=>n,fun | 17=>0 | 18=>1 | 19=>2 | n=>n⟩
theorem Qee:Go.Proofs.LaysM.n171 Tryz.prog so_Itoa_ren:={
 mixed:=by kernel_rfl,
 f129:=Tryz.func257.trans (congrArg some (by kernel_rfl)),
 f171:=Tryz.func189.trans (congrArg some (by kernel_rfl)),
 f243:=Tryz.func261.trans (congrArg some (by kernel_rfl)),
 f246:=Tryz.func306.trans (congrArg some (by kernel_rfl)),
 f283:=Tryz.func323.trans (congrArg some (by kernel_rfl)),
 f284:=Tryz.func324.trans (congrArg some (by kernel_rfl)),
 f285:=Tryz.func325.trans (congrArg some (by kernel_rfl)),
 f286:=Tryz.func326.trans (congrArg some (by kernel_rfl)),
 f317:=Tryz.func345.trans (congrArg some (by kernel_rfl)),
 f318:=Tryz.func346.trans (congrArg some (by kernel_rfl)),
 f319:=Tryz.func347.trans (congrArg some (by kernel_rfl)),
 f320:=Tryz.func348.trans (congrArg some (by kernel_rfl)),
 f337:=Tryz.func355.trans (congrArg some (by kernel_rfl)),
 f338:=Tryz.func356.trans (congrArg some (by kernel_rfl)),
 t0:=Tryz.underlying0,
 a0:=Tryz.isAgg0,
 z0:=Tryz.sizeOf0,
 v0:=Tryz.zeroValue0,
 t2:=Tryz.underlying2,
 a2:=Tryz.isAgg2,
 z2:=Tryz.sizeOf2,
 v2:=Tryz.zeroValue2,
 t3:=Tryz.underlying3,
 a3:=Tryz.isAgg3,
 z3:=Tryz.sizeOf3,
 v3:=Tryz.zeroValue3,
 t4:=Tryz.underlying4,
 a4:=Tryz.isAgg4,
 z4:=Tryz.sizeOf4,
 v4:=Tryz.zeroValue4,
 t5:=Tryz.underlying5,
 a5:=Tryz.isAgg5,
 z5:=Tryz.sizeOf5,
 v5:=Tryz.zeroValue5,
 t9:=Tryz.underlying9,
 a9:=Tryz.isAgg9,
 z9:=Tryz.sizeOf9,
 v9:=Tryz.zeroValue9,
 t20:=Tryz.underlying20,
 a20:=Tryz.isAgg20,
 z20:=Tryz.sizeOf20,
 v20:=Tryz.zeroValue20,
 t37:=Tryz.underlying159,
 a37:=Tryz.isAgg159,
 z37:=Tryz.sizeOf159,
 v37:=Tryz.zeroValue159,
 t46:=Tryz.underlying184,
 a46:=Tryz.isAgg184,
 z46:=Tryz.sizeOf184,
 v46:=Tryz.zeroValue184,
 t51:=Tryz.underlying239,
 a51:=Tryz.isAgg239,
 z51:=Tryz.sizeOf239,
 v51:=Tryz.zeroValue239,
 t53:=Tryz.underlying241,
 a53:=Tryz.isAgg241,
 z53:=Tryz.sizeOf241,
 v53:=Tryz.zeroValue241,
 t171:=Tryz.underlying289,
 a171:=Tryz.isAgg289,
 z171:=Tryz.sizeOf289,
 v171:=Tryz.zeroValue289,
 t173:=Tryz.underlying291,
 a173:=Tryz.isAgg291,
 z173:=Tryz.sizeOf291,
 v173:=Tryz.zeroValue291,
 t212:=Tryz.underlying305,
 a212:=Tryz.isAgg305,
 z212:=Tryz.sizeOf305,
 v212:=Tryz.zeroValue305,
 t213:=Tryz.underlying306,
 a213:=Tryz.isAgg306,
 z213:=Tryz.sizeOf306,
 t232:=Tryz.underlying313,
 a232:=Tryz.isAgg313,
 z232:=Tryz.sizeOf313,
 v232:=Tryz.zeroValue313,
 t233:=Tryz.underlying314,
 a233:=Tryz.isAgg314,
 z233:=Tryz.sizeOf314,
 v233:=Tryz.zeroValue314,
 g17:=by kernel_rfl,
 g18:=by kernel_rfl,
 g19:=by kernel_rfl,
 i0:=by kernel_rfl,
 i2:=by kernel_rfl,
 i3:=by kernel_rfl,
 i4:=by kernel_rfl,
 i5:=by kernel_rfl,
 i9:=by kernel_rfl,
 i20:=by kernel_rfl,
 i37:=by kernel_rfl,
 i46:=by kernel_rfl,
 i51:=by kernel_rfl,
 i53:=by kernel_rfl,
 i171:=by kernel_rfl,
 i173:=by kernel_rfl,
 i212:=by kernel_rfl,
 i232:=by kernel_rfl,
 i233:=by kernel_rfl,
 m17:=by kernel_rfl,
 m18:=by kernel_rfl,
 m19:=by kernel_rfl }
end Go.Proofs.YtepbennkcbmgoaaGreatDoor
set_option maxRecDepth 100000
set_option linter.unusedSimpArgs false
set_option linter.unusedVariables false
set_option linter.unusedSectionVars false
namespace Go.Proofs.YtepbennkcbmgoaaGreatDoor
open Go.RowKit
def GF (n:Int):ByteArray:=⟨(Lib.itoa n).toArray⟩
noncomputable def Ub:List SV→Option SV
 | [.int .i64 n]=>bif dec (0≤n∧n≤1099511627776) then some (.str (GF n)) else none
 | _=>none
theorem GQ {n:Int} (h0:0≤n) (h1:n≤1099511627776):(GF n).size≤20:=by
 obtain ⟨u,rfl⟩:∃ u:Nat,n=u:=⟨n.toNat,by omega⟩
 show (Lib.itoa u).toArray.size≤20
 rw [Lib.itoa_nonneg,yO,Lib.decDigits_length]
 rcases z7 u with rfl | hu
 ·rw [Lib.nDigits_small (by omega)]; omega
 ·have:=Lib.numDigits_eq u hu (by omega)
  split at this <;> omega
theorem Zg {xs:List SV} {r:SV} (h:Ub xs=some r):Fun Tryz.prog 189 xs [] r []:=by
 unfold Ub at h
 split at h
 ·rename_i n
  obtain ⟨h1,h2⟩:=As h
  obtain ⟨k1,k2⟩:=Aq.1 h1
  obtain rfl:=zE h2
  intro w I V B vs hwf hvs
  obtain ⟨v,q,rfl,hv,hvs⟩:=Ba hvs
  obtain rfl:=Gh hvs
  obtain rfl:=Qac hv
  have hcon:=Any.strconv_Itoa Qee n (by omega) (by omega) w hwf.gl.2.2
  change Calls Tryz.prog 189 _ _ _ at hcon
  refine hcon.mono ?_
  rintro e w' ⟨rfl,k,os,rfl⟩
  have hsz:w.heap.size≤(Sort.grow (w.drewN k) os).heap.size:=by simp [Sort.grow,World.drewN]
  have hbl:∀ x,x<w.heap.size→(Sort.grow (w.drewN k) os).heap[x]?=w.heap[x]?:=fun x hx=>by
   simp only [Sort.grow,World.drewN]
   rw [Array.getElem?_append_left hx]
  have hno:∀ g,¬ (Ap ([]:List Ob) g).live:=fun g h=>by
   have e:Ap ([]:List Ob) g=.free:=rfl
   rw [e] at h
   exact h
  refine ⟨_,I,V,B,rfl,?_,⟨⟨rfl,⟨rfl,fun h=>False.elim h⟩,rfl,hsz,fun x hx _=>hbl x hx⟩,fun _ h=>h,fun _ h=>.inl h,VLe.refl _,⟨fun x hx=>zQ (hwf.ilt x hx) hsz,fun g hl=>(hno g hl).elim,fun g x hl=>(hno g hl).elim,fun g x hl=>(hno g hl).elim,fun g g' x hl=>(hno g hl).elim,fun g hg=>hwf.fr g rfl,hwf.gl.keep ⟨hsz,fun x _ hx=>hbl x hx⟩ fun _ h=>h⟩,fun g x hl=>(hno g hl).elim⟩⟩
  have:=GQ k1 k2
  simp only [RepV]
  exact ⟨rfl,by omega⟩
 ·cases h
def Qak:List (Nat × FM)→Nat→FM
 | [],_=>⟨[],.asis,none,false⟩
 | (f,m) :: r,g=>bif f == g then m else Qak r g
theorem Qbg {l:List (Nat × FM)} {f:Nat} {g:List SV→List Ob→Option (SV × List Ob)} (h:(Qak l f).ext=some g):∃ m,(f,m)∈l∧m.ext=some g:=by
 induction l with
 | nil=>cases h
 | cons x r ih =>
  obtain ⟨f',m⟩:=x
  simp only [Qak] at h
  cases e:f' == f with
  | true =>
   rw [e] at h
   obtain rfl:f'=f:=by simpa using e
   exact ⟨m,by simp,h⟩
  | false =>
   rw [e] at h
   obtain ⟨m',h1,h2⟩:=ih h
   exact ⟨m',by simp [h1],h2⟩
noncomputable def Uc:List SV→Option SV
 | [.int .i64 k]=>bif dec (1≤k)&&dec (k≤1099511627776) then some (.str (EO k)) else none
 | _=>none
theorem Zh {xs:List SV} {r:SV} (h:Uc xs=some r):Fun Tryz.prog 63 xs [] r []:=by
 unfold Uc at h
 split at h
 ·rename_i k
  obtain ⟨h1,h2⟩:=As h
  rw [zB,Aq,Aq] at h1
  obtain rfl:=zE h2
  obtain ⟨n,rfl⟩:∃ n:Nat,k=n:=⟨k.toNat,by omega⟩
  refine Fun.YN (rv:=.string (EO n)) (fun w I V=>by simp only [RepV,true_and]; exact YO (by omega) (by omega)) fun w I V vs h=>?_
  obtain ⟨v,r,rfl,h3,h⟩:=Ba h
  obtain rfl:=Gh h
  obtain rfl:=Qac h3
  exact Vh n w (by omega) (by omega)
 ·cases h
def Qcy:List SV→Option SV
 | [.str s]=>some (.bool (AY s))
 | _=>none
theorem Qbh {xs:List SV} {r:SV} (h:Qcy xs=some r):Fun Tryz.prog 177 xs [] r []:=by
 unfold Qcy at h
 split at h
 ·rename_i s
  obtain rfl:=zE h
  refine Fun.of_same (rv:=.bool (AY s)) (fun w I V=>by simp only [RepV]) fun w I V vs h=>?_
  obtain ⟨v,r,rfl,h3,h⟩:=Ba h
  obtain rfl:=Gh h
  obtain ⟨rfl,h4⟩:=QD h3
  exact RE s w h4
 ·cases h
def Qcz:List SV→Option SV
 | [.str s]=>some (.bool (AY s))
 | _=>none
theorem Qbi {xs:List SV} {r:SV} (h:Qcz xs=some r):Fun Tryz.prog 191 xs [] r []:=by
 unfold Qcz at h
 split at h
 ·rename_i s
  obtain rfl:=zE h
  refine Fun.of_same (rv:=.bool (AY s)) (fun w I V=>by simp only [RepV]) fun w I V vs h=>?_
  obtain ⟨v,r,rfl,h3,h⟩:=Ba h
  obtain rfl:=Gh h
  obtain ⟨rfl,h4⟩:=QD h3
  exact Qbd s w h4
 ·cases h
def Qc0:List SV→Option SV
 | [.str s]=>some (.bool (E0 s))
 | _=>none
theorem Qbj {xs:List SV} {r:SV} (h:Qc0 xs=some r):Fun Tryz.prog 184 xs [] r []:=by
 unfold Qc0 at h
 split at h
 ·rename_i s
  obtain rfl:=zE h
  refine Fun.YN (rv:=.bool (E0 s)) (fun w I V=>by simp only [RepV]) fun w I V vs h=>?_
  obtain ⟨v,r,rfl,h3,h⟩:=Ba h
  obtain rfl:=Gh h
  obtain ⟨rfl,h4⟩:=QD h3
  exact Vk s w h4
 ·cases h
def Qc1:List SV→Option SV
 | [.str s]=>some (.bool (E0 s))
 | _=>none
theorem Qbk {xs:List SV} {r:SV} (h:Qc1 xs=some r):Fun Tryz.prog 265 xs [] r []:=by
 unfold Qc1 at h
 split at h
 ·rename_i s
  obtain rfl:=zE h
  refine Fun.of_same (rv:=.bool (E0 s)) (fun w I V=>by simp only [RepV]) fun w I V vs h=>?_
  obtain ⟨v,r,rfl,h3,h⟩:=Ba h
  obtain rfl:=Gh h
  obtain ⟨rfl,h4⟩:=QD h3
  exact Vl s w h4
 ·cases h
noncomputable def modes:FuncId→FM:=Qak [(63,⟨[],.asis,some (LX Uc),false⟩),(177,⟨[],.asis,some (LX Qcy),false⟩),(191,⟨[],.asis,some (LX Qcz),false⟩),(184,⟨[],.asis,some (LX Qc0),false⟩),(265,⟨[],.asis,some (LX Qc1),false⟩),(238,⟨[true],.asis,some OM,false⟩),(119,⟨[true],.asis,some sortStr,false⟩),(57,⟨[],.asis,some OL,false⟩),(189,⟨[],.asis,some (LX Ub),false⟩),(287,⟨[true],.asis,some HV,false⟩),(288,⟨[true],.asis,some DU,false⟩),(213,⟨[true],.asis,some PP,false⟩),(120,⟨[true],.asis,some FG,false⟩),(290,⟨[true],.asis,some PR,false⟩),(72,⟨[true],.asis,none,true⟩),(62,⟨[true],.asis,none,false⟩),(46,⟨[true],.asis,none,true⟩),(17,⟨[true],.asis,none,false⟩),(83,⟨[true],.asis,none,true⟩),(32,⟨[true],.asis,none,true⟩),(260,⟨[],.own [some (33,2)],none,false⟩),(135,⟨[],.frz,none,false⟩),(237,⟨[],.frz,none,false⟩),(193,⟨[true],.asis,none,false⟩),(125,⟨[true],.asis,none,false⟩),(226,⟨[],.frz,none,false⟩),(275,⟨[],.own [none,some (33,2)],none,false⟩),(286,⟨[],.frz,none,false⟩),(111,⟨[],.frz,none,false⟩),(159,⟨[],.own [none,none,some (33,2)],none,false⟩),(222,⟨[],.own [some (122,3)],none,false⟩),(93,⟨[],.own [some (122,3)],none,false⟩),(163,⟨[],.own [some (122,3)],none,false⟩),(206,⟨[],.own [some (122,3)],none,false⟩),(218,⟨[],.frl [10],none,false⟩),(221,⟨[],.frz,none,false⟩),(161,⟨[],.frz,none,false⟩),(153,⟨[],.own [some (122,3)],none,false⟩),(268,⟨[false,true],.asis,none,false⟩),(102,⟨[],.frz,none,false⟩),(220,⟨[],.frz,none,false⟩),(219,⟨[],.frz,none,false⟩),(160,⟨[],.frz,none,false⟩),(96,⟨[],.frz,none,false⟩),(39,⟨[],.frz,none,false⟩),(223,⟨[],.frz,none,false⟩),(225,⟨[],.frz,none,false⟩),(162,⟨[],.frz,none,false⟩),(97,⟨[],.own [some (60,1),none],none,false⟩),(40,⟨[],.own [some (60,1),none],none,false⟩),(58,⟨[],.frz,none,false⟩),(295,⟨[true],.asis,none,false⟩),(172,⟨[true],.asis,none,false⟩),(110,⟨[],.asis,none,false⟩)]
theorem noExt {l:List (Nat × FM)} (h:(l.all fun p=>p.2.ext.isNone)=true) {f:Nat} {m:FM} {g:List SV→List Ob→Option (SV × List Ob)} (h1:(f,m)∈l) (h2:m.ext=some g):False:=by
 have h3:=List.all_eq_true.1 h _ h1
 rw [h2] at h3
 cases h3
theorem MS:N3 Tryz.prog modes:=by
 intro f g xs ob r ob' hg hx
 obtain ⟨m,h1,h2⟩:=Qbg hg
 rcases zL.1 h1 with h1 | h1
 ·obtain ⟨rfl,rfl⟩:=zY h1
  obtain rfl:=zE h2
  exact GO Zh hx
 rcases zL.1 h1 with h1 | h1
 ·obtain ⟨rfl,rfl⟩:=zY h1
  obtain rfl:=zE h2
  exact GO Qbh hx
 rcases zL.1 h1 with h1 | h1
 ·obtain ⟨rfl,rfl⟩:=zY h1
  obtain rfl:=zE h2
  exact GO Qbi hx
 rcases zL.1 h1 with h1 | h1
 ·obtain ⟨rfl,rfl⟩:=zY h1
  obtain rfl:=zE h2
  exact GO Qbj hx
 rcases zL.1 h1 with h1 | h1
 ·obtain ⟨rfl,rfl⟩:=zY h1
  obtain rfl:=zE h2
  exact GO Qbk hx
 rcases zL.1 h1 with h1 | h1
 ·obtain ⟨rfl,rfl⟩:=zY h1
  obtain rfl:=zE h2
  exact Xi hx
 rcases zL.1 h1 with h1 | h1
 ·obtain ⟨rfl,rfl⟩:=zY h1
  obtain rfl:=zE h2
  exact Vp hx
 rcases zL.1 h1 with h1 | h1
 ·obtain ⟨rfl,rfl⟩:=zY h1
  obtain rfl:=zE h2
  exact Xg hx
 rcases zL.1 h1 with h1 | h1
 ·obtain ⟨rfl,rfl⟩:=zY h1
  obtain rfl:=zE h2
  exact GO Zg hx
 rcases zL.1 h1 with h1 | h1
 ·obtain ⟨rfl,rfl⟩:=zY h1
  obtain rfl:=zE h2
  exact Vn hx
 rcases zL.1 h1 with h1 | h1
 ·obtain ⟨rfl,rfl⟩:=zY h1
  obtain rfl:=zE h2
  exact Qo hx
 rcases zL.1 h1 with h1 | h1
 ·obtain ⟨rfl,rfl⟩:=zY h1
  obtain rfl:=zE h2
  exact YZ hx
 rcases zL.1 h1 with h1 | h1
 ·obtain ⟨rfl,rfl⟩:=zY h1
  obtain rfl:=zE h2
  exact Qp hx
 rcases zL.1 h1 with h1 | h1
 ·obtain ⟨rfl,rfl⟩:=zY h1
  obtain rfl:=zE h2
  exact Zf hx
 exact (noExt rfl h1 h2).elim
noncomputable def E:FEnv:=ev Tryz.prog modes
noncomputable def calls:CallF:=Db modes E
theorem E_told {f:FuncId} {xs:List SV} {ob:List Ob} {r:SV} {ob':List Ob} (h:E f xs ob=some (r,ob')):Fun Tryz.prog f xs ob r ob':=Qab Qcg MS f xs ob r ob' h
noncomputable def run (n0:Nat):SC→St→Option (X × St):=fr Tryz.prog calls (J4 n0)
def go (n0:Nat) (sc:SC) (st:St) (K:X→St→Prop):Prop:=∃ x st',run n0 sc st=some (x,st')∧K x st'
def Vq (n0:Nat) (b:SC) (K:X→St→Prop):X→St→Prop
 | .normal,st=>go n0 b st K
 | .exit i,st=>K (.exit i) st
 | .ret,st=>K .ret st
def blk (id:Nat) (K:X→St→Prop):X→St→Prop
 | .normal,st=>K .normal st
 | .exit i,st=>if i=id then K .normal st else K (.exit i) st
 | .ret,st=>K .ret st
def RL (r:Option St) (k:X→St→Prop):Prop :=
 match r with
 | some st=>k .normal st
 | none=>False
def RN (anc:List (List Nat)) (r:Option (List Ent × St)) (k:X→St→Prop):Prop :=
 match r with
 | some (es,st)=>obB anc [] (Gt es) 0=true∧k .normal st
 | none=>False
def HW (v:SV) (a b:Unit→Prop):Prop :=
 match v with
 | .bool true=>a ()
 | .bool false=>b ()
 | _=>False
noncomputable def MT (ops:List SOper) (st:St):Option St:=Qm Tryz.prog calls ops st
noncomputable def MU (ops:List SOper) (acc:List Ent) (st:St):Option (List Ent × St):=I1 Tryz.prog calls ops acc st
section
variable {n0:Nat} {st:St} {K:X→St→Prop}
theorem go_skip:go n0 .skip st K=K .normal st:=by
 refine propext ⟨fun ⟨x,st',h,k⟩=>?_,fun k=>⟨_,_,rfl,k⟩⟩
 obtain ⟨rfl,rfl⟩:X.normal=x∧st=st':=by simpa [run,fr] using h
 exact k
theorem QG {i:Nat}:go n0 (.exit i) st K=K (.exit i) st:=by
 refine propext ⟨fun ⟨x,st',h,k⟩=>?_,fun k=>⟨_,_,rfl,k⟩⟩
 obtain ⟨rfl,rfl⟩:X.exit i=x∧st=st':=by simpa [run,fr] using h
 exact k
theorem go_ret:go n0 .ret st K=K .ret st:=by
 refine propext ⟨fun ⟨x,st',h,k⟩=>?_,fun k=>⟨_,_,rfl,k⟩⟩
 obtain ⟨rfl,rfl⟩:X.ret=x∧st=st':=by simpa [run,fr] using h
 exact k
theorem Vr {ops:List SOper}:go n0 (.reg ops) st K=RL (MT ops st) K:=by
 unfold RL MT
 refine propext ⟨fun ⟨x,st',h,k⟩=>?_,fun k=>?_⟩
 ·simp only [run,fr] at h
  split at h
  ·rename_i s hs
   simp only [zC,zJ] at h
   obtain ⟨rfl,rfl⟩:=h
   first | exact k | (simp only [hs]; exact k)
  ·cases h
 ·split at k
  ·rename_i s hs
   exact ⟨.normal,s,by simp only [run,fr,hs],k⟩
  ·exact k.elim
theorem QH {anc:List (List Nat)} {ops:List SOper}:go n0 (.dreg anc ops) st K=RN anc (MU ops [] st) K:=by
 unfold RN MU
 refine propext ⟨fun ⟨x,st',h,k⟩=>?_,fun k=>?_⟩
 ·simp only [run,fr] at h
  split at h
  ·rename_i es s hs
   obtain ⟨h1,h2⟩:=As h
   simp only [zC,zJ] at h2
   obtain ⟨rfl,rfl⟩:=h2
   first | exact ⟨h1,k⟩ | (simp only [hs]; exact ⟨h1,k⟩)
  ·cases h
 ·split at k
  ·rename_i es s hs
   exact ⟨.normal,s,by simp only [run,fr,hs,k.1,cond_true],k.2⟩
  ·exact k.elim
theorem Vs {a b:SC}:go n0 (.seq a b) st K=go n0 a st (Vq n0 b K):=by
 refine propext ⟨fun ⟨x,st',h,k⟩=>?_,fun ⟨x,st',h,k⟩=>?_⟩
 ·simp only [run,fr,C7] at h
  split at h
  ·rename_i s hs
   exact ⟨.normal,s,hs,x,st',h,k⟩
  ·rename_i i s hs
   simp only [zC,zJ] at h
   obtain ⟨rfl,rfl⟩:=h
   exact ⟨_,_,hs,k⟩
  ·rename_i s hs
   simp only [zC,zJ] at h
   obtain ⟨rfl,rfl⟩:=h
   exact ⟨_,_,hs,k⟩
  ·cases h
 ·simp only [run] at h
  cases x with
  | normal =>
   obtain ⟨x2,st2,h2,k2⟩:=k
   exact ⟨x2,st2,by simp only [run,fr,C7,h]; exact h2,k2⟩
  | exit i=>exact ⟨_,st',by simp only [run,fr,C7,h],k⟩
  | ret=>exact ⟨_,st',by simp only [run,fr,C7,h],k⟩
theorem ND {id:Nat} {b:SC}:go n0 (.block id b) st K=go n0 b st (blk id K):=by
 refine propext ⟨fun ⟨x,st',h,k⟩=>?_,fun ⟨x,st',h,k⟩=>?_⟩
 ·simp only [run,fr,EW] at h
  split at h
  ·rename_i s hs
   simp only [zC,zJ] at h
   obtain ⟨rfl,rfl⟩:=h
   exact ⟨.normal,s,hs,k⟩
  ·rename_i i s hs
   refine ⟨.exit i,s,hs,?_⟩
   simp only [blk]
   by_cases hi:i=id
   ·simp only [if_pos hi,zC,zJ] at h ⊢
    obtain ⟨rfl,rfl⟩:=h
    exact k
   ·simp only [if_neg hi,zC,zJ] at h ⊢
    obtain ⟨rfl,rfl⟩:=h
    exact k
  ·rename_i s hs
   simp only [zC,zJ] at h
   obtain ⟨rfl,rfl⟩:=h
   exact ⟨_,s,hs,k⟩
  ·cases h
 ·simp only [run] at h
  cases x with
  | normal=>exact ⟨_,st',by simp only [run,fr,EW,h],k⟩
  | exit i =>
   simp only [blk] at k
   by_cases hi:i=id
   ·simp only [if_pos hi] at k
    exact ⟨.normal,st',by simp only [run,fr,EW,h,if_pos hi],k⟩
   ·simp only [if_neg hi] at k
    exact ⟨.exit i,st',by simp only [run,fr,EW,h,if_neg hi],k⟩
  | ret=>exact ⟨_,st',by simp only [run,fr,EW,h],k⟩
theorem Ab {q:SX} {a b:SC}:go n0 (.cond q a b) st K=HW (Ay (gets st.sl) q) (fun _=>go n0 a st K) (fun _=>go n0 b st K):=by
 unfold HW
 refine propext ⟨fun ⟨x,st',h,k⟩=>?_,fun k=>?_⟩
 ·simp only [run,fr] at h
  split at h
  ·rename_i t ht
   simp only [ht]
   cases t with
   | true=>exact ⟨x,st',h,k⟩
   | false=>exact ⟨x,st',h,k⟩
  ·cases h
 ·split at k
  ·rename_i ht
   obtain ⟨x,st',h,k⟩:=k
   exact ⟨x,st',by simp only [run,fr,ht,cond_true]; exact h,k⟩
  ·rename_i ht
   obtain ⟨x,st',h,k⟩:=k
   exact ⟨x,st',by simp only [run,fr,ht,cond_false]; exact h,k⟩
  ·exact k.elim
theorem QI {a b:Unit→Prop}:HW (.bool true) a b=a ():=rfl
theorem QJ {a b:Unit→Prop}:HW (.bool false) a b=b ():=rfl
theorem QK {t:Bool} {a b:Unit→Prop}:HW (.bool (!t)) a b=HW (.bool t) b a:=by cases t <;> rfl
theorem A8 {q:SX} {a b:SC} (h:Ay (gets st.sl) q=.bool true) (k:go n0 a st K):go n0 (.cond q a b) st K:=by rw [Ab,h]; exact k
theorem A9 {q:SX} {a b:SC} (h:Ay (gets st.sl) q=.bool false) (k:go n0 b st K):go n0 (.cond q a b) st K:=by rw [Ab,h]; exact k
theorem DV {t:Bool} {a b:Unit→Prop} (h1:t=true→a ()) (h2:t=false→b ()):HW (.bool t) a b:=by
 cases t with
 | true=>exact h1 rfl
 | false=>exact h2 rfl
theorem Vt {b:SC}:Vq n0 b K .normal st=go n0 b st K:=rfl
theorem Vu {b:SC} {i:Nat}:Vq n0 b K (.exit i) st=K (.exit i) st:=rfl
theorem Vv {b:SC}:Vq n0 b K .ret st=K .ret st:=rfl
theorem Qal {id:Nat}:blk id K .normal st=K .normal st:=rfl
theorem Qam {id i:Nat}:blk id K (.exit i) st=if i=id then K .normal st else K (.exit i) st:=rfl
theorem Qan {id:Nat}:blk id K .ret st=K .ret st:=rfl
theorem QL:RL (some st) K=K .normal st:=rfl
def quiet:List Ent→Bool
 | []=>true
 | ⟨_,_,[],_⟩ :: r=>quiet r
 | ⟨_,_,_ :: _,_⟩ :: _=>false
theorem Hl {anc:List (List Nat)} {rd:List Nat} {j:Nat}:∀ {l:List Ent} {i:Nat},quiet l=true→QV anc rd [] j (Gt l) i=true
 | [],i,_=>rfl
 | ⟨_,_,[],rdi⟩ :: r,i,h=>by
  have:=Hl (anc:=anc) (rd:=rd) (j:=j) (l:=r) (i:=i+1) h
  simp only [Gt,zF,List.map_nil] at this ⊢
  simp only [QV,this,zO]
  have e1:meets [] (rd++[])=false:=rfl
  have e2:meets rdi []=false:=by cases rdi <;> simp [meets]
  rw [e1,e2]; rfl
theorem ON {l l':List Ent} (h:quiet l=true) (h':quiet l'=true):quiet (l++l')=true:=by
 induction l with
 | nil=>exact h'
 | cons x r ih =>
  obtain ⟨a,b,c,d⟩:=x
  cases c with
  | nil=>exact ih h
  | cons _ _=>cases h
theorem IX {anc:List (List Nat)}:∀ {l pre:List Ent} {j:Nat},quiet pre=true→quiet l=true→obB anc (Gt pre) (Gt l) j=true
 | [],pre,j,_,_=>rfl
 | ⟨a,b,[],rd⟩ :: r,pre,j,hp,h=>by
  have e:=IX (anc:=anc) (l:=r) (pre:=pre++[⟨a,b,[],rd⟩]) (j:=j+1) (ON hp rfl) h
  have e2:=Hl (anc:=anc) (rd:=rd) (j:=j) (i:=0) hp
  simp only [Gt,y9,zF,List.map_nil] at e e2 ⊢
  simp only [obB,e2,e,zG]
theorem QM {anc:List (List Nat)} {es:List Ent}:RN anc (some (es,st)) K=match quiet es with
  | true=>K .normal st
  | false=>obB anc [] (Gt es) 0=true∧K .normal st:=by
 show (obB anc [] (Gt es) 0=true∧K .normal st)=_
 cases h:quiet es with
 | true=>exact propext ⟨fun h=>h.2,fun h'=>⟨IX (pre:=[]) rfl h,h'⟩⟩
 | false=>rfl
noncomputable def Zi (r:List SOper) (e:Option (Ent × St)):Option St :=
 match e with
 | some (_,st)=>MT r st
 | none=>none
noncomputable def Zj (r:List SOper) (acc:List Ent) (e:Option (Ent × St)):Option (List Ent × St) :=
 match e with
 | some (x,st)=>MU r (acc++[x]) st
 | none=>none
noncomputable def opF (so:SOp) (sl:List SV) (ob:List Ob):Option R3:=fOp Tryz.prog calls so sl ob
theorem NE:MT [] st=some st:=rfl
theorem LJ {d:Option Tmp} {so:SOp} {r:List SOper} {sl:List SV} {ob:List Ob}:MT (⟨d,none,so⟩ :: r) ⟨sl,ob⟩=Zi r (GW d ⟨sl,ob⟩ (opF so sl ob)):=rfl
noncomputable def gdF (d:Option Tmp) (so:SOp) (want:Bool) (sl:List SV) (ob:List Ob) (v:SV):Option (Ent × St) :=
 match v with
 | .bool b=>bif SP b want then GW d ⟨sl,ob⟩ (opF so sl ob) else some (⟨false,.tup [],[],[]⟩,⟨Ew sl d (.tup []),ob⟩)
 | .tup []=>some (⟨false,.tup [],[],[]⟩,⟨Ew sl d (.tup []),ob⟩)
 | _=>none
theorem QN {d:Option Tmp} {k:Nat} {want:Bool} {so:SOp} {r:List SOper} {sl:List SV} {ob:List Ob}:MT (⟨d,some (k,want),so⟩ :: r) ⟨sl,ob⟩=Zi r (gdF d so want sl ob (gets sl k)):=rfl
theorem NF {acc:List Ent}:MU [] acc st=some (acc,st):=rfl
theorem LK {d:Option Tmp} {so:SOp} {r:List SOper} {acc:List Ent} {sl:List SV} {ob:List Ob}:MU (⟨d,none,so⟩ :: r) acc ⟨sl,ob⟩=Zj r acc (GW d ⟨sl,ob⟩ (opF so sl ob)):=rfl
theorem QO {d:Option Tmp} {k:Nat} {want:Bool} {so:SOp} {r:List SOper} {acc:List Ent} {sl:List SV} {ob:List Ob}:MU (⟨d,some (k,want),so⟩ :: r) acc ⟨sl,ob⟩=Zj r acc (gdF d so want sl ob (gets sl k)):=rfl
theorem Vw {r:List SOper} {e:Ent}:Zi r (some (e,st))=MT r st:=rfl
theorem Vx {r:List SOper} {acc:List Ent} {e:Ent}:Zj r acc (some (e,st))=MU r (acc++[e]) st:=rfl
theorem Qao {d:Option Tmp} {so:SOp} {sl:List SV} {ob:List Ob}:gdF d so true sl ob (.bool true)=GW d ⟨sl,ob⟩ (opF so sl ob):=rfl
theorem Vy {d:Option Tmp} {so:SOp} {sl:List SV} {ob:List Ob}:gdF d so false sl ob (.bool false)=GW d ⟨sl,ob⟩ (opF so sl ob):=rfl
theorem Vz {d:Option Tmp} {so:SOp} {sl:List SV} {ob:List Ob}:gdF d so true sl ob (.bool false)=some (⟨false,.tup [],[],[]⟩,⟨Ew sl d (.tup []),ob⟩):=rfl
theorem V3 {d:Option Tmp} {so:SOp} {sl:List SV} {ob:List Ob}:gdF d so false sl ob (.bool true)=some (⟨false,.tup [],[],[]⟩,⟨Ew sl d (.tup []),ob⟩):=rfl
theorem Qap {d:Option Tmp} {so:SOp} {want:Bool} {sl:List SV} {ob:List Ob}:gdF d so want sl ob (.tup [])=some (⟨false,.tup [],[],[]⟩,⟨Ew sl d (.tup []),ob⟩):=rfl
theorem V4 {d:Option Tmp} {x:SV} {rd:List Nat}:GW d st (some (x,[],rd))=some (⟨true,x,[],rd⟩,⟨Ew st.sl d x,st.ob⟩):=rfl
theorem V5 {d:Option Tmp} {x:SV} {q:Nat × Ob} {u:List (Nat × Ob)} {rd:List Nat}:GW d st (some (x,q :: u,rd))=bif UT (Dj st.ob (q :: u)).length (q :: u) then some (⟨true,x,q :: u,rd⟩,⟨Ew st.sl d x,Dj st.ob (q :: u)⟩) else none:=rfl
def KO (ob:List Ob) (xs:List SV) (sel:List Nat) (r:Option (SV × List Ob)) (n:Nat):Option R3 :=
 match r with
 | some (r,fob')=>bif decide (n≤fob'.length) then some (DM sel (Bx sel xs) ob.length r fob') else none
 | none=>none
def Zk (hd:List Bool) (f:FuncId) (xs:List SV) (ob:List Ob) (sel:List Nat) (e:List SV→List Ob→Option (SV × List Ob)) (b:Option (List Ob)):Option R3 :=
 match b with
 | some fob=>bif nodupB sel&&GX ob.length sel&&EU fob.length fob then KO ob xs sel (e (ES hd (Ap ob) sel xs) fob) fob.length else none
 | none=>none
def RO (hd:List Bool) (f:FuncId) (xs:List SV) (ob:List Ob) (sel:List Nat) (e:List SV→List Ob→Option (SV × List Ob)):Option R3:=Zk hd f xs ob sel e (Ej sel ob sel)
theorem NG {f:FuncId} {xs:List SV} {ob:List Ob}:calls f xs ob=Ey (modes f).res (RO (modes f).hand f xs ob (reach ob 64 (ET (modes f).hand xs) []) (E f)):=rfl
theorem V6 {r:Option R3}:Ey .asis r=r:=rfl
theorem V7 {r:Option R3}:Ey .frz r=r:=rfl
theorem V8 {l:List (Option (Nat × Nat))} {r:Option R3}:Ey (.own l) r=r:=rfl
theorem V9 {l:List (Option (Nat × Nat))} {r:Option R3}:Ey (.tr l) r=r:=rfl
theorem VA {l:List Nat} {r:Option R3}:Ey (.frl l) r=r:=rfl
theorem VB {r:R3}:Ey .late (some r)=PG r:=rfl
theorem EI:∀ u:List (Nat × Ob),CR [] u=u
 | []=>rfl
 | (g,o) :: u=>by rw [CR,EI u]; rfl
theorem VC {m:RM} {b:Bool} {u:List (Nat × Ob)} {rd:List Nat}:Ey m (some (.bool b,u,rd))=some (.bool b,u,rd):=by
 cases m <;> first | rfl | (show some (SV.bool b,CR [] u,rd)=_; rw [EI])
theorem VD {m:RM} {k:IntKind} {n:Int} {u:List (Nat × Ob)} {rd:List Nat}:Ey m (some (.int k n,u,rd))=some (.int k n,u,rd):=by
 cases m <;> first | rfl | (show some (SV.int k n,CR [] u,rd)=_; rw [EI])
theorem LL {hd:List Bool} {f:FuncId} {xs:List SV} {ob:List Ob} {e:List SV→List Ob→Option (SV × List Ob)}:RO hd f xs ob [] e=KO ob xs [] (e (ES hd (Ap ob) [] xs) []) 0:=rfl
theorem JA {hd:List Bool} {f:FuncId} {xs:List SV} {ob:List Ob} {g:Nat} {r:List Nat} {e:List SV→List Ob→Option (SV × List Ob)}:RO hd f xs ob (g :: r) e=Zk hd f xs ob (g :: r) e (Ej (g :: r) ob (g :: r)):=rfl
theorem QP {ob:List Ob} {xs:List SV} {r:SV} {fob':List Ob}:KO ob xs [] (some (r,fob')) 0=some (DM [] (Bx [] xs) ob.length r fob'):=rfl
theorem QQ {ob:List Ob} {xs:List SV} {sel:List Nat} {r:SV} {fob':List Ob} {n:Nat}:KO ob xs sel (some (r,fob')) n=bif decide (n≤fob'.length) then some (DM sel (Bx sel xs) ob.length r fob') else none:=rfl
theorem VE {hd:List Bool} {f:FuncId} {xs:List SV} {ob:List Ob} {sel:List Nat} {fob:List Ob} {e:List SV→List Ob→Option (SV × List Ob)}:Zk hd f xs ob sel e (some fob)=bif nodupB sel&&GX ob.length sel&&EU fob.length fob then KO ob xs sel (e (ES hd (Ap ob) sel xs) fob) fob.length else none:=rfl
theorem LM {p:Nat} {r:SV}:DM [] [] p r []=(r.ren (sgp [] p),[],[]):=rfl
def JB {α:Type} (n0:Nat) (keep:List Nat) (H:α→St) (R:α→Prop) (μ:α→Nat) (a:α) (K:X→St→Prop):X→St→Prop
 | .normal,st'=>∃ y,R y∧μ y < μ a∧canon n0 keep st'=H y
 | .exit i,st'=>K (.exit i) st'
 | .ret,st'=>K .ret st'
theorem NH {α:Type} {keep:List Nat} {H:α→St} {R:α→Prop} {μ:α→Nat} {a:α} {st':St}:JB n0 keep H R μ a K .normal st'=∃ y,R y∧μ y < μ a∧canon n0 keep st'=H y:=rfl
theorem NI {α:Type} {keep:List Nat} {H:α→St} {R:α→Prop} {μ:α→Nat} {a:α} {i:Nat} {st':St}:JB n0 keep H R μ a K (.exit i) st'=K (.exit i) st':=rfl
theorem NJ {α:Type} {keep:List Nat} {H:α→St} {R:α→Prop} {μ:α→Nat} {a:α} {st':St}:JB n0 keep H R μ a K .ret st'=K .ret st':=rfl
theorem go_loop {α:Type} {keep:List Nat} {b:SC} (H:α→St) (R:α→Prop) (μ:α→Nat) (a0:α) (hR:R a0) (h0:canon n0 keep st=H a0) (round:∀ a,R a→go n0 b (H a) (JB n0 keep H R μ a K)):go n0 (.loop keep b) st K:=by
 have key:∀ (n:Nat) (a:α) (st:St),μ a≤n→R a→canon n0 keep st=H a→∃ x st',R9 n0 keep (run n0 b) st=some (x,st')∧K x st':=by
  intro n
  induction n with
  | zero =>
   intro a st hn hR hc
   obtain ⟨x,st',h,k⟩:=round a hR
   cases x with
   | normal =>
    obtain ⟨y,_,h2,_⟩:=k
    omega
   | exit i=>exact ⟨_,st',by rw [Ez,hc,h]; rfl,k⟩
   | ret=>exact ⟨_,st',by rw [Ez,hc,h]; rfl,k⟩
  | succ n ih =>
   intro a st hn hR hc
   obtain ⟨x,st',h,k⟩:=round a hR
   cases x with
   | normal =>
    obtain ⟨y,h1,h2,h3⟩:=k
    obtain ⟨x2,st2,h4,k2⟩:=ih y st' (by omega) h1 h3
    exact ⟨x2,st2,by rw [Ez,hc,h]; exact h4,k2⟩
   | exit i=>exact ⟨_,st',by rw [Ez,hc,h]; rfl,k⟩
   | ret=>exact ⟨_,st',by rw [Ez,hc,h]; rfl,k⟩
 exact key (μ a0) a0 st (zT _) hR h0
def JC (n0:Nat) (keep keepO:List Nat) (H:EL→St) (F:X × St) (p:EL):X→St→Prop
 | .normal,st'=>canon n0 keep st'=H p
 | .exit i,st'=>F=(.exit i,canon n0 keepO st')
 | .ret,st'=>F=(.ret,canon n0 keepO st')
def Xn (n0:Nat) (keepO:List Nat) (F:X × St):X→St→Prop
 | .normal,_=>False
 | .exit i,st'=>F=(.exit i,canon n0 keepO st')
 | .ret,st'=>F=(.ret,canon n0 keepO st')
theorem LN {keep keepO:List Nat} {H:EL→St} {F:X × St} {p:EL} {st':St}:JC n0 keep keepO H F p .normal st'=(canon n0 keep st'=H p):=rfl
theorem LO {keep keepO:List Nat} {H:EL→St} {F:X × St} {p:EL} {i:Nat} {st':St}:JC n0 keep keepO H F p (.exit i) st'=(F=(.exit i,canon n0 keepO st')):=rfl
theorem LP {keep keepO:List Nat} {H:EL→St} {F:X × St} {p:EL} {st':St}:JC n0 keep keepO H F p .ret st'=(F=(.ret,canon n0 keepO st')):=rfl
theorem QR {keepO:List Nat} {F:X × St} {i:Nat} {st':St}:Xn n0 keepO F (.exit i) st'=(F=(.exit i,canon n0 keepO st')):=rfl
theorem QS {keepO:List Nat} {F:X × St} {st':St}:Xn n0 keepO F .ret st'=(F=(.ret,canon n0 keepO st')):=rfl
end
def slots:Nat→Nat→List (Nat × SV)→List SV
 | 0,_,_=>[]
 | n+1,k,[]=>.any :: slots n (k+1) []
 | n+1,k,(j,x) :: r=>bif j == k then x :: slots n (k+1) r else .any :: slots n (k+1) ((j,x) :: r)
def Xo (res:RM) (n0:Nat) (rs:List RX) (out:SV × List Ob) (x:X) (st:St):Prop:=fin res n0 rs x st=some out
def Zl (res:RM) (n0:Nat) (r:Option (SV × List Ob)):Option (SV × List Ob) :=
 match r with
 | some (r,ob)=>order res n0 r ob
 | none=>none
def NK (res:RM) (n0:Nat) (ob:List Ob) (r:Option SV):Option (SV × List Ob) :=
 match r with
 | some r0=>Zl res n0 (gc n0 r0 ob)
 | none=>none
theorem VF {res:RM} {n0:Nat} {rs:List RX} {out:SV × List Ob} {sl:List SV} {ob:List Ob}:Xo res n0 rs out .ret ⟨sl,ob⟩=(NK res n0 ob (Nz ⟨sl,ob⟩ rs)=some out):=rfl
theorem VG {res:RM} {n0:Nat} {rs:List RX} {out:SV × List Ob} {sl:List SV} {ob:List Ob}:Xo res n0 rs out .normal ⟨sl,ob⟩=(NK res n0 ob (Nz ⟨sl,ob⟩ rs)=some out):=rfl
theorem QT {res:RM} {n0:Nat} {ob:List Ob} {r:SV}:NK res n0 ob (some r)=Zl res n0 (gc n0 r ob):=rfl
theorem VH {n0:Nat} {r:SV} {ob:List Ob} {res:RM}:Zl res n0 (some (r,ob))=order res n0 r ob:=rfl
theorem Af {f:FuncId} {fc:FC} {hand:List Bool} {res:RM} {tr:Bool} {xs:List SV} {ob:List Ob} {out:SV × List Ob} (hc:codeOf Tryz.prog f=some fc) (hr:modes f=⟨hand,res,none,tr⟩) (hn:xs.length≤fc.nt) (h:go ob.length (HU res fc.sc) ⟨xs++K9 (fc.nt-xs.length),entry tr ob⟩ (Xo res ob.length fc.rs out)):E f xs ob=some out:=by
 obtain ⟨x,st',h1,h2⟩:=h
 unfold E
 rw [Qcq]
 unfold Ha
 rw [hc,hr]
 simp only
 rw [decide_eq_true hn,cond_true]
 have h1:fr Tryz.prog (Db modes (ev Tryz.prog modes)) (J4 ob.length) (HU res fc.sc) ⟨xs++K9 (fc.nt-xs.length),entry tr ob⟩=some (x,st'):=h1
 rw [h1]
 exact h2
theorem FH {f:FuncId} {g:List SV→List Ob→Option (SV × List Ob)} {xs:List SV} {ob:List Ob} (hg:(modes f).ext=some g):E f xs ob=g xs ob:=by
 unfold E
 rw [Qcq]
 unfold Ha
 rw [hg]
theorem Ud {f:FuncId} {g:List SV→Option SV} {xs:List SV} {r:SV} (hg:(modes f).ext=some (LX g)) (h:g xs=some r):E f xs []=some (r,[]):=by
 rw [FH hg]
 simp only [LX,h]
theorem C1:modes 63=⟨[],.asis,some (LX Uc),false⟩:=by unfold modes; rfl
theorem FI {k:Int} (h1:1≤k) (h2:k≤1099511627776):E 63 [.int .i64 k] []=some (.str (EO k),[]):=by
 refine Ud (g:=Uc) (by unfold modes; rfl) ?_
 simp only [Uc,An h1,An h2,zG,cond_true]
theorem Ae:modes 177=⟨[],.asis,some (LX Qcy),false⟩:=by unfold modes; rfl
theorem Dv (s:ByteArray):E 177 [.str s] []=some (.bool (AY s),[]):=Ud (g:=Qcy) (congrArg FM.ext Ae) rfl
theorem Ak:modes 191=⟨[],.asis,some (LX Qcz),false⟩:=by unfold modes; rfl
theorem Ek (s:ByteArray):E 191 [.str s] []=some (.bool (AY s),[]):=Ud (g:=Qcz) (congrArg FM.ext Ak) rfl
theorem BB:modes 184=⟨[],.asis,some (LX Qc0),false⟩:=by unfold modes; rfl
theorem RP (s:ByteArray):E 184 [.str s] []=some (.bool (E0 s),[]):=Ud (g:=Qc0) (congrArg FM.ext BB) rfl
theorem BC:modes 265=⟨[],.asis,some (LX Qc1),false⟩:=by unfold modes; rfl
theorem RQ (s:ByteArray):E 265 [.str s] []=some (.bool (E0 s),[]):=Ud (g:=Qc1) (congrArg FM.ext BC) rfl
theorem VI {n:Int} (h1:-9223372036854775808≤n) (h2:n≤9223372036854775807):dec (inK .i64 n)=true:=An (QdU.2 ⟨h1,h2⟩)
theorem get_at {α β:Type} (f:α→β) {xs:List α} {k:Nat} (h:k<xs.length):(xs.map f)[k]?=some (f xs[k]):=by rw [List.getElem?_map,zA h]; rfl
theorem Cg (left:Int) (n:Nat):((n:Int)≤left∧szR left n=left-n)∨(left<n∧szR left n=-1):=by
 unfold szR; split <;> omega
mutual
def D.fit:D→Prop
 | .int _=>True
 | .bool _=>True
 | .str s=>s.size≤9223372036854775807
 | .arr es=>es.length≤9223372036854775807∧D.Xp es
def D.fits:List D→Prop
 | []=>True
 | x :: r=>D.fit x∧D.fits r
def D.Xp:List (List D)→Prop
 | []=>True
 | x :: r=>D.fits x∧D.Xp r
end
theorem D.Qaq:∀ {l:List D},(∀ (j:Nat) (h:j<l.length),D.fit l[j])→D.fits l
 | [],_=>trivial
 | x :: r,h=>⟨h 0 (by simp),D.Qaq fun j hj=>h (j+1) (by simpa using hj)⟩
theorem D.Xq:∀ {es:List (List D)},(∀ (i:Nat) (h:i<es.length),D.fits es[i])→D.Xp es
 | [],_=>trivial
 | x :: r,h=>⟨h 0 (by simp),D.Xq fun j hj=>h (j+1) (by simpa using hj)⟩
theorem D.OO {α:Type} {f:α→List D}:∀ {xs:List α},D.Xp (xs.map f)→∀ x∈xs,D.fits (f x)
 | [],_,x,h=>by cases h
 | y :: r,h,x,hx=>by
  simp only [zF,D.Xp] at h
  rcases zL.1 hx with rfl | hx
  ·exact h.1
  ·exact D.OO h.2 x hx
theorem DRep.fit {own:Bool} {w:World} {S:Nat→Prop} {d:D} {v:Value} (h:DRep own w S d v):D.fit d:=by
 induction h with
 | int=>trivial
 | bool=>trivial
 | str S s h=>exact h
 | arr S sz es a cap f Sub h1 h2 h3 h4 h5 h6 h7 ih=>exact ⟨Nat.le_trans h1 h2,D.Xq fun i hi=>D.Qaq fun j hj=>ih i j hi hj⟩
theorem Qar:dec True=true:=An trivial
theorem Qas:dec False=false:=Aj fun h=>h
attribute [go_sem] ES Ro SV.isNil Ob.idsB SV.idsB SV.Mh List.getElem?_cons_zero List.getElem?_cons_succ OT.AO OT.C6 OT.full entry toTree TL R2 TK Gg F5 EF WN P3 UU OT.erss OT.ers OT.er OT.BD OT.Dq OT.noSh quiet obB QV Gt meets Iw go_skip QG go_ret Vr QH Vs ND QI QJ QK Vt Vu Vv Qal Qam Qan QL QM NE LJ QN NF LK QO Vw Vx Qao Vy Vz V3 Qap V4 V5 NG V6 V7 V8 V9 VA VB VC VD PG Rw CR seen LL JA QP QQ VE LM DM NH NI NJ VF VG QT VH order opF fOp F0 TH QaU TF TG WM Iz eqK Ay gets Ap Ql Ew Dj LU O4 AR UT SV.cellsN SV.one JZ splice DS SN JY K4 DO BN Cf BF Ka Kb UK eOp.mkEs eOp.addS D.sv OT.sv D.ot HM nodupB reach SV.refs SV.PE SV.ptrs SV.PF Ob.refs Ob.liveB ET Ej SV.back SV.Mi Ob.back HL HT CF Bx B5 GX EU SV.ren SV.LV Ob.ren mkU sgp gc Mk names LW UV UW UX MO YC UZ Va Vb Vd Ve Vf SC.mark PI EV slots Nz US rxV K9 Rv SV.noSh SV.Mg Ob.noSh SV.own SV.R0 F6 cond_true cond_false List.length_cons List.length_nil zF List.map_nil yW zW xF yV xA List.take_nil List.append_nil List.nil_append List.cons_append List.all_cons List.all_nil List.getD_cons_zero List.getD_cons_succ xG List.any_nil List.contains_cons List.contains_nil List.isEmpty_nil List.isEmpty_cons List.flatten_cons List.flatten_nil List.replicate_succ List.replicate_zero List.set_cons_zero List.set_cons_succ zZ zX zT zR zO yQ zG Bool.or_false Bool.false_or Bool.true_or Bool.or_true xH xC yD yX decide_true decide_false beq_self_eq_true if_true if_false yL Option.map_none zC yA Option.getD_none Int.toNat_natCast true_and and_true and_self eq_self_iff_true zD yN Bool.true_eq_false zJ SV.int.injEq SV.bool.injEq SV.str.injEq SV.agg.injEq SV.tup.injEq SV.arr.injEq yH St.mk.injEq Int.zero_add Qar Qas VI An Aj QdV svK svD Yz svM MV.sv T4 Rt N0 Ru Gv St.app SQ MK.sv LN LO LP QR QS
attribute [go_sem_proc] Nat.reduceAdd Nat.reduceSub Nat.reduceLT Nat.reduceLeDiff Nat.reduceEqDiff Nat.reduceBEq Nat.reduceBneDiff Nat.reduceMul Int.reduceToNat Int.reduceNeg Int.reduceAdd reduceCtorEq
attribute [go_sem_proc ↓] reduceIte
theorem NL:∀ xs:List ByteArray,OT.AO (xs.map fun s=>[OT.str s])=true
 | []=>rfl
 | x :: xs=>by simp only [zF,OT.AO,OT.C6,OT.full,NL xs,zG]
theorem Qat:∀ xs:List Int,OT.AO (xs.map fun n=>[OT.int n])=true
 | []=>rfl
 | x :: xs=>by simp only [zF,OT.AO,OT.C6,OT.full,Qat xs,zG]
theorem Tm.fu_of:∀ xs:List Tm,(∀ x∈xs,OT.C6 (Tm.o x)=true)→OT.AO (xs.map Tm.o)=true
 | [],_=>rfl
 | x :: xs,h=>by
  simp only [zF,OT.AO]
  rw [h x (by simp),Tm.fu_of xs fun y hy=>h y (by simp [hy])]; rfl
theorem Tm.fu (x:Tm):OT.C6 (Tm.o x)=true:=by
 have h:=Tm.fu_of x.args fun y hy=>Tm.fu y
 rw [Tm.o_eq]
 simp only [OT.C6,OT.full,h,zG,zO]
termination_by SizeOf.sizeOf x
decreasing_by exact Tm.lt_of_mem hy
theorem Tm.fus (xs:List Tm):OT.AO (xs.map Tm.o)=true:=Tm.fu_of xs fun x _=>Tm.fu x
theorem Fm.fu_of:∀ xs:List Fm,(∀ x∈xs,OT.C6 (Fm.o x)=true)→OT.AO (xs.map Fm.o)=true
 | [],_=>rfl
 | x :: xs,h=>by
  simp only [zF,OT.AO]
  rw [h x (by simp),Fm.fu_of xs fun y hy=>h y (by simp [hy])]; rfl
theorem Fm.fu (x:Fm):OT.C6 (Fm.o x)=true:=by
 have h:=Fm.fu_of x.parts fun y hy=>Fm.fu y
 rw [Fm.o_eq]
 simp only [OT.C6,OT.full,h,Tm.fus,zG,zO]
termination_by SizeOf.sizeOf x
decreasing_by exact Fm.lt_of_mem hy
theorem Fm.fus (xs:List Fm):OT.AO (xs.map Fm.o)=true:=Fm.fu_of xs fun x _=>Fm.fu x
theorem Lt.fu (x:Lt):OT.C6 (Lt.o x)=true:=by
 simp only [Lt.o,OT.C6,OT.full,Tm.fus,zG,zO]
theorem Lt.fus:∀ xs:List Lt,OT.AO (xs.map Lt.o)=true
 | []=>rfl
 | x :: xs=>by simp only [zF,OT.AO,Lt.fu,Lt.fus xs,zG]
theorem Cl.fu (x:Cl):OT.C6 (Cl.o x)=true:=by
 simp only [Cl.o,OT.C6,OT.full,Lt.fus,zG,zO]
theorem Cl.fus:∀ xs:List Cl,OT.AO (xs.map Cl.o)=true
 | []=>rfl
 | x :: xs=>by simp only [zF,OT.AO,Cl.fu,Cl.fus xs,zG]
theorem Bd.fu (x:Bd):OT.C6 (Bd.o x)=true:=by
 simp only [Bd.o,OT.C6,OT.full,Tm.fus,zG,zO]
theorem Bd.fus:∀ xs:List Bd,OT.AO (xs.map Bd.o)=true
 | []=>rfl
 | x :: xs=>by simp only [zF,OT.AO,Bd.fu,Bd.fus xs,zG]
theorem Sb.fu (x:Sb):OT.C6 (Sb.o x)=true:=by
 simp only [Sb.o,OT.C6,OT.full,Bd.fus,zG,zO]
theorem Sb.fus:∀ xs:List Sb,OT.AO (xs.map Sb.o)=true
 | []=>rfl
 | x :: xs=>by simp only [zF,OT.AO,Sb.fu,Sb.fus xs,zG]
theorem Df.fu (x:Df):OT.C6 (Df.o x)=true:=by
 simp only [Df.o,OT.C6,OT.full,Fm.fus,Tm.fus,NL,zG,zO]
theorem Df.fus:∀ xs:List Df,OT.AO (xs.map Df.o)=true
 | []=>rfl
 | x :: xs=>by simp only [zF,OT.AO,Df.fu,Df.fus xs,zG]
attribute [go_sem] NL Qat J5 QdY Qad QdZ Tm.fus Tm.erss Tm.noss Fm.fus Fm.erss Fm.noss Lt.fus Lt.erss Lt.noss Cl.fus Cl.erss Cl.noss Bd.fus Bd.erss Bd.noss Sb.fus Sb.erss Sb.noss Df.fus Df.erss Df.noss
theorem HX {α β:Type} (f:α→β) (dn rest:List α) (x y:α) {k:Nat} (h:dn.length=k):((dn++x :: rest).map f).set k (f y)=((dn++[y])++rest).map f:=by
 subst h
 rw [y9,List.set_append_right _ _ (by simp)]
 simp
theorem CU {α:Type} (a:α):dec (a=a)=true:=An rfl
def HY {α β:Type} (f:α→β) (z:β) (xs:List α) (k:Nat):List β:=(xs.take k).map f++xB (xs.length-k) z
section
variable {α β:Type} (f:α→β) (z:β) {xs:List α} {k:Nat}
theorem MW:HY f z xs 0=xB xs.length z:=by simp [HY]
theorem OP:(HY f z xs k).length=xs.length:=by simp [HY]; omega
theorem OQ:HY f z xs xs.length=xs.map f:=by simp [HY]
theorem OR (h:k<xs.length):(HY f z xs k)[k]?=some z:=by
 have hl:((xs.take k).map f).length=k:=by simp; omega
 unfold HY
 rw [List.getElem?_append_right (by omega),hl,Nat.sub_self,List.getElem?_replicate]
 simp; omega
theorem OS (h:k<xs.length):(HY f z xs k).set k (f xs[k])=HY f z xs (k+1):=by
 have hl:((xs.take k).map f).length=k:=by simp; omega
 have e:List.take (k+1) xs=List.take k xs++[xs[k]]:=List.take_succ_eq_append_getElem h
 unfold HY
 rw [List.set_append_right _ _ (by omega),hl,Nat.sub_self,e,y9,List.append_assoc]
 congr 1
 rw [show xs.length-k=(xs.length-(k+1))+1 by omega,List.replicate_succ,List.set_cons_zero]
 rfl
end
theorem Qef (a b:Int):(bif dec (a<b) then b else a)=max a b:=by
 by_cases h:a<b
 ·rw [An h,cond_true,Int.max_eq_right (by omega)]
 ·rw [Aj h,cond_false,Int.max_eq_left (by omega)]
def DI {α:Type} (p:α→Bool):List α→Int→Int
 | [],_=>-1
 | x :: xs,i=>if p x then i else DI p xs (i+1)
theorem IY {α:Type} (p:α→Bool):∀ (xs:List α),dec (0≤DI p xs 0)=xs.any p:=by
 have key:∀ (xs:List α) (i:Int),0≤i→(0≤DI p xs i ↔ xs.any p=true):=by
  intro xs
  induction xs with
  | nil=>intro i h; simp [DI]
  | cons x xs ih =>
   intro i h
   simp only [DI,xG,y6]
   by_cases hp:p x=true
   ·simp [hp,h]
   ·rw [if_neg hp,ih (i+1) (by omega)]; simp [hp]
 intro xs
 cases h:xs.any p with
 | true=>exact An ((key xs 0 (by omega)).2 h)
 | false=>exact Aj fun h'=>by rw [(key xs 0 (by omega)).1 h'] at h; cases h
theorem Gw {p q:Prop} (h:p ↔ q):dec p=dec q:=by rw [propext h]
mutual
def Tm.nodes:Tm→Nat
 | .mk _ args=>1+Tm.nodeS args
def Tm.nodeS:List Tm→Nat
 | []=>0
 | x :: xs=>Tm.nodes x+Tm.nodeS xs
end
theorem Tm.nodes_eq (x:Tm):x.nodes=1+Tm.nodeS x.args:=by
 obtain ⟨name,args⟩:=x
 rw [Tm.nodes]; rfl
theorem Tm.nodes_pos (x:Tm):1≤x.nodes:=by rw [Tm.nodes_eq]; omega
theorem Tm.nodes_le:∀ (xs:List Tm) (k:Nat) (h:k<xs.length),xs[k].nodes≤Tm.nodeS xs
 | [],k,h=>absurd h (by simp)
 | x :: xs,0,_=>by rw [Tm.nodeS]; simp
 | x :: xs,k+1,h=>by
  have:=Tm.nodes_le xs k (by simpa using h)
  rw [Tm.nodeS]; simp only [List.getElem_cons_succ]; omega
mutual
def Tm.deep:Tm→Nat
 | .mk _ args=>Tm.EZ args+1
def Tm.EZ:List Tm→Nat
 | []=>0
 | x :: xs=>max (Tm.deep x) (Tm.EZ xs)
end
theorem Tm.NM (x:Tm):x.deep=Tm.EZ x.args+1:=by
 obtain ⟨name,args⟩:=x
 rw [Tm.deep]; rfl
theorem Tm.KP:∀ xs:List Tm,(∀ y∈xs,y.deep≤y.nodes)→Tm.EZ xs≤Tm.nodeS xs
 | [],_=>by simp [Tm.EZ]
 | x :: xs,h=>by
  have h1:=h x (by simp)
  have h2:=Tm.KP xs fun y hy=>h y (by simp [hy])
  rw [Tm.EZ,Tm.nodeS]; omega
theorem Tm.I4 (x:Tm):x.deep≤x.nodes:=by
 rw [Tm.NM,Tm.nodes_eq]
 have:=Tm.KP x.args fun y hy=>Tm.I4 y
 omega
termination_by SizeOf.sizeOf x
decreasing_by exact Tm.lt_of_mem hy
mutual
def Tm.names:Tm→Bool
 | .mk name args=>if AY name then args.length == 0 else E0 name&&decide (args.length≤4)&&Tm.Gj args
def Tm.Gj:List Tm→Bool
 | []=>true
 | x :: xs=>Tm.names x&&Tm.Gj xs
end
theorem Tm.Hm (x:Tm):x.names=if AY x.name then x.args.length == 0 else E0 x.name&&decide (x.args.length≤4)&&Tm.Gj x.args:=by
 obtain ⟨name,args⟩:=x
 rw [Tm.names]; rfl
theorem Tm.EP:∀ xs:List Tm,Tm.Gj xs=xs.all Tm.names
 | []=>rfl
 | x :: xs=>by rw [Tm.Gj,Tm.EP xs]; rfl
theorem Tm.length_le:∀ xs:List Tm,xs.length≤Tm.nodeS xs
 | []=>zT _
 | x :: xs=>by
  have:=Tm.length_le xs
  have:=Tm.nodes_pos x
  rw [Tm.nodeS]; simp only [List.length_cons]; omega
theorem Tm.nodes_mem {xs:List Tm} {y:Tm} (h:y∈xs):y.nodes≤Tm.nodeS xs:=by
 obtain ⟨k,hk,rfl⟩:=yK h
 exact Tm.nodes_le xs k hk
def Tm.small (x:Tm):Bool:=decide (x.nodes≤30)&&decide (x.deep≤8)
def Tm.valid (x:Tm):Bool:=x.small&&x.names
noncomputable def Tm.eqn (x:Tm):Bool:=dec (x.name=⟨#[61]⟩)
noncomputable def Tm.atom (x:Tm):Bool:=if x.eqn then x.args.length == 2&&x.small&&Tm.Gj x.args else E0 x.name&&x.valid
theorem Ue {xs:List Tm} (h:xs.length=2):Tm.Gj xs=((xs[0]'(by omega)).names&&(xs[1]'(by omega)).names):=by
 match xs,h with
 | [a,b],_=>simp [Tm.Gj]
mutual
def Tm.cap:Tm→Int
 | .mk _ xs=>Tm.capL xs 1
def Tm.capL:List Tm→Int→Int
 | [],n=>n
 | x :: xs,n=>if 30 < n then n else Tm.capL xs (n+Tm.cap x)
end
theorem Tm.cap_eq (x:Tm):x.cap=Tm.capL x.args 1:=by
 obtain ⟨n,xs⟩:=x
 rw [Tm.cap]; rfl
theorem Tm.capL_spec:∀ (xs:List Tm) (n:Int),(∀ x∈xs,1≤x.cap∧x.cap≤x.nodes∧(x.cap≤30→x.cap=x.nodes))→1≤n→n≤Tm.capL xs n∧Tm.capL xs n≤n+Tm.nodeS xs∧(Tm.capL xs n≤30→Tm.capL xs n=n+Tm.nodeS xs)
 | [],n,_,h=>by simp [Tm.capL,Tm.nodeS]
 | x :: xs,n,hx,h=>by
  rw [Tm.capL,Tm.nodeS]
  have h1:=hx x (by simp)
  split
  ·omega
  ·have:=Tm.capL_spec xs (n+x.cap) (fun y hy=>hx y (by simp [hy])) (by omega)
   omega
theorem Tm.cap_spec (x:Tm):1≤x.cap∧x.cap≤x.nodes∧(x.cap≤30→x.cap=x.nodes):=by
 rw [Tm.cap_eq,Tm.nodes_eq]
 have:=Tm.capL_spec x.args 1 (fun y hy=>Tm.cap_spec y) (by omega)
 omega
termination_by SizeOf.sizeOf x
decreasing_by exact Tm.lt_of_mem hy
mutual
def Tm.many:Tm→Int→Int
 | .mk _ xs,m=>Tm.manyL xs m 1
def Tm.manyL:List Tm→Int→Int→Int
 | [],_,n=>n
 | x :: xs,m,n=>if n≤m then Tm.manyL xs m (n+Tm.many x (m-n)) else n
end
theorem Tm.many_eq (x:Tm) (m:Int):x.many m=Tm.manyL x.args m 1:=by
 obtain ⟨n,xs⟩:=x
 rw [Tm.many]; rfl
theorem Tm.manyL_spec (m:Int):∀ (xs:List Tm) (n:Int),(∀ x∈xs,∀ m,0≤m→1≤x.many m∧x.many m≤x.nodes∧(x.many m≤m→x.many m=x.nodes))→1≤n→n≤Tm.manyL xs m n∧Tm.manyL xs m n≤n+Tm.nodeS xs∧(Tm.manyL xs m n≤m→Tm.manyL xs m n=n+Tm.nodeS xs)
 | [],n,_,h=>by simp [Tm.manyL,Tm.nodeS]
 | x :: xs,n,hx,h=>by
  rw [Tm.manyL,Tm.nodeS]
  split
  ·have h1:=hx x (by simp) (m-n) (by omega)
   have:=Tm.manyL_spec m xs (n+x.many (m-n)) (fun y hy=>hx y (by simp [hy])) (by omega)
   omega
  ·omega
theorem Tm.many_spec (x:Tm) (m:Int):1≤x.many m∧x.many m≤x.nodes∧(x.many m≤m→x.many m=x.nodes):=by
 rw [Tm.many_eq,Tm.nodes_eq]
 have:=Tm.manyL_spec m x.args 1 (fun y hy m _=>Tm.many_spec y m) (by omega)
 omega
termination_by SizeOf.sizeOf x
decreasing_by exact Tm.lt_of_mem hy
def PS:SC:=(.seq (.reg [⟨some 1,none,.boxv 33 2 (.t 0)⟩,⟨some 2,none,.mv (.c (.int .i64 0))⟩]) (.seq (.reg [⟨some 3,none,.mv (.c (.int .i64 1))⟩]) (.seq (.seq (.reg [⟨some 6,none,.faddr 1 (.t 1)⟩,⟨some 7,none,.load false 1 (.t 6)⟩,⟨some 8,none,.len false (.t 7)⟩,⟨some 9,none,.mv (.c (.int .i64 0))⟩]) (.block 0 (.loop [0,0,0,1,0,0,0,1,1,1,0,0,0,0,0,0,0,0,0,0,0,0] (.seq (.reg [⟨some 10,none,.bin .lss false (.t 9) (.t 8)⟩]) (.seq (.cond (.t 10) .skip (.exit 0)) (.seq (.block 1 (.seq (.reg [⟨some 11,none,.iaddr 2 (.t 7) (.t 9)⟩,⟨some 12,none,.load true 2 (.t 11)⟩,⟨(some 5),none,(.alloc 33 [(.str ⟨#[]⟩),.nil])⟩,⟨none,none,(.store 2 (.t 5) (.t 12))⟩]) (.seq (.seq (.reg [⟨some 13,none,.mv (.t 3)⟩,⟨some 14,none,.bin .gtr false (.t 13) (.c (.int .i64 30))⟩]) (.cond (.t 14) (.seq (.reg [⟨some 15,none,.mv (.t 3)⟩,⟨some 2,none,.mv (.t 15)⟩]) .ret) .skip)) (.reg [⟨some 16,none,.mv (.t 3)⟩,⟨some 17,none,.load true 2 (.t 5)⟩,⟨some 18,none,.call 296 [(.t 17)]⟩,⟨some 19,none,.bin .add false (.t 16) (.t 18)⟩,⟨some 3,none,.mv (.t 19)⟩])))) (.reg [⟨some 20,none,.bin .add false (.t 9) (.c (.int .i64 1))⟩,⟨some 9,none,.mv (.t 20)⟩]))))))) (.seq (.reg [⟨some 21,none,.mv (.t 3)⟩,⟨some 2,none,.mv (.t 21)⟩]) .ret))))
theorem Xr:codeOf Tryz.prog 296=some ⟨22,PS,[(.tmp 2)]⟩:=by kernel_rfl
theorem Gk:modes 296=⟨[],.asis,none,false⟩:=by unfold modes; rfl
theorem Qeg (x:Tm) (hn:x.nodes≤1099511627776) (ih:∀ y∈x.args,E 296 [y.sv] []=some (.int .i64 y.cap,[])):E 296 [x.sv] []=some (.int .i64 x.cap,[]):=by
 have hl:=Tm.length_le x.args
 have hx:=Tm.nodes_eq x
 rw [Tm.cap_eq]
 refine Af Xr Gk (of_decide_eq_true rfl) ?_
 simp (disch:=omega) only [PS,go_sem,Ab]
 refine go_loop (α:=Int × Int) (fun a=>⟨slots 22 0 [(3,.int .i64 a.2),(7,.arr (x.args.map Tm.d)),(8,.int .i64 x.args.length),(9,.int .i64 a.1)],[]⟩) (fun a=>∃ k:Nat,a.1=k∧k≤x.args.length∧1≤a.2∧a.2+Tm.nodeS (x.args.drop k)≤x.nodes∧Tm.capL (x.args.drop k) a.2=Tm.capL x.args 1) (fun a=>x.args.length-a.1.toNat) (0,1) ⟨0,rfl,zR _,by dsimp only; omega,by rw [zW]; dsimp only; omega,rfl⟩ (by simp (disch:=omega) only [go_sem,Ab]) ?_
 rintro ⟨i,n⟩ ⟨k,hi,hk,hn0,hn1,hs⟩
 dsimp only at hi hn0 hn1 hs
 have hni:i.toNat=k:=by omega
 rcases zK k x.args.length with hlt | hge
 ·have hg:=get_at Tm.d hlt
  rw [Tm.d_eq] at hg
  have hd:x.args.drop k=x.args[k] :: x.args.drop (k+1):=zM hlt
  have hc:=ih x.args[k] (zH hlt)
  have hp:=Tm.cap_spec x.args[k]
  rw [hd,Tm.capL] at hs
  rw [hd,Tm.nodeS] at hn1
  rcases y5 30 n with h30 | h30
  ·rw [if_pos h30] at hs
   simp (disch:=omega) only [go_sem,Ab,hni,hg,hc,Gk]
   exact hs
  ·rw [if_neg (by omega)] at hs
   simp (disch:=omega) only [go_sem,Ab,hni,hg,hc,Gk]
   refine ⟨(i+1,n+x.args[k].cap),⟨k+1,by dsimp only; omega,hlt,by dsimp only; omega,by dsimp only; omega,hs⟩,by dsimp only; omega,?_⟩
   simp only [and_self]
 ·have hd:x.args.drop k=[]:=zP hge
  rw [hd,Tm.capL] at hs
  simp (disch:=omega) only [go_sem,Ab,hni]
  exact hs
theorem Qc2 (x:Tm) (hn:x.nodes≤1099511627776):E 296 [x.sv] []=some (.int .i64 x.cap,[]) :=
 Qeg x hn fun y hy=>Qc2 y (by have:=Tm.nodes_mem hy; have:=Tm.nodes_eq x; omega)
termination_by SizeOf.sizeOf x
decreasing_by exact Tm.lt_of_mem hy
def Mm:SC:=(.seq (.reg [⟨some 2,none,.boxv 33 2 (.t 0)⟩,⟨some 4,none,.mv (.c (.int .i64 0))⟩]) (.seq (.reg [⟨some 5,none,.mv (.c (.int .i64 1))⟩]) (.seq (.seq (.reg [⟨some 6,none,.mv (.c (.int .i64 0))⟩]) (.block 0 (.loop [0,1,1,0,0,1,1,0,0,0,0,0,0,0,0,0,0,0,0,0,0,0,0,0,0,0,0,0,0,0,0] (.seq (.seq (.reg [⟨some 7,none,.mv (.t 6)⟩,⟨some 8,none,.faddr 1 (.t 2)⟩,⟨some 9,none,.load false 1 (.t 8)⟩,⟨some 10,none,.len false (.t 9)⟩,⟨some 11,none,.bin .lss false (.t 7) (.t 10)⟩,⟨some 12,none,.mv (.t 11)⟩,⟨(some 13),(some (12,true)),(.mv (.t 5))⟩,⟨(some 14),(some (12,true)),(.mv (.t 1))⟩,⟨(some 15),(some (12,true)),(.bin .leq false (.t 13) (.t 14))⟩,⟨some 16,none,.pick (.t 12) (.t 15) (.c (.bool false))⟩]) (.cond (.t 16) .skip (.exit 0))) (.seq (.block 1 (.reg [⟨some 19,none,.mv (.t 5)⟩,⟨some 20,none,.faddr 1 (.t 2)⟩,⟨some 21,none,.load false 1 (.t 20)⟩,⟨some 22,none,.mv (.t 6)⟩,⟨some 23,none,.iaddr 2 (.t 21) (.t 22)⟩,⟨some 24,none,.load true 2 (.t 23)⟩,⟨some 25,none,.mv (.t 1)⟩,⟨some 26,none,.mv (.t 5)⟩,⟨some 27,none,.bin .sub false (.t 25) (.t 26)⟩,⟨some 28,none,.call 307 [(.t 24),(.t 27)]⟩,⟨some 29,none,.bin .add false (.t 19) (.t 28)⟩,⟨some 5,none,.mv (.t 29)⟩])) (.reg [⟨some 17,none,.mv (.t 6)⟩,⟨some 18,none,.bin .add false (.t 17) (.c (.int .i64 1))⟩,⟨some 6,none,.mv (.t 18)⟩])))))) (.seq (.reg [⟨some 30,none,.mv (.t 5)⟩,⟨some 4,none,.mv (.t 30)⟩]) .ret))))
theorem SW:codeOf Tryz.prog 307=some ⟨31,Mm,[(.tmp 4)]⟩:=by kernel_rfl
theorem E1:modes 307=⟨[],.asis,none,false⟩:=by unfold modes; rfl
theorem Qeh (x:Tm) (m:Int) (hm:0≤m) (hm1:m≤1099511627776) (hn:x.nodes≤1099511627776) (ih:∀ y∈x.args,∀ m:Int,0≤m→m≤1099511627776→E 307 [y.sv,.int .i64 m] []=some (.int .i64 (y.many m),[])):E 307 [x.sv,.int .i64 m] []=some (.int .i64 (x.many m),[]):=by
 have hl:=Tm.length_le x.args
 have hx:=Tm.nodes_eq x
 rw [Tm.many_eq]
 refine Af SW E1 (of_decide_eq_true rfl) ?_
 simp (disch:=omega) only [Mm,go_sem,Ab]
 refine go_loop (α:=Int × Int) (fun a=>⟨slots 31 0 [(1,.int .i64 m),(2,.ptr 0 0),(5,.int .i64 a.2),(6,.int .i64 a.1)],[.box 33 [.str x.name,.arr (x.args.map Tm.d)]]⟩) (fun a=>∃ k:Nat,a.1=k∧k≤x.args.length∧1≤a.2∧a.2+Tm.nodeS (x.args.drop k)≤x.nodes∧Tm.manyL (x.args.drop k) m a.2=Tm.manyL x.args m 1) (fun a=>x.args.length-a.1.toNat) (0,1) ⟨0,rfl,zR _,by dsimp only; omega,by rw [zW]; dsimp only; omega,rfl⟩ (by simp (disch:=omega) only [go_sem,Ab]) ?_
 rintro ⟨i,n⟩ ⟨k,hi,hk,hn0,hn1,hs⟩
 dsimp only at hi hn0 hn1 hs
 have hni:i.toNat=k:=by omega
 rcases zK k x.args.length with hlt | hge
 ·have hg:=get_at Tm.d hlt
  rw [Tm.d_eq] at hg
  have hd:x.args.drop k=x.args[k] :: x.args.drop (k+1):=zM hlt
  rw [hd,Tm.manyL] at hs
  rw [hd,Tm.nodeS] at hn1
  rcases y5 m n with h30 | h30
  ·rw [if_neg (by omega)] at hs
   simp (disch:=omega) only [go_sem,Ab,hni,hg,E1]
   exact hs
  ·rw [if_pos h30] at hs
   have hc:=ih x.args[k] (zH hlt) (m-n) (by omega) (by omega)
   have hp:=Tm.many_spec x.args[k] (m-n)
   simp (disch:=omega) only [go_sem,Ab,hni,hg,hc,E1]
   refine ⟨(i+1,n+x.args[k].many (m-n)),⟨k+1,by dsimp only; omega,hlt,by dsimp only; omega,by dsimp only; omega,hs⟩,by dsimp only; omega,?_⟩
   simp only [and_self]
 ·have hd:x.args.drop k=[]:=zP hge
  rw [hd,Tm.manyL] at hs
  simp (disch:=omega) only [go_sem,Ab,hni]
  exact hs
theorem Qc3 (x:Tm) (m:Int) (hm:0≤m) (hm1:m≤1099511627776) (hn:x.nodes≤1099511627776):E 307 [x.sv,.int .i64 m] []=some (.int .i64 (x.many m),[]) :=
 Qeh x m hm hm1 hn fun y hy m hm hm1=>Qc3 y m hm hm1 (by have:=Tm.nodes_mem hy; have:=Tm.nodes_eq x; omega)
termination_by SizeOf.sizeOf x
decreasing_by exact Tm.lt_of_mem hy
def NN:SC:=(.seq (.reg [⟨some 1,none,.boxv 33 2 (.t 0)⟩,⟨some 2,none,.mv (.c (.int .i64 0))⟩]) (.seq (.reg [⟨some 3,none,.mv (.c (.int .i64 0))⟩]) (.seq (.seq (.reg [⟨some 6,none,.faddr 1 (.t 1)⟩,⟨some 7,none,.load false 1 (.t 6)⟩,⟨some 8,none,.len false (.t 7)⟩,⟨some 9,none,.mv (.c (.int .i64 0))⟩]) (.block 0 (.loop [0,0,0,1,0,0,0,1,1,1,0,0,0,0,0,0,0,0,0,0] (.seq (.reg [⟨some 10,none,.bin .lss false (.t 9) (.t 8)⟩]) (.seq (.cond (.t 10) .skip (.exit 0)) (.seq (.block 1 (.seq (.reg [⟨some 11,none,.iaddr 2 (.t 7) (.t 9)⟩,⟨some 12,none,.load true 2 (.t 11)⟩,⟨(some 5),none,(.alloc 33 [(.str ⟨#[]⟩),.nil])⟩,⟨none,none,(.store 2 (.t 5) (.t 12))⟩]) (.reg [⟨some 13,none,.mv (.t 3)⟩,⟨some 14,none,.load true 2 (.t 5)⟩,⟨some 15,none,.call 297 [(.t 14)]⟩,⟨some 16,none,.minmax true (.t 13) (.t 15)⟩,⟨some 3,none,.mv (.t 16)⟩]))) (.reg [⟨some 17,none,.bin .add false (.t 9) (.c (.int .i64 1))⟩,⟨some 9,none,.mv (.t 17)⟩]))))))) (.seq (.reg [⟨some 18,none,.mv (.t 3)⟩,⟨some 19,none,.bin .add false (.t 18) (.c (.int .i64 1))⟩,⟨some 2,none,.mv (.t 19)⟩]) .ret))))
theorem VJ:codeOf Tryz.prog 297=some ⟨20,NN,[(.tmp 2)]⟩:=by kernel_rfl
theorem GG:modes 297=⟨[],.asis,none,false⟩:=by unfold modes; rfl
def Mn:SC:=(.seq (.reg [⟨some 4,none,.mv (.c (.int .i64 0))⟩]) (.seq (.seq (.reg [⟨some 5,none,.mv (.t 0)⟩,⟨some 6,none,.mv (.t 1)⟩,⟨some 7,none,.bin .gtr false (.t 5) (.t 6)⟩]) (.cond (.t 7) (.seq (.reg [⟨some 8,none,.mv (.t 0)⟩,⟨some 4,none,.mv (.t 8)⟩]) .ret) .skip)) (.seq (.reg [⟨some 9,none,.mv (.t 1)⟩,⟨some 4,none,.mv (.t 9)⟩]) .ret)))
theorem SY:codeOf Tryz.prog 327=some ⟨10,Mn,[(.tmp 4)]⟩:=by kernel_rfl
theorem Mo:modes 327=⟨[],.asis,none,false⟩:=by unfold modes; rfl
def KQ:SC:=(.seq (.reg [⟨some 1,none,.boxv 33 2 (.t 0)⟩,⟨some 2,none,.mv (.c (.int .i64 0))⟩]) (.seq (.reg [⟨some 3,none,.mv (.c (.int .i64 0))⟩]) (.seq (.seq (.reg [⟨some 4,none,.mv (.c (.int .i64 0))⟩]) (.block 0 (.loop [0,1,0,1,1,0,0,0,0,0,0,0,0,0,0,0,0,0,0,0,0,0] (.seq (.seq (.reg [⟨some 5,none,.mv (.t 4)⟩,⟨some 6,none,.faddr 1 (.t 1)⟩,⟨some 7,none,.load false 1 (.t 6)⟩,⟨some 8,none,.len false (.t 7)⟩,⟨some 9,none,.bin .lss false (.t 5) (.t 8)⟩]) (.cond (.t 9) .skip (.exit 0))) (.seq (.block 1 (.reg [⟨some 12,none,.mv (.t 3)⟩,⟨some 13,none,.faddr 1 (.t 1)⟩,⟨some 14,none,.load false 1 (.t 13)⟩,⟨some 15,none,.mv (.t 4)⟩,⟨some 16,none,.iaddr 2 (.t 14) (.t 15)⟩,⟨some 17,none,.load true 2 (.t 16)⟩,⟨some 18,none,.call 308 [(.t 17)]⟩,⟨some 19,none,.call 327 [(.t 12),(.t 18)]⟩,⟨some 3,none,.mv (.t 19)⟩])) (.reg [⟨some 10,none,.mv (.t 4)⟩,⟨some 11,none,.bin .add false (.t 10) (.c (.int .i64 1))⟩,⟨some 4,none,.mv (.t 11)⟩])))))) (.seq (.reg [⟨some 20,none,.mv (.t 3)⟩,⟨some 21,none,.bin .add false (.t 20) (.c (.int .i64 1))⟩,⟨some 2,none,.mv (.t 21)⟩]) .ret))))
theorem RR:codeOf Tryz.prog 308=some ⟨22,KQ,[(.tmp 2)]⟩:=by kernel_rfl
theorem Fa:modes 308=⟨[],.asis,none,false⟩:=by unfold modes; rfl
theorem Qc4 (a b:Int):E 327 [.int .i64 a,.int .i64 b] []=some (.int .i64 (max a b),[]):=by
 refine Af SY Mo (of_decide_eq_true rfl) ?_
 simp (disch:=omega) only [Mn,go_sem,Ab]
 repeat' (refine DV (fun hq=>?_) (fun hq=>?_) <;> (first | replace hq:=Aq.1 hq | replace hq:=DK.1 hq) <;> (try simp (disch:=omega) only [go_sem,Ab]))
 all_goals omega
theorem Qc5 (x:Tm) (hn:x.nodes≤1099511627776) (ih:∀ y∈x.args,E 297 [y.sv] []=some (.int .i64 y.deep,[])):E 297 [x.sv] []=some (.int .i64 x.deep,[]):=by
 have hl:=Tm.length_le x.args
 have hx:=Tm.nodes_eq x
 have hd1:=Tm.NM x
 have hd2:=Tm.I4 x
 refine Af VJ GG (of_decide_eq_true rfl) ?_
 simp (disch:=omega) only [NN,go_sem,Ab]
 refine go_loop (α:=Int × (Int)) (fun a=>⟨slots 20 0 [(3,.int .i64 (a.2)),(7,.arr (x.args.map Tm.d)),(8,.int .i64 x.args.length),(9,.int .i64 (a.1))],[]⟩) (fun a=>∃ k:Nat,a.1=k∧k≤(x.args).length∧0≤(a.2)∧max (a.2) (Tm.EZ (x.args.drop k):Nat)=(Tm.EZ x.args:Nat)) (fun a=>(x.args).length-(a.1).toNat) (0,0) ⟨0,rfl,zR _,by dsimp only; omega,by rw [zW]; dsimp only; omega⟩ (by simp (disch:=omega) only [go_sem,Ab]) ?_
 rintro ⟨i,n⟩ ⟨k,hi,hk,hR⟩
 dsimp only at hi hR
 have hni:i.toNat=k:=by omega
 have hni1:(i+1).toNat=k+1:=by omega
 rcases zK k (x.args).length with hlt | hge
 ·have hg:=get_at Tm.d hlt
  rw [Tm.d_eq] at hg
  have hc:=ih x.args[k] (zH hlt)
  rw [zM hlt,Tm.EZ] at hR
  simp (disch:=omega) only [go_sem,Ab,hni,hg,hc,GG,Qef]
  refine ⟨(i+1,max n (x.args[k].deep:Int)),⟨k+1,by dsimp only; omega,hlt,by dsimp only; omega⟩,by dsimp only; omega,?_⟩
  simp only [and_self]
 ·rw [zP hge,Tm.EZ] at hR
  simp (disch:=omega) only [go_sem,Ab,hni]
  omega
theorem Qau (x:Tm) (hn:x.nodes≤1099511627776):E 297 [x.sv] []=some (.int .i64 x.deep,[]) :=
 Qc5 x hn fun y hy=>Qau y (by have:=Tm.nodes_mem hy; have:=Tm.nodes_eq x; omega)
termination_by SizeOf.sizeOf x
decreasing_by exact Tm.lt_of_mem hy
theorem Zm (x:Tm) (hn:x.nodes≤1099511627776) (ih:∀ y∈x.args,E 308 [y.sv] []=some (.int .i64 y.deep,[])):E 308 [x.sv] []=some (.int .i64 x.deep,[]):=by
 have hl:=Tm.length_le x.args
 have hx:=Tm.nodes_eq x
 have hd1:=Tm.NM x
 have hd2:=Tm.I4 x
 refine Af RR Fa (of_decide_eq_true rfl) ?_
 simp (disch:=omega) only [KQ,go_sem,Ab]
 refine go_loop (α:=Int × (Int)) (fun a=>⟨slots 22 0 [(1,.ptr 0 0),(3,.int .i64 (a.2)),(4,.int .i64 (a.1))],[.box 33 [.str x.name,.arr (x.args.map Tm.d)]]⟩) (fun a=>∃ k:Nat,a.1=k∧k≤(x.args).length∧0≤(a.2)∧max (a.2) (Tm.EZ (x.args.drop k):Nat)=(Tm.EZ x.args:Nat)) (fun a=>(x.args).length-(a.1).toNat) (0,0) ⟨0,rfl,zR _,by dsimp only; omega,by rw [zW]; dsimp only; omega⟩ (by simp (disch:=omega) only [go_sem,Ab]) ?_
 rintro ⟨i,n⟩ ⟨k,hi,hk,hR⟩
 dsimp only at hi hR
 have hni:i.toNat=k:=by omega
 have hni1:(i+1).toNat=k+1:=by omega
 rcases zK k (x.args).length with hlt | hge
 ·have hg:=get_at Tm.d hlt
  rw [Tm.d_eq] at hg
  have hc:=ih x.args[k] (zH hlt)
  rw [zM hlt,Tm.EZ] at hR
  simp (disch:=omega) only [go_sem,Ab,hni,hg,hc,Fa,Qc4,Mo]
  refine ⟨(i+1,max n (x.args[k].deep:Int)),⟨k+1,by dsimp only; omega,hlt,by dsimp only; omega⟩,by dsimp only; omega,?_⟩
  simp only [and_self]
 ·rw [zP hge,Tm.EZ] at hR
  simp (disch:=omega) only [go_sem,Ab,hni]
  omega
theorem Uf (x:Tm) (hn:x.nodes≤1099511627776):E 308 [x.sv] []=some (.int .i64 x.deep,[]) :=
 Zm x hn fun y hy=>Uf y (by have:=Tm.nodes_mem hy; have:=Tm.nodes_eq x; omega)
termination_by SizeOf.sizeOf x
decreasing_by exact Tm.lt_of_mem hy
def Cs:SC:=(.seq (.reg [⟨some 4,none,.mv (.c (.int .i64 0))⟩]) (.seq (.seq (.reg [⟨some 6,none,.mv (.t 0)⟩,⟨some 7,none,.len false (.t 6)⟩,⟨some 8,none,.mv (.c (.int .i64 0))⟩]) (.block 0 (.loop [1,1,0,0,0,0,0,1,1,0,0,0,0,0,0,0,0,0,0] (.seq (.reg [⟨some 9,none,.bin .lss false (.t 8) (.t 7)⟩]) (.seq (.cond (.t 9) .skip (.exit 0)) (.seq (.block 1 (.seq (.reg [⟨some 10,none,.mv (.t 8)⟩,⟨some 5,none,.mv (.t 10)⟩]) (.seq (.reg [⟨some 11,none,.mv (.t 1)⟩,⟨some 12,none,.mv (.t 0)⟩,⟨some 13,none,.mv (.t 5)⟩,⟨some 14,none,.iaddr 2 (.t 12) (.t 13)⟩,⟨some 15,none,.load true 2 (.t 14)⟩,⟨some 16,none,.callv (.t 11) [(.t 15)]⟩]) (.cond (.t 16) (.seq (.reg [⟨some 17,none,.mv (.t 5)⟩,⟨some 4,none,.mv (.t 17)⟩]) .ret) .skip)))) (.reg [⟨some 18,none,.bin .add false (.t 8) (.c (.int .i64 1))⟩,⟨some 8,none,.mv (.t 18)⟩]))))))) (.seq (.reg [⟨some 4,none,.mv (.c (.int .i64 (-(0+1))))⟩]) .ret)))
theorem DW:codeOf Tryz.prog 321=some ⟨19,Cs,[(.tmp 4)]⟩:=by kernel_rfl
theorem Ct:modes 321=⟨[],.asis,none,false⟩:=by unfold modes; rfl
def Cc:SC:=(.seq (.reg [⟨some 4,none,.mv (.c (.bool false))⟩]) (.seq (.reg [⟨some 5,none,.mv (.t 0)⟩,⟨some 6,none,.mv (.t 1)⟩,⟨some 7,none,.call 321 [(.t 5),(.t 6)]⟩,⟨some 8,none,.bin .geq false (.t 7) (.c (.int .i64 0))⟩,⟨some 4,none,.mv (.t 8)⟩]) .ret))
theorem D5:codeOf Tryz.prog 298=some ⟨9,Cc,[(.tmp 4)]⟩:=by kernel_rfl
theorem Cd:modes 298=⟨[],.asis,none,false⟩:=by unfold modes; rfl
theorem Qq (fid:Nat) (p:Tm→Bool) (xs:List Tm) (hl:xs.length≤1099511627776) (hg:GD Tryz.prog fid=true) (hm:(modes fid).hand=[]) (hE:∀ x∈xs,E fid [x.sv] []=some (.bool (p x),[])):E 321 [.arr (xs.map Tm.d),.fn fid []] []=some (.int .i64 (DI p xs 0),[]):=by
 refine Af DW Ct (of_decide_eq_true rfl) ?_
 simp (disch:=omega) only [Cs,go_sem,Ab]
 refine go_loop (α:=Int) (fun a=>⟨slots 19 0 [(0,.arr (xs.map Tm.d)),(1,.fn fid []),(7,.int .i64 xs.length),(8,.int .i64 a)],[]⟩) (fun a=>∃ k:Nat,a=k∧k≤(xs).length∧DI p (xs.drop k) a=DI p xs 0) (fun a=>(xs).length-(a).toNat) 0 ⟨0,rfl,zR _,by rw [zW]⟩ (by simp (disch:=omega) only [go_sem,Ab]) ?_
 rintro i ⟨k,hi,hk,hR⟩
 have hni:i.toNat=k:=by omega
 have hni1:(i+1).toNat=k+1:=by omega
 rcases zK k (xs).length with hlt | hge
 ·have hg':=get_at Tm.d hlt
  rw [Tm.d_eq] at hg'
  have hc:=hE xs[k] (zH hlt)
  rw [zM hlt,DI] at hR
  cases hp:p xs[k] with
  | true =>
   rw [hp] at hc hR
   simp (disch:=omega) only [go_sem,Ab,hni,hg',hc,hg,hm]
   simpa using hR
  | false =>
   rw [hp] at hc hR
   simp (disch:=omega) only [go_sem,Ab,hni,hg',hc,hg,hm]
   exact ⟨i+1,⟨k+1,by omega,hlt,by simpa using hR⟩,by omega,by first | trivial | rfl⟩
 ·rw [zP hge,DI] at hR
  simp (disch:=omega) only [go_sem,Ab,hni]
  exact hR
theorem MX (fid:Nat) (p:Tm→Bool) (xs:List Tm) (hl:xs.length≤1099511627776) (hg:GD Tryz.prog fid=true) (hm:(modes fid).hand=[]) (hE:∀ x∈xs,E fid [x.sv] []=some (.bool (p x),[])):E 298 [.arr (xs.map Tm.d),.fn fid []] []=some (.bool (xs.any p),[]):=by
 have h:=Qq fid p xs hl hg hm hE
 refine Af D5 Cd (of_decide_eq_true rfl) ?_
 simp (disch:=omega) only [Cc,go_sem,Ab,h,Ct]
 rw [IY]
def D6:SC:=(.seq (.reg [⟨some 1,none,.boxv 33 2 (.t 0)⟩,⟨some 2,none,.mv (.c (.bool false))⟩]) (.seq (.seq (.reg [⟨some 3,none,.faddr 0 (.t 1)⟩,⟨some 4,none,.load false 1 (.t 3)⟩,⟨some 5,none,.call 177 [(.t 4)]⟩]) (.cond (.t 5) (.seq (.reg [⟨some 6,none,.faddr 1 (.t 1)⟩,⟨some 7,none,.load false 1 (.t 6)⟩,⟨some 8,none,.len false (.t 7)⟩,⟨some 9,none,.bin .eql false (.t 8) (.c (.int .i64 0))⟩,⟨some 2,none,.mv (.t 9)⟩]) .ret) .skip)) (.seq (.reg [⟨some 10,none,.faddr 0 (.t 1)⟩,⟨some 11,none,.load false 1 (.t 10)⟩,⟨some 12,none,.call 184 [(.t 11)]⟩,⟨some 13,none,.mv (.t 12)⟩,⟨(some 14),(some (13,true)),(.faddr 1 (.t 1))⟩,⟨(some 15),(some (13,true)),(.load false 1 (.t 14))⟩,⟨(some 16),(some (13,true)),(.len false (.t 15))⟩,⟨(some 17),(some (13,true)),(.bin .leq false (.t 16) (.c (.int .i64 4)))⟩,⟨some 18,none,.pick (.t 13) (.t 17) (.c (.bool false))⟩,⟨some 19,none,.mv (.t 18)⟩,⟨(some 20),(some (19,true)),(.faddr 1 (.t 1))⟩,⟨(some 21),(some (19,true)),(.load false 1 (.t 20))⟩,⟨(some 22),(some (19,true)),(.call 298 [(.t 21),(.c (.fn 299 []))])⟩,⟨(some 23),(some (19,true)),(.un .not (.t 22))⟩,⟨some 24,none,.pick (.t 19) (.t 23) (.c (.bool false))⟩,⟨some 2,none,.mv (.t 24)⟩]) .ret)))
theorem EB:codeOf Tryz.prog 245=some ⟨25,D6,[(.tmp 2)]⟩:=by kernel_rfl
theorem Bb:modes 245=⟨[],.asis,none,false⟩:=by unfold modes; rfl
def HZ:SC:=(.seq (.reg [⟨some 1,none,.boxv 33 2 (.t 0)⟩,⟨some 2,none,.mv (.c (.bool false))⟩]) (.seq (.reg [⟨some 3,none,.load true 2 (.t 1)⟩,⟨some 4,none,.call 245 [(.t 3)]⟩,⟨some 5,none,.un .not (.t 4)⟩,⟨some 2,none,.mv (.t 5)⟩]) .ret))
theorem NO:codeOf Tryz.prog 299=some ⟨6,HZ,[(.tmp 2)]⟩:=by kernel_rfl
theorem Ia:modes 299=⟨[],.asis,none,false⟩:=by unfold modes; rfl
theorem NP:GD Tryz.prog 299=true:=by kernel_rfl
theorem Tm.any_not (xs:List Tm):(!xs.any fun y=>!y.names)=Tm.Gj xs:=by
 rw [Tm.EP]
 induction xs with
 | nil=>rfl
 | cons x xs ih=>simp only [xG,List.all_cons,Bool.not_or,Bool.not_not,ih]
theorem Xs (x:Tm) (hn:x.nodes≤1099511627776) (ih:∀ y∈x.args,E 245 [y.sv] []=some (.bool y.names,[])):E 245 [x.sv] []=some (.bool x.names,[]):=by
 have hl:=Tm.length_le x.args
 have hx:=Tm.nodes_eq x
 have h1:∀ y∈x.args,E 299 [y.sv] []=some (.bool (!y.names),[]):=fun y hy=>by
  have h:=ih y hy
  refine Af NO Ia (of_decide_eq_true rfl) ?_
  simp (disch:=omega) only [HZ,go_sem,Ab,h,Bb]
 have h2:=MX 299 (fun y=>!y.names) x.args (by omega) NP (by rw [Ia]) h1
 rw [Tm.Hm,← Tm.any_not]
 cases hv:AY x.name with
 | true =>
  have h3:=Dv x.name
  rw [hv] at h3
  refine Af EB Bb (of_decide_eq_true rfl) ?_
  simp (disch:=omega) only [D6,go_sem,Ab,h3,Ae]
  rw [KA]; cases x.args <;> simp <;> omega
 | false =>
  have h3:=Dv x.name
  rw [hv] at h3
  have h4:=RP x.name
  cases hs:E0 x.name with
  | false =>
   rw [hs] at h4
   refine Af EB Bb (of_decide_eq_true rfl) ?_
   simp (disch:=omega) only [D6,go_sem,Ab,h2,h3,h4,Ae,BB]
  | true =>
   rw [hs] at h4
   rcases zK 4 x.args.length with h5 | h5
   ·refine Af EB Bb (of_decide_eq_true rfl) ?_
    simp (disch:=omega) only [D6,go_sem,Ab,h2,h3,h4,Ae,BB]
    simp; omega
   ·refine Af EB Bb (of_decide_eq_true rfl) ?_
    simp (disch:=omega) only [D6,go_sem,Ab,h2,h3,h4,Ae,BB,Cd]
    simp [h5]
theorem JD (x:Tm) (hn:x.nodes≤1099511627776):E 245 [x.sv] []=some (.bool x.names,[]) :=
 Xs x hn fun y hy=>JD y (by have:=Tm.nodes_mem hy; have:=Tm.nodes_eq x; omega)
termination_by SizeOf.sizeOf x
decreasing_by exact Tm.lt_of_mem hy
def DX:SC:=(.seq (.reg [⟨some 1,none,.boxv 33 2 (.t 0)⟩,⟨some 2,none,.mv (.c (.bool false))⟩]) (.seq (.seq (.reg [⟨some 4,none,.faddr 0 (.t 1)⟩,⟨some 5,none,.load false 1 (.t 4)⟩,⟨some 6,none,.call 191 [(.t 5)]⟩]) (.cond (.t 6) (.seq (.reg [⟨some 7,none,.faddr 1 (.t 1)⟩,⟨some 8,none,.load false 1 (.t 7)⟩,⟨some 9,none,.len false (.t 8)⟩,⟨some 10,none,.bin .eql false (.t 9) (.c (.int .i64 0))⟩,⟨some 2,none,.mv (.t 10)⟩]) .ret) .skip)) (.seq (.seq (.reg [⟨some 11,none,.faddr 0 (.t 1)⟩,⟨some 12,none,.load false 1 (.t 11)⟩,⟨some 13,none,.call 265 [(.t 12)]⟩,⟨some 14,none,.un .not (.t 13)⟩,⟨some 15,none,.mv (.t 14)⟩,⟨(some 16),(some (15,false)),(.faddr 1 (.t 1))⟩,⟨(some 17),(some (15,false)),(.load false 1 (.t 16))⟩,⟨(some 18),(some (15,false)),(.len false (.t 17))⟩,⟨(some 19),(some (15,false)),(.bin .gtr false (.t 18) (.c (.int .i64 4)))⟩,⟨some 20,none,.pick (.t 15) (.c (.bool true)) (.t 19)⟩]) (.cond (.t 20) (.seq (.reg [⟨some 2,none,.mv (.c (.bool false))⟩]) .ret) .skip)) (.seq (.seq (.reg [⟨some 3,none,.mv (.c (.int .i64 0))⟩]) (.block 0 (.loop [0,1,0,1,0,0,0,0,0,0,0,0,0,0,0,0,0,0,0,0,0,0,0,0,0,0,0,0,0,0,0,0,0,0,0] (.seq (.seq (.reg [⟨some 21,none,.mv (.t 3)⟩,⟨some 22,none,.faddr 1 (.t 1)⟩,⟨some 23,none,.load false 1 (.t 22)⟩,⟨some 24,none,.len false (.t 23)⟩,⟨some 25,none,.bin .lss false (.t 21) (.t 24)⟩]) (.cond (.t 25) .skip (.exit 0))) (.seq (.block 1 (.seq (.reg [⟨some 28,none,.faddr 1 (.t 1)⟩,⟨some 29,none,.load false 1 (.t 28)⟩,⟨some 30,none,.mv (.t 3)⟩,⟨some 31,none,.iaddr 2 (.t 29) (.t 30)⟩,⟨some 32,none,.load true 2 (.t 31)⟩,⟨some 33,none,.call 264 [(.t 32)]⟩,⟨some 34,none,.un .not (.t 33)⟩]) (.cond (.t 34) (.seq (.reg [⟨some 2,none,.mv (.c (.bool false))⟩]) .ret) .skip))) (.reg [⟨some 26,none,.mv (.t 3)⟩,⟨some 27,none,.bin .add false (.t 26) (.c (.int .i64 1))⟩,⟨some 3,none,.mv (.t 27)⟩])))))) (.seq (.reg [⟨some 2,none,.mv (.c (.bool true))⟩]) .ret)))))
theorem Fb:codeOf Tryz.prog 264=some ⟨35,DX,[(.tmp 2)]⟩:=by kernel_rfl
theorem Bg:modes 264=⟨[],.asis,none,false⟩:=by unfold modes; rfl
theorem Zn (x:Tm) (hn:x.nodes≤1099511627776) (ih:∀ y∈x.args,E 264 [y.sv] []=some (.bool y.names,[])):E 264 [x.sv] []=some (.bool x.names,[]):=by
 have hl:=Tm.length_le x.args
 have hx:=Tm.nodes_eq x
 have h3:=Ek x.name
 have h4:=RQ x.name
 rw [Tm.Hm]
 cases hv:AY x.name with
 | true =>
  rw [hv] at h3
  refine Af Fb Bg (of_decide_eq_true rfl) ?_
  simp (disch:=omega) only [DX,go_sem,Ab,h3,Ak]
  rw [KA]; cases x.args <;> simp <;> omega
 | false =>
  rw [hv] at h3
  cases hs:E0 x.name with
  | false =>
   rw [hs] at h4
   refine Af Fb Bg (of_decide_eq_true rfl) ?_
   simp (disch:=omega) only [DX,go_sem,Ab,h3,h4,Ak,BC]
  | true =>
   rw [hs] at h4
   rcases zK 4 x.args.length with h5 | h5
   ·refine Af Fb Bg (of_decide_eq_true rfl) ?_
    simp (disch:=omega) only [DX,go_sem,Ab,h3,h4,Ak,BC]
    simp; omega
   ·refine Af Fb Bg (of_decide_eq_true rfl) ?_
    simp (disch:=omega) only [DX,go_sem,Ab,h3,h4,Ak,BC]
    refine go_loop (α:=Int) (fun a=>⟨slots 35 0 [(1,.ptr 0 0),(3,.int .i64 a)],[.box 33 [.str x.name,.arr (x.args.map Tm.d)]]⟩) (fun a=>∃ k:Nat,a=k∧k≤(x.args).length∧Tm.Gj (x.args.drop k)=Tm.Gj x.args) (fun a=>(x.args).length-(a).toNat) 0 ⟨0,rfl,zR _,by rw [zW]⟩ (by simp (disch:=omega) only [go_sem,Ab]) ?_
    rintro i ⟨k,hi,hk,hR⟩
    have hni:i.toNat=k:=by omega
    have hni1:(i+1).toNat=k+1:=by omega
    rcases zK k (x.args).length with hlt | hge
    ·have hg:=get_at Tm.d hlt
     rw [Tm.d_eq] at hg
     have hc:=ih x.args[k] (zH hlt)
     rw [zM hlt,Tm.Gj] at hR
     cases hp:x.args[k].names with
     | true =>
      rw [hp] at hc hR
      simp (disch:=omega) only [go_sem,Ab,hni,hg,hc,Bg]
      exact ⟨i+1,⟨k+1,by omega,hlt,by simpa using hR⟩,by omega,by first | trivial | rfl⟩
     | false =>
      rw [hp] at hc hR
      simp (disch:=omega) only [go_sem,Ab,hni,hg,hc,Bg]
      simp at hR ⊢; exact fun _=>hR
    ·rw [zP hge,Tm.Gj] at hR
     simp (disch:=omega) only [go_sem,Ab,hni]
     simp [h5,← hR]
theorem LQ (x:Tm) (hn:x.nodes≤1099511627776):E 264 [x.sv] []=some (.bool x.names,[]) :=
 Zn x hn fun y hy=>LQ y (by have:=Tm.nodes_mem hy; have:=Tm.nodes_eq x; omega)
termination_by SizeOf.sizeOf x
decreasing_by exact Tm.lt_of_mem hy
def Hn:SC:=(.seq (.reg [⟨some 1,none,.boxv 33 2 (.t 0)⟩,⟨some 2,none,.mv (.c (.bool false))⟩]) (.seq (.reg [⟨some 3,none,.load true 2 (.t 1)⟩,⟨some 4,none,.call 296 [(.t 3)]⟩,⟨some 5,none,.bin .leq false (.t 4) (.c (.int .i64 30))⟩,⟨some 6,none,.mv (.t 5)⟩,⟨(some 7),(some (6,true)),(.load true 2 (.t 1))⟩,⟨(some 8),(some (6,true)),(.call 297 [(.t 7)])⟩,⟨(some 9),(some (6,true)),(.bin .leq false (.t 8) (.c (.int .i64 8)))⟩,⟨some 10,none,.pick (.t 6) (.t 9) (.c (.bool false))⟩,⟨some 2,none,.mv (.t 10)⟩]) .ret))
theorem KR:codeOf Tryz.prog 244=some ⟨11,Hn,[(.tmp 2)]⟩:=by kernel_rfl
theorem BI:modes 244=⟨[],.asis,none,false⟩:=by unfold modes; rfl
def I5:SC:=(.seq (.reg [⟨some 1,none,.boxv 33 2 (.t 0)⟩,⟨some 2,none,.mv (.c (.bool false))⟩]) (.seq (.reg [⟨some 3,none,.load true 2 (.t 1)⟩,⟨some 4,none,.call 307 [(.t 3),(.c (.int .i64 30))]⟩,⟨some 5,none,.bin .leq false (.t 4) (.c (.int .i64 30))⟩,⟨some 6,none,.mv (.t 5)⟩,⟨(some 7),(some (6,true)),(.load true 2 (.t 1))⟩,⟨(some 8),(some (6,true)),(.call 308 [(.t 7)])⟩,⟨(some 9),(some (6,true)),(.bin .leq false (.t 8) (.c (.int .i64 8)))⟩,⟨some 10,none,.pick (.t 6) (.t 9) (.c (.bool false))⟩,⟨some 2,none,.mv (.t 10)⟩]) .ret))
theorem Mp:codeOf Tryz.prog 263=some ⟨11,I5,[(.tmp 2)]⟩:=by kernel_rfl
theorem BV:modes 263=⟨[],.asis,none,false⟩:=by unfold modes; rfl
def EJ:SC:=(.seq (.reg [⟨some 1,none,.boxv 33 2 (.t 0)⟩,⟨some 2,none,.mv (.c (.bool false))⟩]) (.seq (.reg [⟨some 3,none,.load true 2 (.t 1)⟩,⟨some 4,none,.call 244 [(.t 3)]⟩,⟨some 5,none,.mv (.t 4)⟩,⟨(some 6),(some (5,true)),(.load true 2 (.t 1))⟩,⟨(some 7),(some (5,true)),(.call 245 [(.t 6)])⟩,⟨some 8,none,.pick (.t 5) (.t 7) (.c (.bool false))⟩,⟨some 2,none,.mv (.t 8)⟩]) .ret))
theorem Ho:codeOf Tryz.prog 246=some ⟨9,EJ,[(.tmp 2)]⟩:=by kernel_rfl
theorem B8:modes 246=⟨[],.asis,none,false⟩:=by unfold modes; rfl
def I6:SC:=(.seq (.reg [⟨some 1,none,.boxv 33 2 (.t 0)⟩,⟨some 2,none,.mv (.c (.bool false))⟩]) (.seq (.reg [⟨some 3,none,.load true 2 (.t 1)⟩,⟨some 4,none,.call 263 [(.t 3)]⟩,⟨some 5,none,.mv (.t 4)⟩,⟨(some 6),(some (5,true)),(.load true 2 (.t 1))⟩,⟨(some 7),(some (5,true)),(.call 264 [(.t 6)])⟩,⟨some 8,none,.pick (.t 5) (.t 7) (.c (.bool false))⟩,⟨some 2,none,.mv (.t 8)⟩]) .ret))
theorem Mq:codeOf Tryz.prog 266=some ⟨9,I6,[(.tmp 2)]⟩:=by kernel_rfl
theorem C8:modes 266=⟨[],.asis,none,false⟩:=by unfold modes; rfl
def Ib:SC:=(.seq (.reg [⟨some 1,none,.boxv 33 2 (.t 0)⟩,⟨some 2,none,.mv (.c (.bool false))⟩]) (.seq (.reg [⟨some 3,none,.faddr 0 (.t 1)⟩,⟨some 4,none,.load false 1 (.t 3)⟩,⟨(some 5),none,(.bin .eql false (.t 4) (.c (.str ⟨#[61]⟩)))⟩,⟨some 2,none,.mv (.t 5)⟩]) .ret))
theorem NQ:codeOf Tryz.prog 243=some ⟨6,Ib,[(.tmp 2)]⟩:=by kernel_rfl
theorem A4:modes 243=⟨[],.asis,none,false⟩:=by unfold modes; rfl
def BO:SC:=(.seq (.reg [⟨some 1,none,.boxv 33 2 (.t 0)⟩,⟨some 2,none,.mv (.c (.bool false))⟩]) (.seq (.seq (.reg [⟨some 3,none,.load true 2 (.t 1)⟩,⟨some 4,none,.call 243 [(.t 3)]⟩]) (.cond (.t 4) (.seq (.reg [⟨some 5,none,.faddr 1 (.t 1)⟩,⟨some 6,none,.load false 1 (.t 5)⟩,⟨some 7,none,.len false (.t 6)⟩,⟨some 8,none,.bin .eql false (.t 7) (.c (.int .i64 2))⟩,⟨some 9,none,.mv (.t 8)⟩,⟨(some 10),(some (9,true)),(.load true 2 (.t 1))⟩,⟨(some 11),(some (9,true)),(.call 244 [(.t 10)])⟩,⟨some 12,none,.pick (.t 9) (.t 11) (.c (.bool false))⟩,⟨some 13,none,.mv (.t 12)⟩,⟨(some 14),(some (13,true)),(.faddr 1 (.t 1))⟩,⟨(some 15),(some (13,true)),(.load false 1 (.t 14))⟩,⟨(some 16),(some (13,true)),(.iaddr 2 (.t 15) (.c (.int .i64 0)))⟩,⟨(some 17),(some (13,true)),(.load true 2 (.t 16))⟩,⟨(some 18),(some (13,true)),(.call 245 [(.t 17)])⟩,⟨some 19,none,.pick (.t 13) (.t 18) (.c (.bool false))⟩,⟨some 20,none,.mv (.t 19)⟩,⟨(some 21),(some (20,true)),(.faddr 1 (.t 1))⟩,⟨(some 22),(some (20,true)),(.load false 1 (.t 21))⟩,⟨(some 23),(some (20,true)),(.iaddr 2 (.t 22) (.c (.int .i64 1)))⟩,⟨(some 24),(some (20,true)),(.load true 2 (.t 23))⟩,⟨(some 25),(some (20,true)),(.call 245 [(.t 24)])⟩,⟨some 26,none,.pick (.t 20) (.t 25) (.c (.bool false))⟩,⟨some 2,none,.mv (.t 26)⟩]) .ret) .skip)) (.seq (.reg [⟨some 27,none,.faddr 0 (.t 1)⟩,⟨some 28,none,.load false 1 (.t 27)⟩,⟨some 29,none,.call 184 [(.t 28)]⟩,⟨some 30,none,.mv (.t 29)⟩,⟨(some 31),(some (30,true)),(.load true 2 (.t 1))⟩,⟨(some 32),(some (30,true)),(.call 246 [(.t 31)])⟩,⟨some 33,none,.pick (.t 30) (.t 32) (.c (.bool false))⟩,⟨some 2,none,.mv (.t 33)⟩]) .ret)))
theorem Cj:codeOf Tryz.prog 178=some ⟨34,BO,[(.tmp 2)]⟩:=by kernel_rfl
theorem Ad:modes 178=⟨[],.asis,none,false⟩:=by unfold modes; rfl
def CX:SC:=(.seq (.reg [⟨some 1,none,.boxv 33 2 (.t 0)⟩,⟨some 2,none,.mv (.c (.bool false))⟩]) (.seq (.seq (.reg [⟨some 3,none,.faddr 0 (.t 1)⟩,⟨some 4,none,.load false 1 (.t 3)⟩,⟨(some 5),none,(.bin .eql false (.t 4) (.c (.str ⟨#[61]⟩)))⟩]) (.cond (.t 5) (.seq (.reg [⟨some 6,none,.faddr 1 (.t 1)⟩,⟨some 7,none,.load false 1 (.t 6)⟩,⟨some 8,none,.len false (.t 7)⟩,⟨some 9,none,.bin .eql false (.t 8) (.c (.int .i64 2))⟩,⟨some 10,none,.mv (.t 9)⟩,⟨(some 11),(some (10,true)),(.load true 2 (.t 1))⟩,⟨(some 12),(some (10,true)),(.call 263 [(.t 11)])⟩,⟨some 13,none,.pick (.t 10) (.t 12) (.c (.bool false))⟩,⟨some 14,none,.mv (.t 13)⟩,⟨(some 15),(some (14,true)),(.faddr 1 (.t 1))⟩,⟨(some 16),(some (14,true)),(.load false 1 (.t 15))⟩,⟨(some 17),(some (14,true)),(.iaddr 2 (.t 16) (.c (.int .i64 0)))⟩,⟨(some 18),(some (14,true)),(.load true 2 (.t 17))⟩,⟨(some 19),(some (14,true)),(.call 264 [(.t 18)])⟩,⟨some 20,none,.pick (.t 14) (.t 19) (.c (.bool false))⟩,⟨some 21,none,.mv (.t 20)⟩,⟨(some 22),(some (21,true)),(.faddr 1 (.t 1))⟩,⟨(some 23),(some (21,true)),(.load false 1 (.t 22))⟩,⟨(some 24),(some (21,true)),(.iaddr 2 (.t 23) (.c (.int .i64 1)))⟩,⟨(some 25),(some (21,true)),(.load true 2 (.t 24))⟩,⟨(some 26),(some (21,true)),(.call 264 [(.t 25)])⟩,⟨some 27,none,.pick (.t 21) (.t 26) (.c (.bool false))⟩,⟨some 2,none,.mv (.t 27)⟩]) .ret) .skip)) (.seq (.reg [⟨some 28,none,.faddr 0 (.t 1)⟩,⟨some 29,none,.load false 1 (.t 28)⟩,⟨some 30,none,.call 265 [(.t 29)]⟩,⟨some 31,none,.mv (.t 30)⟩,⟨(some 32),(some (31,true)),(.load true 2 (.t 1))⟩,⟨(some 33),(some (31,true)),(.call 266 [(.t 32)])⟩,⟨some 34,none,.pick (.t 31) (.t 33) (.c (.bool false))⟩,⟨some 2,none,.mv (.t 34)⟩]) .ret)))
theorem DE:codeOf Tryz.prog 194=some ⟨35,CX,[(.tmp 2)]⟩:=by kernel_rfl
theorem Al:modes 194=⟨[],.asis,none,false⟩:=by unfold modes; rfl
theorem Ug (x:Tm) (hn:x.nodes≤1099511627776):E 244 [x.sv] []=some (.bool x.small,[]):=by
 have h1:=Qc2 x hn
 have h2:=Qau x hn
 have h3:=Tm.cap_spec x
 have h4:=Tm.many_spec x 30
 unfold Tm.small
 rcases zK 30 x.nodes with h5 | h5
 ·rw [decide_eq_false (by omega),yD]
  refine Af KR BI (of_decide_eq_true rfl) ?_
  simp (disch:=omega) only [Hn,go_sem,Ab,h1,h2,Gk,GG]
 ·rw [decide_eq_true h5,yQ]
  refine Af KR BI (of_decide_eq_true rfl) ?_
  simp (disch:=omega) only [Hn,go_sem,Ab,h1,h2,Gk,GG]
  rcases zK 8 x.deep with h6 | h6
  ·rw [decide_eq_false (by omega),Aj (by omega)]
  ·rw [decide_eq_true h6,An (by omega)]
theorem Xt (x:Tm) (hn:x.nodes≤1099511627776):E 263 [x.sv] []=some (.bool x.small,[]):=by
 have h1:=Qc3 x 30 (by omega) (by omega) hn
 have h2:=Uf x hn
 have h3:=Tm.cap_spec x
 have h4:=Tm.many_spec x 30
 unfold Tm.small
 rcases zK 30 x.nodes with h5 | h5
 ·rw [decide_eq_false (by omega),yD]
  refine Af Mp BV (of_decide_eq_true rfl) ?_
  simp (disch:=omega) only [I5,go_sem,Ab,h1,h2,E1,Fa]
 ·rw [decide_eq_true h5,yQ]
  refine Af Mp BV (of_decide_eq_true rfl) ?_
  simp (disch:=omega) only [I5,go_sem,Ab,h1,h2,E1,Fa]
  rcases zK 8 x.deep with h6 | h6
  ·rw [decide_eq_false (by omega),Aj (by omega)]
  ·rw [decide_eq_true h6,An (by omega)]
theorem SZ (x:Tm) (hn:x.nodes≤1099511627776):E 246 [x.sv] []=some (.bool x.valid,[]):=by
 have h1:=Ug x hn
 have h2:=JD x hn
 unfold Tm.valid
 cases h3:x.small <;> rw [h3] at h1
 ·refine Af Ho B8 (of_decide_eq_true rfl) ?_
  simp (disch:=omega) only [EJ,go_sem,Ab,h1,h2,BI,Bb]
 ·refine Af Ho B8 (of_decide_eq_true rfl) ?_
  simp (disch:=omega) only [EJ,go_sem,Ab,h1,h2,BI,Bb]
theorem Qc6 (x:Tm) (hn:x.nodes≤1099511627776):E 266 [x.sv] []=some (.bool x.valid,[]):=by
 have h1:=Xt x hn
 have h2:=LQ x hn
 unfold Tm.valid
 cases h3:x.small <;> rw [h3] at h1
 ·refine Af Mq C8 (of_decide_eq_true rfl) ?_
  simp (disch:=omega) only [I6,go_sem,Ab,h1,h2,BV,Bg]
 ·refine Af Mq C8 (of_decide_eq_true rfl) ?_
  simp (disch:=omega) only [I6,go_sem,Ab,h1,h2,BV,Bg]
theorem JE (x:Tm):E 243 [x.sv] []=some (.bool x.eqn,[]):=by
 unfold Tm.eqn
 refine Af NQ A4 (of_decide_eq_true rfl) ?_
 simp (disch:=omega) only [Ib,go_sem,Ab]
theorem Mr (x:Tm) (hn:x.nodes≤1099511627776):E 178 [x.sv] []=some (.bool x.atom,[]):=by
 have hl:=Tm.length_le x.args
 have hx:=Tm.nodes_eq x
 have h0:=JE x
 have h1:=Ug x hn
 have h2:=RP x.name
 have h3:=SZ x hn
 have hE:dec (x.name=⟨#[61]⟩)=x.eqn:=rfl
 unfold Tm.atom
 cases he:x.eqn <;> rw [he] at h0 hE
 ·rw [if_neg (by simp)]
  cases hs:E0 x.name <;> rw [hs] at h2
  ·refine Af Cj Ad (of_decide_eq_true rfl) ?_
   simp (disch:=omega) only [BO,go_sem,Ab,h0,h1,h2,h3,hE,BI,Bb,BB,B8,A4]
  ·refine Af Cj Ad (of_decide_eq_true rfl) ?_
   simp (disch:=omega) only [BO,go_sem,Ab,h0,h1,h2,h3,hE,BI,Bb,BB,B8,A4]
 ·rw [if_pos rfl]
  by_cases hc:x.args.length=2
  ·have hlt0:0<x.args.length:=by omega
   have hlt1:1<x.args.length:=by omega
   have hg0:=get_at Tm.d hlt0
   have hg1:=get_at Tm.d hlt1
   rw [Tm.d_eq] at hg0 hg1
   have hb0:=Tm.nodes_le x.args 0 hlt0
   have hb1:=Tm.nodes_le x.args 1 hlt1
   have hn0:=JD x.args[0] (by omega)
   have hn1:=JD x.args[1] (by omega)
   rw [Ue hc,show (x.args.length == 2)=true by simpa using hc]
   cases hs:x.small <;> rw [hs] at h1
   ·refine Af Cj Ad (of_decide_eq_true rfl) ?_
    simp (disch:=omega) only [BO,go_sem,Ab,h0,h1,h2,h3,hE,hg0,hg1,hn0,hn1,hc,BI,Bb,BB,B8,A4]
    try simp
   ·cases hq:(x.args[0]'hlt0).names <;> rw [hq] at hn0
    ·refine Af Cj Ad (of_decide_eq_true rfl) ?_
     simp (disch:=omega) only [BO,go_sem,Ab,h0,h1,h2,h3,hE,hg0,hg1,hn0,hn1,hc,BI,Bb,BB,B8,A4]
     try simp
    ·refine Af Cj Ad (of_decide_eq_true rfl) ?_
     simp (disch:=omega) only [BO,go_sem,Ab,h0,h1,h2,h3,hE,hg0,hg1,hn0,hn1,hc,BI,Bb,BB,B8,A4]
     try simp
  ·refine Af Cj Ad (of_decide_eq_true rfl) ?_
   simp (disch:=omega) only [BO,go_sem,Ab,h0,h1,h2,h3,hE,BI,Bb,BB,B8,A4]
   rw [show (x.args.length == 2)=false by simpa using hc]
   try simp
theorem Xu (x:Tm) (hn:x.nodes≤1099511627776):E 194 [x.sv] []=some (.bool x.atom,[]):=by
 have hl:=Tm.length_le x.args
 have hx:=Tm.nodes_eq x
 have h0:=JE x
 have h1:=Xt x hn
 have h2:=RQ x.name
 have h3:=Qc6 x hn
 have hE:dec (x.name=⟨#[61]⟩)=x.eqn:=rfl
 unfold Tm.atom
 cases he:x.eqn <;> rw [he] at h0 hE
 ·rw [if_neg (by simp)]
  cases hs:E0 x.name <;> rw [hs] at h2
  ·refine Af DE Al (of_decide_eq_true rfl) ?_
   simp (disch:=omega) only [CX,go_sem,Ab,h0,h1,h2,h3,hE,BV,Bg,BC,C8]
  ·refine Af DE Al (of_decide_eq_true rfl) ?_
   simp (disch:=omega) only [CX,go_sem,Ab,h0,h1,h2,h3,hE,BV,Bg,BC,C8]
 ·rw [if_pos rfl]
  by_cases hc:x.args.length=2
  ·have hlt0:0<x.args.length:=by omega
   have hlt1:1<x.args.length:=by omega
   have hg0:=get_at Tm.d hlt0
   have hg1:=get_at Tm.d hlt1
   rw [Tm.d_eq] at hg0 hg1
   have hb0:=Tm.nodes_le x.args 0 hlt0
   have hb1:=Tm.nodes_le x.args 1 hlt1
   have hn0:=LQ x.args[0] (by omega)
   have hn1:=LQ x.args[1] (by omega)
   rw [Ue hc,show (x.args.length == 2)=true by simpa using hc]
   cases hs:x.small <;> rw [hs] at h1
   ·refine Af DE Al (of_decide_eq_true rfl) ?_
    simp (disch:=omega) only [CX,go_sem,Ab,h0,h1,h2,h3,hE,hg0,hg1,hn0,hn1,hc,BV,Bg,BC,C8]
    try simp
   ·cases hq:(x.args[0]'hlt0).names <;> rw [hq] at hn0
    ·refine Af DE Al (of_decide_eq_true rfl) ?_
     simp (disch:=omega) only [CX,go_sem,Ab,h0,h1,h2,h3,hE,hg0,hg1,hn0,hn1,hc,BV,Bg,BC,C8]
     try simp
    ·refine Af DE Al (of_decide_eq_true rfl) ?_
     simp (disch:=omega) only [CX,go_sem,Ab,h0,h1,h2,h3,hE,hg0,hg1,hn0,hn1,hc,BV,Bg,BC,C8]
     try simp
  ·refine Af DE Al (of_decide_eq_true rfl) ?_
   simp (disch:=omega) only [CX,go_sem,Ab,h0,h1,h2,h3,hE,BV,Bg,BC,C8]
   rw [show (x.args.length == 2)=false by simpa using hc]
   try simp
theorem OU {xs ys:List Tm} {k:Nat} (h:k<xs.length) (h':k<ys.length):Tm.CG (xs.drop k) (ys.drop k)=orZ (xs[k].cmp ys[k]) (Tm.CG (xs.drop (k+1)) (ys.drop (k+1))):=by
 rw [zM h,zM h',Tm.CG]
theorem RS {xs ys:List Tm} {k:Nat} (h:k<xs.length) (h':ys.length≤k):Tm.CG (xs.drop k) (ys.drop k)=1:=by
 rw [zM h,zP h',Tm.CG]
theorem Xv {xs ys:List Tm} {k:Nat} (h:xs.length≤k) (h':k<ys.length):Tm.CG (xs.drop k) (ys.drop k)=-1:=by
 rw [zM h',zP h,Tm.CG]
theorem OV {xs ys:List Tm} {k:Nat} (h:xs.length≤k) (h':ys.length≤k):Tm.CG (xs.drop k) (ys.drop k)=0:=by
 rw [zP h',zP h,Tm.CG]
theorem Hp {p:Nat→Int→Bool} {s:ByteArray} (h:F2 p s s.size=true) (hs:0<s.size):p 0 (Kd s 0)=true:=by
 unfold F2 at h
 rw [List.all_eq_true] at h
 exact h 0 (yJ.2 hs)
theorem Qbl {s:ByteArray} (h:AY s=true):Ml s=true:=by
 have h0:=h
 unfold AY inB at h
 rw [zB,zB,decide_eq_true_eq,decide_eq_true_eq] at h
 have hs:0<s.size:=by omega
 have h1:=Hp h.1 hs
 unfold Ke at h1
 unfold Ml
 rw [h0]
 simp at h1
 simp [hs,h1]
theorem Uh {s:ByteArray} (hs:0<s.size) (h:RD (Kd s 0)=false):Ml s=true:=by
 have hv:AY s=false:=by
  rw [Bool.eq_false_iff]
  intro hv
  unfold AY at hv
  rw [zB] at hv
  have h1:=Hp hv.1 hs
  unfold Ke at h1
  rw [h] at h1
  simp at h1
 unfold Ml
 rw [hv,h]
 simp [hs]
theorem Qbm {s:ByteArray} (h:E0 s=true):Ml s=true:=by
 unfold E0 inB at h
 rw [zB,zB,zB,decide_eq_true_eq,decide_eq_true_eq] at h
 have hs:0<s.size:=by omega
 refine Uh hs ?_
 have h1:=Hp h.1.1 hs
 unfold KI at h1
 simp at h1
 have h2:=h1.1
 unfold Vi at h2
 unfold RD
 simp at h2 ⊢
 omega
theorem Qbn {s:ByteArray} (h:s.toList=[61]):Ml s=true:=by
 have hs:s.size=1:=by
  have:=congrArg List.length h
  rw [ByteArray.toList_eq] at this
  simpa using this
 refine Uh (by omega) ?_
 unfold Kd
 rw [h]
 rfl
mutual
theorem Tm.OW:∀ x:Tm,x.names=true→x.cok=true
 | .mk n xs,h=>by
  rw [Tm.names] at h
  rw [Tm.cok,zB]
  split at h
  ·rename_i hv
   have:xs=[]:=by
    rw [beq_iff_eq] at h
    exact zU h
   subst this
   exact ⟨Qbl hv,rfl⟩
  ·rw [zB,zB] at h
   exact ⟨Qbm h.1.1,Tm.MY xs h.2⟩
theorem Tm.MY:∀ xs:List Tm,Tm.Gj xs=true→Tm.YR xs=true
 | [],_=>rfl
 | x :: xs,h=>by
  rw [Tm.Gj,zB] at h
  rw [Tm.YR,zB]
  exact ⟨Tm.OW x h.1,Tm.MY xs h.2⟩
end
theorem Tm.IZ {x:Tm} (h:x.atom=true):x.cok=true:=by
 unfold Tm.atom at h
 rcases he:x.eqn with _ | _
 ·rw [he,if_neg (by simp),zB] at h
  unfold Tm.valid at h
  rw [zB] at h
  exact Tm.OW x h.2.2
 ·rw [he,if_pos rfl,zB,zB] at h
  unfold Tm.eqn at he
  rw [Aq] at he
  rw [Tm.MR,zB]
  exact ⟨Qbn (by rw [he,ByteArray.toList_eq]),Tm.MY _ h.2⟩
theorem Qbo {s:ByteArray} {k:Nat} (h:k<s.size):Jy s k=Kd s k:=by
 rw [←FE h]
 unfold Jy
 rw [show s[k]?=some s[k] from getElem?_pos s k h]; rfl
theorem Ui {s:ByteArray} (h:Ml s=true):0<s.size∧(dec (65≤Jy s 0)&&dec (Jy s 0≤90))=AY s:=by
 unfold Ml at h
 rw [zB,decide_eq_true_eq,beq_iff_eq] at h
 refine ⟨h.1,?_⟩
 rw [←h.2,Qbo h.1,KA,KA]
 unfold RD
 rfl
theorem MZ (a:ByteArray):strLt a a=false:=by
 unfold strLt
 have key:∀ l:List UInt8,Op.bytesLess l l=false:=by
  intro l
  induction l with
  | nil=>rfl
  | cons x l ih=>simp [Op.bytesLess,ih]
 exact key _
def CI:SC:=(.seq (.reg [⟨some 2,none,.mv (.c (.bool false))⟩]) (.seq (.reg [⟨some 3,none,.mv (.t 0)⟩,⟨some 4,none,.mv (.t 0)⟩,⟨some 5,none,.bin .neq false (.t 3) (.t 4)⟩,⟨some 2,none,.mv (.t 5)⟩]) .ret))
theorem EK:codeOf Tryz.prog 305=some ⟨6,CI,[(.tmp 2)]⟩:=by kernel_rfl
theorem By:modes 305=⟨[],.asis,none,false⟩:=by unfold modes; rfl
def D7:SC:=(.seq (.reg [⟨some 2,none,.mv (.c (.bool false))⟩]) (.seq (.reg [⟨some 3,none,.mv (.t 0)⟩,⟨some 4,none,.mv (.t 0)⟩,⟨some 5,none,.bin .neq false (.t 3) (.t 4)⟩,⟨some 2,none,.mv (.t 5)⟩]) .ret))
theorem Gx:codeOf Tryz.prog 314=some ⟨6,D7,[(.tmp 2)]⟩:=by kernel_rfl
theorem BK:modes 314=⟨[],.asis,none,false⟩:=by unfold modes; rfl
def Bh:SC:=(.seq (.reg [⟨some 4,none,.mv (.c (.int .i64 0))⟩]) (.seq (.reg [⟨some 7,none,.mv (.t 0)⟩,⟨some 8,none,.call 305 [(.t 7)]⟩,⟨some 5,none,.mv (.t 8)⟩]) (.seq (.reg [⟨some 9,none,.mv (.t 1)⟩,⟨some 10,none,.call 305 [(.t 9)]⟩,⟨some 6,none,.mv (.t 10)⟩]) (.seq (.seq (.reg [⟨some 11,none,.mv (.t 5)⟩]) (.cond (.t 11) (.seq (.seq (.reg [⟨some 12,none,.mv (.t 6)⟩]) (.cond (.t 12) (.seq (.reg [⟨some 4,none,.mv (.c (.int .i64 0))⟩]) .ret) .skip)) (.seq (.reg [⟨some 4,none,.mv (.c (.int .i64 (-(0+1))))⟩]) .ret)) .skip)) (.seq (.seq (.reg [⟨some 13,none,.mv (.t 6)⟩]) (.cond (.t 13) (.seq (.reg [⟨some 4,none,.mv (.c (.int .i64 1))⟩]) .ret) .skip)) (.seq (.seq (.reg [⟨some 14,none,.mv (.t 0)⟩,⟨some 15,none,.mv (.t 1)⟩,⟨some 16,none,.bin .lss false (.t 14) (.t 15)⟩]) (.cond (.t 16) (.seq (.reg [⟨some 4,none,.mv (.c (.int .i64 (-(0+1))))⟩]) .ret) .skip)) (.seq (.seq (.reg [⟨some 17,none,.mv (.t 0)⟩,⟨some 18,none,.mv (.t 1)⟩,⟨some 19,none,.bin .gtr false (.t 17) (.t 18)⟩]) (.cond (.t 19) (.seq (.reg [⟨some 4,none,.mv (.c (.int .i64 1))⟩]) .ret) .skip)) (.seq (.reg [⟨some 4,none,.mv (.c (.int .i64 0))⟩]) .ret))))))))
theorem B9:codeOf Tryz.prog 283=some ⟨20,Bh,[(.tmp 4)]⟩:=by kernel_rfl
theorem AH:modes 283=⟨[],.asis,none,false⟩:=by unfold modes; rfl
def B6:SC:=(.seq (.reg [⟨some 4,none,.mv (.c (.int .i64 0))⟩]) (.seq (.reg [⟨some 7,none,.mv (.t 0)⟩,⟨some 8,none,.call 314 [(.t 7)]⟩,⟨some 5,none,.mv (.t 8)⟩]) (.seq (.reg [⟨some 9,none,.mv (.t 1)⟩,⟨some 10,none,.call 314 [(.t 9)]⟩,⟨some 6,none,.mv (.t 10)⟩]) (.seq (.seq (.reg [⟨some 11,none,.mv (.t 5)⟩]) (.cond (.t 11) (.seq (.seq (.reg [⟨some 12,none,.mv (.t 6)⟩]) (.cond (.t 12) (.seq (.reg [⟨some 4,none,.mv (.c (.int .i64 0))⟩]) .ret) .skip)) (.seq (.reg [⟨some 4,none,.mv (.c (.int .i64 (-(0+1))))⟩]) .ret)) .skip)) (.seq (.seq (.reg [⟨some 13,none,.mv (.t 6)⟩]) (.cond (.t 13) (.seq (.reg [⟨some 4,none,.mv (.c (.int .i64 1))⟩]) .ret) .skip)) (.seq (.seq (.reg [⟨some 14,none,.mv (.t 0)⟩,⟨some 15,none,.mv (.t 1)⟩,⟨some 16,none,.bin .lss false (.t 14) (.t 15)⟩]) (.cond (.t 16) (.seq (.reg [⟨some 4,none,.mv (.c (.int .i64 (-(0+1))))⟩]) .ret) .skip)) (.seq (.seq (.reg [⟨some 17,none,.mv (.t 0)⟩,⟨some 18,none,.mv (.t 1)⟩,⟨some 19,none,.bin .gtr false (.t 17) (.t 18)⟩]) (.cond (.t 19) (.seq (.reg [⟨some 4,none,.mv (.c (.int .i64 1))⟩]) .ret) .skip)) (.seq (.reg [⟨some 4,none,.mv (.c (.int .i64 0))⟩]) .ret))))))))
theorem BW:codeOf Tryz.prog 274=some ⟨20,B6,[(.tmp 4)]⟩:=by kernel_rfl
theorem AI:modes 274=⟨[],.asis,none,false⟩:=by unfold modes; rfl
def Fc:SC:=(.seq (.reg [⟨some 2,none,.mv (.c (.int .i64 0))⟩]) (.seq (.reg [⟨some 3,none,.mv (.c (.int .i64 0))⟩]) (.seq (.seq (.reg [⟨some 6,none,.mv (.t 0)⟩,⟨some 7,none,.len false (.t 6)⟩,⟨some 8,none,.mv (.c (.int .i64 0))⟩]) (.block 0 (.loop [0,0,0,1,0,0,1,1,1,0,0,0,0,0,0,0,0,0] (.seq (.reg [⟨some 9,none,.bin .lss false (.t 8) (.t 7)⟩]) (.seq (.cond (.t 9) .skip (.exit 0)) (.seq (.block 1 (.seq (.reg [⟨some 10,none,.iaddr 1 (.t 6) (.t 8)⟩,⟨some 11,none,.load false 1 (.t 10)⟩,⟨some 5,none,.mv (.t 11)⟩]) (.seq (.reg [⟨some 12,none,.mv (.t 5)⟩,⟨some 13,none,.mv (.t 3)⟩,⟨some 14,none,.bin .neq false (.t 12) (.t 13)⟩]) (.cond (.t 14) (.seq (.reg [⟨some 15,none,.mv (.t 5)⟩,⟨some 2,none,.mv (.t 15)⟩]) .ret) .skip)))) (.reg [⟨some 16,none,.bin .add false (.t 8) (.c (.int .i64 1))⟩,⟨some 8,none,.mv (.t 16)⟩]))))))) (.seq (.reg [⟨some 17,none,.mv (.t 3)⟩,⟨some 2,none,.mv (.t 17)⟩]) .ret))))
theorem JF:codeOf Tryz.prog 272=some ⟨18,Fc,[(.tmp 2)]⟩:=by kernel_rfl
theorem C3:modes 272=⟨[],.asis,none,false⟩:=by unfold modes; rfl
theorem KS (a:ByteArray):E 305 [.str a] []=some (.bool false,[]):=by
 refine Af EK By (of_decide_eq_true rfl) ?_
 simp (disch:=omega) only [CI,go_sem,Ab]
theorem KT (a:Int):E 314 [.int .i64 a] []=some (.bool false,[]):=by
 refine Af Gx BK (of_decide_eq_true rfl) ?_
 simp (disch:=omega) only [D7,go_sem,Ab]
theorem Na (a b:ByteArray):E 283 [.str a,.str b] []=some (.int .i64 (Gi a b),[]):=by
 have h1:=KS a
 have h2:=KS b
 unfold Gi
 cases h3:strLt a b
 ·cases h4:dec (a=b)
  ·refine Af B9 AH (of_decide_eq_true rfl) ?_
   simp (disch:=omega) only [Bh,go_sem,Ab,h1,h2,h3,h4,By]
  ·refine Af B9 AH (of_decide_eq_true rfl) ?_
   simp (disch:=omega) only [Bh,go_sem,Ab,h1,h2,h3,h4,By]
 ·refine Af B9 AH (of_decide_eq_true rfl) ?_
  simp (disch:=omega) only [Bh,go_sem,Ab,h1,h2,h3,By]
theorem Hq (a b:Int):E 274 [.int .i64 a,.int .i64 b] []=some (.int .i64 (Hg a b),[]):=by
 have h1:=KT a
 have h2:=KT b
 unfold Hg
 cases h3:dec (a<b)
 ·cases h4:dec (b<a)
  ·refine Af BW AI (of_decide_eq_true rfl) ?_
   simp (disch:=omega) only [B6,go_sem,Ab,h1,h2,h3,h4,BK]
  ·refine Af BW AI (of_decide_eq_true rfl) ?_
   simp (disch:=omega) only [B6,go_sem,Ab,h1,h2,h3,h4,BK]
 ·refine Af BW AI (of_decide_eq_true rfl) ?_
  simp (disch:=omega) only [B6,go_sem,Ab,h1,h2,h3,BK]
def orL:List Int→Int
 | []=>0
 | x :: xs=>if x=0 then orL xs else x
theorem QeP (xs:List Int) (hl:xs.length≤1099511627776):E 272 [.arr (xs.map fun n=>[D.int n])] []=some (.int .i64 (orL xs),[]):=by
 refine Af JF C3 (of_decide_eq_true rfl) ?_
 simp (disch:=omega) only [Fc,go_sem,Ab]
 refine go_loop (α:=Int) (fun a=>⟨slots 18 0 [(3,.int .i64 0),(6,.arr (xs.map fun n=>[D.int n])),(7,.int .i64 xs.length),(8,.int .i64 a)],[]⟩) (fun a=>∃ k:Nat,a=k∧k≤(xs).length∧orL (xs.drop k)=orL xs) (fun a=>(xs).length-(a).toNat) 0 ⟨0,rfl,zR _,by rw [zW]⟩ (by simp (disch:=omega) only [go_sem,Ab]) ?_
 rintro i ⟨k,hi,hk,hR⟩
 have hni:i.toNat=k:=by omega
 have hni1:(i+1).toNat=k+1:=by omega
 rcases zK k (xs).length with hlt | hge
 ·have hg:=get_at (fun n=>[D.int n]) hlt
  rw [zM hlt,orL] at hR
  by_cases h0:xs[k]=0
  ·rw [if_pos h0] at hR
   simp (disch:=omega) only [go_sem,Ab,hni,hg,h0]
   exact ⟨i+1,⟨k+1,by omega,hlt,hR⟩,by omega,by first | trivial | rfl⟩
  ·rw [if_neg h0] at hR
   simp (disch:=omega) only [go_sem,Ab,hni,hg,h0]
   exact hR
 ·rw [zP hge,orL] at hR
  simp (disch:=omega) only [go_sem,Ab,hni]
  exact hR
theorem Xw (a b:Int):E 272 [.arr [[.int a],[.int b]]] []=some (.int .i64 (orZ a b),[]):=by
 have h:=QeP [a,b] (by simp)
 have e:orL [a,b]=orZ a b:=by
  simp only [orL,orZ]
  split
  ·split <;> omega
  ·rfl
 rw [e] at h
 exact h
def CJ:SC:=(.seq (.reg [⟨some 2,none,.mv (.c (.bool false))⟩]) (.seq (.reg [⟨some 3,none,.mv (.t 0)⟩,⟨some 4,none,.bin .geq false (.t 3) (.c (.int .u8 65))⟩,⟨some 5,none,.mv (.t 4)⟩,⟨(some 6),(some (5,true)),(.mv (.t 0))⟩,⟨(some 7),(some (5,true)),(.bin .leq false (.t 6) (.c (.int .u8 90)))⟩,⟨some 8,none,.pick (.t 5) (.t 7) (.c (.bool false))⟩,⟨some 2,none,.mv (.t 8)⟩]) .ret))
theorem DY:codeOf Tryz.prog 240=some ⟨9,CJ,[(.tmp 2)]⟩:=by kernel_rfl
theorem CK:modes 240=⟨[],.asis,none,false⟩:=by unfold modes; rfl
def Fd:SC:=(.seq (.reg [⟨some 1,none,.boxv 33 2 (.t 0)⟩,⟨some 2,none,.mv (.c (.bool false))⟩]) (.seq (.reg [⟨some 3,none,.faddr 0 (.t 1)⟩,⟨some 4,none,.load false 1 (.t 3)⟩,⟨some 5,none,.idx (.t 4) (.c (.int .i64 0))⟩,⟨some 6,none,.call 240 [(.t 5)]⟩,⟨some 2,none,.mv (.t 6)⟩]) .ret))
theorem JG:codeOf Tryz.prog 209=some ⟨7,Fd,[(.tmp 2)]⟩:=by kernel_rfl
theorem Cp:modes 209=⟨[],.asis,none,false⟩:=by unfold modes; rfl
theorem OX (n:Int):E 240 [.int .u8 n] []=some (.bool (dec (65≤n)&&dec (n≤90)),[]):=by
 cases h1:dec (65≤n)
 ·refine Af DY CK (of_decide_eq_true rfl) ?_
  simp (disch:=omega) only [CJ,go_sem,Ab,h1]
 ·refine Af DY CK (of_decide_eq_true rfl) ?_
  simp (disch:=omega) only [CJ,go_sem,Ab,h1]
theorem LR (x:Tm) (h:x.cok=true):E 209 [x.sv] []=some (.bool (AY x.name),[]):=by
 rw [Tm.MR,zB] at h
 obtain ⟨h1,h2⟩:=Ui h.1
 have h3:=OX (Jy x.name 0)
 rw [h2] at h3
 refine Af JG Cp (of_decide_eq_true rfl) ?_
 simp (disch:=omega) only [Fd,go_sem,Ab,h3,CK]
def Au:SC:=(.seq (.reg [⟨some 6,none,.mv (.c (.int .i64 0))⟩]) (.seq (.seq (.reg [⟨some 11,none,.mv (.t 0)⟩,⟨some 12,none,.len false (.t 11)⟩,⟨some 13,none,.mv (.c (.int .i64 0))⟩]) (.block 0 (.loop [1,1,1,0,0,0,0,0,0,0,0,1,1,1,0,0,0,0,0,0,0,0,0,0,0,0,0,0,0,0,0,0,0,0,0,0,0,0,0] (.seq (.reg [⟨some 14,none,.bin .lss false (.t 13) (.t 12)⟩]) (.seq (.cond (.t 14) .skip (.exit 0)) (.seq (.block 1 (.seq (.reg [⟨some 15,none,.mv (.t 13)⟩,⟨some 16,none,.iaddr 2 (.t 11) (.t 13)⟩,⟨some 17,none,.load true 2 (.t 16)⟩,⟨(some 8),none,(.alloc 33 [(.str ⟨#[]⟩),.nil])⟩,⟨some 7,none,.mv (.t 15)⟩,⟨none,none,(.store 2 (.t 8) (.t 17))⟩]) (.seq (.seq (.reg [⟨some 18,none,.mv (.t 7)⟩,⟨some 19,none,.mv (.t 1)⟩,⟨some 20,none,.len false (.t 19)⟩,⟨some 21,none,.bin .geq false (.t 18) (.t 20)⟩]) (.cond (.t 21) (.seq (.reg [⟨some 6,none,.mv (.c (.int .i64 1))⟩]) .ret) .skip)) (.seq (.reg [⟨some 22,none,.mv (.t 1)⟩,⟨some 23,none,.mv (.t 7)⟩,⟨some 24,none,.iaddr 2 (.t 22) (.t 23)⟩,⟨some 25,none,.load true 2 (.t 24)⟩,⟨(some 9),none,(.alloc 33 [(.str ⟨#[]⟩),.nil])⟩,⟨none,none,(.store 2 (.t 9) (.t 25))⟩]) (.seq (.reg [⟨some 26,none,.mv (.t 2)⟩,⟨some 27,none,.load true 2 (.t 8)⟩,⟨some 28,none,.load true 2 (.t 9)⟩,⟨some 29,none,.callv (.t 26) [(.t 27),(.t 28)]⟩,⟨some 10,none,.mv (.t 29)⟩]) (.seq (.reg [⟨some 30,none,.mv (.t 10)⟩,⟨some 31,none,.bin .neq false (.t 30) (.c (.int .i64 0))⟩]) (.cond (.t 31) (.seq (.reg [⟨some 32,none,.mv (.t 10)⟩,⟨some 6,none,.mv (.t 32)⟩]) .ret) .skip))))))) (.reg [⟨some 33,none,.bin .add false (.t 13) (.c (.int .i64 1))⟩,⟨some 13,none,.mv (.t 33)⟩]))))))) (.seq (.seq (.reg [⟨some 34,none,.mv (.t 0)⟩,⟨some 35,none,.len false (.t 34)⟩,⟨some 36,none,.mv (.t 1)⟩,⟨some 37,none,.len false (.t 36)⟩,⟨some 38,none,.bin .lss false (.t 35) (.t 37)⟩]) (.cond (.t 38) (.seq (.reg [⟨some 6,none,.mv (.c (.int .i64 (-(0+1))))⟩]) .ret) .skip)) (.seq (.reg [⟨some 6,none,.mv (.c (.int .i64 0))⟩]) .ret))))
theorem AA:codeOf Tryz.prog 313=some ⟨39,Au,[(.tmp 6)]⟩:=by kernel_rfl
theorem Av:modes 313=⟨[],.asis,none,false⟩:=by unfold modes; rfl
def BE:SC:=(.seq (.reg [⟨some 2,none,.boxv 33 2 (.t 0)⟩,⟨some 3,none,.boxv 33 2 (.t 1)⟩,⟨some 4,none,.mv (.c (.int .i64 0))⟩]) (.seq (.dreg [[],[0],[],[2,1,0],[1,0,3,2],[3,2,1,0,4]] [⟨some 8,none,.load true 2 (.t 2)⟩,⟨some 9,none,.call 209 [(.t 8)]⟩,⟨some 10,none,.load true 2 (.t 3)⟩,⟨some 11,none,.call 209 [(.t 10)]⟩,⟨some 5,none,.mv (.t 9)⟩,⟨some 6,none,.mv (.t 11)⟩]) (.seq (.block 0 (.seq (.reg [⟨some 13,none,.mv (.t 5)⟩,⟨some 14,none,.mv (.t 13)⟩,⟨(some 15),(some (14,true)),(.mv (.t 6))⟩,⟨(some 16),(some (14,true)),(.un .not (.t 15))⟩,⟨some 17,none,.pick (.t 14) (.t 16) (.c (.bool false))⟩,⟨some 12,none,.mv (.t 17)⟩]) (.cond (.t 12) (.seq (.reg [⟨some 4,none,.mv (.c (.int .i64 (-(0+1))))⟩]) .ret) (.seq (.reg [⟨some 19,none,.mv (.t 6)⟩,⟨some 20,none,.mv (.t 19)⟩,⟨(some 21),(some (20,true)),(.mv (.t 5))⟩,⟨(some 22),(some (20,true)),(.un .not (.t 21))⟩,⟨some 23,none,.pick (.t 20) (.t 22) (.c (.bool false))⟩,⟨some 18,none,.mv (.t 23)⟩]) (.cond (.t 18) (.seq (.reg [⟨some 4,none,.mv (.c (.int .i64 1))⟩]) .ret) .skip))))) (.seq (.seq (.dreg [[],[0],[],[2],[1,0,3,2],[],[5],[6,5],[],[8],[9,8],[7,6,5,10,9,8,4,1,0,3,2],[4,1,0,3,2,11,7,6,5,10,9,8],[12,4,1,0,3,2,11,7,6,5,10,9,8],[13,12,4,1,0,3,2,11,7,6,5,10,9,8]] [⟨some 24,none,.faddr 0 (.t 2)⟩,⟨some 25,none,.load false 1 (.t 24)⟩,⟨some 26,none,.faddr 0 (.t 3)⟩,⟨some 27,none,.load false 1 (.t 26)⟩,⟨some 28,none,.call 283 [(.t 25),(.t 27)]⟩,⟨some 29,none,.faddr 1 (.t 2)⟩,⟨some 30,none,.load false 1 (.t 29)⟩,⟨some 31,none,.len false (.t 30)⟩,⟨some 32,none,.faddr 1 (.t 3)⟩,⟨some 33,none,.load false 1 (.t 32)⟩,⟨some 34,none,.len false (.t 33)⟩,⟨some 35,none,.call 274 [(.t 31),(.t 34)]⟩,⟨some 36,none,.mkrow 3 1 [(.int .i64 0)] 2 [(0,(.t 28)),(1,(.t 35))]⟩,⟨some 37,none,.call 272 [(.t 36)]⟩,⟨some 7,none,.mv (.t 37)⟩]) (.seq (.reg [⟨some 38,none,.mv (.t 7)⟩,⟨some 39,none,.bin .neq false (.t 38) (.c (.int .i64 0))⟩]) (.cond (.t 39) (.seq (.reg [⟨some 40,none,.mv (.t 7)⟩,⟨some 4,none,.mv (.t 40)⟩]) .ret) .skip))) (.seq (.reg [⟨some 41,none,.faddr 1 (.t 2)⟩,⟨some 42,none,.load false 1 (.t 41)⟩,⟨some 43,none,.faddr 1 (.t 3)⟩,⟨some 44,none,.load false 1 (.t 43)⟩,⟨some 45,none,.call 313 [(.t 42),(.t 44),(.c (.fn 273 []))]⟩,⟨some 4,none,.mv (.t 45)⟩]) .ret)))))
theorem C2:codeOf Tryz.prog 273=some ⟨46,BE,[(.tmp 4)]⟩:=by kernel_rfl
theorem Bp:modes 273=⟨[],.asis,none,false⟩:=by unfold modes; rfl
theorem Et:GD Tryz.prog 273=true:=by kernel_rfl
theorem I7 (fid:Nat) (xs ys:List Tm) (hl:xs.length≤1099511627776) (hl':ys.length≤1099511627776) (hg:GD Tryz.prog fid=true) (hm:(modes fid).hand=[]) (hE:∀ x∈xs,∀ y∈ys,E fid [x.sv,y.sv] []=some (.int .i64 (x.cmp y),[])):E 313 [.arr (xs.map Tm.d),.arr (ys.map Tm.d),.fn fid []] []=some (.int .i64 (Tm.CG xs ys),[]):=by
 refine Af AA Av (of_decide_eq_true rfl) ?_
 simp (disch:=omega) only [Au,go_sem,Ab]
 refine go_loop (α:=Int) (fun a=>⟨slots 39 0 [(0,.arr (xs.map Tm.d)),(1,.arr (ys.map Tm.d)),(2,.fn fid []),(11,.arr (xs.map Tm.d)),(12,.int .i64 xs.length),(13,.int .i64 a)],[]⟩) (fun a=>∃ k:Nat,a=k∧k≤(xs).length∧k≤ys.length∧Tm.CG (xs.drop k) (ys.drop k)=Tm.CG xs ys) (fun a=>(xs).length-(a).toNat) 0 ⟨0,rfl,zR _,zR _,by rw [zW,zW]⟩ (by simp (disch:=omega) only [go_sem,Ab]) ?_
 rintro i ⟨k,hi,hk,hR⟩
 have hni:i.toNat=k:=by omega
 have hni1:(i+1).toNat=k+1:=by omega
 rcases zK k (xs).length with hlt | hge
 ·obtain ⟨hk',hR⟩:=hR
  have hgx:=get_at Tm.d hlt
  rw [Tm.d_eq] at hgx
  rcases zK k ys.length with hlt' | hge'
  ·have hgy:=get_at Tm.d hlt'
   rw [Tm.d_eq] at hgy
   have hc:=hE xs[k] (zH hlt) ys[k] (zH hlt')
   rw [OU hlt hlt'] at hR
   by_cases h0:xs[k].cmp ys[k]=0
   ·rw [orZ,if_pos h0] at hR
    rw [h0] at hc
    simp (disch:=omega) only [go_sem,Ab,hni,hgx,hgy,hc,hg,hm]
    exact ⟨i+1,⟨k+1,by omega,hlt,hlt',hR⟩,by omega,by first | trivial | rfl⟩
   ·rw [orZ,if_neg h0] at hR
    simp (disch:=omega) only [go_sem,Ab,hni,hgx,hgy,hc,hg,hm,h0]
    exact hR
  ·rw [RS hlt hge'] at hR
   simp (disch:=omega) only [go_sem,Ab,hni,hgx]
   exact hR
 ·obtain ⟨hk',hR⟩:=hR
  obtain rfl:k=xs.length:=by omega
  rcases zK xs.length ys.length with hlt' | hge'
  ·rw [Xv (zT _) hlt'] at hR
   simp (disch:=omega) only [go_sem,Ab,hni]
   exact hR
  ·rw [OV (zT _) hge'] at hR
   simp (disch:=omega) only [go_sem,Ab,hni]
   exact hR
abbrev Ta (f:FuncId) (x y:Tm):Prop:=x.cok=true→y.cok=true→x.nodes≤1099511627776→y.nodes≤1099511627776→E f [x.sv,y.sv] []=some (.int .i64 (x.cmp y),[])
theorem Gy (x:Tm) (ih:∀ x'∈x.args,∀ y,Ta 273 x' y) (y:Tm):Ta 273 x y:=by
 intro hx hy hnx hny
 have lx:=Tm.length_le x.args
 have ly:=Tm.length_le y.args
 have nx:=Tm.nodes_eq x
 have ny:=Tm.nodes_eq y
 have h1:=LR x hx
 have h2:=LR y hy
 have h3:=Na x.name y.name
 have h4:=Hq x.args.length y.args.length
 have h5:=Xw (Gi x.name y.name) (Hg x.args.length y.args.length)
 rw [Tm.MR,zB] at hx hy
 have h6:=I7 273 x.args y.args (by omega) (by omega) Et (by rw [Bp]) fun x' hx' y' hy'=>ih x' hx' y' (Tm.Hh hx.2 hx') (Tm.Hh hy.2 hy') (by have:=Tm.nodes_mem hx'; omega) (by have:=Tm.nodes_mem hy'; omega)
 rw [Tm.Vm]
 cases vx:AY x.name <;> rw [vx] at h1 <;> cases vy:AY y.name <;> rw [vy] at h2
 all_goals
  simp only [xH,xC,zO,yX,yQ,yD,if_true,if_false,yN]
  by_cases h0:orZ (Gi x.name y.name) (Hg x.args.length y.args.length)=0
  ·rw [h0] at h5
   try rw [h0]
   refine Af C2 Bp (of_decide_eq_true rfl) ?_
   simp (disch:=omega) only [BE,go_sem,Ab,h1,h2,h3,h4,h5,h6,Cp,AH,AI,C3,Av]
   try rfl
  ·try rw [orZ.eq_1 (orZ _ _) _,if_neg h0]
   refine Af C2 Bp (of_decide_eq_true rfl) ?_
   simp (disch:=omega) only [BE,go_sem,Ab,h0,h1,h2,h3,h4,h5,Cp,AH,AI,C3]
theorem DZ (x y:Tm):Ta 273 x y:=Gy x (fun x' hx' y'=>DZ x' y') y
termination_by SizeOf.sizeOf x
decreasing_by exact Tm.lt_of_mem hx'
def FT:SC:=(.seq (.reg [⟨some 4,none,.mv (.c (.int .i64 0))⟩]) (.seq (.block 0 (.seq (.reg [⟨some 6,none,.mv (.t 0)⟩,⟨some 7,none,.mv (.t 1)⟩,⟨some 8,none,.bin .lss false (.t 6) (.t 7)⟩,⟨some 5,none,.mv (.t 8)⟩]) (.cond (.t 5) (.seq (.reg [⟨some 4,none,.mv (.c (.int .i64 (-(0+1))))⟩]) .ret) (.seq (.reg [⟨some 10,none,.mv (.t 0)⟩,⟨some 11,none,.mv (.t 1)⟩,⟨some 12,none,.bin .gtr false (.t 10) (.t 11)⟩,⟨some 9,none,.mv (.t 12)⟩]) (.cond (.t 9) (.seq (.reg [⟨some 4,none,.mv (.c (.int .i64 1))⟩]) .ret) .skip))))) (.seq (.reg [⟨some 4,none,.mv (.c (.int .i64 0))⟩]) .ret)))
theorem I8:codeOf Tryz.prog 309=some ⟨13,FT,[(.tmp 4)]⟩:=by kernel_rfl
theorem FU:modes 309=⟨[],.asis,none,false⟩:=by unfold modes; rfl
def Ck:SC:=(.seq (.reg [⟨some 2,none,.boxv 33 2 (.t 0)⟩,⟨some 3,none,.boxv 33 2 (.t 1)⟩,⟨some 4,none,.mv (.c (.int .i64 0))⟩]) (.seq (.dreg [[],[0],[1,0],[],[3],[4,3,2,1,0],[2,1,0,5,4,3],[5,4,3,2,1,0,6]] [⟨some 9,none,.faddr 0 (.t 2)⟩,⟨some 10,none,.load false 1 (.t 9)⟩,⟨some 11,none,.call 191 [(.t 10)]⟩,⟨some 12,none,.faddr 0 (.t 3)⟩,⟨some 13,none,.load false 1 (.t 12)⟩,⟨some 14,none,.call 191 [(.t 13)]⟩,⟨some 5,none,.mv (.t 11)⟩,⟨some 6,none,.mv (.t 14)⟩]) (.seq (.block 0 (.seq (.reg [⟨some 16,none,.mv (.t 5)⟩,⟨some 17,none,.mv (.t 16)⟩,⟨(some 18),(some (17,true)),(.mv (.t 6))⟩,⟨(some 19),(some (17,true)),(.un .not (.t 18))⟩,⟨some 20,none,.pick (.t 17) (.t 19) (.c (.bool false))⟩,⟨some 15,none,.mv (.t 20)⟩]) (.cond (.t 15) (.seq (.reg [⟨some 4,none,.mv (.c (.int .i64 (-(0+1))))⟩]) .ret) (.seq (.reg [⟨some 22,none,.mv (.t 5)⟩,⟨some 23,none,.un .not (.t 22)⟩,⟨some 24,none,.mv (.t 23)⟩,⟨(some 25),(some (24,true)),(.mv (.t 6))⟩,⟨some 26,none,.pick (.t 24) (.t 25) (.c (.bool false))⟩,⟨some 21,none,.mv (.t 26)⟩]) (.cond (.t 21) (.seq (.reg [⟨some 4,none,.mv (.c (.int .i64 1))⟩]) .ret) (.seq (.reg [⟨some 28,none,.faddr 0 (.t 2)⟩,⟨some 29,none,.load false 1 (.t 28)⟩,⟨some 30,none,.faddr 0 (.t 3)⟩,⟨some 31,none,.load false 1 (.t 30)⟩,⟨some 32,none,.bin .neq false (.t 29) (.t 31)⟩,⟨some 27,none,.mv (.t 32)⟩]) (.cond (.t 27) (.seq (.reg [⟨some 33,none,.faddr 0 (.t 2)⟩,⟨some 34,none,.load false 1 (.t 33)⟩,⟨some 35,none,.faddr 0 (.t 3)⟩,⟨some 36,none,.load false 1 (.t 35)⟩,⟨some 37,none,.call 309 [(.t 34),(.t 36)]⟩,⟨some 4,none,.mv (.t 37)⟩]) .ret) (.seq (.reg [⟨some 39,none,.faddr 1 (.t 2)⟩,⟨some 40,none,.load false 1 (.t 39)⟩,⟨some 41,none,.len false (.t 40)⟩,⟨some 42,none,.faddr 1 (.t 3)⟩,⟨some 43,none,.load false 1 (.t 42)⟩,⟨some 44,none,.len false (.t 43)⟩,⟨some 45,none,.bin .lss false (.t 41) (.t 44)⟩,⟨some 38,none,.mv (.t 45)⟩]) (.cond (.t 38) (.seq (.reg [⟨some 4,none,.mv (.c (.int .i64 (-(0+1))))⟩]) .ret) (.seq (.reg [⟨some 47,none,.faddr 1 (.t 2)⟩,⟨some 48,none,.load false 1 (.t 47)⟩,⟨some 49,none,.len false (.t 48)⟩,⟨some 50,none,.faddr 1 (.t 3)⟩,⟨some 51,none,.load false 1 (.t 50)⟩,⟨some 52,none,.len false (.t 51)⟩,⟨some 53,none,.bin .gtr false (.t 49) (.t 52)⟩,⟨some 46,none,.mv (.t 53)⟩]) (.cond (.t 46) (.seq (.reg [⟨some 4,none,.mv (.c (.int .i64 1))⟩]) .ret) .skip))))))))))) (.seq (.seq (.reg [⟨some 7,none,.mv (.c (.int .i64 0))⟩]) (.block 1 (.loop [0,0,1,1,0,0,0,1,0,0,0,0,0,0,0,0,0,0,0,0,0,0,0,0,0,0,0,0,0,0,0,0,0,0,0,0,0,0,0,0,0,0,0,0,0,0,0,0,0,0,0,0,0,0,0,0,0,0,0,0,0,0,0,0,0,0,0,0,0,0,0,0,0,0,0] (.seq (.seq (.reg [⟨some 54,none,.mv (.t 7)⟩,⟨some 55,none,.faddr 1 (.t 2)⟩,⟨some 56,none,.load false 1 (.t 55)⟩,⟨some 57,none,.len false (.t 56)⟩,⟨some 58,none,.bin .lss false (.t 54) (.t 57)⟩]) (.cond (.t 58) .skip (.exit 1))) (.seq (.block 2 (.seq (.dreg [[],[0],[],[1,0,2],[3,1,0,2],[],[5],[],[6,5,7],[8,6,5,7],[4,3,1,0,2,9,8,6,5,7],[10,4,3,1,0,2,9,8,6,5,7]] [⟨some 61,none,.faddr 1 (.t 2)⟩,⟨some 62,none,.load false 1 (.t 61)⟩,⟨some 63,none,.mv (.t 7)⟩,⟨some 64,none,.iaddr 2 (.t 62) (.t 63)⟩,⟨some 65,none,.load true 2 (.t 64)⟩,⟨some 66,none,.faddr 1 (.t 3)⟩,⟨some 67,none,.load false 1 (.t 66)⟩,⟨some 68,none,.mv (.t 7)⟩,⟨some 69,none,.iaddr 2 (.t 67) (.t 68)⟩,⟨some 70,none,.load true 2 (.t 69)⟩,⟨some 71,none,.call 267 [(.t 65),(.t 70)]⟩,⟨some 8,none,.mv (.t 71)⟩]) (.seq (.reg [⟨some 72,none,.mv (.t 8)⟩,⟨some 73,none,.bin .neq false (.t 72) (.c (.int .i64 0))⟩]) (.cond (.t 73) (.seq (.reg [⟨some 74,none,.mv (.t 8)⟩,⟨some 4,none,.mv (.t 74)⟩]) .ret) .skip)))) (.reg [⟨some 59,none,.mv (.t 7)⟩,⟨some 60,none,.bin .add false (.t 59) (.c (.int .i64 1))⟩,⟨some 7,none,.mv (.t 60)⟩])))))) (.seq (.reg [⟨some 4,none,.mv (.c (.int .i64 0))⟩]) .ret)))))
theorem CB:codeOf Tryz.prog 267=some ⟨75,Ck,[(.tmp 4)]⟩:=by kernel_rfl
theorem B4:modes 267=⟨[],.asis,none,false⟩:=by unfold modes; rfl
theorem Qc7 (a b:ByteArray):E 309 [.str a,.str b] []=some (.int .i64 (Gi a b),[]):=by
 unfold Gi
 cases h3:strLt a b
 ·cases h4:dec (a=b)
  ·refine Af I8 FU (of_decide_eq_true rfl) ?_
   simp (disch:=omega) only [FT,go_sem,Ab,h3,h4]
  ·refine Af I8 FU (of_decide_eq_true rfl) ?_
   simp (disch:=omega) only [FT,go_sem,Ab,h3,h4]
 ·refine Af I8 FU (of_decide_eq_true rfl) ?_
  simp (disch:=omega) only [FT,go_sem,Ab,h3]
theorem Qei {a b:ByteArray} (h:¬ a=b):Gi a b≠0:=by
 unfold Gi
 rw [Aj h]
 cases strLt a b <;> simp
theorem Qej (a:ByteArray):Gi a a=0:=by
 unfold Gi
 rw [MZ,An rfl]; rfl
theorem VK (x:Tm) (ih:∀ x'∈x.args,∀ y,Ta 267 x' y) (y:Tm):Ta 267 x y:=by
 intro hx hy hnx hny
 have lx:=Tm.length_le x.args
 have ly:=Tm.length_le y.args
 have nx:=Tm.nodes_eq x
 have ny:=Tm.nodes_eq y
 have h1:=Ek x.name
 have h2:=Ek y.name
 have h3:=Qc7 x.name y.name
 rw [Tm.MR,zB] at hx hy
 rw [Tm.Vm]
 cases vx:AY x.name <;> rw [vx] at h1 <;> cases vy:AY y.name <;> rw [vy] at h2
 case' false.true =>
           refine Af CB B4 (of_decide_eq_true rfl) ?_
           simp (disch:=omega) only [Ck,go_sem,Ab,h1,h2,Ak]
 case' true.false =>
           refine Af CB B4 (of_decide_eq_true rfl) ?_
           simp (disch:=omega) only [Ck,go_sem,Ab,h1,h2,Ak]
 case' false.false=>skip
 case' true.true=>skip
 all_goals (try trivial)
 all_goals
  simp only [xH,xC,zO,yX,yQ,yD,if_true,if_false,yN]
  by_cases h0:x.name=y.name
  ·rw [show Gi x.name y.name=0 by rw [h0]; exact Qej _]
   unfold Hg
   rcases zK x.args.length y.args.length with h4 | h4
   ·rw [An (by omega)]
    refine Af CB B4 (of_decide_eq_true rfl) ?_
    simp (disch:=omega) only [Ck,go_sem,Ab,h0,h1,h2,Ak]
    rfl
   ·rcases zK y.args.length x.args.length with h5 | h5
    ·rw [Aj (by omega),An (by omega)]
     refine Af CB B4 (of_decide_eq_true rfl) ?_
     simp (disch:=omega) only [Ck,go_sem,Ab,h0,h1,h2,Ak]
     rfl
    ·rw [Aj (by omega),Aj (by omega)]
     refine Af CB B4 (of_decide_eq_true rfl) ?_
     simp (disch:=omega) only [Ck,go_sem,Ab,h0,h1,h2,Ak]
     refine go_loop (α:=Int) (fun a=>⟨slots 75 0 [(2,.ptr 0 0),(3,.ptr 1 0),(7,.int .i64 a)],[.box 33 [.str x.name,.arr (x.args.map Tm.d)],.box 33 [.str y.name,.arr (y.args.map Tm.d)]]⟩) (fun a=>∃ k:Nat,a=k∧k≤(x.args).length∧Tm.CG (x.args.drop k) (y.args.drop k)=Tm.CG x.args y.args) (fun a=>(x.args).length-(a).toNat) 0 ⟨0,rfl,zR _,by rw [zW,zW]⟩ (by simp (disch:=omega) only [go_sem,Ab,h0]) ?_
     rintro i ⟨k,hi,hk,hR⟩
     have hni:i.toNat=k:=by omega
     have hni1:(i+1).toNat=k+1:=by omega
     rcases zK k (x.args).length with hlt | hge
     ·have hlt':k<y.args.length:=by omega
      have hgx:=get_at Tm.d hlt
      rw [Tm.d_eq] at hgx
      have hgy:=get_at Tm.d hlt'
      rw [Tm.d_eq] at hgy
      have hc:=ih x.args[k] (zH hlt) y.args[k] (Tm.Hh hx.2 (zH hlt)) (Tm.Hh hy.2 (zH hlt')) (by have:=Tm.nodes_le x.args k hlt; omega) (by have:=Tm.nodes_le y.args k hlt'; omega)
      rw [OU hlt hlt'] at hR
      by_cases hz:x.args[k].cmp y.args[k]=0
      ·rw [orZ,if_pos hz] at hR
       rw [hz] at hc
       simp (disch:=omega) only [go_sem,Ab,hni,hgx,hgy,hc,B4]
       exact ⟨i+1,⟨k+1,by omega,hlt,hR⟩,by omega,by first | trivial | rfl | simp only [h0,and_self]⟩
      ·rw [orZ,if_neg hz] at hR
       simp (disch:=omega) only [go_sem,Ab,hni,hgx,hgy,hc,hz,B4]
       exact hR
     ·rw [OV hge (by omega)] at hR
      simp (disch:=omega) only [go_sem,Ab,hni]
      exact hR
  ·have h6:=Qei h0
   rw [show orZ (orZ (Gi x.name y.name) (Hg x.args.length y.args.length)) (Tm.CG x.args y.args)=Gi x.name y.name by unfold orZ; rw [if_neg h6,if_neg h6]]
   refine Af CB B4 (of_decide_eq_true rfl) ?_
   simp (disch:=omega) only [Ck,go_sem,Ab,h0,h1,h2,h3,Ak,FU]
theorem PT (x y:Tm):Ta 267 x y:=VK x (fun x' hx' y'=>PT x' y') y
termination_by SizeOf.sizeOf x
decreasing_by exact Tm.lt_of_mem hx'
noncomputable def Qbp (xs:List Lt) (k:Nat):Bool:=match xs[k]? with
 | none=>true
 | some x=>x.atom.atom&&(match k with
  | 0=>true
  | j+1=>match xs[j]? with
   | none=>true
   | some y=>decide (y.cmp x < 0))
noncomputable def GH (xs:List Lt):Nat→Bool
 | 0=>true
 | k+1=>GH xs k&&Qbp xs k
theorem Qbq {xs:List Lt} {k n:Nat} (h:GH xs k=false) (hn:k≤n):GH xs n=false:=by
 induction n with
 | zero =>
      obtain rfl:k=0:=by omega
      exact h
 | succ n ih =>
  rcases zK n k with h1 | h1
  ·obtain rfl:k=n+1:=by omega
   exact h
  ·rw [GH,ih h1]; rfl
theorem GR {xs:List Lt} (h:0<xs.length):Qbp xs 0=xs[0].atom.atom:=by
 unfold Qbp
 rw [zA h]
 simp
theorem El {xs:List Lt} {j:Nat} (h:j+1<xs.length):Qbp xs (j+1)=(xs[j+1].atom.atom&&decide (xs[j].cmp xs[j+1]<0)):=by
 unfold Qbp
 rw [zA h]
 simp only [zA (show j<xs.length by omega)]
theorem OY {xs:List Lt} {k j:Nat} (h:GH xs k=true) (hj:j<k) (hl:j<xs.length):xs[j].atom.atom=true:=by
 induction k with
 | zero=>omega
 | succ k ih =>
  rw [GH,zB] at h
  rcases zK j k with h1 | h1
  ·exact ih h.1 h1
  ·obtain rfl:j=k:=by omega
   cases j with
   | zero=>rw [←GR hl]; exact h.2
   | succ j =>
    have:=h.2
    rw [El hl,zB] at this
    exact this.1
noncomputable def Cl.ok (x:Cl):Bool:=decide (x.lits.length≤8)&&GH x.lits x.lits.length
theorem Cl.VL {x:Cl} {k:Nat} (h:GH x.lits k=true) (h':Qbp x.lits k=false) (hk:k<x.lits.length):x.ok=false:=by
 have:GH x.lits x.lits.length=false:=Qbq (k:=k+1) (by rw [GH,h,h']; rfl) (by omega)
 unfold Cl.ok
 rw [this,yX]
def Cl.tame (x:Cl):Prop:=x.lits.length≤1099511627776∧∀ y∈x.lits,y.atom.nodes≤1099511627776
theorem Cl.tame_at {x:Cl} (h:x.tame) {k:Nat} (hk:k<x.lits.length):x.lits[k].atom.nodes≤1099511627776:=h.2 _ (zH hk)
def Ea:SC:=(.seq (.reg [⟨some 2,none,.mv (.c (.int .i64 0))⟩]) (.seq (.seq (.reg [⟨some 3,none,.mv (.t 0)⟩]) (.cond (.t 3) (.seq (.reg [⟨some 2,none,.mv (.c (.int .i64 1))⟩]) .ret) .skip)) (.seq (.reg [⟨some 2,none,.mv (.c (.int .i64 0))⟩]) .ret)))
theorem Gl:codeOf Tryz.prog 88=some ⟨4,Ea,[(.tmp 2)]⟩:=by kernel_rfl
theorem Eb:modes 88=⟨[],.asis,none,false⟩:=by unfold modes; rfl
def BX:SC:=(.seq (.reg [⟨some 2,none,.boxv 122 3 (.t 0)⟩,⟨some 3,none,.boxv 122 3 (.t 1)⟩,⟨some 4,none,.mv (.c (.int .i64 0))⟩]) (.seq (.dreg [[],[0],[],[2],[1,0,3,2],[],[5],[6,5,4,1,0,3,2],[],[8],[9,8,7,6,5,4,1,0,3,2],[7,6,5,4,1,0,3,2,10,9,8],[4,1,0,3,2,11,7,6,5,10,9,8],[12,4,1,0,3,2,11,7,6,5,10,9,8],[13,12,4,1,0,3,2,11,7,6,5,10,9,8]] [⟨some 5,none,.faddr 1 (.t 2)⟩,⟨some 6,none,.load true 2 (.t 5)⟩,⟨some 7,none,.faddr 1 (.t 3)⟩,⟨some 8,none,.load true 2 (.t 7)⟩,⟨some 9,none,.call 273 [(.t 6),(.t 8)]⟩,⟨some 10,none,.faddr 0 (.t 2)⟩,⟨some 11,none,.load false 1 (.t 10)⟩,⟨some 12,none,.call 88 [(.t 11)]⟩,⟨some 13,none,.faddr 0 (.t 3)⟩,⟨some 14,none,.load false 1 (.t 13)⟩,⟨some 15,none,.call 88 [(.t 14)]⟩,⟨some 16,none,.call 274 [(.t 12),(.t 15)]⟩,⟨some 17,none,.mkrow 3 1 [(.int .i64 0)] 2 [(0,(.t 9)),(1,(.t 16))]⟩,⟨some 18,none,.call 272 [(.t 17)]⟩,⟨some 4,none,.mv (.t 18)⟩]) .ret))
theorem Dw:codeOf Tryz.prog 203=some ⟨19,BX,[(.tmp 4)]⟩:=by kernel_rfl
theorem Bz:modes 203=⟨[],.asis,none,false⟩:=by unfold modes; rfl
def Fe:SC:=(.seq (.reg [⟨some 2,none,.boxv 122 3 (.t 0)⟩,⟨some 3,none,.boxv 122 3 (.t 1)⟩,⟨some 4,none,.mv (.c (.int .i64 0))⟩]) (.seq (.reg [⟨some 6,none,.faddr 1 (.t 2)⟩,⟨some 7,none,.load true 2 (.t 6)⟩,⟨some 8,none,.faddr 1 (.t 3)⟩,⟨some 9,none,.load true 2 (.t 8)⟩,⟨some 10,none,.call 267 [(.t 7),(.t 9)]⟩,⟨some 5,none,.mv (.t 10)⟩]) (.seq (.block 0 (.seq (.reg [⟨some 12,none,.mv (.t 5)⟩,⟨some 13,none,.bin .neq false (.t 12) (.c (.int .i64 0))⟩,⟨some 11,none,.mv (.t 13)⟩]) (.cond (.t 11) (.seq (.reg [⟨some 14,none,.mv (.t 5)⟩,⟨some 4,none,.mv (.t 14)⟩]) .ret) (.seq (.reg [⟨some 16,none,.faddr 0 (.t 2)⟩,⟨some 17,none,.load false 1 (.t 16)⟩,⟨some 18,none,.un .not (.t 17)⟩,⟨some 19,none,.mv (.t 18)⟩,⟨(some 20),(some (19,true)),(.faddr 0 (.t 3))⟩,⟨(some 21),(some (19,true)),(.load false 1 (.t 20))⟩,⟨some 22,none,.pick (.t 19) (.t 21) (.c (.bool false))⟩,⟨some 15,none,.mv (.t 22)⟩]) (.cond (.t 15) (.seq (.reg [⟨some 4,none,.mv (.c (.int .i64 (-(0+1))))⟩]) .ret) (.seq (.reg [⟨some 24,none,.faddr 0 (.t 2)⟩,⟨some 25,none,.load false 1 (.t 24)⟩,⟨some 26,none,.mv (.t 25)⟩,⟨(some 27),(some (26,true)),(.faddr 0 (.t 3))⟩,⟨(some 28),(some (26,true)),(.load false 1 (.t 27))⟩,⟨(some 29),(some (26,true)),(.un .not (.t 28))⟩,⟨some 30,none,.pick (.t 26) (.t 29) (.c (.bool false))⟩,⟨some 23,none,.mv (.t 30)⟩]) (.cond (.t 23) (.seq (.reg [⟨some 4,none,.mv (.c (.int .i64 1))⟩]) .ret) .skip))))))) (.seq (.reg [⟨some 4,none,.mv (.c (.int .i64 0))⟩]) .ret))))
theorem Ic:codeOf Tryz.prog 195=some ⟨31,Fe,[(.tmp 4)]⟩:=by kernel_rfl
theorem B7:modes 195=⟨[],.asis,none,false⟩:=by unfold modes; rfl
def F3:SC:=(.seq (.reg [⟨some 1,none,.boxv 122 3 (.t 0)⟩,⟨some 2,none,.mv (.c (.bool false))⟩]) (.seq (.reg [⟨some 3,none,.faddr 1 (.t 1)⟩,⟨some 4,none,.load true 2 (.t 3)⟩,⟨some 5,none,.call 178 [(.t 4)]⟩,⟨some 2,none,.mv (.t 5)⟩]) .ret))
theorem Ky:codeOf Tryz.prog 202=some ⟨6,F3,[(.tmp 2)]⟩:=by kernel_rfl
theorem Ch:modes 202=⟨[],.asis,none,false⟩:=by unfold modes; rfl
def Gm:SC:=(.seq (.reg [⟨some 1,none,.boxv 60 1 (.t 0)⟩,⟨some 2,none,.mv (.c (.bool false))⟩]) (.seq (.seq (.reg [⟨some 5,none,.faddr 0 (.t 1)⟩,⟨some 6,none,.load false 1 (.t 5)⟩,⟨some 7,none,.len false (.t 6)⟩,⟨some 8,none,.mv (.c (.int .i64 0))⟩]) (.block 0 (.loop [0,1,0,0,0,0,1,1,1,0,0,0,0,0,0,0,0,0,0,0,0,0,0,0,0,0,0,0,0,0,0,0,0,0,0,0] (.seq (.reg [⟨some 9,none,.bin .lss false (.t 8) (.t 7)⟩]) (.seq (.cond (.t 9) .skip (.exit 0)) (.seq (.block 1 (.seq (.reg [⟨some 10,none,.mv (.t 8)⟩,⟨some 11,none,.iaddr 3 (.t 6) (.t 8)⟩,⟨some 12,none,.load true 3 (.t 11)⟩,⟨(some 4),none,(.alloc 122 [(.bool false),(.str ⟨#[]⟩),.nil])⟩,⟨some 3,none,.mv (.t 10)⟩,⟨none,none,(.store 3 (.t 4) (.t 12))⟩]) (.seq (.dreg [[],[0],[1,0],[2,1,0],[3,2,1,0],[4,3,2,1,0],[5,4,3,2,1,0],[6,5,4,3,2,1,0],[7,6,5,4,3,2,1,0],[6,5,4,3,2,1,0],[9,6,5,4,3,2,1,0],[8,7,6,5,4,3,2,1,0,10,9],[11,8,7,6,5,4,3,2,1,0,10,9],[6,5,4,3,2,1,0],[12,11,8,7,6,5,4,3,2,1,0,10,9,13],[14,12,11,8,7,6,5,4,3,2,1,0,10,9,13],[6,5,4,3,2,1,0,15,14,12,11,8,7,10,9,13],[3,2,1,0,16,6,5,4,15,14,12,11,8,7,10,9,13]] [⟨some 13,none,.load true 3 (.t 4)⟩,⟨some 14,none,.call 202 [(.t 13)]⟩,⟨some 15,none,.un .not (.t 14)⟩,⟨some 16,none,.mv (.t 15)⟩,⟨(some 17),(some (16,false)),(.mv (.t 3))⟩,⟨(some 18),(some (16,false)),(.bin .gtr false (.t 17) (.c (.int .i64 0)))⟩,⟨(some 19),(some (16,false)),(.mv (.t 18))⟩,⟨(some 20),(some (19,true)),(.faddr 0 (.t 1))⟩,⟨(some 21),(some (19,true)),(.load false 1 (.t 20))⟩,⟨(some 22),(some (19,true)),(.mv (.t 3))⟩,⟨(some 23),(some (19,true)),(.bin .sub false (.t 22) (.c (.int .i64 1)))⟩,⟨(some 24),(some (19,true)),(.iaddr 3 (.t 21) (.t 23))⟩,⟨(some 25),(some (19,true)),(.load true 3 (.t 24))⟩,⟨(some 26),(some (19,true)),(.load true 3 (.t 4))⟩,⟨(some 27),(some (19,true)),(.call 203 [(.t 25),(.t 26)])⟩,⟨(some 28),(some (19,true)),(.bin .geq false (.t 27) (.c (.int .i64 0)))⟩,⟨(some 29),(some (16,false)),(.pick (.t 19) (.t 28) (.c (.bool false)))⟩,⟨some 30,none,.pick (.t 16) (.c (.bool true)) (.t 29)⟩]) (.cond (.t 30) (.seq (.reg [⟨some 2,none,.mv (.c (.bool false))⟩]) .ret) .skip)))) (.reg [⟨some 31,none,.bin .add false (.t 8) (.c (.int .i64 1))⟩,⟨some 8,none,.mv (.t 31)⟩]))))))) (.seq (.reg [⟨some 32,none,.faddr 0 (.t 1)⟩,⟨some 33,none,.load false 1 (.t 32)⟩,⟨some 34,none,.len false (.t 33)⟩,⟨some 35,none,.bin .leq false (.t 34) (.c (.int .i64 8))⟩,⟨some 2,none,.mv (.t 35)⟩]) .ret)))
theorem KU:codeOf Tryz.prog 147=some ⟨36,Gm,[(.tmp 2)]⟩:=by kernel_rfl
theorem KV:modes 147=⟨[],.asis,none,false⟩:=by unfold modes; rfl
def I9:SC:=(.seq (.reg [⟨some 1,none,.boxv 60 1 (.t 0)⟩,⟨some 2,none,.mv (.c (.bool false))⟩]) (.seq (.seq (.reg [⟨some 4,none,.faddr 0 (.t 1)⟩,⟨some 5,none,.load false 1 (.t 4)⟩,⟨some 6,none,.len false (.t 5)⟩,⟨some 7,none,.bin .gtr false (.t 6) (.c (.int .i64 8))⟩]) (.cond (.t 7) (.seq (.reg [⟨some 2,none,.mv (.c (.bool false))⟩]) .ret) .skip)) (.seq (.seq (.reg [⟨some 3,none,.mv (.c (.int .i64 0))⟩]) (.block 0 (.loop [0,1,0,1,0,0,0,0,0,0,0,0,0,0,0,0,0,0,0,0,0,0,0,0,0,0,0,0,0,0,0,0,0,0,0,0,0,0,0,0,0,0] (.seq (.seq (.reg [⟨some 8,none,.mv (.t 3)⟩,⟨some 9,none,.faddr 0 (.t 1)⟩,⟨some 10,none,.load false 1 (.t 9)⟩,⟨some 11,none,.len false (.t 10)⟩,⟨some 12,none,.bin .lss false (.t 8) (.t 11)⟩]) (.cond (.t 12) .skip (.exit 0))) (.seq (.block 1 (.seq (.dreg [[],[0],[],[1,0,2],[3,1,0,2],[4,3,1,0,2],[5,4,3,1,0,2],[6,5,4,3,1,0,2],[7,6,5,4,3,1,0,2],[8,7,6,5,4,3,1,0,2],[9,8,7,6,5,4,3,1,0,2],[10,9,8,7,6,5,4,3,1,0,2],[11,10,9,8,7,6,5,4,3,1,0,2],[12,11,10,9,8,7,6,5,4,3,1,0,2],[11,10,9,8,7,6,5,4,3,1,0,2],[14,11,10,9,8,7,6,5,4,3,1,0,2],[13,12,11,10,9,8,7,6,5,4,3,1,0,2,15,14],[16,13,12,11,10,9,8,7,6,5,4,3,1,0,2,15,14],[11,10,9,8,7,6,5,4,3,1,0,2],[18,11,10,9,8,7,6,5,4,3,1,0,2],[11,10,9,8,7,6,5,4,3,1,0,2],[19,18,11,10,9,8,7,6,5,4,3,1,0,2,20],[21,19,18,11,10,9,8,7,6,5,4,3,1,0,2,20],[17,16,13,12,11,10,9,8,7,6,5,4,3,1,0,2,15,14,22,21,19,18,20],[23,17,16,13,12,11,10,9,8,7,6,5,4,3,1,0,2,15,14,22,21,19,18,20],[11,10,9,8,7,6,5,4,3,1,0,2,24,23,17,16,13,12,15,14,22,21,19,18,20],[8,7,6,5,4,3,1,0,2,25,11,10,9,24,23,17,16,13,12,15,14,22,21,19,18,20]] [⟨some 15,none,.faddr 0 (.t 1)⟩,⟨some 16,none,.load false 1 (.t 15)⟩,⟨some 17,none,.mv (.t 3)⟩,⟨some 18,none,.iaddr 3 (.t 16) (.t 17)⟩,⟨some 19,none,.faddr 1 (.t 18)⟩,⟨some 20,none,.load true 2 (.t 19)⟩,⟨some 21,none,.call 194 [(.t 20)]⟩,⟨some 22,none,.un .not (.t 21)⟩,⟨some 23,none,.mv (.t 22)⟩,⟨(some 24),(some (23,false)),(.mv (.t 3))⟩,⟨(some 25),(some (23,false)),(.bin .gtr false (.t 24) (.c (.int .i64 0)))⟩,⟨(some 26),(some (23,false)),(.mv (.t 25))⟩,⟨(some 27),(some (26,true)),(.faddr 0 (.t 1))⟩,⟨(some 28),(some (26,true)),(.load false 1 (.t 27))⟩,⟨(some 29),(some (26,true)),(.mv (.t 3))⟩,⟨(some 30),(some (26,true)),(.bin .sub false (.t 29) (.c (.int .i64 1)))⟩,⟨(some 31),(some (26,true)),(.iaddr 3 (.t 28) (.t 30))⟩,⟨(some 32),(some (26,true)),(.load true 3 (.t 31))⟩,⟨(some 33),(some (26,true)),(.faddr 0 (.t 1))⟩,⟨(some 34),(some (26,true)),(.load false 1 (.t 33))⟩,⟨(some 35),(some (26,true)),(.mv (.t 3))⟩,⟨(some 36),(some (26,true)),(.iaddr 3 (.t 34) (.t 35))⟩,⟨(some 37),(some (26,true)),(.load true 3 (.t 36))⟩,⟨(some 38),(some (26,true)),(.call 195 [(.t 32),(.t 37)])⟩,⟨(some 39),(some (26,true)),(.bin .geq false (.t 38) (.c (.int .i64 0)))⟩,⟨(some 40),(some (23,false)),(.pick (.t 26) (.t 39) (.c (.bool false)))⟩,⟨some 41,none,.pick (.t 23) (.c (.bool true)) (.t 40)⟩]) (.cond (.t 41) (.seq (.reg [⟨some 2,none,.mv (.c (.bool false))⟩]) .ret) .skip))) (.reg [⟨some 13,none,.mv (.t 3)⟩,⟨some 14,none,.bin .add false (.t 13) (.c (.int .i64 1))⟩,⟨some 3,none,.mv (.t 14)⟩])))))) (.seq (.reg [⟨some 2,none,.mv (.c (.bool true))⟩]) .ret))))
theorem Ms:codeOf Tryz.prog 143=some ⟨42,I9,[(.tmp 2)]⟩:=by kernel_rfl
theorem Cq:modes 143=⟨[],.asis,none,false⟩:=by unfold modes; rfl
theorem RT (b:Bool):E 88 [.bool b] []=some (.int .i64 (Hi b),[]):=by
 cases b
 ·refine Af Gl Eb (of_decide_eq_true rfl) ?_
  simp (disch:=omega) only [Ea,go_sem,Ab]
  rfl
 ·refine Af Gl Eb (of_decide_eq_true rfl) ?_
  simp (disch:=omega) only [Ea,go_sem,Ab]
  rfl
theorem compareLiterals_E (x y:Lt) (hx:x.atom.cok=true) (hy:y.atom.cok=true) (hnx:x.atom.nodes≤1099511627776) (hny:y.atom.nodes≤1099511627776):E 203 [x.sv,y.sv] []=some (.int .i64 (x.cmp y),[]):=by
 have h1:=DZ x.atom y.atom hx hy hnx hny
 have h2:=RT x.pos
 have h3:=RT y.pos
 have h4:=Hq (Hi x.pos) (Hi y.pos)
 have h5:=Xw (x.atom.cmp y.atom) (Hg (Hi x.pos) (Hi y.pos))
 unfold Lt.cmp
 refine Af Dw Bz (of_decide_eq_true rfl) ?_
 simp (disch:=omega) only [BX,go_sem,Ab,h1,h2,h3,h4,h5,Bp,Eb,AI,C3]
theorem NR (x y:Lt) (hx:x.atom.cok=true) (hy:y.atom.cok=true) (hnx:x.atom.nodes≤1099511627776) (hny:y.atom.nodes≤1099511627776):E 195 [x.sv,y.sv] []=some (.int .i64 (x.cmp y),[]):=by
 have h1:=PT x.atom y.atom hx hy hnx hny
 unfold Lt.cmp
 by_cases h0:x.atom.cmp y.atom=0
 ·rw [h0] at h1 ⊢
  cases hp:x.pos <;> cases hq:y.pos
  all_goals
   simp only [Hi,Hg,orZ,if_true,if_false,yN]
   refine Af Ic B7 (of_decide_eq_true rfl) ?_
   simp (disch:=omega) only [Fe,go_sem,Ab,h1,hp,hq,B4]
 ·rw [orZ,if_neg h0]
  refine Af Ic B7 (of_decide_eq_true rfl) ?_
  simp (disch:=omega) only [Fe,go_sem,Ab,h1,h0,B4]
theorem OZ (x:Lt) (hn:x.atom.nodes≤1099511627776):E 202 [x.sv] []=some (.bool x.atom.atom,[]):=by
 have h:=Mr x.atom hn
 refine Af Ky Ch (of_decide_eq_true rfl) ?_
 simp (disch:=omega) only [F3,go_sem,Ab,h,Ad]
theorem QbH (x:Cl) (hn:x.tame):E 147 [x.sv] []=some (.bool x.ok,[]):=by
 have hl:=hn.1
 refine Af KU KV (of_decide_eq_true rfl) ?_
 simp (disch:=omega) only [Gm,go_sem,Ab]
 refine go_loop (α:=Int) (fun a=>⟨slots 36 0 [(1,.ptr 0 0),(6,.arr (x.lits.map Lt.d)),(7,.int .i64 x.lits.length),(8,.int .i64 a)],[.box 60 [.arr (x.lits.map Lt.d)]]⟩) (fun a=>∃ k:Nat,a=k∧k≤(x.lits).length∧GH x.lits k=true) (fun a=>(x.lits).length-(a).toNat) 0 ⟨0,rfl,zR _,by rw [GH]⟩ (by simp (disch:=omega) only [go_sem,Ab]) ?_
 rintro i ⟨k,hi,hk,hR⟩
 have hni:i.toNat=k:=by omega
 have hni1:(i+1).toNat=k+1:=by omega
 rcases zK k (x.lits).length with hlt | hge
 ·have hg:=get_at Lt.d hlt
  rw [Lt.d_eq] at hg
  have hv:=OZ x.lits[k] (Cl.tame_at hn hlt)
  cases ha:x.lits[k].atom.atom <;> rw [ha] at hv
  ·have e:x.ok=false:=Cl.VL hR (by cases k with | zero=>rw [GR hlt,ha] | succ j=>rw [El hlt,ha,yD]) hlt
   rw [e]
   simp (disch:=omega) only [go_sem,Ab,hni,hg,hv,Ch,Bz]
  ·cases k with
   | zero =>
    obtain rfl:i=0:=hi
    simp (disch:=omega) only [go_sem,Ab,hni,hg,hv,Ch,Bz]
    exact ⟨1,⟨1,rfl,hlt,by rw [GH,hR,GR hlt,ha]; rfl⟩,by omega,by first | trivial | rfl⟩
   | succ j =>
    have hj:j<x.lits.length:=by omega
    have hg2:=get_at Lt.d hj
    rw [Lt.d_eq] at hg2
    have hni2:(i-1).toNat=j:=by omega
    have hc:=compareLiterals_E x.lits[j] x.lits[j+1] (Tm.IZ (OY hR (by omega) (by omega))) (Tm.IZ ha) (Cl.tame_at hn hj) (Cl.tame_at hn hlt)
    rcases y5 (x.lits[j].cmp x.lits[j+1]) 0 with hq | hq
    ·simp (disch:=omega) only [go_sem,Ab,hni,hg,hv,Ch,Bz,hni2,hg2,hc]
     exact ⟨i+1,⟨j+1+1,by omega,hlt,by rw [GH,hR,El hlt,ha,decide_eq_true hq]; rfl⟩,by omega,by first | trivial | rfl⟩
    ·have e:x.ok=false:=Cl.VL hR (by rw [El hlt,ha,decide_eq_false (by omega)]; rfl) hlt
     rw [e]
     simp (disch:=omega) only [go_sem,Ab,hni,hg,hv,Ch,Bz,hni2,hg2,hc]
 ·obtain rfl:k=x.lits.length:=by omega
  simp (disch:=omega) only [go_sem,Ab,hni]
  unfold Cl.ok
  rw [hR,zO,KA]
  exact decide_eq_decide.2 (by omega)
theorem Xx (x:Cl) (hn:x.tame):E 143 [x.sv] []=some (.bool x.ok,[]):=by
 have hl:=hn.1
 rcases zK 8 x.lits.length with h8 | h8
 ·have e:x.ok=false:=by unfold Cl.ok; rw [decide_eq_false (by omega),yD]
  rw [e]
  refine Af Ms Cq (of_decide_eq_true rfl) ?_
  simp (disch:=omega) only [I9,go_sem,Ab]
 refine Af Ms Cq (of_decide_eq_true rfl) ?_
 simp (disch:=omega) only [I9,go_sem,Ab]
 refine go_loop (α:=Int) (fun a=>⟨slots 42 0 [(1,.ptr 0 0),(3,.int .i64 a)],[.box 60 [.arr (x.lits.map Lt.d)]]⟩) (fun a=>∃ k:Nat,a=k∧k≤(x.lits).length∧GH x.lits k=true) (fun a=>(x.lits).length-(a).toNat) 0 ⟨0,rfl,zR _,by rw [GH]⟩ (by simp (disch:=omega) only [go_sem,Ab]) ?_
 rintro i ⟨k,hi,hk,hR⟩
 have hni:i.toNat=k:=by omega
 have hni1:(i+1).toNat=k+1:=by omega
 rcases zK k (x.lits).length with hlt | hge
 ·have hg:=get_at Lt.d hlt
  rw [Lt.d_eq] at hg
  have hv:=Xu x.lits[k].atom (Cl.tame_at hn hlt)
  cases ha:x.lits[k].atom.atom <;> rw [ha] at hv
  ·have e:x.ok=false:=Cl.VL hR (by cases k with | zero=>rw [GR hlt,ha] | succ j=>rw [El hlt,ha,yD]) hlt
   rw [e]
   simp (disch:=omega) only [go_sem,Ab,hni,hg,hv,Al,B7]
  ·cases k with
   | zero =>
    obtain rfl:i=0:=hi
    simp (disch:=omega) only [go_sem,Ab,hni,hg,hv,Al,B7]
    exact ⟨1,⟨1,rfl,hlt,by rw [GH,hR,GR hlt,ha]; rfl⟩,by omega,by first | trivial | rfl⟩
   | succ j =>
    have hj:j<x.lits.length:=by omega
    have hg2:=get_at Lt.d hj
    rw [Lt.d_eq] at hg2
    have hni2:(i-1).toNat=j:=by omega
    have hc:=NR x.lits[j] x.lits[j+1] (Tm.IZ (OY hR (by omega) (by omega))) (Tm.IZ ha) (Cl.tame_at hn hj) (Cl.tame_at hn hlt)
    rcases y5 (x.lits[j].cmp x.lits[j+1]) 0 with hq | hq
    ·simp (disch:=omega) only [go_sem,Ab,hni,hg,hv,Al,B7,hni2,hg2,hc]
     exact ⟨i+1,⟨j+1+1,by omega,hlt,by rw [GH,hR,El hlt,ha,decide_eq_true hq]; rfl⟩,by omega,by first | trivial | rfl⟩
    ·have e:x.ok=false:=Cl.VL hR (by rw [El hlt,ha,decide_eq_false (by omega)]; rfl) hlt
     rw [e]
     simp (disch:=omega) only [go_sem,Ab,hni,hg,hv,Al,B7,hni2,hg2,hc]
 ·obtain rfl:k=x.lits.length:=by omega
  simp (disch:=omega) only [go_sem,Ab,hni]
  unfold Cl.ok
  rw [hR,decide_eq_true h8]; rfl
end Go.Proofs.YtepbennkcbmgoaaGreatDoor
