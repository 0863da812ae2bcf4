/-
  Texts of this claim, one behind the other, each built on those ahead of it. No condition.
-/
import Derived.Test.YtlglakdefklhoaaGreatDoorK40b
import Derived.Shelf.Lays
import Derived.Test.YtlglakdefklhoaaGreatDoorChecked
import Derived.Shelf.Strings.OnBuilder
import Derived.Shelf.LaysM
import Derived.Shelf.Strconv.Itoa3
import Derived.Shelf.Strings.Split
import Derived.Shelf.LaysC
import Derived.Shelf.Strconv.AtoiErr
import Derived.Shelf.Strconv.AtoiAll
import Derived.Lib.SplitLaws
import Derived.Lib.CutLaws
set_option maxHeartbeats 16000000
open List renaming map_cons → zD, drop_eq_getElem_cons → zK, getElem_mem → zL, length_cons → zM, append_assoc → zN, cons_append → zP, drop_zero → zS, drop_eq_nil_of_le → zT, length_nil → zV, length_append → zW, getElem?_eq_getElem → zX, map_nil → zY, eq_nil_of_length_eq_zero → zZ, mem_cons → z6, length_map → z7, all_eq_true → yA, getD_eq_getElem?_getD → yC, take_succ_cons → yE, map_map → yI, length_take → yJ, take_zero → yM, length → yO, take_length → yR, length_drop → yS, map_append → yU, append_nil → yV, nil_append → yW, any_cons → yX
open Option.some renaming injEq → zE, inj → zI
open Bool renaming and_eq_true → zF, and_self → zR, or_eq_true → z8, and_true → yF, false_and → yH, true_and → yK, false_or → yP, true_or → yT
open Prod.mk renaming injEq → zG, inj → yD
open Nat renaming zero_le → zH, le_refl → zJ, lt_or_ge → zO, eq_zero_or_pos → yG
open ByteArray renaming size_append → zQ
open List.cons renaming injEq → yB, inj → yY
open Array renaming getElem?_append_left → yL
open Int renaming toNat_zero → yN
open Option renaming getD_some → yQ
set_option maxRecDepth 100000
set_option linter.unusedSimpArgs false
set_option linter.unusedVariables false
set_option linter.unusedSectionVars false
namespace Go.Proofs.YtlglakdefklhoaaGreatDoor
open Go.RowKit
theorem QF (s:ByteArray) (w:World) (hs:s.size≤9223372036854775807):Calls Tryz.prog 74 #[.string s] w (Same w (.bool (Fy s))):=by
  cases hin:inB s.size 1 4
  · go_enter Tryz.func74,Tryz.ntmps74
    go_wp2_with (first
      | (go_at_call 75; refine (H1 _ _ _ _).mono ?_; rintro e w' ⟨rfl,rfl⟩))
    go_ret
    exact Same.mk' _ (by unfold Fy; rw [hin]; simp)
  · have hpos:0<s.size:=by simp [inB] at hin; omega
    have Hb:=Lib.hid (Fg hpos)
    go_enter Tryz.func74,Tryz.ntmps74
    go_wp2_with (first
      | (go_at_call 75; refine (H1 _ _ _ _).mono ?_; rintro e w' ⟨rfl,rfl⟩))
    all_goals first
      | (go_ret
         refine Same.mk' _ ?_
         unfold Fy
         rw [Ey hpos (by rw [←Hb.out]; simp [In,Px]; omega)]
         rfl)
      | skip
    · go_loopw [3] (fun i wr=>Cnt w s.size (fun k=>1≤k∧El In s k=true) i wr) (fun i _=>s.size-(intOf i).toNat)
      case atStart=>exact ⟨1,hpos,rfl,⟨zJ _,by rw [Fx,← Hb.out]; simp [El,In,Px]; omega⟩,rfl⟩
      case round =>
        obtain ⟨k,hk,rfl,⟨hk1,hok⟩,rfl⟩:=hrel
        have Hok:=Lib.hid hok
        clear hok
        by_cases hlt:k<s.size
        · have Hbk:=Lib.hid (Fg hlt)
          have hk0:k≠0:=by omega
          go_wp2_with (first
            | (go_at_call 76; refine (Kg _ _).mono ?_; rintro e w' ⟨rfl,rfl⟩))
          all_goals first
            | (go_ret
               refine Same.mk' _ ?_
               unfold Fy
               rw [Ey hlt (by rw [←Hbk.out]; simp_all [In] <;> omega)]
               rfl)
            | (go_roundw
               case rel=>exact ⟨_,hlt,by go_num,⟨by omega,GR Hok.out (by rw [←Hbk.out]; simp_all [In] <;> omega)⟩,rfl⟩
               case measure=>first | exact Hm hlt | (simp [intOf]; omega))
        · obtain rfl:k=s.size:=by omega
          go_wp2_with fail
          go_ret
          exact Same.mk' _ (by unfold Fy; rw [Hok.out,hin]; rfl)
theorem Qj (s:ByteArray):RW s=(s.toList == [116,114,117,101] || s.toList == [102,97,108,115,101] || s.toList == [116,114,117,116,104] || s.toList == [98,111,116,104] || s.toList == [101,105,116,104,101,114] || s.toList == [105,102] || s.toList == [97,108,108] || s.toList == [115,111,109,101]):=by
 unfold RW Rr words
 simp [List.range,List.range.loop,Bool.or_assoc]
theorem Nw (s:ByteArray) (w:World) (hs:s.size≤9223372036854775807):Calls Tryz.prog 48 #[.string s] w (Same w (.bool (Ei s))):=by
  cases hin:inB s.size 1 6
  · go_enter Tryz.func48,Tryz.ntmps48
    go_wp2_with (first
      | (go_at_call 75; refine (H1 _ _ _ _).mono ?_; rintro e w' ⟨rfl,rfl⟩))
    go_ret
    exact Same.mk' _ (by unfold Ei; rw [hin]; simp)
  · have hpos:0<s.size:=by simp [inB] at hin; omega
    have Hb:=Lib.hid (Fg hpos)
    cases hres:RW s
    case true =>
      have Hres:=Lib.hid hres
      rw [Qj] at hres
      go_enter Tryz.func48,Tryz.ntmps48
      go_wp2_with (first
        | (go_at_call 75; refine (H1 _ _ _ _).mono ?_; rintro e w' ⟨rfl,rfl⟩))
      all_goals first
        | (go_ret
           refine Same.mk' _ ?_
           unfold Ei
           rw [Hres.out]; simp)
        | (exfalso; simp_all; done)
    have Hres:=Lib.hid hres
    rw [Qj] at hres
    simp only [Bool.or_eq_false_iff] at hres
    obtain ⟨⟨⟨⟨⟨⟨⟨e1,e2⟩,e3⟩,e4⟩,e5⟩,e6⟩,e7⟩,e8⟩:=hres
    go_enter Tryz.func48,Tryz.ntmps48
    go_wp2_with (first
      | (go_at_call 75; refine (H1 _ _ _ _).mono ?_; rintro e w' ⟨rfl,rfl⟩))
    all_goals first
      | (go_ret
         refine Same.mk' _ ?_
         unfold Ei
         rw [Ey hpos (by rw [←Hb.out]; simp [Im,Nt]; omega)]; rfl)
      | skip
    go_loopw [3] (fun i wr=>Cnt w s.size (fun k=>1≤k∧El Im s k=true) i wr) (fun i _=>s.size-(intOf i).toNat)
    case atStart=>exact ⟨1,hpos,rfl,⟨zJ _,by rw [Fx,← Hb.out]; simp [El,Im,Fw,Nt]; omega⟩,rfl⟩
    case round =>
      obtain ⟨k,hk,rfl,⟨hk1,hok⟩,rfl⟩:=hrel
      have Hok:=Lib.hid hok
      clear hok
      by_cases hlt:k<s.size
      · have Hbk:=Lib.hid (Fg hlt)
        have hk0:k≠0:=by omega
        go_wp2_with (first
          | (go_at_call 76; refine (Kg _ _).mono ?_; rintro e w' ⟨rfl,rfl⟩))
        all_goals first
          | (go_ret
             refine Same.mk' _ ?_
             unfold Ei
             rw [Ey hlt (by rw [←Hbk.out]; simp_all [Im] <;> omega)]
             rfl)
          | (go_roundw
             case rel=>exact ⟨_,hlt,by go_num,⟨by omega,GR Hok.out (by rw [←Hbk.out]; simp_all [Im] <;> omega)⟩,rfl⟩
             case measure=>first | exact Hm hlt | (simp [intOf]; omega))
      · obtain rfl:k=s.size:=by omega
        go_wp2_with fail
        go_ret
        exact Same.mk' _ (by unfold Ei; rw [Hok.out,hin,Hres.out]; rfl)
end Go.Proofs.YtlglakdefklhoaaGreatDoor
set_option maxRecDepth 100000
namespace Go.Proofs.YtlglakdefklhoaaGreatDoor
open Go.Shelf
def so_Join_ren:Go.Shelf.Ren:=⟨fun | 156=>45 | 165=>69 | 166=>70 | 169=>71 | 240=>99 | 241=>100 | 276=>115 | 277=>116 | n=>n,fun | 31=>65 | 9=>9 | 3=>3 | 4=>4 | 0=>0 | 20=>20 | 72=>85 | 76=>80 | 70=>83 | 37=>22 | 75=>79 | 127=>100 | 164=>116 | 5=>5 | 80=>71 | n=>n,fun | n=>n⟩
theorem Qk:Go.Proofs.Lays.n156 Tryz.prog so_Join_ren:={
 mixed:=by kernel_rfl,
 f156:=Tryz.func45.trans (congrArg some (by kernel_rfl)),
 f165:=Tryz.func69.trans (congrArg some (by kernel_rfl)),
 f166:=Tryz.func70.trans (congrArg some (by kernel_rfl)),
 f169:=Tryz.func71.trans (congrArg some (by kernel_rfl)),
 f240:=Tryz.func99.trans (congrArg some (by kernel_rfl)),
 f241:=Tryz.func100.trans (congrArg some (by kernel_rfl)),
 f276:=Tryz.func115.trans (congrArg some (by kernel_rfl)),
 f277:=Tryz.func116.trans (congrArg some (by kernel_rfl)),
 t0:=Tryz.underlying0,
 a0:=Tryz.isAgg0,
 z0:=Tryz.sizeOf0,
 v0:=Tryz.zeroValue0,
 t3:=Tryz.underlying3,
 a3:=Tryz.isAgg3,
 z3:=Tryz.sizeOf3,
 v3:=Tryz.zeroValue3,
 t4:=Tryz.underlying4,
 a4:=Tryz.isAgg4,
 z4:=Tryz.sizeOf4,
 v4:=Tryz.zeroValue4,
 t9:=Tryz.underlying9,
 a9:=Tryz.isAgg9,
 z9:=Tryz.sizeOf9,
 v9:=Tryz.zeroValue9,
 t20:=Tryz.underlying20,
 a20:=Tryz.isAgg20,
 z20:=Tryz.sizeOf20,
 v20:=Tryz.zeroValue20,
 t31:=Tryz.underlying65,
 a31:=Tryz.isAgg65,
 z31:=Tryz.sizeOf65,
 v31:=Tryz.zeroValue65,
 t37:=Tryz.underlying22,
 a37:=Tryz.isAgg22,
 z37:=Tryz.sizeOf22,
 v37:=Tryz.zeroValue22,
 t70:=Tryz.underlying83,
 a70:=Tryz.isAgg83,
 z70:=Tryz.sizeOf83,
 v70:=Tryz.zeroValue83,
 t72:=Tryz.underlying85,
 a72:=Tryz.isAgg85,
 z72:=Tryz.sizeOf85,
 v72:=Tryz.zeroValue85,
 t75:=Tryz.underlying79,
 a75:=Tryz.isAgg79,
 z75:=Tryz.sizeOf79,
 v75:=Tryz.zeroValue79,
 t76:=Tryz.underlying80,
 a76:=Tryz.isAgg80,
 z76:=Tryz.sizeOf80,
 v76:=Tryz.zeroValue80,
 t127:=Tryz.underlying100,
 a127:=Tryz.isAgg100,
 z127:=Tryz.sizeOf100,
 v127:=Tryz.zeroValue100,
 t164:=Tryz.underlying116,
 a164:=Tryz.isAgg116,
 z164:=Tryz.sizeOf116,
 v164:=Tryz.zeroValue116 }
end Go.Proofs.YtlglakdefklhoaaGreatDoor
set_option maxRecDepth 100000
set_option linter.unusedSimpArgs false
set_option linter.unusedVariables false
set_option linter.unusedSectionVars false
namespace Go.Proofs.YtlglakdefklhoaaGreatDoor
open Go.RowKit Go.Shelf
theorem Ox:Builder.Extra Tryz.prog so_Join_ren:={
 sizeBuilder:=by kernel_rfl,
 liesBuilder:=by kernel_rfl,
 t5:=Tryz.underlying5,
 a5:=Tryz.isAgg5,
 z5:=Tryz.sizeOf5,
 v5:=Tryz.zeroValue5,
 infoByte:=by kernel_rfl,
 cellsByte:=by kernel_rfl,
 sizeByte:=by kernel_rfl,
 neB5:=by decide }
def Lq:List D→ByteArray
 | .str s :: _=>s
 | _=>⟨#[]⟩
def C5 (xs:List ByteArray) (sep:ByteArray):ByteArray:=⟨(Lib.join (xs.map (·.data.toList)) sep.data.toList).toArray⟩
noncomputable def MB:List SV→Option SV
 | [.arr es,.str sep]=>bif dec ((∀ e∈es,∃ s,e=[D.str s])∧es.length≤1099511627776∧(C5 (es.map Lq) sep).size≤1099511627776) then some (.str (C5 (es.map Lq) sep)) else none
 | _=>none
theorem P0 {xs:List SV} {r:SV} (h:MB xs=some r):Fun Tryz.prog 45 xs [] r []:=by
 unfold MB at h
 split at h
 ·rename_i es sep
  obtain ⟨h1,h2⟩:=Ak h
  obtain ⟨k1,k2,k3⟩:=Ax.1 h1
  obtain rfl:=zI h2
  refine Fun.Pw (rv:=.string (C5 (es.map Lq) sep)) (fun w I V=>by simp only [RepV,true_and]; omega) fun w I V vs h=>?_
  obtain ⟨v,r,rfl,h3,h⟩:=C4 h
  obtain ⟨v2,r,rfl,h4,h⟩:=C4 h
  obtain rfl:=Jb h
  obtain ⟨rfl,h5⟩:=EZ h4
  simp only [RepV] at h3
  have hlen:(Lib.join ((es.map Lq).map (·.data.toList)) sep.data.toList).length≤140737488355328:=by
   have e:(C5 (es.map Lq) sep).size=(Lib.join ((es.map Lq).map (·.data.toList)) sep.data.toList).length:=by
    show (Lib.join ((es.map Lq).map (·.data.toList)) sep.data.toList).toArray.size=_
    simp
   omega
  rcases yG es.length with h0 | h0
  ·have he:es=[]:=zZ h0
   subst he
   obtain ⟨a,c,rfl,_⟩:=h3.slice_form
   have hcon:=Any.strings_Join_none Qk Ox a c sep w
   change Calls Tryz.prog 45 _ _ _ at hcon
   refine hcon.mono ?_
   rintro e w' ⟨rfl,rfl⟩
   exact ⟨rfl,Below.refl _ _⟩
  ·cases h3 with
   | arr S sz es a cap f Sub g1 g2 g3 g4 g5 g6 g7 =>
    rcases g3 with g3 | ⟨b,off,rfl,hS,hlt,hc,_⟩
    ·omega
    have hsz:sz=1:=by
     obtain ⟨s,e⟩:=k1 es[0] (zL h0)
     rw [←g4 0 h0,e]; rfl
    subst hsz
    have hcells:∀ (j:Nat) x,(es.map Lq)[j]?=some x→w.cell? ⟨b,off+j,none⟩=some (.string x):=fun j x hx=>by
     have hj:j<es.length:=by
      have:=(List.getElem?_eq_some_iff.1 hx).1
      simpa using this
     obtain ⟨s,e⟩:=k1 es[j] (zL hj)
     rw [List.getElem?_map,zX hj,e] at hx
     obtain rfl:=zI hx
     have hd:=g7 j 0 hj (by rw [g4 j hj]; omega)
     have hcell:=hc j 0 hj (by omega)
     simp only [e,List.getElem_cons_zero] at hd
     rw [Nat.mul_one,Nat.add_zero] at hcell
     rw [hcell]
     cases hv:f j 0 <;> rw [hv] at hd <;> cases hd
     rfl
    have hcon:=Any.strings_Join Qk Ox b off cap (es.map Lq) sep w hcells hlt (by simp; omega) (by simpa using g1) hlen
    change Calls Tryz.prog 45 _ _ _ at hcon
    rw [z7] at hcon
    exact hcon
 ·cases h
end Go.Proofs.YtlglakdefklhoaaGreatDoor
set_option maxRecDepth 100000
namespace Go.Proofs.YtlglakdefklhoaaGreatDoor
open Go.Shelf
def so_Itoa_ren:Go.Shelf.Ren:=⟨fun | 171=>62 | 243=>93 | 246=>105 | 283=>118 | 284=>119 | 285=>120 | 286=>121 | 129=>131 | 317=>130 | 318=>132 | 319=>133 | 320=>134 | 337=>139 | 338=>140 | n=>n,fun | 3=>3 | 9=>9 | 2=>2 | 4=>4 | 171=>119 | 0=>0 | 53=>55 | 37=>22 | 5=>5 | 173=>122 | 212=>131 | 51=>132 | 20=>20 | 213=>133 | 46=>95 | 232=>146 | 233=>147 | n=>n,fun | 17=>3 | 18=>6 | 19=>7 | n=>n⟩
theorem Ql:Go.Proofs.LaysM.n171 Tryz.prog so_Itoa_ren:={
 mixed:=by kernel_rfl,
 f129:=Tryz.func131.trans (congrArg some (by kernel_rfl)),
 f171:=Tryz.func62.trans (congrArg some (by kernel_rfl)),
 f243:=Tryz.func93.trans (congrArg some (by kernel_rfl)),
 f246:=Tryz.func105.trans (congrArg some (by kernel_rfl)),
 f283:=Tryz.func118.trans (congrArg some (by kernel_rfl)),
 f284:=Tryz.func119.trans (congrArg some (by kernel_rfl)),
 f285:=Tryz.func120.trans (congrArg some (by kernel_rfl)),
 f286:=Tryz.func121.trans (congrArg some (by kernel_rfl)),
 f317:=Tryz.func130.trans (congrArg some (by kernel_rfl)),
 f318:=Tryz.func132.trans (congrArg some (by kernel_rfl)),
 f319:=Tryz.func133.trans (congrArg some (by kernel_rfl)),
 f320:=Tryz.func134.trans (congrArg some (by kernel_rfl)),
 f337:=Tryz.func139.trans (congrArg some (by kernel_rfl)),
 f338:=Tryz.func140.trans (congrArg some (by kernel_rfl)),
 t0:=Tryz.underlying0,
 a0:=Tryz.isAgg0,
 z0:=Tryz.sizeOf0,
 v0:=Tryz.zeroValue0,
 t2:=Tryz.underlying2,
 a2:=Tryz.isAgg2,
 z2:=Tryz.sizeOf2,
 v2:=Tryz.zeroValue2,
 t3:=Tryz.underlying3,
 a3:=Tryz.isAgg3,
 z3:=Tryz.sizeOf3,
 v3:=Tryz.zeroValue3,
 t4:=Tryz.underlying4,
 a4:=Tryz.isAgg4,
 z4:=Tryz.sizeOf4,
 v4:=Tryz.zeroValue4,
 t5:=Tryz.underlying5,
 a5:=Tryz.isAgg5,
 z5:=Tryz.sizeOf5,
 v5:=Tryz.zeroValue5,
 t9:=Tryz.underlying9,
 a9:=Tryz.isAgg9,
 z9:=Tryz.sizeOf9,
 v9:=Tryz.zeroValue9,
 t20:=Tryz.underlying20,
 a20:=Tryz.isAgg20,
 z20:=Tryz.sizeOf20,
 v20:=Tryz.zeroValue20,
 t37:=Tryz.underlying22,
 a37:=Tryz.isAgg22,
 z37:=Tryz.sizeOf22,
 v37:=Tryz.zeroValue22,
 t46:=Tryz.underlying95,
 a46:=Tryz.isAgg95,
 z46:=Tryz.sizeOf95,
 v46:=Tryz.zeroValue95,
 t51:=Tryz.underlying132,
 a51:=Tryz.isAgg132,
 z51:=Tryz.sizeOf132,
 v51:=Tryz.zeroValue132,
 t53:=Tryz.underlying55,
 a53:=Tryz.isAgg55,
 z53:=Tryz.sizeOf55,
 v53:=Tryz.zeroValue55,
 t171:=Tryz.underlying119,
 a171:=Tryz.isAgg119,
 z171:=Tryz.sizeOf119,
 v171:=Tryz.zeroValue119,
 t173:=Tryz.underlying122,
 a173:=Tryz.isAgg122,
 z173:=Tryz.sizeOf122,
 v173:=Tryz.zeroValue122,
 t212:=Tryz.underlying131,
 a212:=Tryz.isAgg131,
 z212:=Tryz.sizeOf131,
 v212:=Tryz.zeroValue131,
 t213:=Tryz.underlying133,
 a213:=Tryz.isAgg133,
 z213:=Tryz.sizeOf133,
 t232:=Tryz.underlying146,
 a232:=Tryz.isAgg146,
 z232:=Tryz.sizeOf146,
 v232:=Tryz.zeroValue146,
 t233:=Tryz.underlying147,
 a233:=Tryz.isAgg147,
 z233:=Tryz.sizeOf147,
 v233:=Tryz.zeroValue147,
 g17:=by kernel_rfl,
 g18:=by kernel_rfl,
 g19:=by kernel_rfl,
 i0:=by kernel_rfl,
 i2:=by kernel_rfl,
 i3:=by kernel_rfl,
 i4:=by kernel_rfl,
 i5:=by kernel_rfl,
 i9:=by kernel_rfl,
 i20:=by kernel_rfl,
 i37:=by kernel_rfl,
 i46:=by kernel_rfl,
 i51:=by kernel_rfl,
 i53:=by kernel_rfl,
 i171:=by kernel_rfl,
 i173:=by kernel_rfl,
 i212:=by kernel_rfl,
 i232:=by kernel_rfl,
 i233:=by kernel_rfl,
 m17:=by kernel_rfl,
 m18:=by kernel_rfl,
 m19:=by kernel_rfl }
end Go.Proofs.YtlglakdefklhoaaGreatDoor
set_option maxRecDepth 100000
set_option linter.unusedSimpArgs false
set_option linter.unusedVariables false
set_option linter.unusedSectionVars false
namespace Go.Proofs.YtlglakdefklhoaaGreatDoor
open Go.RowKit
def Cx (n:Int):ByteArray:=⟨(Lib.itoa n).toArray⟩
noncomputable def MC:List SV→Option SV
 | [.int .i64 n]=>bif dec (0≤n∧n≤1099511627776) then some (.str (Cx n)) else none
 | _=>none
theorem MD {n:Int} (h0:0≤n) (h1:n≤1099511627776):(Cx n).size≤20:=by
 obtain ⟨u,rfl⟩:∃ u:Nat,n=u:=⟨n.toNat,by omega⟩
 show (Lib.itoa u).toArray.size≤20
 rw [Lib.itoa_nonneg,List.size_toArray,Lib.decDigits_length]
 rcases yG u with rfl | hu
 ·rw [Lib.nDigits_small (by omega)]; omega
 ·have:=Lib.numDigits_eq u hu (by omega)
  split at this <;> omega
theorem P1 {xs:List SV} {r:SV} (h:MC xs=some r):Fun Tryz.prog 62 xs [] r []:=by
 unfold MC at h
 split at h
 ·rename_i n
  obtain ⟨h1,h2⟩:=Ak h
  obtain ⟨k1,k2⟩:=Ax.1 h1
  obtain rfl:=zI h2
  intro w I V B vs hwf hvs
  obtain ⟨v,q,rfl,hv,hvs⟩:=C4 hvs
  obtain rfl:=Jb hvs
  obtain rfl:=TI hv
  have hcon:=Any.strconv_Itoa Ql n (by omega) (by omega) w hwf.gl.1.2.2
  change Calls Tryz.prog 62 _ _ _ at hcon
  refine hcon.mono ?_
  rintro e w' ⟨rfl,k,os,rfl⟩
  have hsz:w.heap.size≤(Sort.grow (w.drewN k) os).heap.size:=by simp [Sort.grow,World.drewN]
  have hbl:∀ x,x<w.heap.size→(Sort.grow (w.drewN k) os).heap[x]?=w.heap[x]?:=fun x hx=>by
   simp only [Sort.grow,World.drewN]
   rw [yL hx]
  have hno:∀ g,¬ (Ad ([]:List Ob) g).live:=fun g h=>by
   have e:Ad ([]:List Ob) g=.free:=rfl
   rw [e] at h
   exact h
  refine ⟨_,I,V,B,rfl,?_,⟨⟨rfl,⟨rfl,fun h=>False.elim h⟩,rfl,hsz,fun x hx _=>hbl x hx⟩,fun _ h=>h,fun _ h=>.inl h,VLe.refl _,⟨fun x hx=>Nat.lt_of_lt_of_le (hwf.ilt x hx) hsz,fun g hl=>(hno g hl).elim,fun g x hl=>(hno g hl).elim,fun g x hl=>(hno g hl).elim,fun g g' x hl=>(hno g hl).elim,fun g hg=>hwf.fr g rfl,hwf.gl.keep ⟨hsz,fun x _ hx=>hbl x hx⟩ fun _ h=>h⟩,fun g x hl=>(hno g hl).elim⟩⟩
  have:=MD k1 k2
  simp only [RepV]
  exact ⟨rfl,by omega⟩
 ·cases h
end Go.Proofs.YtlglakdefklhoaaGreatDoor
set_option maxRecDepth 100000
namespace Go.Proofs.YtlglakdefklhoaaGreatDoor
open Go.Shelf
def so_Split_ren:Go.Shelf.Ren:=⟨fun | 146=>40 | 221=>63 | 268=>94 | 138=>95 | 143=>96 | 195=>106 | 197=>107 | 218=>108 | 219=>109 | 260=>122 | 217=>123 | 225=>124 | 224=>125 | 267=>126 | 266=>135 | 314=>136 | n=>n,fun | 9=>9 | 31=>65 | 3=>3 | 4=>4 | 0=>0 | 105=>107 | 21=>21 | 5=>5 | 46=>95 | 119=>135 | 139=>138 | 138=>137 | 146=>139 | 51=>132 | n=>n,fun | 1=>0 | 3=>4 | 4=>5 | n=>n⟩
theorem RY:Go.Proofs.Lays.n146 Tryz.prog so_Split_ren:={
 mixed:=by kernel_rfl,
 f138:=Tryz.func95.trans (congrArg some (by kernel_rfl)),
 f143:=Tryz.func96.trans (congrArg some (by kernel_rfl)),
 f146:=Tryz.func40.trans (congrArg some (by kernel_rfl)),
 f195:=Tryz.func106.trans (congrArg some (by kernel_rfl)),
 f197:=Tryz.func107.trans (congrArg some (by kernel_rfl)),
 f217:=Tryz.func123.trans (congrArg some (by kernel_rfl)),
 f218:=Tryz.func108.trans (congrArg some (by kernel_rfl)),
 f219:=Tryz.func109.trans (congrArg some (by kernel_rfl)),
 f221:=Tryz.func63.trans (congrArg some (by kernel_rfl)),
 f224:=Tryz.func125.trans (congrArg some (by kernel_rfl)),
 f225:=Tryz.func124.trans (congrArg some (by kernel_rfl)),
 f260:=Tryz.func122.trans (congrArg some (by kernel_rfl)),
 f266:=Tryz.func135.trans (congrArg some (by kernel_rfl)),
 f267:=Tryz.func126.trans (congrArg some (by kernel_rfl)),
 f268:=Tryz.func94.trans (congrArg some (by kernel_rfl)),
 f314:=Tryz.func136.trans (congrArg some (by kernel_rfl)),
 t0:=Tryz.underlying0,
 a0:=Tryz.isAgg0,
 z0:=Tryz.sizeOf0,
 v0:=Tryz.zeroValue0,
 t3:=Tryz.underlying3,
 a3:=Tryz.isAgg3,
 z3:=Tryz.sizeOf3,
 v3:=Tryz.zeroValue3,
 t4:=Tryz.underlying4,
 a4:=Tryz.isAgg4,
 z4:=Tryz.sizeOf4,
 v4:=Tryz.zeroValue4,
 t5:=Tryz.underlying5,
 a5:=Tryz.isAgg5,
 z5:=Tryz.sizeOf5,
 v5:=Tryz.zeroValue5,
 t9:=Tryz.underlying9,
 a9:=Tryz.isAgg9,
 z9:=Tryz.sizeOf9,
 v9:=Tryz.zeroValue9,
 t21:=Tryz.underlying21,
 a21:=Tryz.isAgg21,
 z21:=Tryz.sizeOf21,
 v21:=Tryz.zeroValue21,
 t31:=Tryz.underlying65,
 a31:=Tryz.isAgg65,
 z31:=Tryz.sizeOf65,
 v31:=Tryz.zeroValue65,
 t46:=Tryz.underlying95,
 a46:=Tryz.isAgg95,
 z46:=Tryz.sizeOf95,
 v46:=Tryz.zeroValue95,
 t51:=Tryz.underlying132,
 a51:=Tryz.isAgg132,
 z51:=Tryz.sizeOf132,
 v51:=Tryz.zeroValue132,
 t105:=Tryz.underlying107,
 a105:=Tryz.isAgg107,
 z105:=Tryz.sizeOf107,
 v105:=Tryz.zeroValue107,
 t119:=Tryz.underlying135,
 a119:=Tryz.isAgg135,
 z119:=Tryz.sizeOf135,
 t138:=Tryz.underlying137,
 a138:=Tryz.isAgg137,
 z138:=Tryz.sizeOf137,
 v138:=Tryz.zeroValue137,
 t139:=Tryz.underlying138,
 a139:=Tryz.isAgg138,
 z139:=Tryz.sizeOf138,
 v139:=Tryz.zeroValue138,
 t146:=Tryz.underlying139,
 a146:=Tryz.isAgg139,
 z146:=Tryz.sizeOf139,
 v146:=Tryz.zeroValue139,
 g1:=by kernel_rfl,
 g3:=by kernel_rfl,
 g4:=by kernel_rfl }
end Go.Proofs.YtlglakdefklhoaaGreatDoor
set_option maxRecDepth 100000
set_option linter.unusedSimpArgs false
set_option linter.unusedVariables false
set_option linter.unusedSectionVars false
namespace Go.Proofs.YtlglakdefklhoaaGreatDoor
open Go.RowKit
theorem Kh (s:ByteArray) (a b:Nat):(s.extract a b).size≤s.size:=by
 rw [ByteArray.size_extract]; omega
theorem ME {g x:ByteArray}:∀ (k:Nat) (s:ByteArray),x∈Lib.splitB g 0 k s→x.size≤s.size
 | 0,s,h=>by
  rw [Lib.splitB_zero] at h
  obtain rfl:=List.mem_singleton.1 h
  exact zJ _
 | k+1,s,h=>by
  rcases Lib.indexB_cases s g with h1 | ⟨i,h1,_⟩
  ·rw [Lib.splitB_miss g 0 _ s h1] at h
   obtain rfl:=List.mem_singleton.1 h
   exact zJ _
  ·rw [Lib.splitB_hit g 0 k s i h1] at h
   rcases z6.1 h with rfl | h
   ·exact Kh _ _ _
   ·exact Nat.le_trans (ME k _ h) (Kh _ _ _)
noncomputable def Dj (s g:ByteArray):List ByteArray:=Lib.splitB g 0 (Lib.countB s g) s
noncomputable def JC:List SV→Option SV
 | [.str s,.str g]=>bif dec (s.size≤1048576∧1≤g.size) then some (.arr ((Dj s g).map fun x=>[D.str x])) else none
 | _=>none
theorem Oy {xs:List SV} {r:SV} (h:JC xs=some r):Fun Tryz.prog 40 xs [] r []:=by
 unfold JC at h
 split at h
 ·rename_i s g
  obtain ⟨h1,h2⟩:=Ak h
  obtain ⟨k1,k2⟩:=Ax.1 h1
  obtain rfl:=zI h2
  intro w I V B vs hwf hvs
  obtain ⟨v,q,rfl,hv,hvs⟩:=C4 hvs
  obtain ⟨v2,q,rfl,hv2,hvs⟩:=C4 hvs
  obtain rfl:=Jb hvs
  obtain ⟨rfl,_⟩:=EZ hv
  obtain ⟨rfl,_⟩:=EZ hv2
  obtain ⟨g1,g2,m,hm⟩:=hwf.gl.2.1
  have hcon:Calls Tryz.prog 40 #[.string s,.string g] w (fun e w'=>e=.returned (.slice (some ⟨w.heap.size,0,none⟩) (Lib.countB s g+1) (Lib.countB s g+1))∧w'=w.alloc (.cells ((Dj s g).map Value.string).toArray 9)):=Any.strings_Split RY (by kernel_rfl) s g m w (by omega) hm k2
  refine hcon.mono ?_
  have hlen:(Dj s g).length=Lib.countB s g+1:=Lib.splitB_all g k2 0 _ s rfl
  have hcl:=Lib.countB_le g k2 s.size s (zJ _)
  have hsm:∀ x∈Dj s g,x.size≤s.size:=fun x hx=>ME _ s hx
  have hpl:(Dj s g).length≤1048577:=by omega
  rw [←hlen]
  clear hcon hlen hcl
  generalize Dj s g=ps at *
  rintro e w' ⟨rfl,rfl⟩
  obtain ⟨W,hW⟩:∃ W,W=w.alloc (.cells (ps.map Value.string).toArray 9):=⟨_,rfl⟩
  rw [←hW]
  have hrow:W.heap[w.heap.size]?=some (.cells (ps.map Value.string).toArray 9):=by rw [hW]; exact heap_alloc_new w _
  have hsz:W.heap.size=w.heap.size+1:=by rw [hW]; simp
  have hbl:∀ x,x<w.heap.size→W.heap[x]?=w.heap[x]?:=fun x hx=>by rw [hW]; exact Below.heap_alloc _ _ _ hx
  have hno:∀ g,¬ (Ad ([]:List Ob) g).live:=fun g h=>by
   have e:Ad ([]:List Ob) g=.free:=rfl
   rw [e] at h
   exact h
  have hos:W.os=w.os∧W.tape=w.tape∧W.output=w.output:=by rw [hW]; exact ⟨rfl,rfl,rfl⟩
  have hcell:∀ i (hi:i<ps.length),W.cell? ⟨w.heap.size,i,none⟩=some (.string ps[i]):=fun i hi=>by
   unfold World.cell?
   simp only [hrow]
   simp
  refine ⟨_,fun x=>I x∨x=w.heap.size,V,B,rfl,?_,?_⟩
  ·simp only [RepV]
   have hA:DRep false W (fun x=>I x∨x=w.heap.size) (.arr (ps.map fun x=>[D.str x])) (.slice (some ⟨w.heap.size,0,none⟩) (ps.map fun x=>[D.str x]).length ps.length):=by
    refine .arr _ 1 _ _ ps.length (fun i _=>.string (ps.getD i ⟨#[]⟩)) (fun _ _ _=>False) (by simp) (by omega) (.inr ⟨w.heap.size,0,rfl,.inr rfl,by omega,fun i j hi hj=>?_,fun h=>by cases h⟩) (fun i hi=>by simp) (fun _ _ _ h=>h.elim) (fun h=>by cases h) (fun i j hi hj=>?_)
    ·rw [z7] at hi
     have e:0+i*1+j=i:=by omega
     rw [e,hcell i hi]
     show _=some (Value.string (ps.getD i ⟨#[]⟩))
     rw [yC,zX hi]
     rfl
    ·rw [z7] at hi
     simp only [List.getElem_map,zM,zV] at hj
     have hj0:j=0:=by omega
     subst hj0
     simp only [List.getElem_map,List.getElem_cons_zero]
     show DRep false W _ (.str ps[i]) (Value.string (ps.getD i ⟨#[]⟩))
     rw [yC,zX hi]
     exact .str _ _ (by have:=hsm _ (zL hi); show (ps[i]).size≤_; omega)
   rw [z7] at hA
   exact hA
  ·refine ⟨⟨hos.1,⟨hos.2.1,fun h=>False.elim h⟩,hos.2.2,by omega,fun x hx _=>hbl x hx⟩,fun x hx=>.inl hx,fun x hx=>hx.elim .inl fun e=>.inr (.inl (by omega)),VLe.refl _,⟨fun x hx=>?_,fun g hl=>(hno g hl).elim,fun g x hl=>(hno g hl).elim,fun g x hl=>(hno g hl).elim,fun g g' x hl=>(hno g hl).elim,fun g hg=>hwf.fr g hg,hwf.gl.keep ⟨by omega,fun x _ hx=>hbl x hx⟩ fun _ h=>.inl h⟩,fun g x hl=>(hno g hl).elim⟩
   rcases hx with hx | rfl
   ·have:=hwf.ilt x hx; omega
   ·omega
 ·cases h
end Go.Proofs.YtlglakdefklhoaaGreatDoor
set_option maxRecDepth 100000
namespace Go.Proofs.YtlglakdefklhoaaGreatDoor
open Go.Shelf
def so_Atoi_ren:Go.Shelf.Ren:=⟨fun | 172=>64 | 244=>97 | 245=>98 | 247=>110 | 279=>111 | 280=>112 | 281=>113 | 282=>114 | 287=>127 | 316=>128 | 171=>62 | 205=>129 | 321=>137 | 322=>138 | 243=>93 | 246=>105 | 283=>118 | 284=>119 | 285=>120 | 286=>121 | 129=>131 | 317=>130 | 318=>132 | 319=>133 | 320=>134 | 337=>139 | 338=>140 | n=>n,fun | 9=>9 | 3=>3 | 75=>79 | 76=>80 | 4=>4 | 5=>5 | 167=>110 | 37=>22 | 0=>0 | 85=>111 | 2=>2 | 168=>113 | 53=>55 | 175=>124 | 46=>95 | 210=>128 | 127=>100 | 145=>144 | 143=>142 | 21=>21 | 171=>119 | 173=>122 | 212=>131 | 51=>132 | 20=>20 | 213=>133 | 232=>146 | 233=>147 | 80=>71 | n=>n,fun | 15=>1 | 16=>2 | 17=>3 | 18=>6 | 19=>7 | n=>n⟩
theorem Qm:Go.Proofs.LaysC.n172 Tryz.prog so_Atoi_ren:={
 mixed:=by kernel_rfl,
 f129:=Tryz.func131.trans (congrArg some (by kernel_rfl)),
 f171:=Tryz.func62.trans (congrArg some (by kernel_rfl)),
 f172:=Tryz.func64.trans (congrArg some (by kernel_rfl)),
 f205:=Tryz.func129.trans (congrArg some (by kernel_rfl)),
 f243:=Tryz.func93.trans (congrArg some (by kernel_rfl)),
 f244:=Tryz.func97.trans (congrArg some (by kernel_rfl)),
 f245:=Tryz.func98.trans (congrArg some (by kernel_rfl)),
 f246:=Tryz.func105.trans (congrArg some (by kernel_rfl)),
 f247:=Tryz.func110.trans (congrArg some (by kernel_rfl)),
 f279:=Tryz.func111.trans (congrArg some (by kernel_rfl)),
 f280:=Tryz.func112.trans (congrArg some (by kernel_rfl)),
 f281:=Tryz.func113.trans (congrArg some (by kernel_rfl)),
 f282:=Tryz.func114.trans (congrArg some (by kernel_rfl)),
 f283:=Tryz.func118.trans (congrArg some (by kernel_rfl)),
 f284:=Tryz.func119.trans (congrArg some (by kernel_rfl)),
 f285:=Tryz.func120.trans (congrArg some (by kernel_rfl)),
 f286:=Tryz.func121.trans (congrArg some (by kernel_rfl)),
 f287:=Tryz.func127.trans (congrArg some (by kernel_rfl)),
 f316:=Tryz.func128.trans (congrArg some (by kernel_rfl)),
 f317:=Tryz.func130.trans (congrArg some (by kernel_rfl)),
 f318:=Tryz.func132.trans (congrArg some (by kernel_rfl)),
 f319:=Tryz.func133.trans (congrArg some (by kernel_rfl)),
 f320:=Tryz.func134.trans (congrArg some (by kernel_rfl)),
 f321:=Tryz.func137.trans (congrArg some (by kernel_rfl)),
 f322:=Tryz.func138.trans (congrArg some (by kernel_rfl)),
 f337:=Tryz.func139.trans (congrArg some (by kernel_rfl)),
 f338:=Tryz.func140.trans (congrArg some (by kernel_rfl)),
 t0:=Tryz.underlying0,
 a0:=Tryz.isAgg0,
 z0:=Tryz.sizeOf0,
 v0:=Tryz.zeroValue0,
 t2:=Tryz.underlying2,
 a2:=Tryz.isAgg2,
 z2:=Tryz.sizeOf2,
 v2:=Tryz.zeroValue2,
 t3:=Tryz.underlying3,
 a3:=Tryz.isAgg3,
 z3:=Tryz.sizeOf3,
 v3:=Tryz.zeroValue3,
 t4:=Tryz.underlying4,
 a4:=Tryz.isAgg4,
 z4:=Tryz.sizeOf4,
 v4:=Tryz.zeroValue4,
 t5:=Tryz.underlying5,
 a5:=Tryz.isAgg5,
 z5:=Tryz.sizeOf5,
 v5:=Tryz.zeroValue5,
 t9:=Tryz.underlying9,
 a9:=Tryz.isAgg9,
 z9:=Tryz.sizeOf9,
 v9:=Tryz.zeroValue9,
 t20:=Tryz.underlying20,
 a20:=Tryz.isAgg20,
 z20:=Tryz.sizeOf20,
 v20:=Tryz.zeroValue20,
 t21:=Tryz.underlying21,
 a21:=Tryz.isAgg21,
 z21:=Tryz.sizeOf21,
 v21:=Tryz.zeroValue21,
 t37:=Tryz.underlying22,
 a37:=Tryz.isAgg22,
 z37:=Tryz.sizeOf22,
 v37:=Tryz.zeroValue22,
 t46:=Tryz.underlying95,
 a46:=Tryz.isAgg95,
 z46:=Tryz.sizeOf95,
 v46:=Tryz.zeroValue95,
 t51:=Tryz.underlying132,
 a51:=Tryz.isAgg132,
 z51:=Tryz.sizeOf132,
 v51:=Tryz.zeroValue132,
 t53:=Tryz.underlying55,
 a53:=Tryz.isAgg55,
 z53:=Tryz.sizeOf55,
 v53:=Tryz.zeroValue55,
 t75:=Tryz.underlying79,
 a75:=Tryz.isAgg79,
 z75:=Tryz.sizeOf79,
 v75:=Tryz.zeroValue79,
 t76:=Tryz.underlying80,
 a76:=Tryz.isAgg80,
 z76:=Tryz.sizeOf80,
 v76:=Tryz.zeroValue80,
 t85:=Tryz.underlying111,
 a85:=Tryz.isAgg111,
 z85:=Tryz.sizeOf111,
 v85:=Tryz.zeroValue111,
 t127:=Tryz.underlying100,
 a127:=Tryz.isAgg100,
 z127:=Tryz.sizeOf100,
 v127:=Tryz.zeroValue100,
 t143:=Tryz.underlying142,
 a143:=Tryz.isAgg142,
 z143:=Tryz.sizeOf142,
 v143:=Tryz.zeroValue142,
 t145:=Tryz.underlying144,
 a145:=Tryz.isAgg144,
 z145:=Tryz.sizeOf144,
 v145:=Tryz.zeroValue144,
 t167:=Tryz.underlying110,
 a167:=Tryz.isAgg110,
 z167:=Tryz.sizeOf110,
 v167:=Tryz.zeroValue110,
 t168:=Tryz.underlying113,
 a168:=Tryz.isAgg113,
 z168:=Tryz.sizeOf113,
 v168:=Tryz.zeroValue113,
 t171:=Tryz.underlying119,
 a171:=Tryz.isAgg119,
 z171:=Tryz.sizeOf119,
 v171:=Tryz.zeroValue119,
 t173:=Tryz.underlying122,
 a173:=Tryz.isAgg122,
 z173:=Tryz.sizeOf122,
 v173:=Tryz.zeroValue122,
 t175:=Tryz.underlying124,
 a175:=Tryz.isAgg124,
 z175:=Tryz.sizeOf124,
 v175:=Tryz.zeroValue124,
 t210:=Tryz.underlying128,
 a210:=Tryz.isAgg128,
 z210:=Tryz.sizeOf128,
 v210:=Tryz.zeroValue128,
 t212:=Tryz.underlying131,
 a212:=Tryz.isAgg131,
 z212:=Tryz.sizeOf131,
 v212:=Tryz.zeroValue131,
 t213:=Tryz.underlying133,
 a213:=Tryz.isAgg133,
 z213:=Tryz.sizeOf133,
 t232:=Tryz.underlying146,
 a232:=Tryz.isAgg146,
 z232:=Tryz.sizeOf146,
 v232:=Tryz.zeroValue146,
 t233:=Tryz.underlying147,
 a233:=Tryz.isAgg147,
 z233:=Tryz.sizeOf147,
 v233:=Tryz.zeroValue147,
 g15:=by kernel_rfl,
 g16:=by kernel_rfl,
 g17:=by kernel_rfl,
 g18:=by kernel_rfl,
 g19:=by kernel_rfl,
 t80:=Tryz.underlying71,
 a80:=Tryz.isAgg71,
 z80:=Tryz.sizeOf71,
 v80:=Tryz.zeroValue71,
 i0:=by kernel_rfl,
 i2:=by kernel_rfl,
 i3:=by kernel_rfl,
 i4:=by kernel_rfl,
 i5:=by kernel_rfl,
 i9:=by kernel_rfl,
 i20:=by kernel_rfl,
 i21:=by kernel_rfl,
 i37:=by kernel_rfl,
 i46:=by kernel_rfl,
 i51:=by kernel_rfl,
 i53:=by kernel_rfl,
 i75:=by kernel_rfl,
 i76:=by kernel_rfl,
 i80:=by kernel_rfl,
 i85:=by kernel_rfl,
 i127:=by kernel_rfl,
 i143:=by kernel_rfl,
 i145:=by kernel_rfl,
 i167:=by kernel_rfl,
 i168:=by kernel_rfl,
 i171:=by kernel_rfl,
 i173:=by kernel_rfl,
 i175:=by kernel_rfl,
 i210:=by kernel_rfl,
 i212:=by kernel_rfl,
 i232:=by kernel_rfl,
 i233:=by kernel_rfl,
 m15:=by kernel_rfl,
 m16:=by kernel_rfl,
 m17:=by kernel_rfl,
 m18:=by kernel_rfl,
 m19:=by kernel_rfl,
 c0:=by kernel_rfl,
 c2:=by kernel_rfl,
 c3:=by kernel_rfl,
 c4:=by kernel_rfl,
 c5:=by kernel_rfl,
 c9:=by kernel_rfl,
 c20:=by kernel_rfl,
 c21:=by kernel_rfl,
 c37:=by kernel_rfl,
 c46:=by kernel_rfl,
 c51:=by kernel_rfl,
 c53:=by kernel_rfl,
 c75:=by kernel_rfl,
 c76:=by kernel_rfl,
 c80:=by kernel_rfl,
 c85:=by kernel_rfl,
 c127:=by kernel_rfl,
 c143:=by kernel_rfl,
 c145:=by kernel_rfl,
 c167:=by kernel_rfl,
 c168:=by kernel_rfl,
 c171:=by kernel_rfl,
 c173:=by kernel_rfl,
 c175:=by kernel_rfl,
 c210:=by kernel_rfl,
 c212:=by kernel_rfl,
 c213:=by kernel_rfl,
 c232:=by kernel_rfl,
 c233:=by kernel_rfl }
end Go.Proofs.YtlglakdefklhoaaGreatDoor
set_option maxRecDepth 100000
set_option linter.unusedSimpArgs false
set_option linter.unusedVariables false
set_option linter.unusedSectionVars false
namespace Go.Proofs.YtlglakdefklhoaaGreatDoor
open Go.RowKit
theorem Fun.Qn {f:FuncId} {args:List SV} {r:SV} {rv:Value} (hr:∀ (w:World) (I:Nat→Prop) (V:Nat→Option Value),RepV w I V r rv)
  (h:∀ (w:World) (I:Nat→Prop) (V:Nat→Option Value) (vs:List Value),GL w I→RepVs w I V args vs→Calls Tryz.prog f vs.toArray w (Ret w rv)):Fun Tryz.prog f args [] r []:=by
 intro w I V B vs hwf hvs
 refine (h w I V vs hwf.gl hvs).mono ?_
 rintro e w' ⟨rfl,hb⟩
 refine ⟨rv,I,V,B,rfl,hr _ _ _,⟨⟨hb.os,⟨hb.tape,fun h=>False.elim h⟩,hb.output,hb.size,fun b hlt _=>hb.block b hlt⟩,fun _ h=>h,fun _ h=>.inl h,VLe.refl _,?_,fun g b hl=>by simp [Ad,Ob.live] at hl⟩⟩
 exact ⟨fun b hb'=>Nat.lt_of_lt_of_le (hwf.ilt b hb') hb.size,fun g hl=>by simp [Ad,Ob.live] at hl,fun g b hl=>by simp [Ad,Ob.live] at hl,fun g b hl=>by simp [Ad,Ob.live] at hl,fun g g' b hl=>by simp [Ad,Ob.live] at hl,fun g hf=>hwf.fr g rfl,hwf.gl.keep ⟨hb.size,fun b _ hlt=>hb.block b hlt⟩ fun _ h=>h⟩
theorem LV (w:World) (tp:TypeId) (p:Value) (hc:w.cell? ⟨1,0,none⟩=some (.iface tp p)):Calls Tryz.prog 41 #[.string ⟨#[]⟩] w (Ret w (.tuple #[.int .i64 0,.bool false])):=by
 have hA:Calls Tryz.prog 64 #[.string ⟨#[]⟩] w fun e w'=>∃ N t,e=.returned (.tuple #[.int .i64 0,.iface t (.pointer (some ⟨N,0,none⟩))])∧Below w.heap.size w w':=by
  refine (Any.strconv_Atoi_err Qm ⟨#[]⟩ (by decide) rfl (.iface tp p) w hc (.inr ⟨tp,p,rfl⟩)).mono ?_
  rintro e w' ⟨N,rfl,_,_,hb⟩
  exact ⟨N,_,rfl,hb⟩
 go_enter Tryz.func41,Tryz.ntmps41
 go_wp2_with (go_at_call 64; refine hA.mono ?_; rintro e w1 ⟨N,t,rfl,hb⟩)
 go_ret2
 exact ⟨rfl,hb⟩
theorem RZ {w w':World} (hlt:3 < w.heap.size) (ht:Lib.TabIs Tryz.prog w "internal/strconv.uint64pow10" .u64 Lib.pow10Tab) (hb:Below w.heap.size w w'):Lib.TabIs Tryz.prog w' "internal/strconv.uint64pow10" .u64 Lib.pow10Tab:=by
 unfold Lib.TabIs World.var? at *
 rw [show Tryz.prog.globalNamed "internal/strconv.uint64pow10"=some 3 by kernel_rfl,Option.bind_some] at *
 rw [hb.block _ hlt]
 exact ht
theorem Lr (k:Int) (h0:0≤k) (h3:k≤3) (hk:Lib.atoiAll (Cx k).data.toList=.ok k) (w:World) (hlt:3 < w.heap.size) (ht:Lib.TabIs Tryz.prog w "internal/strconv.uint64pow10" .u64 Lib.pow10Tab):Calls Tryz.prog 41 #[.string (Cx k)] w (Ret w (.tuple #[.int .i64 k,.bool true])):=by
 have hsz:=MD h0 (by omega:k≤1099511627776)
 have hA:Calls Tryz.prog 64 #[.string (Cx k)] w fun e w'=>e=.returned (.tuple #[.int .i64 k,.nilIface])∧Below w.heap.size w w':=by
  refine (Any.strconv_Atoi_ok Qm (Cx k) (by omega) k hk w).mono ?_
  rintro e w' ⟨rfl,rfl | ⟨t,rfl⟩⟩
  ·exact ⟨rfl,Below.refl _ _⟩
  ·exact ⟨rfl,Lib.bytesWorld_below _ _ _⟩
 have hw:inB k (-999999) 999999=true:=by unfold inB; rw [decide_eq_true (by omega),decide_eq_true (by omega)]; rfl
 have hI:∀ W:World,Below w.heap.size w W→Calls Tryz.prog 62 #[.int .i64 k] W fun e w'=>e=.returned (.string (Cx k))∧Below w.heap.size w w':=fun W hW=>by
  have hcon:=Any.strconv_Itoa Ql k (by omega) (by omega) W (RZ hlt ht hW)
  change Calls Tryz.prog 62 _ _ _ at hcon
  refine hcon.mono ?_
  rintro e w' ⟨rfl,n,os,rfl⟩
  refine ⟨rfl,hW.os,hW.tape,hW.output,?_,fun b hb=>?_⟩
  ·have:=hW.size
   simp [Sort.grow,World.drewN]; omega
  ·rw [←hW.block b hb]
   simp only [Sort.grow,World.drewN]
   rw [yL (by have:=hW.size; omega)]
 clear hk ht
 go_enter Tryz.func41,Tryz.ntmps41
 go_wp2_with (first
  |(go_at_call 64; refine hA.mono ?_; rintro e w1 ⟨rfl,hb1⟩)
  |(go_at_call 61; refine (GQ k (-999999) 999999 _).mono ?_; rintro e w2 ⟨rfl,rfl⟩; rw [hw])
  |(go_at_call 62; refine (hI _ hb1).mono ?_; rintro e w3 ⟨rfl,hb3⟩))
 go_ret2
 exact ⟨rfl,hb3⟩
noncomputable def UT (s:ByteArray):Int:=BJ s 0-48
noncomputable def DR:List SV→Option SV
 | [.str s]=>bif dec (s=⟨#[]⟩) then some (.tup [.int .i64 0,.bool false]) else bif dec (∃ k:Int,0≤k∧k≤3∧s=Cx k∧UT s=k) then some (.tup [.int .i64 (UT s),.bool true]) else none
 | _=>none
theorem P2 {k:Int} (h0:0≤k) (h3:k≤3):Lib.atoiAll (Cx k).data.toList=.ok k:=by
 rcases (show k=0∨k=1∨k=2∨k=3 by omega) with rfl | rfl | rfl | rfl <;> kernel_rfl
theorem Ls {xs:List SV} {r:SV} (h:DR xs=some r):Fun Tryz.prog 41 xs [] r []:=by
 unfold DR at h
 split at h
 ·rename_i s
  cases hs:dec (s=⟨#[]⟩) with
  | true =>
   rw [hs,cond_true] at h
   obtain rfl:=zI h
   obtain rfl:=Ax.1 hs
   refine Fun.Qn (rv:=.tuple #[.int .i64 0,.bool false]) (fun w I V=>by simp only [RepV,RepVs]; exact ⟨[.int .i64 0,.bool false],rfl,_,_,rfl,rfl,_,_,rfl,rfl,rfl⟩) fun w I V vs hgl hvs=>?_
   obtain ⟨v,q,rfl,hv,hvs⟩:=C4 hvs
   obtain rfl:=Jb hvs
   obtain ⟨rfl,_⟩:=EZ hv
   obtain ⟨_,_,e1,e2,tp,p,e3⟩:=hgl
   exact LV w tp p e3
  | false =>
   rw [hs,cond_false] at h
   obtain ⟨h1,h2⟩:=Ak h
   obtain ⟨k,k0,k3,rfl,hd⟩:=Ax.1 h1
   obtain rfl:=zI h2
   rw [hd]
   refine Fun.Qn (rv:=.tuple #[.int .i64 k,.bool true]) (fun w I V=>by simp only [RepV,RepVs]; exact ⟨[.int .i64 k,.bool true],rfl,_,_,rfl,rfl,_,_,rfl,rfl,rfl⟩) fun w I V vs hgl hvs=>?_
   obtain ⟨v,q,rfl,hv,hvs⟩:=C4 hvs
   obtain rfl:=Jb hvs
   obtain ⟨rfl,_⟩:=EZ hv
   obtain ⟨⟨_,g1,g2⟩,_⟩:=hgl
   exact Lr k k0 k3 (P2 k0 k3) w g1 g2
 ·cases h
def Qo:List (Nat × FM)→Nat→FM
 | [],_=>⟨[],.asis,none,false⟩
 | (f,m) :: r,g=>bif f == g then m else Qo r g
theorem QG {l:List (Nat × FM)} {f:Nat} {g:List SV→List Ob→Option (SV × List Ob)} (h:(Qo l f).ext=some g):∃ m,(f,m)∈l∧m.ext=some g:=by
 induction l with
 | nil=>cases h
 | cons x r ih =>
  obtain ⟨f',m⟩:=x
  simp only [Qo] at h
  cases e:f' == f with
  | true =>
   rw [e] at h
   obtain rfl:f'=f:=by simpa using e
   exact ⟨m,by simp,h⟩
  | false =>
   rw [e] at h
   obtain ⟨m',h1,h2⟩:=ih h
   exact ⟨m',by simp [h1],h2⟩
noncomputable def Wj:List SV→Option SV
 | [.int .i64 k]=>bif dec (1≤k)&&dec (k≤1099511627776) then some (.str (VS k)) else none
 | _=>none
def Sa:List SV→Option SV
 | [.str s]=>some (.bool (Fy s))
 | _=>none
theorem QH {xs:List SV} {r:SV} (h:Sa xs=some r):Fun Tryz.prog 83 xs [] r []:=by
 unfold Sa at h
 split at h
 ·rename_i s
  obtain rfl:=zI h
  refine Fun.of_same (rv:=.bool (Fy s)) (fun w I V=>by simp only [RepV]) fun w I V vs h=>?_
  obtain ⟨v,r,rfl,h3,h⟩:=C4 h
  obtain rfl:=Jb h
  obtain ⟨rfl,h4⟩:=EZ h3
  exact Lp s w h4
 ·cases h
def Sc:List SV→Option SV
 | [.str s]=>some (.bool (Fy s))
 | _=>none
theorem QI {xs:List SV} {r:SV} (h:Sc xs=some r):Fun Tryz.prog 74 xs [] r []:=by
 unfold Sc at h
 split at h
 ·rename_i s
  obtain rfl:=zI h
  refine Fun.of_same (rv:=.bool (Fy s)) (fun w I V=>by simp only [RepV]) fun w I V vs h=>?_
  obtain ⟨v,r,rfl,h3,h⟩:=C4 h
  obtain rfl:=Jb h
  obtain ⟨rfl,h4⟩:=EZ h3
  exact QF s w h4
 ·cases h
def Sd:List SV→Option SV
 | [.str s]=>some (.bool (Ei s))
 | _=>none
theorem QJ {xs:List SV} {r:SV} (h:Sd xs=some r):Fun Tryz.prog 54 xs [] r []:=by
 unfold Sd at h
 split at h
 ·rename_i s
  obtain rfl:=zI h
  refine Fun.Pw (rv:=.bool (Ei s)) (fun w I V=>by simp only [RepV]) fun w I V vs h=>?_
  obtain ⟨v,r,rfl,h3,h⟩:=C4 h
  obtain rfl:=Jb h
  obtain ⟨rfl,h4⟩:=EZ h3
  exact Nv s w h4
 ·cases h
def Se:List SV→Option SV
 | [.str s]=>some (.bool (Ei s))
 | _=>none
theorem QK {xs:List SV} {r:SV} (h:Se xs=some r):Fun Tryz.prog 48 xs [] r []:=by
 unfold Se at h
 split at h
 ·rename_i s
  obtain rfl:=zI h
  refine Fun.of_same (rv:=.bool (Ei s)) (fun w I V=>by simp only [RepV]) fun w I V vs h=>?_
  obtain ⟨v,r,rfl,h3,h⟩:=C4 h
  obtain rfl:=Jb h
  obtain ⟨rfl,h4⟩:=EZ h3
  exact Nw s w h4
 ·cases h
noncomputable def modes:FuncId→FM:=Qo [(83,⟨[],.asis,some (G4 Sa),false⟩),(74,⟨[],.asis,some (G4 Sc),false⟩),(54,⟨[],.asis,some (G4 Sd),false⟩),(48,⟨[],.asis,some (G4 Se),false⟩),(40,⟨[],.asis,some (G4 JC),false⟩),(45,⟨[],.asis,some (G4 MB),false⟩),(41,⟨[],.asis,some (G4 DR),false⟩),(62,⟨[],.asis,some (G4 MC),false⟩),(26,⟨[],.own [none,some (26,2)],none,false⟩),(29,⟨[],.own [none,some (26,2)],none,false⟩),(34,⟨[],.own [none,none,some (26,2)],none,false⟩),(9,⟨[],.own [none,some (26,2),none],none,false⟩),(11,⟨[],.own [none,some (26,2),none],none,false⟩),(14,⟨[],.own [none,none,some (26,2),none],none,false⟩),(91,⟨[],.half [none,some (26,2)],none,false⟩),(57,⟨[],.half [none,some (26,2)],none,false⟩),(68,⟨[],.half [none,some (26,2)],none,false⟩),(89,⟨[],.half [none,some (26,2)],none,false⟩),(90,⟨[],.half [none,some (26,2)],none,false⟩),(56,⟨[],.half [none,some (26,2)],none,false⟩),(43,⟨[],.half [none,some (26,2)],none,false⟩),(21,⟨[],.frz,none,false⟩),(55,⟨[],.half [none,none,some (26,2)],none,false⟩),(31,⟨[],.half [none,none,some (26,2)],none,false⟩),(5,⟨[],.frz,none,false⟩),(12,⟨[],.frz,none,false⟩),(16,⟨[],.frz,none,false⟩),(18,⟨[],.frz,none,false⟩)]
theorem noExt {l:List (Nat × FM)} (h:(l.all fun p=>p.2.ext.isNone)=true) {f:Nat} {m:FM} {g:List SV→List Ob→Option (SV × List Ob)} (h1:(f,m)∈l) (h2:m.ext=some g):False:=by
 have h3:=yA.1 h _ h1
 rw [h2] at h3
 cases h3
theorem P3:Kx Tryz.prog modes:=by
 intro f g xs ob r ob' hg hx
 obtain ⟨m,h1,h2⟩:=QG hg
 rcases z6.1 h1 with h1 | h1
 ·obtain ⟨rfl,rfl⟩:=yD h1
  obtain rfl:=zI h2
  exact DQ QH hx
 rcases z6.1 h1 with h1 | h1
 ·obtain ⟨rfl,rfl⟩:=yD h1
  obtain rfl:=zI h2
  exact DQ QI hx
 rcases z6.1 h1 with h1 | h1
 ·obtain ⟨rfl,rfl⟩:=yD h1
  obtain rfl:=zI h2
  exact DQ QJ hx
 rcases z6.1 h1 with h1 | h1
 ·obtain ⟨rfl,rfl⟩:=yD h1
  obtain rfl:=zI h2
  exact DQ QK hx
 rcases z6.1 h1 with h1 | h1
 ·obtain ⟨rfl,rfl⟩:=yD h1
  obtain rfl:=zI h2
  exact DQ Oy hx
 rcases z6.1 h1 with h1 | h1
 ·obtain ⟨rfl,rfl⟩:=yD h1
  obtain rfl:=zI h2
  exact DQ P0 hx
 rcases z6.1 h1 with h1 | h1
 ·obtain ⟨rfl,rfl⟩:=yD h1
  obtain rfl:=zI h2
  exact DQ Ls hx
 rcases z6.1 h1 with h1 | h1
 ·obtain ⟨rfl,rfl⟩:=yD h1
  obtain rfl:=zI h2
  exact DQ P1 hx
 exact (noExt rfl h1 h2).elim
noncomputable def E:FEnv:=ev Tryz.prog modes
noncomputable def calls:CallF:=CB modes E
theorem UU {f:FuncId} {xs:List SV} {ob:List Ob} {r:SV} {ob':List Ob} (h:E f xs ob=some (r,ob')):Fun Tryz.prog f xs ob r ob':=TH UP P3 f xs ob r ob' h
noncomputable def run (n0:Nat):SC→St→Option (X × St):=fr Tryz.prog calls (I8 n0)
def go (n0:Nat) (sc:SC) (st:St) (K:X→St→Prop):Prop:=∃ x st',run n0 sc st=some (x,st')∧K x st'
def TM (n0:Nat) (b:SC) (K:X→St→Prop):X→St→Prop
 | .normal,st=>go n0 b st K
 | .exit i,st=>K (.exit i) st
 | .ret,st=>K .ret st
def blk (id:Nat) (K:X→St→Prop):X→St→Prop
 | .normal,st=>K .normal st
 | .exit i,st=>if i=id then K .normal st else K (.exit i) st
 | .ret,st=>K .ret st
def Sf (r:Option St) (k:X→St→Prop):Prop :=
 match r with
 | some st=>k .normal st
 | none=>False
def Sg (anc:List (List Nat)) (r:Option (List Ent × St)) (k:X→St→Prop):Prop :=
 match r with
 | some (es,st)=>obB anc [] (Iw es) 0=true∧k .normal st
 | none=>False
def Lu (v:SV) (a b:Unit→Prop):Prop :=
 match v with
 | .bool true=>a ()
 | .bool false=>b ()
 | _=>False
noncomputable def P4 (ops:List SOper) (st:St):Option St:=KY Tryz.prog calls ops st
noncomputable def P5 (ops:List SOper) (acc:List Ent) (st:St):Option (List Ent × St):=Gz Tryz.prog calls ops acc st
section
variable {n0:Nat} {st:St} {K:X→St→Prop}
theorem go_skip:go n0 .skip st K=K .normal st:=by
 refine propext ⟨fun ⟨x,st',h,k⟩=>?_,fun k=>⟨_,_,rfl,k⟩⟩
 obtain ⟨rfl,rfl⟩:X.normal=x∧st=st':=by simpa [run,fr] using h
 exact k
theorem TN {i:Nat}:go n0 (.exit i) st K=K (.exit i) st:=by
 refine propext ⟨fun ⟨x,st',h,k⟩=>?_,fun k=>⟨_,_,rfl,k⟩⟩
 obtain ⟨rfl,rfl⟩:X.exit i=x∧st=st':=by simpa [run,fr] using h
 exact k
theorem go_ret:go n0 .ret st K=K .ret st:=by
 refine propext ⟨fun ⟨x,st',h,k⟩=>?_,fun k=>⟨_,_,rfl,k⟩⟩
 obtain ⟨rfl,rfl⟩:X.ret=x∧st=st':=by simpa [run,fr] using h
 exact k
theorem UV {ops:List SOper}:go n0 (.reg ops) st K=Sf (P4 ops st) K:=by
 unfold Sf P4
 refine propext ⟨fun ⟨x,st',h,k⟩=>?_,fun k=>?_⟩
 ·simp only [run,fr] at h
  split at h
  ·rename_i s hs
   simp only [zE,zG] at h
   obtain ⟨rfl,rfl⟩:=h
   first | exact k | (simp only [hs]; exact k)
  ·cases h
 ·split at k
  ·rename_i s hs
   exact ⟨.normal,s,by simp only [run,fr,hs],k⟩
  ·exact k.elim
theorem TO {anc:List (List Nat)} {ops:List SOper}:go n0 (.dreg anc ops) st K=Sg anc (P5 ops [] st) K:=by
 unfold Sg P5
 refine propext ⟨fun ⟨x,st',h,k⟩=>?_,fun k=>?_⟩
 ·simp only [run,fr] at h
  split at h
  ·rename_i es s hs
   obtain ⟨h1,h2⟩:=Ak h
   simp only [zE,zG] at h2
   obtain ⟨rfl,rfl⟩:=h2
   first | exact ⟨h1,k⟩ | (simp only [hs]; exact ⟨h1,k⟩)
  ·cases h
 ·split at k
  ·rename_i es s hs
   exact ⟨.normal,s,by simp only [run,fr,hs,k.1,cond_true],k.2⟩
  ·exact k.elim
theorem UW {a b:SC}:go n0 (.seq a b) st K=go n0 a st (TM n0 b K):=by
 refine propext ⟨fun ⟨x,st',h,k⟩=>?_,fun ⟨x,st',h,k⟩=>?_⟩
 ·simp only [run,fr,Cz] at h
  split at h
  ·rename_i s hs
   exact ⟨.normal,s,hs,x,st',h,k⟩
  ·rename_i i s hs
   simp only [zE,zG] at h
   obtain ⟨rfl,rfl⟩:=h
   exact ⟨_,_,hs,k⟩
  ·rename_i s hs
   simp only [zE,zG] at h
   obtain ⟨rfl,rfl⟩:=h
   exact ⟨_,_,hs,k⟩
  ·cases h
 ·simp only [run] at h
  cases x with
  | normal =>
   obtain ⟨x2,st2,h2,k2⟩:=k
   exact ⟨x2,st2,by simp only [run,fr,Cz,h]; exact h2,k2⟩
  | exit i=>exact ⟨_,st',by simp only [run,fr,Cz,h],k⟩
  | ret=>exact ⟨_,st',by simp only [run,fr,Cz,h],k⟩
theorem Sh {n:Nat} {b:SC}:go n0 (.ghost n b) st K=go n0 b (Om n st) K:=by simp only [go,run,fr]
theorem Si {id:Nat} {b:SC}:go n0 (.block id b) st K=go n0 b st (blk id K):=by
 refine propext ⟨fun ⟨x,st',h,k⟩=>?_,fun ⟨x,st',h,k⟩=>?_⟩
 ·simp only [run,fr,GN] at h
  split at h
  ·rename_i s hs
   simp only [zE,zG] at h
   obtain ⟨rfl,rfl⟩:=h
   exact ⟨.normal,s,hs,k⟩
  ·rename_i i s hs
   refine ⟨.exit i,s,hs,?_⟩
   simp only [blk]
   by_cases hi:i=id
   ·simp only [if_pos hi,zE,zG] at h ⊢
    obtain ⟨rfl,rfl⟩:=h
    exact k
   ·simp only [if_neg hi,zE,zG] at h ⊢
    obtain ⟨rfl,rfl⟩:=h
    exact k
  ·rename_i s hs
   simp only [zE,zG] at h
   obtain ⟨rfl,rfl⟩:=h
   exact ⟨_,s,hs,k⟩
  ·cases h
 ·simp only [run] at h
  cases x with
  | normal=>exact ⟨_,st',by simp only [run,fr,GN,h],k⟩
  | exit i =>
   simp only [blk] at k
   by_cases hi:i=id
   ·simp only [if_pos hi] at k
    exact ⟨.normal,st',by simp only [run,fr,GN,h,if_pos hi],k⟩
   ·simp only [if_neg hi] at k
    exact ⟨.exit i,st',by simp only [run,fr,GN,h,if_neg hi],k⟩
  | ret=>exact ⟨_,st',by simp only [run,fr,GN,h],k⟩
theorem Aa {q:SX} {a b:SC}:go n0 (.cond q a b) st K=Lu (Az (gets st.sl) q) (fun _=>go n0 a st K) (fun _=>go n0 b st K):=by
 unfold Lu
 refine propext ⟨fun ⟨x,st',h,k⟩=>?_,fun k=>?_⟩
 ·simp only [run,fr] at h
  split at h
  ·rename_i t ht
   simp only [ht]
   cases t with
   | true=>exact ⟨x,st',h,k⟩
   | false=>exact ⟨x,st',h,k⟩
  ·cases h
 ·split at k
  ·rename_i ht
   obtain ⟨x,st',h,k⟩:=k
   exact ⟨x,st',by simp only [run,fr,ht,cond_true]; exact h,k⟩
  ·rename_i ht
   obtain ⟨x,st',h,k⟩:=k
   exact ⟨x,st',by simp only [run,fr,ht,cond_false]; exact h,k⟩
  ·exact k.elim
theorem TP {a b:Unit→Prop}:Lu (.bool true) a b=a ():=rfl
theorem TQ {a b:Unit→Prop}:Lu (.bool false) a b=b ():=rfl
theorem TR {t:Bool} {a b:Unit→Prop}:Lu (.bool (!t)) a b=Lu (.bool t) b a:=by cases t <;> rfl
theorem H2 {q:SX} {a b:SC} (h:Az (gets st.sl) q=.bool true) (k:go n0 a st K):go n0 (.cond q a b) st K:=by rw [Aa,h]; exact k
theorem H3 {q:SX} {a b:SC} (h:Az (gets st.sl) q=.bool false) (k:go n0 b st K):go n0 (.cond q a b) st K:=by rw [Aa,h]; exact k
theorem Oz {t:Bool} {a b:Unit→Prop} (h1:t=true→a ()) (h2:t=false→b ()):Lu (.bool t) a b:=by
 cases t with
 | true=>exact h1 rfl
 | false=>exact h2 rfl
theorem UX {b:SC}:TM n0 b K .normal st=go n0 b st K:=rfl
theorem UY {b:SC} {i:Nat}:TM n0 b K (.exit i) st=K (.exit i) st:=rfl
theorem UZ {b:SC}:TM n0 b K .ret st=K .ret st:=rfl
theorem VT {id:Nat}:blk id K .normal st=K .normal st:=rfl
theorem VU {id i:Nat}:blk id K (.exit i) st=if i=id then K .normal st else K (.exit i) st:=rfl
theorem VV {id:Nat}:blk id K .ret st=K .ret st:=rfl
theorem TS:Sf (some st) K=K .normal st:=rfl
def quiet:List Ent→Bool
 | []=>true
 | ⟨_,_,[],_⟩ :: r=>quiet r
 | ⟨_,_,_ :: _,_⟩ :: _=>false
theorem Lv {anc:List (List Nat)} {rd:List Nat} {j:Nat}:∀ {l:List Ent} {i:Nat},quiet l=true→OW anc rd [] j (Iw l) i=true
 | [],i,_=>rfl
 | ⟨_,_,[],rdi⟩ :: r,i,h=>by
  have:=Lv (anc:=anc) (rd:=rd) (j:=j) (l:=r) (i:=i+1) h
  simp only [Iw,zD,zY] at this ⊢
  simp only [OW,this,yF]
  have e1:meets [] (rd++[])=false:=rfl
  have e2:meets rdi []=false:=by cases rdi <;> simp [meets]
  rw [e1,e2]; rfl
theorem QL {l l':List Ent} (h:quiet l=true) (h':quiet l'=true):quiet (l++l')=true:=by
 induction l with
 | nil=>exact h'
 | cons x r ih =>
  obtain ⟨a,b,c,d⟩:=x
  cases c with
  | nil=>exact ih h
  | cons _ _=>cases h
theorem MG {anc:List (List Nat)}:∀ {l pre:List Ent} {j:Nat},quiet pre=true→quiet l=true→obB anc (Iw pre) (Iw l) j=true
 | [],pre,j,_,_=>rfl
 | ⟨a,b,[],rd⟩ :: r,pre,j,hp,h=>by
  have e:=MG (anc:=anc) (l:=r) (pre:=pre++[⟨a,b,[],rd⟩]) (j:=j+1) (QL hp rfl) h
  have e2:=Lv (anc:=anc) (rd:=rd) (j:=j) (i:=0) hp
  simp only [Iw,yU,zD,zY] at e e2 ⊢
  simp only [obB,e2,e,zR]
theorem TT {anc:List (List Nat)} {es:List Ent}:Sg anc (some (es,st)) K=match quiet es with
  | true=>K .normal st
  | false=>obB anc [] (Iw es) 0=true∧K .normal st:=by
 show (obB anc [] (Iw es) 0=true∧K .normal st)=_
 cases h:quiet es with
 | true=>exact propext ⟨fun h=>h.2,fun h'=>⟨MG (pre:=[]) rfl h,h'⟩⟩
 | false=>rfl
noncomputable def Va (r:List SOper) (e:Option (Ent × St)):Option St :=
 match e with
 | some (_,st)=>P4 r st
 | none=>none
noncomputable def Vb (r:List SOper) (acc:List Ent) (e:Option (Ent × St)):Option (List Ent × St) :=
 match e with
 | some (x,st)=>P5 r (acc++[x]) st
 | none=>none
noncomputable def opF (so:SOp) (sl:List SV) (ob:List Ob):Option R3:=fOp Tryz.prog calls so sl ob
theorem Sj:P4 [] st=some st:=rfl
theorem QM {d:Option Tmp} {so:SOp} {r:List SOper} {sl:List SV} {ob:List Ob}:P4 (⟨d,none,so⟩ :: r) ⟨sl,ob⟩=Va r (Ib d ⟨sl,ob⟩ (opF so sl ob)):=rfl
noncomputable def gdF (d:Option Tmp) (so:SOp) (want:Bool) (sl:List SV) (ob:List Ob) (v:SV):Option (Ent × St) :=
 match v with
 | .bool b=>bif Pj b want then Ib d ⟨sl,ob⟩ (opF so sl ob) else some (⟨false,.tup [],[],[]⟩,⟨Fl sl d (.tup []),ob⟩)
 | .tup []=>some (⟨false,.tup [],[],[]⟩,⟨Fl sl d (.tup []),ob⟩)
 | _=>none
theorem TU {d:Option Tmp} {k:Nat} {want:Bool} {so:SOp} {r:List SOper} {sl:List SV} {ob:List Ob}:P4 (⟨d,some (k,want),so⟩ :: r) ⟨sl,ob⟩=Va r (gdF d so want sl ob (gets sl k)):=rfl
theorem Sk {acc:List Ent}:P5 [] acc st=some (acc,st):=rfl
theorem QN {d:Option Tmp} {so:SOp} {r:List SOper} {acc:List Ent} {sl:List SV} {ob:List Ob}:P5 (⟨d,none,so⟩ :: r) acc ⟨sl,ob⟩=Vb r acc (Ib d ⟨sl,ob⟩ (opF so sl ob)):=rfl
theorem TV {d:Option Tmp} {k:Nat} {want:Bool} {so:SOp} {r:List SOper} {acc:List Ent} {sl:List SV} {ob:List Ob}:P5 (⟨d,some (k,want),so⟩ :: r) acc ⟨sl,ob⟩=Vb r acc (gdF d so want sl ob (gets sl k)):=rfl
theorem Vd {r:List SOper} {e:Ent}:Va r (some (e,st))=P4 r st:=rfl
theorem Ve {r:List SOper} {acc:List Ent} {e:Ent}:Vb r acc (some (e,st))=P5 r (acc++[e]) st:=rfl
theorem VW {d:Option Tmp} {so:SOp} {sl:List SV} {ob:List Ob}:gdF d so true sl ob (.bool true)=Ib d ⟨sl,ob⟩ (opF so sl ob):=rfl
theorem Vf {d:Option Tmp} {so:SOp} {sl:List SV} {ob:List Ob}:gdF d so false sl ob (.bool false)=Ib d ⟨sl,ob⟩ (opF so sl ob):=rfl
theorem Vg {d:Option Tmp} {so:SOp} {sl:List SV} {ob:List Ob}:gdF d so true sl ob (.bool false)=some (⟨false,.tup [],[],[]⟩,⟨Fl sl d (.tup []),ob⟩):=rfl
theorem Vh {d:Option Tmp} {so:SOp} {sl:List SV} {ob:List Ob}:gdF d so false sl ob (.bool true)=some (⟨false,.tup [],[],[]⟩,⟨Fl sl d (.tup []),ob⟩):=rfl
theorem VX {d:Option Tmp} {so:SOp} {want:Bool} {sl:List SV} {ob:List Ob}:gdF d so want sl ob (.tup [])=some (⟨false,.tup [],[],[]⟩,⟨Fl sl d (.tup []),ob⟩):=rfl
theorem Vi {d:Option Tmp} {x:SV} {rd:List Nat}:Ib d st (some (x,[],rd))=some (⟨true,x,[],rd⟩,⟨Fl st.sl d x,st.ob⟩):=rfl
theorem Vj {d:Option Tmp} {x:SV} {q:Nat × Ob} {u:List (Nat × Ob)} {rd:List Nat}:Ib d st (some (x,q :: u,rd))=bif Q4 (Dh st.ob (q :: u)).length (q :: u) then some (⟨true,x,q :: u,rd⟩,⟨Fl st.sl d x,Dh st.ob (q :: u)⟩) else none:=rfl
def O0 (ob:List Ob) (xs:List SV) (sel:List Nat) (r:Option (SV × List Ob)) (n:Nat):Option R3 :=
 match r with
 | some (r,fob')=>bif decide (n≤fob'.length) then some (FK sel (Bk sel xs) ob.length r fob') else none
 | none=>none
def Vk (hd:List Bool) (f:FuncId) (xs:List SV) (ob:List Ob) (sel:List Nat) (e:List SV→List Ob→Option (SV × List Ob)) (b:Option (List Ob)):Option R3 :=
 match b with
 | some fob=>bif FZ sel&&I5 ob.length sel&&GK fob.length fob then O0 ob xs sel (e (FJ hd (Ad ob) sel xs) fob) fob.length else none
 | none=>none
def Sl (hd:List Bool) (f:FuncId) (xs:List SV) (ob:List Ob) (sel:List Nat) (e:List SV→List Ob→Option (SV × List Ob)):Option R3:=Vk hd f xs ob sel e (EY sel ob sel)
theorem Sm {f:FuncId} {xs:List SV} {ob:List Ob}:calls f xs ob=Fp (modes f).res (Sl (modes f).hand f xs ob (reach ob 64 (G3 (modes f).hand xs) []) (E f)):=rfl
theorem Vl {r:Option R3}:Fp .asis r=r:=rfl
theorem Vm {r:Option R3}:Fp .frz r=r:=rfl
theorem Vn {l:List (Option (Nat × Nat))} {r:Option R3}:Fp (.own l) r=r:=rfl
theorem Vo {l:List (Option (Nat × Nat))} {r:Option R3}:Fp (.half l) r=r:=rfl
theorem Vp {l:List (Option (Nat × Nat))} {r:Option R3}:Fp (.tr l) r=r:=rfl
theorem Vq {d n:Nat} {r:Option R3}:Fp (.frzg d n) r=r:=rfl
theorem Vr {d n:Nat} {l:List (Option (Nat × Nat))} {r:Option R3}:Fp (.halfg d n l) r=r:=rfl
theorem Vs {l:List Nat} {r:Option R3}:Fp (.frl l) r=r:=rfl
theorem Vt {r:R3}:Fp .late (some r)=Oh r:=rfl
theorem I9:∀ u:List (Nat × Ob),D7 [] u=u
 | []=>rfl
 | (g,o) :: u=>by rw [D7,I9 u]; rfl
theorem Vu {m:RM} {b:Bool} {u:List (Nat × Ob)} {rd:List Nat}:Fp m (some (.bool b,u,rd))=some (.bool b,u,rd):=by
 cases m <;> first | rfl | (show some (SV.bool b,D7 [] u,rd)=_; rw [I9])
theorem Vv {m:RM} {k:IntKind} {n:Int} {u:List (Nat × Ob)} {rd:List Nat}:Fp m (some (.int k n,u,rd))=some (.int k n,u,rd):=by
 cases m <;> first | rfl | (show some (SV.int k n,D7 [] u,rd)=_; rw [I9])
theorem QO {hd:List Bool} {f:FuncId} {xs:List SV} {ob:List Ob} {e:List SV→List Ob→Option (SV × List Ob)}:Sl hd f xs ob [] e=O0 ob xs [] (e (FJ hd (Ad ob) [] xs) []) 0:=rfl
theorem P6 {hd:List Bool} {f:FuncId} {xs:List SV} {ob:List Ob} {g:Nat} {r:List Nat} {e:List SV→List Ob→Option (SV × List Ob)}:Sl hd f xs ob (g :: r) e=Vk hd f xs ob (g :: r) e (EY (g :: r) ob (g :: r)):=rfl
theorem TW {ob:List Ob} {xs:List SV} {r:SV} {fob':List Ob}:O0 ob xs [] (some (r,fob')) 0=some (FK [] (Bk [] xs) ob.length r fob'):=rfl
theorem TX {ob:List Ob} {xs:List SV} {sel:List Nat} {r:SV} {fob':List Ob} {n:Nat}:O0 ob xs sel (some (r,fob')) n=bif decide (n≤fob'.length) then some (FK sel (Bk sel xs) ob.length r fob') else none:=rfl
theorem Vw {hd:List Bool} {f:FuncId} {xs:List SV} {ob:List Ob} {sel:List Nat} {fob:List Ob} {e:List SV→List Ob→Option (SV × List Ob)}:Vk hd f xs ob sel e (some fob)=bif FZ sel&&I5 ob.length sel&&GK fob.length fob then O0 ob xs sel (e (FJ hd (Ad ob) sel xs) fob) fob.length else none:=rfl
theorem QP {p:Nat} {r:SV}:FK [] [] p r []=(r.ren (sgp [] p),[],[]):=rfl
def Nx {α:Type} (n0:Nat) (keep:List Nat) (H:α→St) (R:α→Prop) (μ:α→Nat) (a:α) (K:X→St→Prop):X→St→Prop
 | .normal,st'=>∃ y,R y∧μ y < μ a∧canon n0 keep st'=H y
 | .exit i,st'=>K (.exit i) st'
 | .ret,st'=>K .ret st'
theorem Sn {α:Type} {keep:List Nat} {H:α→St} {R:α→Prop} {μ:α→Nat} {a:α} {st':St}:Nx n0 keep H R μ a K .normal st'=∃ y,R y∧μ y < μ a∧canon n0 keep st'=H y:=rfl
theorem So {α:Type} {keep:List Nat} {H:α→St} {R:α→Prop} {μ:α→Nat} {a:α} {i:Nat} {st':St}:Nx n0 keep H R μ a K (.exit i) st'=K (.exit i) st':=rfl
theorem Sp {α:Type} {keep:List Nat} {H:α→St} {R:α→Prop} {μ:α→Nat} {a:α} {st':St}:Nx n0 keep H R μ a K .ret st'=K .ret st':=rfl
theorem go_loop {α:Type} {keep:List Nat} {b:SC} (H:α→St) (R:α→Prop) (μ:α→Nat) (a0:α) (hR:R a0) (h0:canon n0 keep st=H a0) (round:∀ a,R a→go n0 b (H a) (Nx n0 keep H R μ a K)):go n0 (.loop keep b) st K:=by
 have key:∀ (n:Nat) (a:α) (st:St),μ a≤n→R a→canon n0 keep st=H a→∃ x st',M7 n0 keep (run n0 b) st=some (x,st')∧K x st':=by
  intro n
  induction n with
  | zero =>
   intro a st hn hR hc
   obtain ⟨x,st',h,k⟩:=round a hR
   cases x with
   | normal =>
    obtain ⟨y,_,h2,_⟩:=k
    omega
   | exit i=>exact ⟨_,st',by rw [H0,hc,h]; rfl,k⟩
   | ret=>exact ⟨_,st',by rw [H0,hc,h]; rfl,k⟩
  | succ n ih =>
   intro a st hn hR hc
   obtain ⟨x,st',h,k⟩:=round a hR
   cases x with
   | normal =>
    obtain ⟨y,h1,h2,h3⟩:=k
    obtain ⟨x2,st2,h4,k2⟩:=ih y st' (by omega) h1 h3
    exact ⟨x2,st2,by rw [H0,hc,h]; exact h4,k2⟩
   | exit i=>exact ⟨_,st',by rw [H0,hc,h]; rfl,k⟩
   | ret=>exact ⟨_,st',by rw [H0,hc,h]; rfl,k⟩
 exact key (μ a0) a0 st (zJ _) hR h0
def Ny (n0:Nat) (keep keepO:List Nat) (H:EL→St) (F:X × St) (p:EL):X→St→Prop
 | .normal,st'=>canon n0 keep st'=H p
 | .exit i,st'=>F=(.exit i,canon n0 keepO st')
 | .ret,st'=>F=(.ret,canon n0 keepO st')
def U4 (n0:Nat) (keepO:List Nat) (F:X × St):X→St→Prop
 | .normal,_=>False
 | .exit i,st'=>F=(.exit i,canon n0 keepO st')
 | .ret,st'=>F=(.ret,canon n0 keepO st')
theorem QQ {keep keepO:List Nat} {H:EL→St} {F:X × St} {p:EL} {st':St}:Ny n0 keep keepO H F p .normal st'=(canon n0 keep st'=H p):=rfl
theorem QR {keep keepO:List Nat} {H:EL→St} {F:X × St} {p:EL} {i:Nat} {st':St}:Ny n0 keep keepO H F p (.exit i) st'=(F=(.exit i,canon n0 keepO st')):=rfl
theorem QS {keep keepO:List Nat} {H:EL→St} {F:X × St} {p:EL} {st':St}:Ny n0 keep keepO H F p .ret st'=(F=(.ret,canon n0 keepO st')):=rfl
theorem TY {keepO:List Nat} {F:X × St} {i:Nat} {st':St}:U4 n0 keepO F (.exit i) st'=(F=(.exit i,canon n0 keepO st')):=rfl
theorem TZ {keepO:List Nat} {F:X × St} {st':St}:U4 n0 keepO F .ret st'=(F=(.ret,canon n0 keepO st')):=rfl
end
def slots:Nat→Nat→List (Nat × SV)→List SV
 | 0,_,_=>[]
 | n+1,k,[]=>.any :: slots n (k+1) []
 | n+1,k,(j,x) :: r=>bif j == k then x :: slots n (k+1) r else .any :: slots n (k+1) ((j,x) :: r)
def Ua (res:RM) (n0:Nat) (rs:List RX) (out:SV × List Ob) (x:X) (st:St):Prop:=fin res n0 rs x st=some out
def Vx (res:RM) (n0:Nat) (r:Option (SV × List Ob)):Option (SV × List Ob) :=
 match r with
 | some (r,ob)=>order res n0 r ob
 | none=>none
def O1 (res:RM) (n0:Nat) (ob:List Ob) (r:Option SV):Option (SV × List Ob) :=
 match r with
 | some r0=>Vx res n0 (gc n0 r0 ob)
 | none=>none
theorem Vy {res:RM} {n0:Nat} {rs:List RX} {out:SV × List Ob} {sl:List SV} {ob:List Ob}:Ua res n0 rs out .ret ⟨sl,ob⟩=(O1 res n0 ob (LQ ⟨sl,ob⟩ rs)=some out):=rfl
theorem Vz {res:RM} {n0:Nat} {rs:List RX} {out:SV × List Ob} {sl:List SV} {ob:List Ob}:Ua res n0 rs out .normal ⟨sl,ob⟩=(O1 res n0 ob (LQ ⟨sl,ob⟩ rs)=some out):=rfl
theorem Ub {res:RM} {n0:Nat} {ob:List Ob} {r:SV}:O1 res n0 ob (some r)=Vx res n0 (gc n0 r ob):=rfl
theorem V3 {n0:Nat} {r:SV} {ob:List Ob} {res:RM}:Vx res n0 (some (r,ob))=order res n0 r ob:=rfl
theorem Ab {f:FuncId} {fc:FC} {hand:List Bool} {res:RM} {tr:Bool} {xs:List SV} {ob:List Ob} {out:SV × List Ob} (hc:Ar Tryz.prog f=some fc) (hr:modes f=⟨hand,res,none,tr⟩) (hn:xs.length≤fc.nt) (h:go ob.length (EO res fc.sc) ⟨xs++IX (fc.nt-xs.length),entry tr ob⟩ (Ua res ob.length fc.rs out)):E f xs ob=some out:=by
 obtain ⟨x,st',h1,h2⟩:=h
 unfold E
 rw [U2]
 unfold FN
 rw [hc,hr]
 simp only
 rw [decide_eq_true hn,cond_true]
 have h1:fr Tryz.prog (CB modes (ev Tryz.prog modes)) (I8 ob.length) (EO res fc.sc) ⟨xs++IX (fc.nt-xs.length),entry tr ob⟩=some (x,st'):=h1
 rw [h1]
 exact h2
theorem V4 {f:FuncId} {g:List SV→List Ob→Option (SV × List Ob)} {xs:List SV} {ob:List Ob} (hg:(modes f).ext=some g):E f xs ob=g xs ob:=by
 unfold E
 rw [U2]
 unfold FN
 rw [hg]
theorem Jc {f:FuncId} {g:List SV→Option SV} {xs:List SV} {r:SV} (hg:(modes f).ext=some (G4 g)) (h:g xs=some r):E f xs []=some (r,[]):=by
 rw [V4 hg]
 simp only [G4,h]
theorem Cn:modes 83=⟨[],.asis,some (G4 Sa),false⟩:=by unfold modes; rfl
theorem Jd (s:ByteArray):E 83 [.str s] []=some (.bool (Fy s),[]):=Jc (g:=Sa) (congrArg FM.ext Cn) rfl
theorem DU:modes 74=⟨[],.asis,some (G4 Sc),false⟩:=by unfold modes; rfl
theorem Uc (s:ByteArray):E 74 [.str s] []=some (.bool (Fy s),[]):=Jc (g:=Sc) (congrArg FM.ext DU) rfl
theorem Bp:modes 54=⟨[],.asis,some (G4 Sd),false⟩:=by unfold modes; rfl
theorem Lw (s:ByteArray):E 54 [.str s] []=some (.bool (Ei s),[]):=Jc (g:=Sd) (congrArg FM.ext Bp) rfl
theorem Br:modes 48=⟨[],.asis,some (G4 Se),false⟩:=by unfold modes; rfl
theorem Lx (s:ByteArray):E 48 [.str s] []=some (.bool (Ei s),[]):=Jc (g:=Se) (congrArg FM.ext Br) rfl
abbrev Tm.sv (x:Tm):SV:=.agg [.str x.name,.arr (x.args.map Tm.d)]
mutual
def Tm.o:Tm→List OT
 | .mk name args=>[.str name,.ow (Tm.os args)]
def Tm.os:List Tm→List (List OT)
 | []=>[]
 | x :: xs=>Tm.o x :: Tm.os xs
end
theorem Tm.U5:∀ xs:List Tm,Tm.os xs=xs.map Tm.o
 | []=>rfl
 | x :: xs=>by rw [Tm.os,Tm.U5 xs]; rfl
theorem Tm.H4 (x:Tm):Tm.o x=[.str x.name,.ow (x.args.map Tm.o)]:=by
 obtain ⟨name,args⟩:=x
 rw [Tm.o,Tm.U5]; rfl
theorem Tm.P7:∀ xs:List Tm,(∀ x∈xs,OT.ers (Tm.o x)=Tm.d x)→OT.erss (xs.map Tm.o)=xs.map Tm.d
 | [],_=>rfl
 | x :: xs,h=>by
  simp only [zD,OT.erss]
  rw [h x (by simp),Tm.P7 xs fun y hy=>h y (by simp [hy])]
theorem Tm.er (x:Tm):OT.ers (Tm.o x)=Tm.d x:=by
 have h:=Tm.P7 x.args fun y hy=>Tm.er y
 rw [Tm.H4,Tm.Ga]
 simp only [OT.ers,OT.er,h]
termination_by SizeOf.sizeOf x
decreasing_by exact Tm.Bt hy
theorem Tm.erss (xs:List Tm):OT.erss (xs.map Tm.o)=xs.map Tm.d:=Tm.P7 xs fun x _=>Tm.er x
theorem Tm.P8:∀ xs:List Tm,(∀ x∈xs,OT.Gu (Tm.o x)=true)→OT.Di (xs.map Tm.o)=true
 | [],_=>rfl
 | x :: xs,h=>by
  simp only [zD,OT.Di]
  rw [h x (by simp),Tm.P8 xs fun y hy=>h y (by simp [hy])]; rfl
theorem Tm.no (x:Tm):OT.Gu (Tm.o x)=true:=by
 have h:=Tm.P8 x.args fun y hy=>Tm.no y
 rw [Tm.H4]
 simp only [OT.Gu,OT.noSh,h,zR,yF]
termination_by SizeOf.sizeOf x
decreasing_by exact Tm.Bt hy
theorem Tm.noss (xs:List Tm):OT.Di (xs.map Tm.o)=true:=Tm.P8 xs fun x _=>Tm.no x
abbrev Tm.osv (x:Tm):SV:=.agg [.str x.name,.ref 0]
abbrev Tm.obs (x:Tm):List Ob:=[.row 26 2 (x.args.map Tm.o)]
abbrev Lt.sv (x:Lt):SV:=.agg [.bool x.pos,.str x.atom.name,.arr (x.atom.args.map Tm.d)]
def Lt.o (x:Lt):List OT:=[.bool x.pos,.str x.atom.name,.ow (x.atom.args.map Tm.o)]
theorem Lt.er (x:Lt):OT.ers (Lt.o x)=Lt.d x:=by
 simp only [Lt.o,Lt.d,OT.ers,OT.er,Tm.erss]
theorem Lt.erss:∀ xs:List Lt,OT.erss (xs.map Lt.o)=xs.map Lt.d
 | []=>rfl
 | x :: xs=>by simp only [zD,OT.erss,Lt.er,Lt.erss xs]
theorem Lt.no (x:Lt):OT.Gu (Lt.o x)=true:=by
 simp only [Lt.o,OT.Gu,OT.noSh,Tm.noss,zR,yF]
theorem Lt.noss:∀ xs:List Lt,OT.Di (xs.map Lt.o)=true
 | []=>rfl
 | x :: xs=>by simp only [zD,OT.Di,Lt.no,Lt.noss xs,zR]
abbrev Lt.osv (x:Lt):SV:=.agg [.bool x.pos,.str x.atom.name,.ref 0]
abbrev Lt.obs (x:Lt):List Ob:=[.row 26 2 (x.atom.args.map Tm.o)]
theorem Fa {n:Int} (h1:-9223372036854775808≤n) (h2:n≤9223372036854775807):dec (inK .i64 n)=true:=Bb (T1.2 ⟨h1,h2⟩)
theorem get_at {α β:Type} (f:α→β) {xs:List α} {k:Nat} (h:k<xs.length):(xs.map f)[k]?=some (f xs[k]):=by rw [List.getElem?_map,zX h]; rfl
theorem U6:dec True=true:=Bb trivial
theorem VY:dec False=false:=Be fun h=>h
attribute [go_sem] TF TE Vr Vq Sh Om SC.Dy RT pfx Ek Il OT.Cw OT.IZ OT.half Vo TC FJ NX SV.isNil Ob.idsB SV.idsB SV.JX List.getElem?_cons_zero List.getElem?_cons_succ OT.AP OT.Ej OT.full entry toTree Qg Ol Qf EB G2 Es RF Mj RP OT.erss OT.ers OT.er OT.Di OT.Gu OT.noSh quiet obB OW Iw meets Hn go_skip TN go_ret UV TO UW Si TP TQ TR UX UY UZ VT VU VV TS TT Sj QM TU Sk QN TV Vd Ve VW Vf Vg Vh VX Vi Vj Sm Vl Vm Vn Vp Vs Vt Vu Vv Oh Og D7 seen QO P6 TW TX Vw QP FK Sn So Sp Vy Vz Ub V3 order opF fOp EA Qa T2 PY PZ RE Ht eqK Az gets Ad LP Fl Dh IQ KQ AI Q4 SV.cellsN SV.one Ih splice DB NI Ig IO Dx B8 BO B7 Gq Hd OY eOp.mkEs eOp.addS D.sv OT.sv D.ot Gx FZ reach SV.refs SV.Mv SV.ptrs SV.Mw Ob.refs Ob.liveB G3 EY SV.back SV.JY Ob.back Gv He Cj Bk Bj I5 GK SV.ren SV.IU Ob.ren mkU sgp gc Kc names Qd IY T5 T6 T7 Lf RQ T8 T9 TA TB TD TG SC.mark M1 Fq slots LQ Pg rxV IX Of SV.noSh SV.JU Ob.noSh SV.own SV.Nq EM cond_true cond_false zM zV zD zY List.drop_succ_cons zS List.drop_nil yE yM List.take_nil yV yW zP List.all_cons List.all_nil List.getD_cons_zero List.getD_cons_succ yX List.any_nil List.contains_cons List.contains_nil List.isEmpty_nil List.isEmpty_cons List.flatten_cons List.flatten_nil List.replicate_succ List.replicate_zero List.set_cons_zero List.set_cons_succ Nat.add_zero Nat.zero_add zJ zH yF yK zR Bool.or_false yP yT Bool.or_true Bool.not_true Bool.not_false yH Bool.and_false decide_true decide_false beq_self_eq_true if_true if_false Option.map_some Option.map_none zE yQ Option.getD_none Int.toNat_natCast true_and and_true and_self eq_self_iff_true z7 Bool.false_eq_true Bool.true_eq_false zG SV.int.injEq SV.bool.injEq SV.str.injEq SV.agg.injEq SV.tup.injEq SV.arr.injEq yB St.mk.injEq Int.zero_add U6 VY Fa Bb Be VM svK svD Ru svM MV.sv PN RG RH RI FY St.app Oo MK.sv QQ QR QS TY TZ
attribute [go_sem_proc] Nat.reduceAdd Nat.reduceSub Nat.reduceLT Nat.reduceLeDiff Nat.reduceEqDiff Nat.reduceBEq Nat.reduceBneDiff Nat.reduceMul Int.reduceToNat Int.reduceNeg Int.reduceAdd reduceCtorEq
attribute [go_sem_proc ↓] reduceIte
theorem Nz:∀ xs:List ByteArray,OT.AP (xs.map fun s=>[OT.str s])=true
 | []=>rfl
 | x :: xs=>by simp only [zD,OT.AP,OT.Ej,OT.full,Nz xs,zR]
theorem Qp:∀ xs:List Int,OT.AP (xs.map fun n=>[OT.int n])=true
 | []=>rfl
 | x :: xs=>by simp only [zD,OT.AP,OT.Ej,OT.full,Qp xs,zR]
theorem Tm.Sq:∀ xs:List Tm,(∀ x∈xs,OT.Ej (Tm.o x)=true)→OT.AP (xs.map Tm.o)=true
 | [],_=>rfl
 | x :: xs,h=>by
  simp only [zD,OT.AP]
  rw [h x (by simp),Tm.Sq xs fun y hy=>h y (by simp [hy])]; rfl
theorem Tm.fu (x:Tm):OT.Ej (Tm.o x)=true:=by
 have h:=Tm.Sq x.args fun y hy=>Tm.fu y
 rw [Tm.H4]
 simp only [OT.Ej,OT.full,h,zR,yF]
termination_by SizeOf.sizeOf x
decreasing_by exact Tm.Bt hy
theorem Tm.fus (xs:List Tm):OT.AP (xs.map Tm.o)=true:=Tm.Sq xs fun x _=>Tm.fu x
theorem Lt.fu (x:Lt):OT.Ej (Lt.o x)=true:=by
 simp only [Lt.o,OT.Ej,OT.full,Tm.fus,zR,yF]
theorem Lt.fus:∀ xs:List Lt,OT.AP (xs.map Lt.o)=true
 | []=>rfl
 | x :: xs=>by simp only [zD,OT.AP,Lt.fu,Lt.fus xs,zR]
attribute [go_sem] Nz Qp Qi TJ TK TL Tm.fus Tm.erss Tm.noss Lt.fus Lt.erss Lt.noss
theorem AD {α:Type} (a:α):dec (a=a)=true:=Bb rfl
section
variable {α β:Type} (f:α→β) (z:β) {xs:List α} {k:Nat}
end
theorem Ud (a b:Int):(bif dec (a<b) then b else a)=max a b:=by
 by_cases h:a<b
 ·rw [Bb h,cond_true,Int.max_eq_right (by omega)]
 ·rw [Be h,cond_false,Int.max_eq_left (by omega)]
def IA {α:Type} (p:α→Bool):List α→Int→Int
 | [],_=>-1
 | x :: xs,i=>if p x then i else IA p xs (i+1)
theorem O2 {α:Type} (p:α→Bool):∀ (xs:List α),dec (0≤IA p xs 0)=xs.any p:=by
 have key:∀ (xs:List α) (i:Int),0≤i→(0≤IA p xs i ↔ xs.any p=true):=by
  intro xs
  induction xs with
  | nil=>intro i h; simp [IA]
  | cons x xs ih =>
   intro i h
   simp only [IA,yX,z8]
   by_cases hp:p x=true
   ·simp [hp,h]
   ·rw [if_neg hp,ih (i+1) (by omega)]; simp [hp]
 intro xs
 cases h:xs.any p with
 | true=>exact Bb ((key xs 0 (by omega)).2 h)
 | false=>exact Be fun h'=>by rw [(key xs 0 (by omega)).1 h'] at h; cases h
mutual
def Tm.nodes:Tm→Nat
 | .mk _ args=>1+Tm.AQ args
def Tm.AQ:List Tm→Nat
 | []=>0
 | x :: xs=>Tm.nodes x+Tm.AQ xs
end
mutual
def Tm.deep:Tm→Nat
 | .mk _ args=>Tm.EC args+1
def Tm.EC:List Tm→Nat
 | []=>0
 | x :: xs=>max (Tm.deep x) (Tm.EC xs)
end
mutual
def Tm.names:Tm→Bool
 | .mk name args=>if Fy name then args.length == 0 else Ei name&&decide (args.length≤4)&&Tm.G6 args
def Tm.G6:List Tm→Bool
 | []=>true
 | x :: xs=>Tm.names x&&Tm.G6 xs
end
def Tm.small (x:Tm):Bool:=decide (x.nodes≤30)&&decide (x.deep≤8)
def Tm.valid (x:Tm):Bool:=x.small&&x.names
noncomputable def Tm.eqn (x:Tm):Bool:=dec (x.name=⟨#[61]⟩)
noncomputable def Tm.atom (x:Tm):Bool:=if x.eqn then x.args.length == 2&&x.small&&Tm.G6 x.args else Ei x.name&&x.valid
noncomputable def Tm.expr (x:Tm):Bool:=x.valid || x.atom
theorem N0 {p q:Prop} (h:p ↔ q):dec p=dec q:=by rw [propext h]
theorem Tm.An (x:Tm):x.nodes=1+Tm.AQ x.args:=by
 obtain ⟨name,args⟩:=x
 rw [Tm.nodes]; rfl
theorem Tm.QT (x:Tm):1≤x.nodes:=by rw [Tm.An]; omega
theorem Tm.G7:∀ (xs:List Tm) (k:Nat) (h:k<xs.length),xs[k].nodes≤Tm.AQ xs
 | [],k,h=>absurd h (by simp)
 | x :: xs,0,_=>by rw [Tm.AQ]; simp
 | x :: xs,k+1,h=>by
  have:=Tm.G7 xs k (by simpa using h)
  rw [Tm.AQ]; simp only [List.getElem_cons_succ]; omega
theorem Tm.Ky (x:Tm):x.deep=Tm.EC x.args+1:=by
 obtain ⟨name,args⟩:=x
 rw [Tm.deep]; rfl
theorem Tm.H5:∀ xs:List Tm,(∀ y∈xs,y.deep≤y.nodes)→Tm.EC xs≤Tm.AQ xs
 | [],_=>by simp [Tm.EC]
 | x :: xs,h=>by
  have h1:=h x (by simp)
  have h2:=Tm.H5 xs fun y hy=>h y (by simp [hy])
  rw [Tm.EC,Tm.AQ]; omega
theorem Tm.Gb (x:Tm):x.deep≤x.nodes:=by
 rw [Tm.Ky,Tm.An]
 have:=Tm.H5 x.args fun y hy=>Tm.Gb y
 omega
termination_by SizeOf.sizeOf x
decreasing_by exact Tm.Bt hy
theorem Tm.Fz (x:Tm):x.names=if Fy x.name then x.args.length == 0 else Ei x.name&&decide (x.args.length≤4)&&Tm.G6 x.args:=by
 obtain ⟨name,args⟩:=x
 rw [Tm.names]; rfl
theorem Tm.G8:∀ xs:List Tm,Tm.G6 xs=xs.all Tm.names
 | []=>rfl
 | x :: xs=>by rw [Tm.G6,Tm.G8 xs]; rfl
theorem Tm.length_le:∀ xs:List Tm,xs.length≤Tm.AQ xs
 | []=>zJ _
 | x :: xs=>by
  have:=Tm.length_le xs
  have:=Tm.QT x
  rw [Tm.AQ]; simp only [zM]; omega
theorem Tm.CT {xs:List Tm} {y:Tm} (h:y∈xs):y.nodes≤Tm.AQ xs:=by
 obtain ⟨k,hk,rfl⟩:=List.getElem_of_mem h
 exact Tm.G7 xs k hk
theorem MH {xs:List Tm} (h:xs.length=2):Tm.G6 xs=((xs[0]'(by omega)).names&&(xs[1]'(by omega)).names):=by
 match xs,h with
 | [a,b],_=>simp [Tm.G6]
mutual
def Tm.cap:Tm→Int
 | .mk _ xs=>Tm.JD xs 1
def Tm.JD:List Tm→Int→Int
 | [],n=>n
 | x :: xs,n=>if 30 < n then n else Tm.JD xs (n+Tm.cap x)
end
theorem Tm.Sr (x:Tm):x.cap=Tm.JD x.args 1:=by
 obtain ⟨n,xs⟩:=x
 rw [Tm.cap]; rfl
theorem Tm.MJ:∀ (xs:List Tm) (n:Int),(∀ x∈xs,1≤x.cap∧x.cap≤x.nodes∧(x.cap≤30→x.cap=x.nodes))→1≤n→n≤Tm.JD xs n∧Tm.JD xs n≤n+Tm.AQ xs∧(Tm.JD xs n≤30→Tm.JD xs n=n+Tm.AQ xs)
 | [],n,_,h=>by simp [Tm.JD,Tm.AQ]
 | x :: xs,n,hx,h=>by
  rw [Tm.JD,Tm.AQ]
  have h1:=hx x (by simp)
  split
  ·omega
  ·have:=Tm.MJ xs (n+x.cap) (fun y hy=>hx y (by simp [hy])) (by omega)
   omega
theorem Tm.Je (x:Tm):1≤x.cap∧x.cap≤x.nodes∧(x.cap≤30→x.cap=x.nodes):=by
 rw [Tm.Sr,Tm.An]
 have:=Tm.MJ x.args 1 (fun y hy=>Tm.Je y) (by omega)
 omega
termination_by SizeOf.sizeOf x
decreasing_by exact Tm.Bt hy
mutual
def Tm.many:Tm→Int→Int
 | .mk _ xs,m=>Tm.G9 xs m 1
def Tm.G9:List Tm→Int→Int→Int
 | [],_,n=>n
 | x :: xs,m,n=>if n≤m then Tm.G9 xs m (n+Tm.many x (m-n)) else n
end
theorem Tm.Qq (x:Tm) (m:Int):x.many m=Tm.G9 x.args m 1:=by
 obtain ⟨n,xs⟩:=x
 rw [Tm.many]; rfl
theorem Tm.Ly (m:Int):∀ (xs:List Tm) (n:Int),(∀ x∈xs,∀ m,0≤m→1≤x.many m∧x.many m≤x.nodes∧(x.many m≤m→x.many m=x.nodes))→1≤n→n≤Tm.G9 xs m n∧Tm.G9 xs m n≤n+Tm.AQ xs∧(Tm.G9 xs m n≤m→Tm.G9 xs m n=n+Tm.AQ xs)
 | [],n,_,h=>by simp [Tm.G9,Tm.AQ]
 | x :: xs,n,hx,h=>by
  rw [Tm.G9,Tm.AQ]
  split
  ·have h1:=hx x (by simp) (m-n) (by omega)
   have:=Tm.Ly m xs (n+x.many (m-n)) (fun y hy=>hx y (by simp [hy])) (by omega)
   omega
  ·omega
theorem Tm.HV (x:Tm) (m:Int):1≤x.many m∧x.many m≤x.nodes∧(x.many m≤m→x.many m=x.nodes):=by
 rw [Tm.Qq,Tm.An]
 have:=Tm.Ly m x.args 1 (fun y hy m _=>Tm.HV y m) (by omega)
 omega
termination_by SizeOf.sizeOf x
decreasing_by exact Tm.Bt hy
theorem Tm.Fh {x:Tm} (h:x.names=true) {y:Tm} (hy:y∈x.args):y.names=true:=by
 rw [Tm.Fz] at h
 split at h
 ·have:x.args=[]:=zZ (by simpa using h)
  rw [this] at hy; cases hy
 ·rw [zF,Tm.G8,yA] at h
  exact h.2 y hy
def V5 (res:RM) (n0:Nat) (rs:List RX) (Q:SV × List Ob→Prop) (x:X) (st:St):Prop:=∃ out,Ua res n0 rs out x st∧Q out
theorem exq {α:Type} {a:α} {Q:α→Prop}:(∃ out,some a=some out∧Q out)=Q a:=propext ⟨fun ⟨o,h,q⟩=>by obtain rfl:=zI h; exact q,fun q=>⟨a,rfl,q⟩⟩
theorem V6 {res:RM} {n0:Nat} {rs:List RX} {Q:SV × List Ob→Prop} {sl:List SV} {ob:List Ob}:V5 res n0 rs Q .ret ⟨sl,ob⟩=∃ out,O1 res n0 ob (LQ ⟨sl,ob⟩ rs)=some out∧Q out:=rfl
theorem V7 {res:RM} {n0:Nat} {rs:List RX} {Q:SV × List Ob→Prop} {sl:List SV} {ob:List Ob}:V5 res n0 rs Q .normal ⟨sl,ob⟩=∃ out,O1 res n0 ob (LQ ⟨sl,ob⟩ rs)=some out∧Q out:=rfl
theorem AL {f:FuncId} {fc:FC} {hand:List Bool} {res:RM} {tr:Bool} {xs:List SV} {ob:List Ob} {Q:SV × List Ob→Prop} (hc:Ar Tryz.prog f=some fc) (hr:modes f=⟨hand,res,none,tr⟩) (hn:xs.length≤fc.nt) (h:go ob.length (EO res fc.sc) ⟨xs++IX (fc.nt-xs.length),entry tr ob⟩ (V5 res ob.length fc.rs Q)):∃ out,E f xs ob=some out∧Q out:=by
 obtain ⟨x,st',h1,out,h2,h3⟩:=h
 exact ⟨out,Ab hc hr hn ⟨x,st',h1,h2⟩,h3⟩
attribute [go_sem] V6 V7 exq
def Tm.osh (x:Tm):List OT:=[.str x.name,.sh (x.args.map Tm.d)]
theorem Tm.Lz (x:Tm):x.osh=[.str x.name,.sh (x.args.map Tm.d)]:=rfl
theorem Tm.L1:∀ xs:List Tm,OT.AP (xs.map Tm.osh)=true
 | []=>rfl
 | x :: xs=>by rw [zD,Tm.Lz]; simp [OT.AP,OT.Ej,OT.full,Tm.L1 xs]
theorem Tm.N1:∀ xs:List Tm,OT.erss (xs.map Tm.osh)=xs.map Tm.d
 | []=>rfl
 | x :: xs=>by rw [zD,zD,Tm.Lz,Tm.Ga]; simp [OT.erss,OT.ers,OT.er,Tm.N1 xs]
noncomputable def Dk (c:Int):Bool:=(dec (97≤c)&&dec (c≤122)) || (dec (65≤c)&&dec (c≤90)) || (dec (48≤c)&&dec (c≤57)) || dec (c=95)
noncomputable def B9 (s:ByteArray) (i:Nat):Nat:=if h:i<s.size∧Dk (BJ s i)=true then B9 s (i+1) else i
termination_by s.size-i
theorem ML {s:ByteArray} {i:Nat} (h:i<s.size) (hw:Dk (BJ s i)=true):B9 s i=B9 s (i+1):=by rw [B9,dif_pos ⟨h,hw⟩]
theorem GA {s:ByteArray} {i:Nat} (h:¬ (i<s.size∧Dk (BJ s i)=true)):B9 s i=i:=by rw [B9,dif_neg h]
theorem Kz (s:ByteArray) (i:Nat):i≤B9 s i:=by
 rw [B9]
 split
 ·have:=Kz s (i+1); omega
 ·exact zJ _
termination_by s.size-i
theorem JE (s:ByteArray) (i:Nat) (h:i≤s.size):B9 s i≤s.size:=by
 rw [B9]
 split
 ·exact JE s (i+1) (by omega)
 ·exact h
termination_by s.size-i
noncomputable def Dl (s:ByteArray) (i:Nat) (c:Int):Bool:=dec (i<s.size)&&dec (BJ s i=c)
theorem C6 {s:ByteArray} {i:Nat} {c:Int}:Dl s i c=true ↔ i<s.size∧BJ s i=c:=by
 unfold Dl; rw [zF,Ax,Ax]
noncomputable def rdL (r:Nat→Option (Tm × Nat)) (s:ByteArray):Nat→Nat→Option (List Tm × Nat)
 | 0,_=>none
 | m+1,i=>match r i with
  | none=>none
  | some (t,e)=>bif Dl s e 44 then (match rdL r s m (e+1) with
   | none=>none
   | some (ts,e')=>some (t :: ts,e')) else bif Dl s e 41 then some ([t],e+1) else none
noncomputable def rd (s:ByteArray):Nat→Nat→Option (Tm × Nat)
 | 0,_=>none
 | n+1,i=>bif dec (B9 s i=i) then none else bif Dl s (B9 s i) 40 then (match rdL (rd s n) s n (B9 s i+1) with
  | none=>none
  | some (ts,e)=>some (.mk (s.extract i (B9 s i)) ts,e)) else some (.mk (s.extract i (B9 s i)) [],B9 s i)
def seg (s:ByteArray) (a b:Nat):List UInt8:=(s.toList.drop a).take (b-a)
theorem AA (s:ByteArray):s.toList.length=s.size:=by rw [ByteArray.toList_eq]; simp
theorem HW {s:ByteArray} {a b c:Nat} (h:a≤b) (k:b≤c):seg s a c=seg s a b++seg s b c:=by
 unfold seg
 rw [show c-a=(b-a)+(c-b) by omega,List.take_add,List.drop_drop,show a+(b-a)=b by omega]
theorem toList_extract (s:ByteArray) (a b:Nat):(s.extract a b).toList=seg s a b:=by
 unfold seg
 rw [ByteArray.toList_eq,ByteArray.toList_eq,ByteArray.data_extract,Array.toList_extract,List.extract_eq_take_drop]
theorem Gc {s:ByteArray} {i:Nat} (h:i<s.size):BJ s i=((s.toList[i]'(by rw [AA]; exact h)).toNat:Int):=by
 unfold BJ
 rw [getElem?_pos s i h]
 simp only [yQ,ByteArray.toList_eq]
 rfl
theorem K0 {s:ByteArray} {i:Nat} {c:UInt8} (h:i<s.size) (hc:BJ s i=(c.toNat:Int)):seg s i (i+1)=[c]:=by
 have hl:i<s.toList.length:=by rw [AA]; exact h
 unfold seg
 rw [zK hl,show i+1-i=1 by omega,yE,yM]
 rw [Gc h] at hc
 congr 1
 exact UInt8.toNat_inj.1 (by exact_mod_cast hc)
theorem E4 (s:ByteArray):seg s 0 s.size=s.toList:=by
 unfold seg
 rw [zS,Nat.sub_zero,← AA,yR]
def Cd (c:List UInt8):List (List UInt8)→List UInt8
 | []=>[]
 | [x]=>x
 | x :: y :: r=>x++c++Cd c (y :: r)
mutual
def Tm.fmt:Tm→List UInt8
 | .mk name args=>name.toList++(if args.length=0 then [] else [40]++Cd [44] (Tm.Gd args)++[41])
def Tm.Gd:List Tm→List (List UInt8)
 | []=>[]
 | x :: xs=>Tm.fmt x :: Tm.Gd xs
end
theorem Tm.Ge (x:Tm):x.fmt=x.name.toList++(if x.args.length=0 then [] else [40]++Cd [44] (Tm.Gd x.args)++[41]):=by
 obtain ⟨n,a⟩:=x
 rw [Tm.fmt]; rfl
theorem Tm.Ss:∀ xs:List Tm,(Tm.Gd xs).length=xs.length
 | []=>by simp [Tm.Gd]
 | x :: xs=>by rw [Tm.Gd,zM,zM,Tm.Ss xs]
theorem Tm.Jf:∀ xs:List Tm,Tm.Gd xs=xs.map Tm.fmt
 | []=>by simp [Tm.Gd]
 | x :: xs=>by rw [Tm.Gd,Tm.Jf xs]; rfl
theorem Su {r:Nat→Option (Tm × Nat)} {s:ByteArray} (hr:∀ i t e,i≤s.size→r i=some (t,e)→i<e∧e≤s.size∧seg s i e=t.fmt) :
  ∀ (m i:Nat) (ts:List Tm) (e:Nat),i≤s.size→rdL r s m i=some (ts,e)→i<e∧e≤s.size∧ts.length≠0∧seg s i e=Cd [44] (Tm.Gd ts)++[41]
 | 0,i,ts,e,_,h=>by cases h
 | m+1,i,ts,e,hi,h=>by
  rw [rdL] at h
  cases hq:r i with
  | none=>rw [hq] at h; cases h
  | some p =>
   obtain ⟨t,e0⟩:=p
   rw [hq] at h
   simp only at h
   obtain ⟨h1,h2,h3⟩:=hr i t e0 hi hq
   cases hc:Dl s e0 44 with
   | true =>
    rw [hc,cond_true] at h
    obtain ⟨k1,k2⟩:=C6.1 hc
    cases hl:rdL r s m (e0+1) with
    | none=>rw [hl] at h; cases h
    | some q =>
     obtain ⟨us,e1⟩:=q
     rw [hl] at h
     simp only [zE,zG] at h
     obtain ⟨rfl,rfl⟩:=h
     obtain ⟨g1,g2,g3,g4⟩:=Su hr m (e0+1) us e1 (by omega) hl
     refine ⟨by omega,g2,by simp,?_⟩
     rw [HW (show i≤e0 by omega) (show e0≤e1 by omega),h3,HW (show e0≤e0+1 by omega) (show e0+1≤e1 by omega),K0 (c:=44) k1 k2,g4]
     cases us with
     | nil=>simp at g3
     | cons u us=>simp only [Tm.Gd,Cd,zN]
   | false =>
    rw [hc,cond_false] at h
    cases hc2:Dl s e0 41 with
    | true =>
     rw [hc2,cond_true] at h
     obtain ⟨k1,k2⟩:=C6.1 hc2
     simp only [zE,zG] at h
     obtain ⟨rfl,rfl⟩:=h
     refine ⟨by omega,by omega,by simp,?_⟩
     rw [HW (show i≤e0 by omega) (show e0≤e0+1 by omega),h3,K0 (c:=41) k1 k2]
     simp only [Tm.Gd,Cd]
    | false=>rw [hc2] at h; cases h
theorem MM {s:ByteArray}:∀ (n i:Nat) (t:Tm) (e:Nat),i≤s.size→rd s n i=some (t,e)→i<e∧e≤s.size∧seg s i e=t.fmt
 | 0,i,t,e,_,h=>by cases h
 | n+1,i,t,e,hi,h=>by
  rw [rd] at h
  have w1:=Kz s i
  have w2:=JE s i hi
  by_cases h0:B9 s i=i
  ·rw [Bb h0] at h; cases h
  ·rw [Be h0,cond_false] at h
   cases hc:Dl s (B9 s i) 40 with
   | true =>
    rw [hc,cond_true] at h
    obtain ⟨k1,k2⟩:=C6.1 hc
    cases hl:rdL (rd s n) s n (B9 s i+1) with
    | none=>rw [hl] at h; cases h
    | some q =>
     obtain ⟨us,e1⟩:=q
     rw [hl] at h
     simp only [zE,zG] at h
     obtain ⟨rfl,rfl⟩:=h
     obtain ⟨g1,g2,g3,g4⟩:=Su (fun i t e=>MM n i t e) n _ us e1 (by omega) hl
     refine ⟨by omega,g2,?_⟩
     rw [Tm.Ge]
     show _=(s.extract i (B9 s i)).toList++(if us.length=0 then [] else [40]++Cd [44] (Tm.Gd us)++[41])
     rw [if_neg g3,toList_extract,HW (show i≤B9 s i by omega) (show B9 s i≤e1 by omega),HW (show B9 s i≤B9 s i+1 by omega) (show B9 s i+1≤e1 by omega),K0 (c:=40) k1 k2,g4]
     simp only [zN]
   | false =>
    rw [hc,cond_false] at h
    simp only [zE,zG] at h
    obtain ⟨rfl,rfl⟩:=h
    refine ⟨by omega,w2,?_⟩
    rw [Tm.Ge]
    have e0:(Tm.mk (s.extract i (B9 s i)) []).args.length=0:=rfl
    rw [if_pos e0,yV]
    exact (toList_extract s i (B9 s i)).symm
def Ki:SC:=(.seq (.reg [⟨some 1,none,.boxv 26 2 (.t 0)⟩,⟨some 2,none,.mv (.c (.int .i64 0))⟩]) (.seq (.reg [⟨some 3,none,.mv (.c (.int .i64 1))⟩]) (.seq (.seq (.reg [⟨some 6,none,.faddr 1 (.t 1)⟩,⟨some 7,none,.load false 1 (.t 6)⟩,⟨some 8,none,.len false (.t 7)⟩,⟨some 9,none,.mv (.c (.int .i64 0))⟩]) (.block 0 (.loop [0,0,0,1,0,0,0,1,1,1,0,0,0,0,0,0,0,0,0,0,0,0] (.seq (.reg [⟨some 10,none,.bin .lss false (.t 9) (.t 8)⟩]) (.seq (.cond (.t 10) .skip (.exit 0)) (.seq (.block 1 (.seq (.reg [⟨some 11,none,.iaddr 2 (.t 7) (.t 9)⟩,⟨some 12,none,.load true 2 (.t 11)⟩,⟨(some 5),none,(.alloc 26 [(.str ⟨#[]⟩),.nil])⟩,⟨none,none,(.store 2 (.t 5) (.t 12))⟩]) (.seq (.seq (.reg [⟨some 13,none,.mv (.t 3)⟩,⟨some 14,none,.bin .gtr false (.t 13) (.c (.int .i64 30))⟩]) (.cond (.t 14) (.seq (.reg [⟨some 15,none,.mv (.t 3)⟩,⟨some 2,none,.mv (.t 15)⟩]) .ret) .skip)) (.reg [⟨some 16,none,.mv (.t 3)⟩,⟨some 17,none,.load true 2 (.t 5)⟩,⟨some 18,none,.call 81 [(.t 17)]⟩,⟨some 19,none,.bin .add false (.t 16) (.t 18)⟩,⟨some 3,none,.mv (.t 19)⟩])))) (.reg [⟨some 20,none,.bin .add false (.t 9) (.c (.int .i64 1))⟩,⟨some 9,none,.mv (.t 20)⟩]))))))) (.seq (.reg [⟨some 21,none,.mv (.t 3)⟩,⟨some 2,none,.mv (.t 21)⟩]) .ret))))
theorem O3:Ar Tryz.prog 81=some ⟨22,Ki,[(.tmp 2)]⟩:=by kernel_rfl
theorem ED:modes 81=⟨[],.asis,none,false⟩:=by unfold modes; rfl
theorem Ue (x:Tm) (hn:x.nodes≤1099511627776) (ih:∀ y∈x.args,E 81 [y.sv] []=some (.int .i64 y.cap,[])):E 81 [x.sv] []=some (.int .i64 x.cap,[]):=by
 have hl:=Tm.length_le x.args
 have hx:=Tm.An x
 rw [Tm.Sr]
 refine Ab O3 ED (of_decide_eq_true rfl) ?_
 simp (disch:=omega) only [Ki,go_sem,Aa]
 refine go_loop (α:=Int × Int) (fun a=>⟨slots 22 0 [(3,.int .i64 a.2),(7,.arr (x.args.map Tm.d)),(8,.int .i64 x.args.length),(9,.int .i64 a.1)],[]⟩) (fun a=>∃ k:Nat,a.1=k∧k≤x.args.length∧1≤a.2∧a.2+Tm.AQ (x.args.drop k)≤x.nodes∧Tm.JD (x.args.drop k) a.2=Tm.JD x.args 1) (fun a=>x.args.length-a.1.toNat) (0,1) ⟨0,rfl,zH _,by dsimp only; omega,by rw [zS]; dsimp only; omega,rfl⟩ (by simp (disch:=omega) only [go_sem,Aa]) ?_
 rintro ⟨i,n⟩ ⟨k,hi,hk,hn0,hn1,hs⟩
 dsimp only at hi hn0 hn1 hs
 have hni:i.toNat=k:=by omega
 rcases zO k x.args.length with hlt | hge
 ·have hg:=get_at Tm.d hlt
  rw [Tm.Ga] at hg
  have hd:x.args.drop k=x.args[k] :: x.args.drop (k+1):=zK hlt
  have hc:=ih x.args[k] (zL hlt)
  have hp:=Tm.Je x.args[k]
  rw [hd,Tm.JD] at hs
  rw [hd,Tm.AQ] at hn1
  rcases Int.lt_or_le 30 n with h30 | h30
  ·rw [if_pos h30] at hs
   simp (disch:=omega) only [go_sem,Aa,hni,hg,hc,ED]
   exact hs
  ·rw [if_neg (by omega)] at hs
   simp (disch:=omega) only [go_sem,Aa,hni,hg,hc,ED]
   refine ⟨(i+1,n+x.args[k].cap),⟨k+1,by dsimp only; omega,hlt,by dsimp only; omega,by dsimp only; omega,hs⟩,by dsimp only; omega,?_⟩
   simp only [and_self]
 ·have hd:x.args.drop k=[]:=zT hge
  rw [hd,Tm.JD] at hs
  simp (disch:=omega) only [go_sem,Aa,hni]
  exact hs
theorem Sv (x:Tm) (hn:x.nodes≤1099511627776):E 81 [x.sv] []=some (.int .i64 x.cap,[]) :=
 Ue x hn fun y hy=>Sv y (by have:=Tm.CT hy; have:=Tm.An x; omega)
termination_by SizeOf.sizeOf x
decreasing_by exact Tm.Bt hy
def Io:SC:=(.seq (.reg [⟨some 2,none,.boxv 26 2 (.t 0)⟩,⟨some 4,none,.mv (.c (.int .i64 0))⟩]) (.seq (.reg [⟨some 5,none,.mv (.c (.int .i64 1))⟩]) (.seq (.seq (.reg [⟨some 6,none,.mv (.c (.int .i64 0))⟩]) (.block 0 (.loop [0,1,1,0,0,1,1,0,0,0,0,0,0,0,0,0,0,0,0,0,0,0,0,0,0,0,0,0,0,0,0] (.seq (.seq (.reg [⟨some 7,none,.mv (.t 6)⟩,⟨some 8,none,.faddr 1 (.t 2)⟩,⟨some 9,none,.load false 1 (.t 8)⟩,⟨some 10,none,.len false (.t 9)⟩,⟨some 11,none,.bin .lss false (.t 7) (.t 10)⟩,⟨some 12,none,.mv (.t 11)⟩,⟨(some 13),(some (12,true)),(.mv (.t 5))⟩,⟨(some 14),(some (12,true)),(.mv (.t 1))⟩,⟨(some 15),(some (12,true)),(.bin .leq false (.t 13) (.t 14))⟩,⟨some 16,none,.pick (.t 12) (.t 15) (.c (.bool false))⟩]) (.cond (.t 16) .skip (.exit 0))) (.seq (.block 1 (.reg [⟨some 19,none,.mv (.t 5)⟩,⟨some 20,none,.faddr 1 (.t 2)⟩,⟨some 21,none,.load false 1 (.t 20)⟩,⟨some 22,none,.mv (.t 6)⟩,⟨some 23,none,.iaddr 2 (.t 21) (.t 22)⟩,⟨some 24,none,.load true 2 (.t 23)⟩,⟨some 25,none,.mv (.t 1)⟩,⟨some 26,none,.mv (.t 5)⟩,⟨some 27,none,.bin .sub false (.t 25) (.t 26)⟩,⟨some 28,none,.call 72 [(.t 24),(.t 27)]⟩,⟨some 29,none,.bin .add false (.t 19) (.t 28)⟩,⟨some 5,none,.mv (.t 29)⟩])) (.reg [⟨some 17,none,.mv (.t 6)⟩,⟨some 18,none,.bin .add false (.t 17) (.c (.int .i64 1))⟩,⟨some 6,none,.mv (.t 18)⟩])))))) (.seq (.reg [⟨some 30,none,.mv (.t 5)⟩,⟨some 4,none,.mv (.t 30)⟩]) .ret))))
theorem LW:Ar Tryz.prog 72=some ⟨31,Io,[(.tmp 4)]⟩:=by kernel_rfl
theorem DE:modes 72=⟨[],.asis,none,false⟩:=by unfold modes; rfl
theorem Uf (x:Tm) (m:Int) (hm:0≤m) (hm1:m≤1099511627776) (hn:x.nodes≤1099511627776) (ih:∀ y∈x.args,∀ m:Int,0≤m→m≤1099511627776→E 72 [y.sv,.int .i64 m] []=some (.int .i64 (y.many m),[])):E 72 [x.sv,.int .i64 m] []=some (.int .i64 (x.many m),[]):=by
 have hl:=Tm.length_le x.args
 have hx:=Tm.An x
 rw [Tm.Qq]
 refine Ab LW DE (of_decide_eq_true rfl) ?_
 simp (disch:=omega) only [Io,go_sem,Aa]
 refine go_loop (α:=Int × Int) (fun a=>⟨slots 31 0 [(1,.int .i64 m),(2,.ptr 0 0),(5,.int .i64 a.2),(6,.int .i64 a.1)],[.box 26 [.str x.name,.arr (x.args.map Tm.d)]]⟩) (fun a=>∃ k:Nat,a.1=k∧k≤x.args.length∧1≤a.2∧a.2+Tm.AQ (x.args.drop k)≤x.nodes∧Tm.G9 (x.args.drop k) m a.2=Tm.G9 x.args m 1) (fun a=>x.args.length-a.1.toNat) (0,1) ⟨0,rfl,zH _,by dsimp only; omega,by rw [zS]; dsimp only; omega,rfl⟩ (by simp (disch:=omega) only [go_sem,Aa]) ?_
 rintro ⟨i,n⟩ ⟨k,hi,hk,hn0,hn1,hs⟩
 dsimp only at hi hn0 hn1 hs
 have hni:i.toNat=k:=by omega
 rcases zO k x.args.length with hlt | hge
 ·have hg:=get_at Tm.d hlt
  rw [Tm.Ga] at hg
  have hd:x.args.drop k=x.args[k] :: x.args.drop (k+1):=zK hlt
  rw [hd,Tm.G9] at hs
  rw [hd,Tm.AQ] at hn1
  rcases Int.lt_or_le m n with h30 | h30
  ·rw [if_neg (by omega)] at hs
   simp (disch:=omega) only [go_sem,Aa,hni,hg,DE]
   exact hs
  ·rw [if_pos h30] at hs
   have hc:=ih x.args[k] (zL hlt) (m-n) (by omega) (by omega)
   have hp:=Tm.HV x.args[k] (m-n)
   simp (disch:=omega) only [go_sem,Aa,hni,hg,hc,DE]
   refine ⟨(i+1,n+x.args[k].many (m-n)),⟨k+1,by dsimp only; omega,hlt,by dsimp only; omega,by dsimp only; omega,hs⟩,by dsimp only; omega,?_⟩
   simp only [and_self]
 ·have hd:x.args.drop k=[]:=zT hge
  rw [hd,Tm.G9] at hs
  simp (disch:=omega) only [go_sem,Aa,hni]
  exact hs
theorem Sw (x:Tm) (m:Int) (hm:0≤m) (hm1:m≤1099511627776) (hn:x.nodes≤1099511627776):E 72 [x.sv,.int .i64 m] []=some (.int .i64 (x.many m),[]) :=
 Uf x m hm hm1 hn fun y hy m hm hm1=>Sw y m hm hm1 (by have:=Tm.CT hy; have:=Tm.An x; omega)
termination_by SizeOf.sizeOf x
decreasing_by exact Tm.Bt hy
def Jg:SC:=(.seq (.reg [⟨some 1,none,.boxv 26 2 (.t 0)⟩,⟨some 2,none,.mv (.c (.int .i64 0))⟩]) (.seq (.reg [⟨some 3,none,.mv (.c (.int .i64 0))⟩]) (.seq (.seq (.reg [⟨some 6,none,.faddr 1 (.t 1)⟩,⟨some 7,none,.load false 1 (.t 6)⟩,⟨some 8,none,.len false (.t 7)⟩,⟨some 9,none,.mv (.c (.int .i64 0))⟩]) (.block 0 (.loop [0,0,0,1,0,0,0,1,1,1,0,0,0,0,0,0,0,0,0,0] (.seq (.reg [⟨some 10,none,.bin .lss false (.t 9) (.t 8)⟩]) (.seq (.cond (.t 10) .skip (.exit 0)) (.seq (.block 1 (.seq (.reg [⟨some 11,none,.iaddr 2 (.t 7) (.t 9)⟩,⟨some 12,none,.load true 2 (.t 11)⟩,⟨(some 5),none,(.alloc 26 [(.str ⟨#[]⟩),.nil])⟩,⟨none,none,(.store 2 (.t 5) (.t 12))⟩]) (.reg [⟨some 13,none,.mv (.t 3)⟩,⟨some 14,none,.load true 2 (.t 5)⟩,⟨some 15,none,.call 82 [(.t 14)]⟩,⟨some 16,none,.minmax true (.t 13) (.t 15)⟩,⟨some 3,none,.mv (.t 16)⟩]))) (.reg [⟨some 17,none,.bin .add false (.t 9) (.c (.int .i64 1))⟩,⟨some 9,none,.mv (.t 17)⟩]))))))) (.seq (.reg [⟨some 18,none,.mv (.t 3)⟩,⟨some 19,none,.bin .add false (.t 18) (.c (.int .i64 1))⟩,⟨some 2,none,.mv (.t 19)⟩]) .ret))))
theorem N2:Ar Tryz.prog 82=some ⟨20,Jg,[(.tmp 2)]⟩:=by kernel_rfl
theorem Fb:modes 82=⟨[],.asis,none,false⟩:=by unfold modes; rfl
def Ip:SC:=(.seq (.reg [⟨some 4,none,.mv (.c (.int .i64 0))⟩]) (.seq (.seq (.reg [⟨some 5,none,.mv (.t 0)⟩,⟨some 6,none,.mv (.t 1)⟩,⟨some 7,none,.bin .gtr false (.t 5) (.t 6)⟩]) (.cond (.t 7) (.seq (.reg [⟨some 8,none,.mv (.t 0)⟩,⟨some 4,none,.mv (.t 8)⟩]) .ret) .skip)) (.seq (.reg [⟨some 9,none,.mv (.t 1)⟩,⟨some 4,none,.mv (.t 9)⟩]) .ret)))
theorem LX:Ar Tryz.prog 101=some ⟨10,Ip,[(.tmp 4)]⟩:=by kernel_rfl
theorem Iq:modes 101=⟨[],.asis,none,false⟩:=by unfold modes; rfl
def H6:SC:=(.seq (.reg [⟨some 1,none,.boxv 26 2 (.t 0)⟩,⟨some 2,none,.mv (.c (.int .i64 0))⟩]) (.seq (.reg [⟨some 3,none,.mv (.c (.int .i64 0))⟩]) (.seq (.seq (.reg [⟨some 4,none,.mv (.c (.int .i64 0))⟩]) (.block 0 (.loop [0,1,0,1,1,0,0,0,0,0,0,0,0,0,0,0,0,0,0,0,0,0] (.seq (.seq (.reg [⟨some 5,none,.mv (.t 4)⟩,⟨some 6,none,.faddr 1 (.t 1)⟩,⟨some 7,none,.load false 1 (.t 6)⟩,⟨some 8,none,.len false (.t 7)⟩,⟨some 9,none,.bin .lss false (.t 5) (.t 8)⟩]) (.cond (.t 9) .skip (.exit 0))) (.seq (.block 1 (.reg [⟨some 12,none,.mv (.t 3)⟩,⟨some 13,none,.faddr 1 (.t 1)⟩,⟨some 14,none,.load false 1 (.t 13)⟩,⟨some 15,none,.mv (.t 4)⟩,⟨some 16,none,.iaddr 2 (.t 14) (.t 15)⟩,⟨some 17,none,.load true 2 (.t 16)⟩,⟨some 18,none,.call 73 [(.t 17)]⟩,⟨some 19,none,.call 101 [(.t 12),(.t 18)]⟩,⟨some 3,none,.mv (.t 19)⟩])) (.reg [⟨some 10,none,.mv (.t 4)⟩,⟨some 11,none,.bin .add false (.t 10) (.c (.int .i64 1))⟩,⟨some 4,none,.mv (.t 11)⟩])))))) (.seq (.reg [⟨some 20,none,.mv (.t 3)⟩,⟨some 21,none,.bin .add false (.t 20) (.c (.int .i64 1))⟩,⟨some 2,none,.mv (.t 21)⟩]) .ret))))
theorem L2:Ar Tryz.prog 73=some ⟨22,H6,[(.tmp 2)]⟩:=by kernel_rfl
theorem DV:modes 73=⟨[],.asis,none,false⟩:=by unfold modes; rfl
theorem Sx (a b:Int):E 101 [.int .i64 a,.int .i64 b] []=some (.int .i64 (max a b),[]):=by
 refine Ab LX Iq (of_decide_eq_true rfl) ?_
 simp (disch:=omega) only [Ip,go_sem,Aa]
 repeat' (refine Oz (fun hq=>?_) (fun hq=>?_) <;> (first | replace hq:=Ax.1 hq | replace hq:=EX.1 hq) <;> (try simp (disch:=omega) only [go_sem,Aa]))
 all_goals omega
theorem Sy (x:Tm) (hn:x.nodes≤1099511627776) (ih:∀ y∈x.args,E 82 [y.sv] []=some (.int .i64 y.deep,[])):E 82 [x.sv] []=some (.int .i64 x.deep,[]):=by
 have hl:=Tm.length_le x.args
 have hx:=Tm.An x
 have hd1:=Tm.Ky x
 have hd2:=Tm.Gb x
 refine Ab N2 Fb (of_decide_eq_true rfl) ?_
 simp (disch:=omega) only [Jg,go_sem,Aa]
 refine go_loop (α:=Int × (Int)) (fun a=>⟨slots 20 0 [(3,.int .i64 (a.2)),(7,.arr (x.args.map Tm.d)),(8,.int .i64 x.args.length),(9,.int .i64 (a.1))],[]⟩) (fun a=>∃ k:Nat,a.1=k∧k≤(x.args).length∧0≤(a.2)∧max (a.2) (Tm.EC (x.args.drop k):Nat)=(Tm.EC x.args:Nat)) (fun a=>(x.args).length-(a.1).toNat) (0,0) ⟨0,rfl,zH _,by dsimp only; omega,by rw [zS]; dsimp only; omega⟩ (by simp (disch:=omega) only [go_sem,Aa]) ?_
 rintro ⟨i,n⟩ ⟨k,hi,hk,hR⟩
 dsimp only at hi hR
 have hni:i.toNat=k:=by omega
 have hni1:(i+1).toNat=k+1:=by omega
 rcases zO k (x.args).length with hlt | hge
 ·have hg:=get_at Tm.d hlt
  rw [Tm.Ga] at hg
  have hc:=ih x.args[k] (zL hlt)
  rw [zK hlt,Tm.EC] at hR
  simp (disch:=omega) only [go_sem,Aa,hni,hg,hc,Fb,Ud]
  refine ⟨(i+1,max n (x.args[k].deep:Int)),⟨k+1,by dsimp only; omega,hlt,by dsimp only; omega⟩,by dsimp only; omega,?_⟩
  simp only [and_self]
 ·rw [zT hge,Tm.EC] at hR
  simp (disch:=omega) only [go_sem,Aa,hni]
  omega
theorem Qr (x:Tm) (hn:x.nodes≤1099511627776):E 82 [x.sv] []=some (.int .i64 x.deep,[]) :=
 Sy x hn fun y hy=>Qr y (by have:=Tm.CT hy; have:=Tm.An x; omega)
termination_by SizeOf.sizeOf x
decreasing_by exact Tm.Bt hy
theorem P9 (x:Tm) (hn:x.nodes≤1099511627776) (ih:∀ y∈x.args,E 73 [y.sv] []=some (.int .i64 y.deep,[])):E 73 [x.sv] []=some (.int .i64 x.deep,[]):=by
 have hl:=Tm.length_le x.args
 have hx:=Tm.An x
 have hd1:=Tm.Ky x
 have hd2:=Tm.Gb x
 refine Ab L2 DV (of_decide_eq_true rfl) ?_
 simp (disch:=omega) only [H6,go_sem,Aa]
 refine go_loop (α:=Int × (Int)) (fun a=>⟨slots 22 0 [(1,.ptr 0 0),(3,.int .i64 (a.2)),(4,.int .i64 (a.1))],[.box 26 [.str x.name,.arr (x.args.map Tm.d)]]⟩) (fun a=>∃ k:Nat,a.1=k∧k≤(x.args).length∧0≤(a.2)∧max (a.2) (Tm.EC (x.args.drop k):Nat)=(Tm.EC x.args:Nat)) (fun a=>(x.args).length-(a.1).toNat) (0,0) ⟨0,rfl,zH _,by dsimp only; omega,by rw [zS]; dsimp only; omega⟩ (by simp (disch:=omega) only [go_sem,Aa]) ?_
 rintro ⟨i,n⟩ ⟨k,hi,hk,hR⟩
 dsimp only at hi hR
 have hni:i.toNat=k:=by omega
 have hni1:(i+1).toNat=k+1:=by omega
 rcases zO k (x.args).length with hlt | hge
 ·have hg:=get_at Tm.d hlt
  rw [Tm.Ga] at hg
  have hc:=ih x.args[k] (zL hlt)
  rw [zK hlt,Tm.EC] at hR
  simp (disch:=omega) only [go_sem,Aa,hni,hg,hc,DV,Sx,Iq]
  refine ⟨(i+1,max n (x.args[k].deep:Int)),⟨k+1,by dsimp only; omega,hlt,by dsimp only; omega⟩,by dsimp only; omega,?_⟩
  simp only [and_self]
 ·rw [zT hge,Tm.EC] at hR
  simp (disch:=omega) only [go_sem,Aa,hni]
  omega
theorem MN (x:Tm) (hn:x.nodes≤1099511627776):E 73 [x.sv] []=some (.int .i64 x.deep,[]) :=
 P9 x hn fun y hy=>MN y (by have:=Tm.CT hy; have:=Tm.An x; omega)
termination_by SizeOf.sizeOf x
decreasing_by exact Tm.Bt hy
def BP:SC:=(.seq (.reg [⟨some 4,none,.mv (.c (.int .i64 0))⟩]) (.seq (.seq (.reg [⟨some 6,none,.mv (.t 0)⟩,⟨some 7,none,.len false (.t 6)⟩,⟨some 8,none,.mv (.c (.int .i64 0))⟩]) (.block 0 (.loop [1,1,0,0,0,0,0,1,1,0,0,0,0,0,0,0,0,0,0] (.seq (.reg [⟨some 9,none,.bin .lss false (.t 8) (.t 7)⟩]) (.seq (.cond (.t 9) .skip (.exit 0)) (.seq (.block 1 (.seq (.reg [⟨some 10,none,.mv (.t 8)⟩,⟨some 5,none,.mv (.t 10)⟩]) (.seq (.reg [⟨some 11,none,.mv (.t 1)⟩,⟨some 12,none,.mv (.t 0)⟩,⟨some 13,none,.mv (.t 5)⟩,⟨some 14,none,.iaddr 2 (.t 12) (.t 13)⟩,⟨some 15,none,.load true 2 (.t 14)⟩,⟨some 16,none,.callv (.t 11) [(.t 15)]⟩]) (.cond (.t 16) (.seq (.reg [⟨some 17,none,.mv (.t 5)⟩,⟨some 4,none,.mv (.t 17)⟩]) .ret) .skip)))) (.reg [⟨some 18,none,.bin .add false (.t 8) (.c (.int .i64 1))⟩,⟨some 8,none,.mv (.t 18)⟩]))))))) (.seq (.reg [⟨some 4,none,.mv (.c (.int .i64 (-(0+1))))⟩]) .ret)))
theorem Dm:Ar Tryz.prog 103=some ⟨19,BP,[(.tmp 4)]⟩:=by kernel_rfl
theorem BQ:modes 103=⟨[],.asis,none,false⟩:=by unfold modes; rfl
def BG:SC:=(.seq (.reg [⟨some 4,none,.mv (.c (.bool false))⟩]) (.seq (.reg [⟨some 5,none,.mv (.t 0)⟩,⟨some 6,none,.mv (.t 1)⟩,⟨some 7,none,.call 103 [(.t 5),(.t 6)]⟩,⟨some 8,none,.bin .geq false (.t 7) (.c (.int .i64 0))⟩,⟨some 4,none,.mv (.t 8)⟩]) .ret))
theorem CN:Ar Tryz.prog 84=some ⟨9,BG,[(.tmp 4)]⟩:=by kernel_rfl
theorem BH:modes 84=⟨[],.asis,none,false⟩:=by unfold modes; rfl
theorem Kn (fid:Nat) (p:Tm→Bool) (xs:List Tm) (hl:xs.length≤1099511627776) (hg:LM Tryz.prog fid=true) (hm:(modes fid).hand=[]) (hE:∀ x∈xs,E fid [x.sv] []=some (.bool (p x),[])):E 103 [.arr (xs.map Tm.d),.fn fid []] []=some (.int .i64 (IA p xs 0),[]):=by
 refine Ab Dm BQ (of_decide_eq_true rfl) ?_
 simp (disch:=omega) only [BP,go_sem,Aa]
 refine go_loop (α:=Int) (fun a=>⟨slots 19 0 [(0,.arr (xs.map Tm.d)),(1,.fn fid []),(7,.int .i64 xs.length),(8,.int .i64 a)],[]⟩) (fun a=>∃ k:Nat,a=k∧k≤(xs).length∧IA p (xs.drop k) a=IA p xs 0) (fun a=>(xs).length-(a).toNat) 0 ⟨0,rfl,zH _,by rw [zS]⟩ (by simp (disch:=omega) only [go_sem,Aa]) ?_
 rintro i ⟨k,hi,hk,hR⟩
 have hni:i.toNat=k:=by omega
 have hni1:(i+1).toNat=k+1:=by omega
 rcases zO k (xs).length with hlt | hge
 ·have hg':=get_at Tm.d hlt
  rw [Tm.Ga] at hg'
  have hc:=hE xs[k] (zL hlt)
  rw [zK hlt,IA] at hR
  cases hp:p xs[k] with
  | true =>
   rw [hp] at hc hR
   simp (disch:=omega) only [go_sem,Aa,hni,hg',hc,hg,hm]
   simpa using hR
  | false =>
   rw [hp] at hc hR
   simp (disch:=omega) only [go_sem,Aa,hni,hg',hc,hg,hm]
   exact ⟨i+1,⟨k+1,by omega,hlt,by simpa using hR⟩,by omega,by first | trivial | rfl⟩
 ·rw [zT hge,IA] at hR
  simp (disch:=omega) only [go_sem,Aa,hni]
  exact hR
theorem IB (fid:Nat) (p:Tm→Bool) (xs:List Tm) (hl:xs.length≤1099511627776) (hg:LM Tryz.prog fid=true) (hm:(modes fid).hand=[]) (hE:∀ x∈xs,E fid [x.sv] []=some (.bool (p x),[])):E 84 [.arr (xs.map Tm.d),.fn fid []] []=some (.bool (xs.any p),[]):=by
 have h:=Kn fid p xs hl hg hm hE
 refine Ab CN BH (of_decide_eq_true rfl) ?_
 simp (disch:=omega) only [BG,go_sem,Aa,h,BQ]
 rw [O2]
def CO:SC:=(.seq (.reg [⟨some 1,none,.boxv 26 2 (.t 0)⟩,⟨some 2,none,.mv (.c (.bool false))⟩]) (.seq (.seq (.reg [⟨some 3,none,.faddr 0 (.t 1)⟩,⟨some 4,none,.load false 1 (.t 3)⟩,⟨some 5,none,.call 83 [(.t 4)]⟩]) (.cond (.t 5) (.seq (.reg [⟨some 6,none,.faddr 1 (.t 1)⟩,⟨some 7,none,.load false 1 (.t 6)⟩,⟨some 8,none,.len false (.t 7)⟩,⟨some 9,none,.bin .eql false (.t 8) (.c (.int .i64 0))⟩,⟨some 2,none,.mv (.t 9)⟩]) .ret) .skip)) (.seq (.reg [⟨some 10,none,.faddr 0 (.t 1)⟩,⟨some 11,none,.load false 1 (.t 10)⟩,⟨some 12,none,.call 54 [(.t 11)]⟩,⟨some 13,none,.mv (.t 12)⟩,⟨(some 14),(some (13,true)),(.faddr 1 (.t 1))⟩,⟨(some 15),(some (13,true)),(.load false 1 (.t 14))⟩,⟨(some 16),(some (13,true)),(.len false (.t 15))⟩,⟨(some 17),(some (13,true)),(.bin .leq false (.t 16) (.c (.int .i64 4)))⟩,⟨some 18,none,.pick (.t 13) (.t 17) (.c (.bool false))⟩,⟨some 19,none,.mv (.t 18)⟩,⟨(some 20),(some (19,true)),(.faddr 1 (.t 1))⟩,⟨(some 21),(some (19,true)),(.load false 1 (.t 20))⟩,⟨(some 22),(some (19,true)),(.call 84 [(.t 21),(.c (.fn 85 []))])⟩,⟨(some 23),(some (19,true)),(.un .not (.t 22))⟩,⟨some 24,none,.pick (.t 19) (.t 23) (.c (.bool false))⟩,⟨some 2,none,.mv (.t 24)⟩]) .ret)))
theorem DJ:Ar Tryz.prog 53=some ⟨25,CO,[(.tmp 2)]⟩:=by kernel_rfl
theorem AR:modes 53=⟨[],.asis,none,false⟩:=by unfold modes; rfl
def FO:SC:=(.seq (.reg [⟨some 1,none,.boxv 26 2 (.t 0)⟩,⟨some 2,none,.mv (.c (.bool false))⟩]) (.seq (.reg [⟨some 3,none,.load true 2 (.t 1)⟩,⟨some 4,none,.call 53 [(.t 3)]⟩,⟨some 5,none,.un .not (.t 4)⟩,⟨some 2,none,.mv (.t 5)⟩]) .ret))
theorem Jh:Ar Tryz.prog 85=some ⟨6,FO,[(.tmp 2)]⟩:=by kernel_rfl
theorem FP:modes 85=⟨[],.asis,none,false⟩:=by unfold modes; rfl
theorem Ji:LM Tryz.prog 85=true:=by kernel_rfl
theorem Tm.Ug (xs:List Tm):(!xs.any fun y=>!y.names)=Tm.G6 xs:=by
 rw [Tm.G8]
 induction xs with
 | nil=>rfl
 | cons x xs ih=>simp only [yX,List.all_cons,Bool.not_or,Bool.not_not,ih]
theorem O4 (x:Tm) (hn:x.nodes≤1099511627776) (ih:∀ y∈x.args,E 53 [y.sv] []=some (.bool y.names,[])):E 53 [x.sv] []=some (.bool x.names,[]):=by
 have hl:=Tm.length_le x.args
 have hx:=Tm.An x
 have h1:∀ y∈x.args,E 85 [y.sv] []=some (.bool (!y.names),[]):=fun y hy=>by
  have h:=ih y hy
  refine Ab Jh FP (of_decide_eq_true rfl) ?_
  simp (disch:=omega) only [FO,go_sem,Aa,h,AR]
 have h2:=IB 85 (fun y=>!y.names) x.args (by omega) Ji (by rw [FP]) h1
 rw [Tm.Fz,← Tm.Ug]
 cases hv:Fy x.name with
 | true =>
  have h3:=Jd x.name
  rw [hv] at h3
  refine Ab DJ AR (of_decide_eq_true rfl) ?_
  simp (disch:=omega) only [CO,go_sem,Aa,h3,Cn]
  rw [Pi]; cases x.args <;> simp <;> omega
 | false =>
  have h3:=Jd x.name
  rw [hv] at h3
  have h4:=Lw x.name
  cases hs:Ei x.name with
  | false =>
   rw [hs] at h4
   refine Ab DJ AR (of_decide_eq_true rfl) ?_
   simp (disch:=omega) only [CO,go_sem,Aa,h2,h3,h4,Cn,Bp]
  | true =>
   rw [hs] at h4
   rcases zO 4 x.args.length with h5 | h5
   ·refine Ab DJ AR (of_decide_eq_true rfl) ?_
    simp (disch:=omega) only [CO,go_sem,Aa,h2,h3,h4,Cn,Bp]
    simp; omega
   ·refine Ab DJ AR (of_decide_eq_true rfl) ?_
    simp (disch:=omega) only [CO,go_sem,Aa,h2,h3,h4,Cn,Bp,BH]
    simp [h5]
theorem GS (x:Tm) (hn:x.nodes≤1099511627776):E 53 [x.sv] []=some (.bool x.names,[]) :=
 O4 x hn fun y hy=>GS y (by have:=Tm.CT hy; have:=Tm.An x; omega)
termination_by SizeOf.sizeOf x
decreasing_by exact Tm.Bt hy
def Dn:SC:=(.seq (.reg [⟨some 1,none,.boxv 26 2 (.t 0)⟩,⟨some 2,none,.mv (.c (.bool false))⟩]) (.seq (.seq (.reg [⟨some 4,none,.faddr 0 (.t 1)⟩,⟨some 5,none,.load false 1 (.t 4)⟩,⟨some 6,none,.call 74 [(.t 5)]⟩]) (.cond (.t 6) (.seq (.reg [⟨some 7,none,.faddr 1 (.t 1)⟩,⟨some 8,none,.load false 1 (.t 7)⟩,⟨some 9,none,.len false (.t 8)⟩,⟨some 10,none,.bin .eql false (.t 9) (.c (.int .i64 0))⟩,⟨some 2,none,.mv (.t 10)⟩]) .ret) .skip)) (.seq (.seq (.reg [⟨some 11,none,.faddr 0 (.t 1)⟩,⟨some 12,none,.load false 1 (.t 11)⟩,⟨some 13,none,.call 48 [(.t 12)]⟩,⟨some 14,none,.un .not (.t 13)⟩,⟨some 15,none,.mv (.t 14)⟩,⟨(some 16),(some (15,false)),(.faddr 1 (.t 1))⟩,⟨(some 17),(some (15,false)),(.load false 1 (.t 16))⟩,⟨(some 18),(some (15,false)),(.len false (.t 17))⟩,⟨(some 19),(some (15,false)),(.bin .gtr false (.t 18) (.c (.int .i64 4)))⟩,⟨some 20,none,.pick (.t 15) (.c (.bool true)) (.t 19)⟩]) (.cond (.t 20) (.seq (.reg [⟨some 2,none,.mv (.c (.bool false))⟩]) .ret) .skip)) (.seq (.seq (.reg [⟨some 3,none,.mv (.c (.int .i64 0))⟩]) (.block 0 (.loop [0,1,0,1,0,0,0,0,0,0,0,0,0,0,0,0,0,0,0,0,0,0,0,0,0,0,0,0,0,0,0,0,0,0,0] (.seq (.seq (.reg [⟨some 21,none,.mv (.t 3)⟩,⟨some 22,none,.faddr 1 (.t 1)⟩,⟨some 23,none,.load false 1 (.t 22)⟩,⟨some 24,none,.len false (.t 23)⟩,⟨some 25,none,.bin .lss false (.t 21) (.t 24)⟩]) (.cond (.t 25) .skip (.exit 0))) (.seq (.block 1 (.seq (.reg [⟨some 28,none,.faddr 1 (.t 1)⟩,⟨some 29,none,.load false 1 (.t 28)⟩,⟨some 30,none,.mv (.t 3)⟩,⟨some 31,none,.iaddr 2 (.t 29) (.t 30)⟩,⟨some 32,none,.load true 2 (.t 31)⟩,⟨some 33,none,.call 47 [(.t 32)]⟩,⟨some 34,none,.un .not (.t 33)⟩]) (.cond (.t 34) (.seq (.reg [⟨some 2,none,.mv (.c (.bool false))⟩]) .ret) .skip))) (.reg [⟨some 26,none,.mv (.t 3)⟩,⟨some 27,none,.bin .add false (.t 26) (.c (.int .i64 1))⟩,⟨some 3,none,.mv (.t 27)⟩])))))) (.seq (.reg [⟨some 2,none,.mv (.c (.bool true))⟩]) .ret)))))
theorem DW:Ar Tryz.prog 47=some ⟨35,Dn,[(.tmp 2)]⟩:=by kernel_rfl
theorem AT:modes 47=⟨[],.asis,none,false⟩:=by unfold modes; rfl
theorem PA (x:Tm) (hn:x.nodes≤1099511627776) (ih:∀ y∈x.args,E 47 [y.sv] []=some (.bool y.names,[])):E 47 [x.sv] []=some (.bool x.names,[]):=by
 have hl:=Tm.length_le x.args
 have hx:=Tm.An x
 have h3:=Uc x.name
 have h4:=Lx x.name
 rw [Tm.Fz]
 cases hv:Fy x.name with
 | true =>
  rw [hv] at h3
  refine Ab DW AT (of_decide_eq_true rfl) ?_
  simp (disch:=omega) only [Dn,go_sem,Aa,h3,DU]
  rw [Pi]; cases x.args <;> simp <;> omega
 | false =>
  rw [hv] at h3
  cases hs:Ei x.name with
  | false =>
   rw [hs] at h4
   refine Ab DW AT (of_decide_eq_true rfl) ?_
   simp (disch:=omega) only [Dn,go_sem,Aa,h3,h4,DU,Br]
  | true =>
   rw [hs] at h4
   rcases zO 4 x.args.length with h5 | h5
   ·refine Ab DW AT (of_decide_eq_true rfl) ?_
    simp (disch:=omega) only [Dn,go_sem,Aa,h3,h4,DU,Br]
    simp; omega
   ·refine Ab DW AT (of_decide_eq_true rfl) ?_
    simp (disch:=omega) only [Dn,go_sem,Aa,h3,h4,DU,Br]
    refine go_loop (α:=Int) (fun a=>⟨slots 35 0 [(1,.ptr 0 0),(3,.int .i64 a)],[.box 26 [.str x.name,.arr (x.args.map Tm.d)]]⟩) (fun a=>∃ k:Nat,a=k∧k≤(x.args).length∧Tm.G6 (x.args.drop k)=Tm.G6 x.args) (fun a=>(x.args).length-(a).toNat) 0 ⟨0,rfl,zH _,by rw [zS]⟩ (by simp (disch:=omega) only [go_sem,Aa]) ?_
    rintro i ⟨k,hi,hk,hR⟩
    have hni:i.toNat=k:=by omega
    have hni1:(i+1).toNat=k+1:=by omega
    rcases zO k (x.args).length with hlt | hge
    ·have hg:=get_at Tm.d hlt
     rw [Tm.Ga] at hg
     have hc:=ih x.args[k] (zL hlt)
     rw [zK hlt,Tm.G6] at hR
     cases hp:x.args[k].names with
     | true =>
      rw [hp] at hc hR
      simp (disch:=omega) only [go_sem,Aa,hni,hg,hc,AT]
      exact ⟨i+1,⟨k+1,by omega,hlt,by simpa using hR⟩,by omega,by first | trivial | rfl⟩
     | false =>
      rw [hp] at hc hR
      simp (disch:=omega) only [go_sem,Aa,hni,hg,hc,AT]
      simp at hR ⊢; exact fun _=>hR
    ·rw [zT hge,Tm.G6] at hR
     simp (disch:=omega) only [go_sem,Aa,hni]
     simp [h5,← hR]
theorem HX (x:Tm) (hn:x.nodes≤1099511627776):E 47 [x.sv] []=some (.bool x.names,[]) :=
 PA x hn fun y hy=>HX y (by have:=Tm.CT hy; have:=Tm.An x; omega)
termination_by SizeOf.sizeOf x
decreasing_by exact Tm.Bt hy
def F0:SC:=(.seq (.reg [⟨some 1,none,.boxv 26 2 (.t 0)⟩,⟨some 2,none,.mv (.c (.bool false))⟩]) (.seq (.reg [⟨some 3,none,.load true 2 (.t 1)⟩,⟨some 4,none,.call 81 [(.t 3)]⟩,⟨some 5,none,.bin .leq false (.t 4) (.c (.int .i64 30))⟩,⟨some 6,none,.mv (.t 5)⟩,⟨(some 7),(some (6,true)),(.load true 2 (.t 1))⟩,⟨(some 8),(some (6,true)),(.call 82 [(.t 7)])⟩,⟨(some 9),(some (6,true)),(.bin .leq false (.t 8) (.c (.int .i64 8)))⟩,⟨some 10,none,.pick (.t 6) (.t 9) (.c (.bool false))⟩,⟨some 2,none,.mv (.t 10)⟩]) .ret))
theorem H7:Ar Tryz.prog 52=some ⟨11,F0,[(.tmp 2)]⟩:=by kernel_rfl
theorem By:modes 52=⟨[],.asis,none,false⟩:=by unfold modes; rfl
def Gf:SC:=(.seq (.reg [⟨some 1,none,.boxv 26 2 (.t 0)⟩,⟨some 2,none,.mv (.c (.bool false))⟩]) (.seq (.reg [⟨some 3,none,.load true 2 (.t 1)⟩,⟨some 4,none,.call 72 [(.t 3),(.c (.int .i64 30))]⟩,⟨some 5,none,.bin .leq false (.t 4) (.c (.int .i64 30))⟩,⟨some 6,none,.mv (.t 5)⟩,⟨(some 7),(some (6,true)),(.load true 2 (.t 1))⟩,⟨(some 8),(some (6,true)),(.call 73 [(.t 7)])⟩,⟨(some 9),(some (6,true)),(.bin .leq false (.t 8) (.c (.int .i64 8)))⟩,⟨some 10,none,.pick (.t 6) (.t 9) (.c (.bool false))⟩,⟨some 2,none,.mv (.t 10)⟩]) .ret))
theorem Ir:Ar Tryz.prog 46=some ⟨11,Gf,[(.tmp 2)]⟩:=by kernel_rfl
theorem BA:modes 46=⟨[],.asis,none,false⟩:=by unfold modes; rfl
def DM:SC:=(.seq (.reg [⟨some 1,none,.boxv 26 2 (.t 0)⟩,⟨some 2,none,.mv (.c (.bool false))⟩]) (.seq (.reg [⟨some 3,none,.load true 2 (.t 1)⟩,⟨some 4,none,.call 52 [(.t 3)]⟩,⟨some 5,none,.mv (.t 4)⟩,⟨(some 6),(some (5,true)),(.load true 2 (.t 1))⟩,⟨(some 7),(some (5,true)),(.call 53 [(.t 6)])⟩,⟨some 8,none,.pick (.t 5) (.t 7) (.c (.bool false))⟩,⟨some 2,none,.mv (.t 8)⟩]) .ret))
theorem F1:Ar Tryz.prog 28=some ⟨9,DM,[(.tmp 2)]⟩:=by kernel_rfl
theorem AF:modes 28=⟨[],.asis,none,false⟩:=by unfold modes; rfl
def Gg:SC:=(.seq (.reg [⟨some 1,none,.boxv 26 2 (.t 0)⟩,⟨some 2,none,.mv (.c (.bool false))⟩]) (.seq (.reg [⟨some 3,none,.load true 2 (.t 1)⟩,⟨some 4,none,.call 46 [(.t 3)]⟩,⟨some 5,none,.mv (.t 4)⟩,⟨(some 6),(some (5,true)),(.load true 2 (.t 1))⟩,⟨(some 7),(some (5,true)),(.call 47 [(.t 6)])⟩,⟨some 8,none,.pick (.t 5) (.t 7) (.c (.bool false))⟩,⟨some 2,none,.mv (.t 8)⟩]) .ret))
theorem Is:Ar Tryz.prog 24=some ⟨9,Gg,[(.tmp 2)]⟩:=by kernel_rfl
theorem Bz:modes 24=⟨[],.asis,none,false⟩:=by unfold modes; rfl
def FQ:SC:=(.seq (.reg [⟨some 1,none,.boxv 26 2 (.t 0)⟩,⟨some 2,none,.mv (.c (.bool false))⟩]) (.seq (.reg [⟨some 3,none,.faddr 0 (.t 1)⟩,⟨some 4,none,.load false 1 (.t 3)⟩,⟨(some 5),none,(.bin .eql false (.t 4) (.c (.str ⟨#[61]⟩)))⟩,⟨some 2,none,.mv (.t 5)⟩]) .ret))
theorem Jj:Ar Tryz.prog 44=some ⟨6,FQ,[(.tmp 2)]⟩:=by kernel_rfl
theorem AE:modes 44=⟨[],.asis,none,false⟩:=by unfold modes; rfl
def B3:SC:=(.seq (.reg [⟨some 1,none,.boxv 26 2 (.t 0)⟩,⟨some 2,none,.mv (.c (.bool false))⟩]) (.seq (.seq (.reg [⟨some 3,none,.load true 2 (.t 1)⟩,⟨some 4,none,.call 44 [(.t 3)]⟩]) (.cond (.t 4) (.seq (.reg [⟨some 5,none,.faddr 1 (.t 1)⟩,⟨some 6,none,.load false 1 (.t 5)⟩,⟨some 7,none,.len false (.t 6)⟩,⟨some 8,none,.bin .eql false (.t 7) (.c (.int .i64 2))⟩,⟨some 9,none,.mv (.t 8)⟩,⟨(some 10),(some (9,true)),(.load true 2 (.t 1))⟩,⟨(some 11),(some (9,true)),(.call 52 [(.t 10)])⟩,⟨some 12,none,.pick (.t 9) (.t 11) (.c (.bool false))⟩,⟨some 13,none,.mv (.t 12)⟩,⟨(some 14),(some (13,true)),(.faddr 1 (.t 1))⟩,⟨(some 15),(some (13,true)),(.load false 1 (.t 14))⟩,⟨(some 16),(some (13,true)),(.iaddr 2 (.t 15) (.c (.int .i64 0)))⟩,⟨(some 17),(some (13,true)),(.load true 2 (.t 16))⟩,⟨(some 18),(some (13,true)),(.call 53 [(.t 17)])⟩,⟨some 19,none,.pick (.t 13) (.t 18) (.c (.bool false))⟩,⟨some 20,none,.mv (.t 19)⟩,⟨(some 21),(some (20,true)),(.faddr 1 (.t 1))⟩,⟨(some 22),(some (20,true)),(.load false 1 (.t 21))⟩,⟨(some 23),(some (20,true)),(.iaddr 2 (.t 22) (.c (.int .i64 1)))⟩,⟨(some 24),(some (20,true)),(.load true 2 (.t 23))⟩,⟨(some 25),(some (20,true)),(.call 53 [(.t 24)])⟩,⟨some 26,none,.pick (.t 20) (.t 25) (.c (.bool false))⟩,⟨some 2,none,.mv (.t 26)⟩]) .ret) .skip)) (.seq (.reg [⟨some 27,none,.faddr 0 (.t 1)⟩,⟨some 28,none,.load false 1 (.t 27)⟩,⟨some 29,none,.call 54 [(.t 28)]⟩,⟨some 30,none,.mv (.t 29)⟩,⟨(some 31),(some (30,true)),(.load true 2 (.t 1))⟩,⟨(some 32),(some (30,true)),(.call 28 [(.t 31)])⟩,⟨some 33,none,.pick (.t 30) (.t 32) (.c (.bool false))⟩,⟨some 2,none,.mv (.t 33)⟩]) .ret)))
theorem BK:Ar Tryz.prog 30=some ⟨34,B3,[(.tmp 2)]⟩:=by kernel_rfl
theorem AG:modes 30=⟨[],.asis,none,false⟩:=by unfold modes; rfl
def Cy:SC:=(.seq (.reg [⟨some 1,none,.boxv 26 2 (.t 0)⟩,⟨some 2,none,.mv (.c (.bool false))⟩]) (.seq (.seq (.reg [⟨some 3,none,.faddr 0 (.t 1)⟩,⟨some 4,none,.load false 1 (.t 3)⟩,⟨(some 5),none,(.bin .eql false (.t 4) (.c (.str ⟨#[61]⟩)))⟩]) (.cond (.t 5) (.seq (.reg [⟨some 6,none,.faddr 1 (.t 1)⟩,⟨some 7,none,.load false 1 (.t 6)⟩,⟨some 8,none,.len false (.t 7)⟩,⟨some 9,none,.bin .eql false (.t 8) (.c (.int .i64 2))⟩,⟨some 10,none,.mv (.t 9)⟩,⟨(some 11),(some (10,true)),(.load true 2 (.t 1))⟩,⟨(some 12),(some (10,true)),(.call 46 [(.t 11)])⟩,⟨some 13,none,.pick (.t 10) (.t 12) (.c (.bool false))⟩,⟨some 14,none,.mv (.t 13)⟩,⟨(some 15),(some (14,true)),(.faddr 1 (.t 1))⟩,⟨(some 16),(some (14,true)),(.load false 1 (.t 15))⟩,⟨(some 17),(some (14,true)),(.iaddr 2 (.t 16) (.c (.int .i64 0)))⟩,⟨(some 18),(some (14,true)),(.load true 2 (.t 17))⟩,⟨(some 19),(some (14,true)),(.call 47 [(.t 18)])⟩,⟨some 20,none,.pick (.t 14) (.t 19) (.c (.bool false))⟩,⟨some 21,none,.mv (.t 20)⟩,⟨(some 22),(some (21,true)),(.faddr 1 (.t 1))⟩,⟨(some 23),(some (21,true)),(.load false 1 (.t 22))⟩,⟨(some 24),(some (21,true)),(.iaddr 2 (.t 23) (.c (.int .i64 1)))⟩,⟨(some 25),(some (21,true)),(.load true 2 (.t 24))⟩,⟨(some 26),(some (21,true)),(.call 47 [(.t 25)])⟩,⟨some 27,none,.pick (.t 21) (.t 26) (.c (.bool false))⟩,⟨some 2,none,.mv (.t 27)⟩]) .ret) .skip)) (.seq (.reg [⟨some 28,none,.faddr 0 (.t 1)⟩,⟨some 29,none,.load false 1 (.t 28)⟩,⟨some 30,none,.call 48 [(.t 29)]⟩,⟨some 31,none,.mv (.t 30)⟩,⟨(some 32),(some (31,true)),(.load true 2 (.t 1))⟩,⟨(some 33),(some (31,true)),(.call 24 [(.t 32)])⟩,⟨some 34,none,.pick (.t 31) (.t 33) (.c (.bool false))⟩,⟨some 2,none,.mv (.t 34)⟩]) .ret)))
theorem CU:Ar Tryz.prog 25=some ⟨35,Cy,[(.tmp 2)]⟩:=by kernel_rfl
theorem BM:modes 25=⟨[],.asis,none,false⟩:=by unfold modes; rfl
def C1:SC:=(.seq (.reg [⟨some 1,none,.boxv 26 2 (.t 0)⟩,⟨some 2,none,.mv (.c (.bool false))⟩]) (.seq (.reg [⟨some 3,none,.load true 2 (.t 1)⟩,⟨some 4,none,.call 28 [(.t 3)]⟩,⟨some 5,none,.mv (.t 4)⟩,⟨(some 6),(some (5,false)),(.load true 2 (.t 1))⟩,⟨(some 7),(some (5,false)),(.call 44 [(.t 6)])⟩,⟨(some 8),(some (5,false)),(.mv (.t 7))⟩,⟨(some 9),(some (8,true)),(.load true 2 (.t 1))⟩,⟨(some 10),(some (8,true)),(.call 30 [(.t 9)])⟩,⟨(some 11),(some (5,false)),(.pick (.t 8) (.t 10) (.c (.bool false)))⟩,⟨some 12,none,.pick (.t 5) (.c (.bool true)) (.t 11)⟩,⟨some 2,none,.mv (.t 12)⟩]) .ret))
theorem D8:Ar Tryz.prog 22=some ⟨13,C1,[(.tmp 2)]⟩:=by kernel_rfl
theorem BY:modes 22=⟨[],.asis,none,false⟩:=by unfold modes; rfl
def GT:SC:=(.seq (.reg [⟨some 1,none,.boxv 26 2 (.t 0)⟩,⟨some 2,none,.mv (.c (.bool false))⟩]) (.seq (.reg [⟨some 3,none,.load true 2 (.t 1)⟩,⟨some 4,none,.call 24 [(.t 3)]⟩,⟨some 5,none,.mv (.t 4)⟩,⟨(some 6),(some (5,false)),(.load true 2 (.t 1))⟩,⟨(some 7),(some (5,false)),(.call 25 [(.t 6)])⟩,⟨some 8,none,.pick (.t 5) (.c (.bool true)) (.t 7)⟩,⟨some 2,none,.mv (.t 8)⟩]) .ret))
theorem Jk:Ar Tryz.prog 65=some ⟨9,GT,[(.tmp 2)]⟩:=by kernel_rfl
theorem D0:modes 65=⟨[],.asis,none,false⟩:=by unfold modes; rfl
theorem MO (x:Tm) (hn:x.nodes≤1099511627776):E 52 [x.sv] []=some (.bool x.small,[]):=by
 have h1:=Sv x hn
 have h2:=Qr x hn
 have h3:=Tm.Je x
 have h4:=Tm.HV x 30
 unfold Tm.small
 rcases zO 30 x.nodes with h5 | h5
 ·rw [decide_eq_false (by omega),yH]
  refine Ab H7 By (of_decide_eq_true rfl) ?_
  simp (disch:=omega) only [F0,go_sem,Aa,h1,h2,ED,Fb]
 ·rw [decide_eq_true h5,yK]
  refine Ab H7 By (of_decide_eq_true rfl) ?_
  simp (disch:=omega) only [F0,go_sem,Aa,h1,h2,ED,Fb]
  rcases zO 8 x.deep with h6 | h6
  ·rw [decide_eq_false (by omega),Be (by omega)]
  ·rw [decide_eq_true h6,Bb (by omega)]
theorem O5 (x:Tm) (hn:x.nodes≤1099511627776):E 46 [x.sv] []=some (.bool x.small,[]):=by
 have h1:=Sw x 30 (by omega) (by omega) hn
 have h2:=MN x hn
 have h3:=Tm.Je x
 have h4:=Tm.HV x 30
 unfold Tm.small
 rcases zO 30 x.nodes with h5 | h5
 ·rw [decide_eq_false (by omega),yH]
  refine Ab Ir BA (of_decide_eq_true rfl) ?_
  simp (disch:=omega) only [Gf,go_sem,Aa,h1,h2,DE,DV]
 ·rw [decide_eq_true h5,yK]
  refine Ab Ir BA (of_decide_eq_true rfl) ?_
  simp (disch:=omega) only [Gf,go_sem,Aa,h1,h2,DE,DV]
  rcases zO 8 x.deep with h6 | h6
  ·rw [decide_eq_false (by omega),Be (by omega)]
  ·rw [decide_eq_true h6,Bb (by omega)]
theorem Gh (x:Tm) (hn:x.nodes≤1099511627776):E 28 [x.sv] []=some (.bool x.valid,[]):=by
 have h1:=MO x hn
 have h2:=GS x hn
 unfold Tm.valid
 cases h3:x.small <;> rw [h3] at h1
 ·refine Ab F1 AF (of_decide_eq_true rfl) ?_
  simp (disch:=omega) only [DM,go_sem,Aa,h1,h2,By,AR]
 ·refine Ab F1 AF (of_decide_eq_true rfl) ?_
  simp (disch:=omega) only [DM,go_sem,Aa,h1,h2,By,AR]
theorem L3 (x:Tm) (hn:x.nodes≤1099511627776):E 24 [x.sv] []=some (.bool x.valid,[]):=by
 have h1:=O5 x hn
 have h2:=HX x hn
 unfold Tm.valid
 cases h3:x.small <;> rw [h3] at h1
 ·refine Ab Is Bz (of_decide_eq_true rfl) ?_
  simp (disch:=omega) only [Gg,go_sem,Aa,h1,h2,BA,AT]
 ·refine Ab Is Bz (of_decide_eq_true rfl) ?_
  simp (disch:=omega) only [Gg,go_sem,Aa,h1,h2,BA,AT]
theorem D1 (x:Tm):E 44 [x.sv] []=some (.bool x.eqn,[]):=by
 unfold Tm.eqn
 refine Ab Jj AE (of_decide_eq_true rfl) ?_
 simp (disch:=omega) only [FQ,go_sem,Aa]
theorem Gi (x:Tm) (hn:x.nodes≤1099511627776):E 30 [x.sv] []=some (.bool x.atom,[]):=by
 have hl:=Tm.length_le x.args
 have hx:=Tm.An x
 have h0:=D1 x
 have h1:=MO x hn
 have h2:=Lw x.name
 have h3:=Gh x hn
 have hE:dec (x.name=⟨#[61]⟩)=x.eqn:=rfl
 unfold Tm.atom
 cases he:x.eqn <;> rw [he] at h0 hE
 ·rw [if_neg (by simp)]
  cases hs:Ei x.name <;> rw [hs] at h2
  ·refine Ab BK AG (of_decide_eq_true rfl) ?_
   simp (disch:=omega) only [B3,go_sem,Aa,h0,h1,h2,h3,hE,By,AR,Bp,AF,AE]
  ·refine Ab BK AG (of_decide_eq_true rfl) ?_
   simp (disch:=omega) only [B3,go_sem,Aa,h0,h1,h2,h3,hE,By,AR,Bp,AF,AE]
 ·rw [if_pos rfl]
  by_cases hc:x.args.length=2
  ·have hlt0:0<x.args.length:=by omega
   have hlt1:1<x.args.length:=by omega
   have hg0:=get_at Tm.d hlt0
   have hg1:=get_at Tm.d hlt1
   rw [Tm.Ga] at hg0 hg1
   have hb0:=Tm.G7 x.args 0 hlt0
   have hb1:=Tm.G7 x.args 1 hlt1
   have hn0:=GS x.args[0] (by omega)
   have hn1:=GS x.args[1] (by omega)
   rw [MH hc,show (x.args.length == 2)=true by simpa using hc]
   cases hs:x.small <;> rw [hs] at h1
   ·refine Ab BK AG (of_decide_eq_true rfl) ?_
    simp (disch:=omega) only [B3,go_sem,Aa,h0,h1,h2,h3,hE,hg0,hg1,hn0,hn1,hc,By,AR,Bp,AF,AE]
    try simp
   ·cases hq:(x.args[0]'hlt0).names <;> rw [hq] at hn0
    ·refine Ab BK AG (of_decide_eq_true rfl) ?_
     simp (disch:=omega) only [B3,go_sem,Aa,h0,h1,h2,h3,hE,hg0,hg1,hn0,hn1,hc,By,AR,Bp,AF,AE]
     try simp
    ·refine Ab BK AG (of_decide_eq_true rfl) ?_
     simp (disch:=omega) only [B3,go_sem,Aa,h0,h1,h2,h3,hE,hg0,hg1,hn0,hn1,hc,By,AR,Bp,AF,AE]
     try simp
  ·refine Ab BK AG (of_decide_eq_true rfl) ?_
   simp (disch:=omega) only [B3,go_sem,Aa,h0,h1,h2,h3,hE,By,AR,Bp,AF,AE]
   rw [show (x.args.length == 2)=false by simpa using hc]
   try simp
theorem L4 (x:Tm) (hn:x.nodes≤1099511627776):E 25 [x.sv] []=some (.bool x.atom,[]):=by
 have hl:=Tm.length_le x.args
 have hx:=Tm.An x
 have h0:=D1 x
 have h1:=O5 x hn
 have h2:=Lx x.name
 have h3:=L3 x hn
 have hE:dec (x.name=⟨#[61]⟩)=x.eqn:=rfl
 unfold Tm.atom
 cases he:x.eqn <;> rw [he] at h0 hE
 ·rw [if_neg (by simp)]
  cases hs:Ei x.name <;> rw [hs] at h2
  ·refine Ab CU BM (of_decide_eq_true rfl) ?_
   simp (disch:=omega) only [Cy,go_sem,Aa,h0,h1,h2,h3,hE,BA,AT,Br,Bz]
  ·refine Ab CU BM (of_decide_eq_true rfl) ?_
   simp (disch:=omega) only [Cy,go_sem,Aa,h0,h1,h2,h3,hE,BA,AT,Br,Bz]
 ·rw [if_pos rfl]
  by_cases hc:x.args.length=2
  ·have hlt0:0<x.args.length:=by omega
   have hlt1:1<x.args.length:=by omega
   have hg0:=get_at Tm.d hlt0
   have hg1:=get_at Tm.d hlt1
   rw [Tm.Ga] at hg0 hg1
   have hb0:=Tm.G7 x.args 0 hlt0
   have hb1:=Tm.G7 x.args 1 hlt1
   have hn0:=HX x.args[0] (by omega)
   have hn1:=HX x.args[1] (by omega)
   rw [MH hc,show (x.args.length == 2)=true by simpa using hc]
   cases hs:x.small <;> rw [hs] at h1
   ·refine Ab CU BM (of_decide_eq_true rfl) ?_
    simp (disch:=omega) only [Cy,go_sem,Aa,h0,h1,h2,h3,hE,hg0,hg1,hn0,hn1,hc,BA,AT,Br,Bz]
    try simp
   ·cases hq:(x.args[0]'hlt0).names <;> rw [hq] at hn0
    ·refine Ab CU BM (of_decide_eq_true rfl) ?_
     simp (disch:=omega) only [Cy,go_sem,Aa,h0,h1,h2,h3,hE,hg0,hg1,hn0,hn1,hc,BA,AT,Br,Bz]
     try simp
    ·refine Ab CU BM (of_decide_eq_true rfl) ?_
     simp (disch:=omega) only [Cy,go_sem,Aa,h0,h1,h2,h3,hE,hg0,hg1,hn0,hn1,hc,BA,AT,Br,Bz]
     try simp
  ·refine Ab CU BM (of_decide_eq_true rfl) ?_
   simp (disch:=omega) only [Cy,go_sem,Aa,h0,h1,h2,h3,hE,BA,AT,Br,Bz]
   rw [show (x.args.length == 2)=false by simpa using hc]
   try simp
theorem Tm.PB {x:Tm} (h:x.expr=true):x.small=true:=by
 unfold Tm.expr Tm.atom Tm.valid at h
 cases hs:x.small with
 | true=>rfl
 | false =>
  rw [hs] at h
  split at h <;> simp at h
theorem Tm.GU {x:Tm} (h:x.expr=true):x.nodes≤30:=by
 have:=Tm.PB h
 unfold Tm.small at this
 rw [zF,decide_eq_true_eq] at this
 exact this.1
theorem Tm.Uh {x:Tm} (h:x.eqn=true):Fy x.name=false:=by
 unfold Tm.eqn at h
 rw [Ax.1 h]
 kernel_rfl
theorem MP {s:ByteArray} (h:Fy s=true):s.size≤6:=by
 unfold Fy inB at h
 simp at h
 omega
theorem MQ {s:ByteArray} (h:Ei s=true):s.size≤6:=by
 unfold Ei inB at h
 simp at h
 omega
theorem L5 (x:Tm) (hn:x.nodes≤1099511627776):E 22 [x.sv] []=some (.bool x.expr,[]):=by
 have h1:=Gh x hn
 have h2:=D1 x
 have h3:=Gi x hn
 unfold Tm.expr
 cases hv:x.valid with
 | true =>
  rw [hv] at h1
  rw [yT]
  refine Ab D8 BY (of_decide_eq_true rfl) ?_
  simp (disch:=omega) only [C1,go_sem,Aa,h1,AF]
 | false =>
  rw [hv] at h1
  rw [yP]
  cases he:x.eqn with
  | true =>
   rw [he] at h2
   refine Ab D8 BY (of_decide_eq_true rfl) ?_
   simp (disch:=omega) only [C1,go_sem,Aa,h1,h2,h3,AF,AE,AG]
  | false =>
   rw [he] at h2
   have ha:x.atom=false:=by unfold Tm.atom; rw [if_neg (by rw [he]; simp),hv,Bool.and_false]
   rw [ha]
   refine Ab D8 BY (of_decide_eq_true rfl) ?_
   simp (disch:=omega) only [C1,go_sem,Aa,h1,h2,AF,AE]
theorem Ui (x:Tm) (hn:x.nodes≤1099511627776):E 65 [x.sv] []=some (.bool x.expr,[]):=by
 have h1:=L3 x hn
 have h3:=L4 x hn
 unfold Tm.expr
 cases hv:x.valid with
 | true =>
  rw [hv] at h1
  rw [yT]
  refine Ab Jk D0 (of_decide_eq_true rfl) ?_
  simp (disch:=omega) only [GT,go_sem,Aa,h1,Bz]
 | false =>
  rw [hv] at h1
  rw [yP]
  refine Ab Jk D0 (of_decide_eq_true rfl) ?_
  simp (disch:=omega) only [GT,go_sem,Aa,h1,h3,Bz,BM]
theorem JF (c:List UInt8):∀ xs:List (List UInt8),Lib.join xs c=Cd c xs
 | []=>rfl
 | [x]=>by rw [Lib.join_one]; rfl
 | x :: y :: r=>by
  have h:=JF c (y :: r)
  rw [Cd,← h,Lib.join_cons,Lib.join_cons]
  simp only [Lib.joinTail,zD,List.flatten_cons,zN]
def LY:List (List UInt8)→Nat
 | []=>0
 | x :: r=>x.length+1+LY r
theorem JG (c:UInt8):∀ xs:List (List UInt8),(Cd [c] xs).length≤LY xs
 | []=>by simp [Cd,LY]
 | [x]=>by simp [Cd,LY]
 | x :: y :: r=>by
  have h:=JG c (y :: r)
  rw [Cd,LY]
  simp only [zW,zM,zV]
  omega
theorem Tm.MR:∀ xs:List Tm,(∀ x∈xs,x.fmt.length+1≤10*x.nodes)→LY (Tm.Gd xs)≤10*Tm.AQ xs
 | [],_=>by simp [Tm.Gd,LY]
 | x :: xs,h=>by
  have h1:=h x (by simp)
  have h2:=Tm.MR xs fun y hy=>h y (by simp [hy])
  rw [Tm.Gd,LY,Tm.AQ]; omega
theorem Tm.D2 (x:Tm) (hx:x.names=true):x.fmt.length+1≤10*x.nodes:=by
 have h:=Tm.MR x.args fun y hy=>Tm.D2 y (Tm.Fh hx hy)
 have h2:x.name.size≤6:=by
  rw [Tm.Fz] at hx
  split at hx
  ·rename_i hv; exact MP hv
  ·rw [zF,zF] at hx; exact MQ hx.1.1
 have h3:=JG 44 (Tm.Gd x.args)
 rw [Tm.Ge,Tm.An,zW,AA]
 split
 ·simp only [zV]; omega
 ·simp only [zW,zM,zV]; omega
termination_by SizeOf.sizeOf x
decreasing_by exact Tm.Bt hy
def Tm.txt (x:Tm):ByteArray:=⟨x.fmt.toArray⟩
theorem Tm.txt_toList (x:Tm):x.txt.toList=x.fmt:=by
 rw [ByteArray.toList_eq]; unfold Tm.txt; simp
theorem Tm.Jl (x:Tm):x.txt.size=x.fmt.length:=by rw [←AA,Tm.txt_toList]
theorem B4 (a b:ByteArray):(a++b).toList=a.toList++b.toList:=by
 rw [ByteArray.toList_eq,ByteArray.toList_eq,ByteArray.toList_eq]
 simp
theorem Tm.Sz {x:Tm} (h:x.args=[]):x.txt=x.name:=by
 refine AJ ?_
 rw [Tm.txt_toList,Tm.Ge,h]
 simp
theorem Tm.S1 (xs:List Tm):C5 (xs.map Tm.txt) ⟨#[44]⟩=⟨(Cd [44] (Tm.Gd xs)).toArray⟩:=by
 unfold C5
 rw [JF,yI,Tm.Jf]
 have e:((fun x:ByteArray=>x.data.toList) ∘ Tm.txt)=Tm.fmt:=by
  funext x
  show x.txt.data.toList=x.fmt
  rw [←ByteArray.toList_eq,Tm.txt_toList]
 rw [e]
theorem AZ (l:List UInt8):(⟨l.toArray⟩:ByteArray).toList=l:=by rw [ByteArray.toList_eq]
theorem Tm.S2 {x:Tm} (h:x.args.length≠0):x.name++⟨#[40]⟩++C5 (x.args.map Tm.txt) ⟨#[44]⟩++⟨#[41]⟩=x.txt:=by
 refine AJ ?_
 rw [Tm.txt_toList,Tm.Ge,if_neg h,B4,B4,B4,Tm.S1,AZ (Cd [44] (Tm.Gd x.args))]
 have e1:(⟨#[40]⟩:ByteArray).toList=[40]:=by rw [ByteArray.toList_eq]
 have e2:(⟨#[41]⟩:ByteArray).toList=[41]:=by rw [ByteArray.toList_eq]
 rw [e1,e2]
 simp only [zN]
theorem Tm.JH {x:Tm} (h:x.names=true):x.eqn=false:=by
 cases he:x.eqn with
 | false=>rfl
 | true =>
  have hv:=Tm.Uh he
  rw [Tm.Fz,if_neg (by rw [hv]; simp),zF,zF] at h
  unfold Tm.eqn at he
  rw [Ax.1 he] at h
  have:Ei ⟨#[61]⟩=false:=by kernel_rfl
  rw [this] at h
  simp at h
def wdN (n:ByteArray):Prop:=n.toList≠[]∧∀ c∈n.toList,Dk (c.toNat:Int)=true
theorem MS {c:Int} (h:Nt c=true):Dk c=true:=by
 unfold Nt at h
 rw [zF,decide_eq_true_eq,decide_eq_true_eq] at h
 unfold Dk
 rw [Bb h.1,Bb h.2]; rfl
theorem QU {c:Int} (h:Px c=true):Dk c=true:=by
 unfold Px at h
 rw [zF,decide_eq_true_eq,decide_eq_true_eq] at h
 unfold Dk
 rw [Bb h.1,Bb h.2]; simp
theorem MT {c:Int} (h:QE c=true):Dk c=true:=by
 unfold QE at h
 rw [zF,decide_eq_true_eq,decide_eq_true_eq] at h
 unfold Dk
 rw [Bb h.1,Bb h.2]; simp
theorem S3:Dk 95=true:=by unfold Dk; rw [Bb (rfl:(95:Int)=95)]; simp
theorem S4 {n:ByteArray} {p:Nat→Int→Bool} (h1:El p n n.size=true) (h2:1≤n.size) (h3:∀ j c,p j c=true→Dk c=true):wdN n:=by
 refine ⟨fun e=>?_,fun c hc=>?_⟩
 ·have:=AA n
  rw [e] at this
  simp at this; omega
 ·obtain ⟨j,hj,rfl⟩:=List.getElem_of_mem hc
  have hj':j<n.size:=by rw [←AA]; exact hj
  unfold El at h1
  rw [yA] at h1
  have h:=h3 j _ (h1 j (List.mem_range.2 hj'))
  unfold Lo at h
  rw [yC,zX hj,yQ] at h
  exact h
theorem Uj {n:ByteArray} (h:Fy n=true):wdN n:=by
 unfold Fy inB at h
 rw [zF,zF,decide_eq_true_eq,decide_eq_true_eq] at h
 refine S4 h.1 (by omega) fun j c hc=>?_
 unfold In Fw at hc
 rw [zF,z8,z8,z8] at hc
 rcases hc.2 with h2 | h2 | h2
 ·have hj:j=0:=by simpa using h2
  subst hj
  rcases hc.1 with h1 | h1
  ·simp at h1
  ·exact QU h1
 ·exact MS h2
 ·exact MT h2
theorem Uk {n:ByteArray} (h:Ei n=true):wdN n:=by
 unfold Ei inB at h
 rw [zF,zF,zF,decide_eq_true_eq,decide_eq_true_eq] at h
 refine S4 h.1.1 (by omega) fun j c hc=>?_
 unfold Im Fw at hc
 rw [zF,z8,z8,z8] at hc
 rcases hc.2 with (h2 | h2) | h2
 ·exact MS h2
 ·exact MT h2
 ·have:c=95:=by simpa using h2
  subst this
  exact S3
theorem Tm.wd {x:Tm} (h:x.names=true):wdN x.name:=by
 rw [Tm.Fz] at h
 split at h
 ·rename_i hv; exact Uj hv
 ·rw [zF,zF] at h; exact Uk h.1.1
theorem Ez {s:ByteArray} {a b:Nat} (k:b≤s.size):(seg s a b).length=b-a:=by
 unfold seg
 rw [yJ,yS,AA]; omega
theorem D3 {s:ByteArray} {i e:Nat} {A B:List UInt8} (h:seg s i e=A++B) (he:e≤s.size) (hi:i≤e):i+A.length≤e∧seg s i (i+A.length)=A∧seg s (i+A.length) e=B:=by
 have hl:=congrArg yO h
 rw [Ez he,zW] at hl
 have hk:i+A.length≤e:=by omega
 refine ⟨hk,?_⟩
 rw [HW (show i≤i+A.length by omega) hk] at h
 have:=List.append_inj h (by rw [Ez (by omega)]; omega)
 exact this
theorem DF {s:ByteArray} {i e:Nat} {c:UInt8} {B:List UInt8} (h:seg s i e=c :: B) (he:e≤s.size):i<e∧BJ s i=(c.toNat:Int)∧seg s (i+1) e=B:=by
 have hl:=congrArg yO h
 rw [Ez he,zM] at hl
 have hi:i<e:=by omega
 obtain ⟨h1,h2,h3⟩:=D3 (A:=[c]) (B:=B) h he (by omega)
 refine ⟨hi,?_,h3⟩
 have hlt:i<s.size:=by omega
 have hl2:i<s.toList.length:=by rw [AA]; exact hlt
 have h2:seg s i (i+1)=[c]:=h2
 unfold seg at h2
 rw [zK hl2,show i+1-i=1 by omega,yE,yM] at h2
 rw [Gc hlt]
 simp only [yB,and_true] at h2
 rw [h2]
def S5 (s:ByteArray) (e:Nat):Prop:=e=s.size∨(e<s.size∧Dk (BJ s e)=false∧¬ BJ s e=40)
theorem L6 {s:ByteArray}:∀ (l:List UInt8) (i w:Nat),seg s i w=l→i≤w→w≤s.size→(∀ c∈l,Dk (c.toNat:Int)=true)→¬ (w<s.size∧Dk (BJ s w)=true)→B9 s i=w
 | [],i,w,h,hi,hw,_,hs=>by
  have hl:=congrArg yO h
  rw [Ez hw] at hl
  obtain rfl:i=w:=by simp at hl; omega
  exact GA hs
 | c :: l,i,w,h,hi,hw,ha,hs=>by
  obtain ⟨h1,h2,h3⟩:=DF h hw
  rw [ML (by omega) (by rw [h2]; exact ha c (by simp))]
  exact L6 l (i+1) w h3 (by omega) hw (fun c hc=>ha c (by simp [hc])) hs
theorem GB {c:Int} (h:c=40∨c=41∨c=44∨c=32):Dk c=false:=by
 unfold Dk
 have a1:¬ 97≤c:=by omega
 have a2:¬ 65≤c:=by omega
 have a3:¬ 48≤c:=by omega
 have a4:¬ c=95:=by omega
 rw [Be a1,Be a2,Be a3,Be a4]; rfl
theorem O6 {s:ByteArray} {n:Nat}:∀ (ts:List Tm) (m i e:Nat),ts≠[]→(∀ t∈ts,∀ i e,e≤s.size→i≤e→seg s i e=t.fmt→S5 s e→s.size-i<n→rd s n i=some (t,e))→e≤s.size→i≤e→seg s i e=Cd [44] (Tm.Gd ts)++[41]→s.size-i<m→s.size-i<n→rdL (rd s n) s m i=some (ts,e)
 | [],_,_,_,h,_,_,_,_,_,_=>absurd rfl h
 | [t],m,i,e,_,ih,he,hi,h,hm,hn=>by
  obtain ⟨m,rfl⟩:∃ m',m=m'+1:=⟨m-1,by omega⟩
  have h:seg s i e=t.fmt++[41]:=h
  obtain ⟨h1,h2,h3⟩:=D3 h he hi
  obtain ⟨g1,g2,g3⟩:=DF h3 he
  have hl:=congrArg yO g3
  rw [Ez he] at hl
  have hl:e-(i+t.fmt.length+1)=0:=hl
  have ht:=ih t (by simp) i (i+t.fmt.length) (by omega) (by omega) h2 (.inr ⟨by omega,GB (.inr (.inl g2)),by rw [g2]; decide⟩) hn
  rw [rdL,ht]
  have a1:Dl s (i+t.fmt.length) 44=false:=by
   cases hq:Dl s (i+t.fmt.length) 44 with
   | false=>rfl
   | true=>have:=(C6.1 hq).2; rw [g2] at this; exact absurd this (by decide)
  have a2:Dl s (i+t.fmt.length) 41=true:=C6.2 ⟨by omega,g2⟩
  simp only [a1,a2,cond_false,cond_true]
  have:i+t.fmt.length+1=e:=by omega
  rw [this]
 | t :: t2 :: r,m,i,e,_,ih,he,hi,h,hm,hn=>by
  obtain ⟨m,rfl⟩:∃ m',m=m'+1:=⟨m-1,by omega⟩
  have h:seg s i e=t.fmt++[44]++Cd [44] (Tm.Gd (t2 :: r))++[41]:=h
  rw [zN,zN] at h
  obtain ⟨h1,h2,h3⟩:=D3 h he hi
  obtain ⟨g1,g2,g3⟩:=DF h3 he
  have ht:=ih t (by simp) i (i+t.fmt.length) (by omega) (by omega) h2 (.inr ⟨by omega,GB (.inr (.inr (.inl g2))),by rw [g2]; decide⟩) hn
  have hr:=O6 (t2 :: r) m (i+t.fmt.length+1) e (by simp) (fun t ht=>ih t (by simp [ht])) he (by omega) g3 (by omega) (by omega)
  rw [rdL,ht]
  have a1:Dl s (i+t.fmt.length) 44=true:=C6.2 ⟨by omega,g2⟩
  simp only [a1,cond_true,hr]
theorem DX {s:ByteArray} (t:Tm) (ht:t.names=true) (n i e:Nat) (he:e≤s.size) (hi:i≤e) (h:seg s i e=t.fmt) (hs:S5 s e) (hn:s.size-i<n):rd s n i=some (t,e):=by
 obtain ⟨n,rfl⟩:∃ n',n=n'+1:=⟨n-1,by omega⟩
 obtain ⟨w1,w2⟩:=Tm.wd ht
 rw [Tm.Ge] at h
 obtain ⟨h1,h2,h3⟩:=D3 h he hi
 have hex:s.extract i (i+t.name.toList.length)=t.name:=AJ (by rw [toList_extract,h2])
 have hpos:0<t.name.toList.length:=List.length_pos_iff.2 w1
 rcases yG t.args.length with h0 | h0
 ·rw [if_pos h0] at h3
  have hl:=congrArg yO h3
  rw [Ez he] at hl
  have hl:e-(i+t.name.toList.length)=0:=hl
  have hw:B9 s i=i+t.name.toList.length:=L6 t.name.toList i _ h2 (by omega) (by omega) w2 fun ⟨k1,k2⟩=>by
   have e1:i+t.name.toList.length=e:=by omega
   rw [e1] at k1 k2
   rcases hs with hs | ⟨_,hs,_⟩
   ·omega
   ·rw [hs] at k2; cases k2
  have e1:i+t.name.toList.length=e:=by omega
  have hc:Dl s (i+t.name.toList.length) 40=false:=by
   cases hq:Dl s (i+t.name.toList.length) 40 with
   | false=>rfl
   | true =>
    obtain ⟨k1,k2⟩:=C6.1 hq
    rw [e1] at k1 k2
    rcases hs with hs | ⟨_,_,hs⟩
    ·omega
    ·exact absurd k2 hs
  have hargs:t.args=[]:=zZ h0
  rw [rd,hw,Be (by omega),cond_false,hc,cond_false,hex,e1]
  obtain ⟨nm,us⟩:=t
  have hargs:us=[]:=hargs
  subst hargs
  rfl
 ·rw [if_neg (by omega),zN] at h3
  obtain ⟨g1,g2,g3⟩:=DF h3 he
  have hw:B9 s i=i+t.name.toList.length:=L6 t.name.toList i _ h2 (by omega) (by omega) w2 fun ⟨_,k2⟩=>by
   rw [GB (.inl g2)] at k2; cases k2
  have hc:Dl s (i+t.name.toList.length) 40=true:=C6.2 ⟨by omega,g2⟩
  have hne:t.args≠[]:=fun h=>by rw [h] at h0; simp at h0
  have hr:=O6 (s:=s) (n:=n) t.args n (i+t.name.toList.length+1) e hne (fun y hy i e a b c d f=>DX y (Tm.Fh ht hy) n i e a b c d f) he (by omega) g3 (by omega) (by omega)
  rw [rd,hw,Be (by omega),cond_false,hc,cond_true,hr,hex]
  obtain ⟨nm,us⟩:=t
  rfl
termination_by SizeOf.sizeOf t
decreasing_by exact Tm.Bt hy
def F2:SC:=(.seq (.reg [⟨some 2,none,.mv (.c (.bool false))⟩]) (.seq (.reg [⟨some 3,none,.mv (.t 0)⟩,⟨some 4,none,.bin .geq false (.t 3) (.c (.int .u8 65))⟩,⟨some 5,none,.mv (.t 4)⟩,⟨(some 6),(some (5,true)),(.mv (.t 0))⟩,⟨(some 7),(some (5,true)),(.bin .leq false (.t 6) (.c (.int .u8 90)))⟩,⟨some 8,none,.pick (.t 5) (.t 7) (.c (.bool false))⟩,⟨some 2,none,.mv (.t 8)⟩]) .ret))
theorem H8:Ar Tryz.prog 78=some ⟨9,F2,[(.tmp 2)]⟩:=by kernel_rfl
theorem Do:modes 78=⟨[],.asis,none,false⟩:=by unfold modes; rfl
def F3:SC:=(.seq (.reg [⟨some 2,none,.mv (.c (.bool false))⟩]) (.seq (.reg [⟨some 3,none,.mv (.t 0)⟩,⟨some 4,none,.bin .geq false (.t 3) (.c (.int .u8 97))⟩,⟨some 5,none,.mv (.t 4)⟩,⟨(some 6),(some (5,true)),(.mv (.t 0))⟩,⟨(some 7),(some (5,true)),(.bin .leq false (.t 6) (.c (.int .u8 122)))⟩,⟨some 8,none,.pick (.t 5) (.t 7) (.c (.bool false))⟩,⟨some 2,none,.mv (.t 8)⟩]) .ret))
theorem H9:Ar Tryz.prog 77=some ⟨9,F3,[(.tmp 2)]⟩:=by kernel_rfl
theorem Dp:modes 77=⟨[],.asis,none,false⟩:=by unfold modes; rfl
def F4:SC:=(.seq (.reg [⟨some 2,none,.mv (.c (.bool false))⟩]) (.seq (.reg [⟨some 3,none,.mv (.t 0)⟩,⟨some 4,none,.bin .geq false (.t 3) (.c (.int .u8 48))⟩,⟨some 5,none,.mv (.t 4)⟩,⟨(some 6),(some (5,true)),(.mv (.t 0))⟩,⟨(some 7),(some (5,true)),(.bin .leq false (.t 6) (.c (.int .u8 57)))⟩,⟨some 8,none,.pick (.t 5) (.t 7) (.c (.bool false))⟩,⟨some 2,none,.mv (.t 8)⟩]) .ret))
theorem HA:Ar Tryz.prog 79=some ⟨9,F4,[(.tmp 2)]⟩:=by kernel_rfl
theorem Dq:modes 79=⟨[],.asis,none,false⟩:=by unfold modes; rfl
def EP:SC:=(.seq (.reg [⟨some 4,none,.mv (.c (.bool false))⟩]) (.seq (.reg [⟨some 5,none,.mv (.t 0)⟩,⟨some 6,none,.mv (.t 1)⟩,⟨some 7,none,.call 117 [(.t 5),(.t 6)]⟩,⟨some 4,none,.mv (.t 7)⟩]) .ret))
theorem Ic:Ar Tryz.prog 102=some ⟨8,EP,[(.tmp 4)]⟩:=by kernel_rfl
theorem EQ:modes 102=⟨[],.asis,none,false⟩:=by unfold modes; rfl
def BB:SC:=(.seq (.reg [⟨some 4,none,.mv (.c (.bool false))⟩]) (.seq (.reg [⟨some 5,none,.mv (.t 0)⟩,⟨some 6,none,.len true (.t 5)⟩,⟨some 7,none,.mv (.t 1)⟩,⟨some 8,none,.len true (.t 7)⟩,⟨some 9,none,.bin .geq false (.t 6) (.t 8)⟩,⟨some 10,none,.mv (.t 9)⟩,⟨(some 11),(some (10,true)),(.mv (.t 0))⟩,⟨(some 12),(some (10,true)),(.mv (.t 1))⟩,⟨(some 13),(some (10,true)),(.len true (.t 12))⟩,⟨(some 14),(some (10,true)),(.slice true 0 (.t 11) none (some (.t 13)))⟩,⟨(some 15),(some (10,true)),(.mv (.t 1))⟩,⟨(some 16),(some (10,true)),(.bin .eql false (.t 14) (.t 15))⟩,⟨some 17,none,.pick (.t 10) (.t 16) (.c (.bool false))⟩,⟨some 4,none,.mv (.t 17)⟩]) .ret))
theorem Co:Ar Tryz.prog 117=some ⟨18,BB,[(.tmp 4)]⟩:=by kernel_rfl
theorem BC:modes 117=⟨[],.asis,none,false⟩:=by unfold modes; rfl
def DY:SC:=(.seq (.reg [⟨some 4,none,.mv (.c (.bool false))⟩]) (.seq (.dreg [[],[0],[1,0],[2,1,0],[3,2,1,0],[4,3,2,1,0],[5,4,3,2,1,0],[6,5,4,3,2,1,0],[7,6,5,4,3,2,1,0],[8,7,6,5,4,3,2,1,0],[5,4,3,2,1,0],[10,5,4,3,2,1,0],[11,10,5,4,3,2,1,0],[12,11,10,5,4,3,2,1,0],[9,8,7,6,5,4,3,2,1,0,13,12,11,10],[5,4,3,2,1,0],[14,9,8,7,6,5,4,3,2,1,0,13,12,11,10,15],[5,4,3,2,1,0,16,14,9,8,7,6,13,12,11,10,15],[17,5,4,3,2,1,0,16,14,9,8,7,6,13,12,11,10,15]] [⟨some 5,none,.mv (.t 0)⟩,⟨some 6,none,.nilchk (.t 5)⟩,⟨some 7,none,.faddr 2 (.t 6)⟩,⟨some 8,none,.load false 1 (.t 7)⟩,⟨some 9,none,.un .not (.t 8)⟩,⟨some 10,none,.mv (.t 9)⟩,⟨(some 11),(some (10,true)),(.mv (.t 0))⟩,⟨(some 12),(some (10,true)),(.nilchk (.t 11))⟩,⟨(some 13),(some (10,true)),(.faddr 0 (.t 12))⟩,⟨(some 14),(some (10,true)),(.load false 1 (.t 13))⟩,⟨(some 15),(some (10,true)),(.mv (.t 0))⟩,⟨(some 16),(some (10,true)),(.nilchk (.t 15))⟩,⟨(some 17),(some (10,true)),(.faddr 1 (.t 16))⟩,⟨(some 18),(some (10,true)),(.load false 1 (.t 17))⟩,⟨(some 19),(some (10,true)),(.slice true 0 (.t 14) (some (.t 18)) none)⟩,⟨(some 20),(some (10,true)),(.mv (.t 1))⟩,⟨(some 21),(some (10,true)),(.call 102 [(.t 19),(.t 20)])⟩,⟨some 22,none,.pick (.t 10) (.t 21) (.c (.bool false))⟩,⟨some 4,none,.mv (.t 22)⟩]) .ret))
theorem FR:Ar Tryz.prog 80=some ⟨23,DY,[(.tmp 4)]⟩:=by kernel_rfl
theorem Cp:modes 80=⟨[],.asis,none,false⟩:=by unfold modes; rfl
def CG:SC:=(.seq (.reg [⟨some 4,none,.mv (.c (.bool false))⟩]) (.seq (.reg [⟨some 6,none,.mv (.t 0)⟩,⟨some 7,none,.mv (.t 1)⟩,⟨some 8,none,.call 80 [(.t 6),(.t 7)]⟩,⟨some 5,none,.mv (.t 8)⟩]) (.seq (.seq (.reg [⟨some 9,none,.mv (.t 5)⟩]) (.cond (.t 9) (.reg [⟨some 10,none,.mv (.t 0)⟩,⟨some 11,none,.nilchk (.t 10)⟩,⟨some 12,none,.faddr 1 (.t 11)⟩,⟨some 13,none,.load false 1 (.t 12)⟩,⟨some 14,none,.mv (.t 1)⟩,⟨some 15,none,.len true (.t 14)⟩,⟨some 16,none,.bin .add false (.t 13) (.t 15)⟩,⟨some 17,none,.nilchk (.t 10)⟩,⟨some 18,none,.faddr 1 (.t 17)⟩,⟨none,none,(.store 1 (.t 18) (.t 16))⟩]) .skip)) (.seq (.reg [⟨some 19,none,.mv (.t 5)⟩,⟨some 4,none,.mv (.t 19)⟩]) .ret))))
theorem DN:Ar Tryz.prog 50=some ⟨20,CG,[(.tmp 4)]⟩:=by kernel_rfl
theorem Af:modes 50=⟨[],.asis,none,false⟩:=by unfold modes; rfl
def CH:SC:=(.seq (.reg [⟨some 4,none,.mv (.t 0)⟩,⟨some 5,none,.mv (.t 1)⟩,⟨some 6,none,.call 50 [(.t 4),(.t 5)]⟩,⟨some 7,none,.un .not (.t 6)⟩]) (.cond (.t 7) (.reg [⟨some 8,none,.mv (.t 0)⟩,⟨some 9,none,.nilchk (.t 8)⟩,⟨some 10,none,.faddr 2 (.t 9)⟩,⟨none,none,(.store 1 (.t 10) (.c (.bool true)))⟩]) .skip))
theorem DO:Ar Tryz.prog 51=some ⟨11,CH,[]⟩:=by kernel_rfl
theorem AW:modes 51=⟨[],.asis,none,false⟩:=by unfold modes; rfl
def D9:SC:=(.seq (.reg [⟨some 2,none,.mv (.c (.bool false))⟩]) (.seq (.dreg [[],[0],[1,0],[2,1,0],[3,2,1,0],[4,3,2,1,0],[5,4,3,2,1,0],[6,5,4,3,2,1,0],[7,6,5,4,3,2,1,0],[8,7,6,5,4,3,2,1,0],[5,4,3,2,1,0],[10,5,4,3,2,1,0],[11,10,5,4,3,2,1,0],[12,11,10,5,4,3,2,1,0],[13,12,11,10,5,4,3,2,1,0],[9,8,7,6,5,4,3,2,1,0,14,13,12,11,10],[5,4,3,2,1,0,15,9,8,7,6,14,13,12,11,10],[16,5,4,3,2,1,0,15,9,8,7,6,14,13,12,11,10]] [⟨some 3,none,.mv (.t 0)⟩,⟨some 4,none,.nilchk (.t 3)⟩,⟨some 5,none,.faddr 2 (.t 4)⟩,⟨some 6,none,.load false 1 (.t 5)⟩,⟨some 7,none,.un .not (.t 6)⟩,⟨some 8,none,.mv (.t 7)⟩,⟨(some 9),(some (8,true)),(.mv (.t 0))⟩,⟨(some 10),(some (8,true)),(.nilchk (.t 9))⟩,⟨(some 11),(some (8,true)),(.faddr 1 (.t 10))⟩,⟨(some 12),(some (8,true)),(.load false 1 (.t 11))⟩,⟨(some 13),(some (8,true)),(.mv (.t 0))⟩,⟨(some 14),(some (8,true)),(.nilchk (.t 13))⟩,⟨(some 15),(some (8,true)),(.faddr 0 (.t 14))⟩,⟨(some 16),(some (8,true)),(.load false 1 (.t 15))⟩,⟨(some 17),(some (8,true)),(.len true (.t 16))⟩,⟨(some 18),(some (8,true)),(.bin .eql false (.t 12) (.t 17))⟩,⟨some 19,none,.pick (.t 8) (.t 18) (.c (.bool false))⟩,⟨some 2,none,.mv (.t 19)⟩]) .ret))
theorem ER:Ar Tryz.prog 27=some ⟨20,D9,[(.tmp 2)]⟩:=by kernel_rfl
theorem A2:modes 27=⟨[],.asis,none,false⟩:=by unfold modes; rfl
def F5:SC:=(.seq (.reg [⟨(some 2),none,(.mv (.c (.str ⟨#[]⟩)))⟩]) (.seq (.reg [⟨some 4,none,.mv (.t 0)⟩,⟨some 5,none,.nilchk (.t 4)⟩,⟨some 6,none,.faddr 1 (.t 5)⟩,⟨some 7,none,.load false 1 (.t 6)⟩,⟨some 3,none,.mv (.t 7)⟩]) (.seq (.block 0 (.loop [1,0,0,1,0,0,0,0,0,0,0,0,0,0,0,0,0,0,0,0,0,0,0,0,0,0,0,0,0,0,0,0,0,0,0,0,0,0,0,0,0,0,0,0,0,0,0,0,0,0,0,0,0,0,0,0,0,0,0,0,0,0,0,0,0,0,0,0,0,0,0,0,0,0,0,0,0,0,0,0,0,0,0,0,0,0,0,0,0,0,0,0,0,0,0,0,0,0] (.seq (.seq (.dreg [[],[0],[1,0],[2,1,0],[],[4],[5,4],[6,5,4],[7,6,5,4],[3,2,1,0,8,7,6,5,4],[9,3,2,1,0,8,7,6,5,4],[10,9,3,2,1,0,8,7,6,5,4],[11,10,9,3,2,1,0,8,7,6,5,4],[12,11,10,9,3,2,1,0,8,7,6,5,4],[13,12,11,10,9,3,2,1,0,8,7,6,5,4],[10,9,3,2,1,0,8,7,6,5,4],[15,10,9,3,2,1,0,8,7,6,5,4],[16,15,10,9,3,2,1,0,8,7,6,5,4],[17,16,15,10,9,3,2,1,0,8,7,6,5,4],[14,13,12,11,10,9,3,2,1,0,8,7,6,5,4,18,17,16,15],[19,14,13,12,11,10,9,3,2,1,0,8,7,6,5,4,18,17,16,15],[20,19,14,13,12,11,10,9,3,2,1,0,8,7,6,5,4,18,17,16,15],[21,20,19,14,13,12,11,10,9,3,2,1,0,8,7,6,5,4,18,17,16,15],[22,21,20,19,14,13,12,11,10,9,3,2,1,0,8,7,6,5,4,18,17,16,15],[23,22,21,20,19,14,13,12,11,10,9,3,2,1,0,8,7,6,5,4,18,17,16,15],[24,23,22,21,20,19,14,13,12,11,10,9,3,2,1,0,8,7,6,5,4,18,17,16,15],[21,20,19,14,13,12,11,10,9,3,2,1,0,8,7,6,5,4,18,17,16,15],[26,21,20,19,14,13,12,11,10,9,3,2,1,0,8,7,6,5,4,18,17,16,15],[27,26,21,20,19,14,13,12,11,10,9,3,2,1,0,8,7,6,5,4,18,17,16,15],[28,27,26,21,20,19,14,13,12,11,10,9,3,2,1,0,8,7,6,5,4,18,17,16,15],[25,24,23,22,21,20,19,14,13,12,11,10,9,3,2,1,0,8,7,6,5,4,18,17,16,15,29,28,27,26],[30,25,24,23,22,21,20,19,14,13,12,11,10,9,3,2,1,0,8,7,6,5,4,18,17,16,15,29,28,27,26],[21,20,19,14,13,12,11,10,9,3,2,1,0,8,7,6,5,4,18,17,16,15,31,30,25,24,23,22,29,28,27,26],[32,21,20,19,14,13,12,11,10,9,3,2,1,0,8,7,6,5,4,18,17,16,15,31,30,25,24,23,22,29,28,27,26],[33,32,21,20,19,14,13,12,11,10,9,3,2,1,0,8,7,6,5,4,18,17,16,15,31,30,25,24,23,22,29,28,27,26],[34,33,32,21,20,19,14,13,12,11,10,9,3,2,1,0,8,7,6,5,4,18,17,16,15,31,30,25,24,23,22,29,28,27,26],[35,34,33,32,21,20,19,14,13,12,11,10,9,3,2,1,0,8,7,6,5,4,18,17,16,15,31,30,25,24,23,22,29,28,27,26],[36,35,34,33,32,21,20,19,14,13,12,11,10,9,3,2,1,0,8,7,6,5,4,18,17,16,15,31,30,25,24,23,22,29,28,27,26],[33,32,21,20,19,14,13,12,11,10,9,3,2,1,0,8,7,6,5,4,18,17,16,15,31,30,25,24,23,22,29,28,27,26],[38,33,32,21,20,19,14,13,12,11,10,9,3,2,1,0,8,7,6,5,4,18,17,16,15,31,30,25,24,23,22,29,28,27,26],[39,38,33,32,21,20,19,14,13,12,11,10,9,3,2,1,0,8,7,6,5,4,18,17,16,15,31,30,25,24,23,22,29,28,27,26],[40,39,38,33,32,21,20,19,14,13,12,11,10,9,3,2,1,0,8,7,6,5,4,18,17,16,15,31,30,25,24,23,22,29,28,27,26],[37,36,35,34,33,32,21,20,19,14,13,12,11,10,9,3,2,1,0,8,7,6,5,4,18,17,16,15,31,30,25,24,23,22,29,28,27,26,41,40,39,38],[42,37,36,35,34,33,32,21,20,19,14,13,12,11,10,9,3,2,1,0,8,7,6,5,4,18,17,16,15,31,30,25,24,23,22,29,28,27,26,41,40,39,38],[33,32,21,20,19,14,13,12,11,10,9,3,2,1,0,8,7,6,5,4,18,17,16,15,31,30,25,24,23,22,29,28,27,26,43,42,37,36,35,34,41,40,39,38],[44,33,32,21,20,19,14,13,12,11,10,9,3,2,1,0,8,7,6,5,4,18,17,16,15,31,30,25,24,23,22,29,28,27,26,43,42,37,36,35,34,41,40,39,38],[45,44,33,32,21,20,19,14,13,12,11,10,9,3,2,1,0,8,7,6,5,4,18,17,16,15,31,30,25,24,23,22,29,28,27,26,43,42,37,36,35,34,41,40,39,38],[46,45,44,33,32,21,20,19,14,13,12,11,10,9,3,2,1,0,8,7,6,5,4,18,17,16,15,31,30,25,24,23,22,29,28,27,26,43,42,37,36,35,34,41,40,39,38],[47,46,45,44,33,32,21,20,19,14,13,12,11,10,9,3,2,1,0,8,7,6,5,4,18,17,16,15,31,30,25,24,23,22,29,28,27,26,43,42,37,36,35,34,41,40,39,38],[48,47,46,45,44,33,32,21,20,19,14,13,12,11,10,9,3,2,1,0,8,7,6,5,4,18,17,16,15,31,30,25,24,23,22,29,28,27,26,43,42,37,36,35,34,41,40,39,38],[45,44,33,32,21,20,19,14,13,12,11,10,9,3,2,1,0,8,7,6,5,4,18,17,16,15,31,30,25,24,23,22,29,28,27,26,43,42,37,36,35,34,41,40,39,38],[50,45,44,33,32,21,20,19,14,13,12,11,10,9,3,2,1,0,8,7,6,5,4,18,17,16,15,31,30,25,24,23,22,29,28,27,26,43,42,37,36,35,34,41,40,39,38],[51,50,45,44,33,32,21,20,19,14,13,12,11,10,9,3,2,1,0,8,7,6,5,4,18,17,16,15,31,30,25,24,23,22,29,28,27,26,43,42,37,36,35,34,41,40,39,38],[52,51,50,45,44,33,32,21,20,19,14,13,12,11,10,9,3,2,1,0,8,7,6,5,4,18,17,16,15,31,30,25,24,23,22,29,28,27,26,43,42,37,36,35,34,41,40,39,38],[49,48,47,46,45,44,33,32,21,20,19,14,13,12,11,10,9,3,2,1,0,8,7,6,5,4,18,17,16,15,31,30,25,24,23,22,29,28,27,26,43,42,37,36,35,34,41,40,39,38,53,52,51,50],[54,49,48,47,46,45,44,33,32,21,20,19,14,13,12,11,10,9,3,2,1,0,8,7,6,5,4,18,17,16,15,31,30,25,24,23,22,29,28,27,26,43,42,37,36,35,34,41,40,39,38,53,52,51,50],[45,44,33,32,21,20,19,14,13,12,11,10,9,3,2,1,0,8,7,6,5,4,18,17,16,15,31,30,25,24,23,22,29,28,27,26,43,42,37,36,35,34,41,40,39,38,55,54,49,48,47,46,53,52,51,50],[10,9,3,2,1,0,8,7,6,5,4,56,45,44,33,32,21,20,19,14,13,12,11,18,17,16,15,31,30,25,24,23,22,29,28,27,26,43,42,37,36,35,34,41,40,39,38,55,54,49,48,47,46,53,52,51,50]] [⟨some 8,none,.mv (.t 0)⟩,⟨some 9,none,.nilchk (.t 8)⟩,⟨some 10,none,.faddr 1 (.t 9)⟩,⟨some 11,none,.load false 1 (.t 10)⟩,⟨some 12,none,.mv (.t 0)⟩,⟨some 13,none,.nilchk (.t 12)⟩,⟨some 14,none,.faddr 0 (.t 13)⟩,⟨some 15,none,.load false 1 (.t 14)⟩,⟨some 16,none,.len true (.t 15)⟩,⟨some 17,none,.bin .lss false (.t 11) (.t 16)⟩,⟨some 18,none,.mv (.t 17)⟩,⟨(some 19),(some (18,true)),(.mv (.t 0))⟩,⟨(some 20),(some (18,true)),(.nilchk (.t 19))⟩,⟨(some 21),(some (18,true)),(.faddr 0 (.t 20))⟩,⟨(some 22),(some (18,true)),(.load false 1 (.t 21))⟩,⟨(some 23),(some (18,true)),(.mv (.t 0))⟩,⟨(some 24),(some (18,true)),(.nilchk (.t 23))⟩,⟨(some 25),(some (18,true)),(.faddr 1 (.t 24))⟩,⟨(some 26),(some (18,true)),(.load false 1 (.t 25))⟩,⟨(some 27),(some (18,true)),(.idx (.t 22) (.t 26))⟩,⟨(some 28),(some (18,true)),(.call 77 [(.t 27)])⟩,⟨(some 29),(some (18,true)),(.mv (.t 28))⟩,⟨(some 30),(some (29,false)),(.mv (.t 0))⟩,⟨(some 31),(some (29,false)),(.nilchk (.t 30))⟩,⟨(some 32),(some (29,false)),(.faddr 0 (.t 31))⟩,⟨(some 33),(some (29,false)),(.load false 1 (.t 32))⟩,⟨(some 34),(some (29,false)),(.mv (.t 0))⟩,⟨(some 35),(some (29,false)),(.nilchk (.t 34))⟩,⟨(some 36),(some (29,false)),(.faddr 1 (.t 35))⟩,⟨(some 37),(some (29,false)),(.load false 1 (.t 36))⟩,⟨(some 38),(some (29,false)),(.idx (.t 33) (.t 37))⟩,⟨(some 39),(some (29,false)),(.call 78 [(.t 38)])⟩,⟨(some 40),(some (18,true)),(.pick (.t 29) (.c (.bool true)) (.t 39))⟩,⟨(some 41),(some (18,true)),(.mv (.t 40))⟩,⟨(some 42),(some (41,false)),(.mv (.t 0))⟩,⟨(some 43),(some (41,false)),(.nilchk (.t 42))⟩,⟨(some 44),(some (41,false)),(.faddr 0 (.t 43))⟩,⟨(some 45),(some (41,false)),(.load false 1 (.t 44))⟩,⟨(some 46),(some (41,false)),(.mv (.t 0))⟩,⟨(some 47),(some (41,false)),(.nilchk (.t 46))⟩,⟨(some 48),(some (41,false)),(.faddr 1 (.t 47))⟩,⟨(some 49),(some (41,false)),(.load false 1 (.t 48))⟩,⟨(some 50),(some (41,false)),(.idx (.t 45) (.t 49))⟩,⟨(some 51),(some (41,false)),(.call 79 [(.t 50)])⟩,⟨(some 52),(some (18,true)),(.pick (.t 41) (.c (.bool true)) (.t 51))⟩,⟨(some 53),(some (18,true)),(.mv (.t 52))⟩,⟨(some 54),(some (53,false)),(.mv (.t 0))⟩,⟨(some 55),(some (53,false)),(.nilchk (.t 54))⟩,⟨(some 56),(some (53,false)),(.faddr 0 (.t 55))⟩,⟨(some 57),(some (53,false)),(.load false 1 (.t 56))⟩,⟨(some 58),(some (53,false)),(.mv (.t 0))⟩,⟨(some 59),(some (53,false)),(.nilchk (.t 58))⟩,⟨(some 60),(some (53,false)),(.faddr 1 (.t 59))⟩,⟨(some 61),(some (53,false)),(.load false 1 (.t 60))⟩,⟨(some 62),(some (53,false)),(.idx (.t 57) (.t 61))⟩,⟨(some 63),(some (53,false)),(.bin .eql false (.t 62) (.c (.int .u8 95)))⟩,⟨(some 64),(some (18,true)),(.pick (.t 53) (.c (.bool true)) (.t 63))⟩,⟨some 65,none,.pick (.t 18) (.t 64) (.c (.bool false))⟩]) (.cond (.t 65) .skip (.exit 0))) (.block 1 (.reg [⟨some 66,none,.mv (.t 0)⟩,⟨some 67,none,.nilchk (.t 66)⟩,⟨some 68,none,.faddr 1 (.t 67)⟩,⟨some 69,none,.load false 1 (.t 68)⟩,⟨some 70,none,.bin .add false (.t 69) (.c (.int .i64 1))⟩,⟨some 71,none,.nilchk (.t 66)⟩,⟨some 72,none,.faddr 1 (.t 71)⟩,⟨none,none,(.store 1 (.t 72) (.t 70))⟩]))))) (.seq (.seq (.reg [⟨some 73,none,.mv (.t 0)⟩,⟨some 74,none,.nilchk (.t 73)⟩,⟨some 75,none,.faddr 2 (.t 74)⟩,⟨some 76,none,.load false 1 (.t 75)⟩,⟨some 77,none,.mv (.t 76)⟩,⟨(some 78),(some (77,false)),(.mv (.t 3))⟩,⟨(some 79),(some (77,false)),(.mv (.t 0))⟩,⟨(some 80),(some (77,false)),(.nilchk (.t 79))⟩,⟨(some 81),(some (77,false)),(.faddr 1 (.t 80))⟩,⟨(some 82),(some (77,false)),(.load false 1 (.t 81))⟩,⟨(some 83),(some (77,false)),(.bin .eql false (.t 78) (.t 82))⟩,⟨some 84,none,.pick (.t 77) (.c (.bool true)) (.t 83)⟩]) (.cond (.t 84) (.seq (.reg [⟨some 85,none,.mv (.t 0)⟩,⟨some 86,none,.nilchk (.t 85)⟩,⟨some 87,none,.faddr 2 (.t 86)⟩,⟨none,none,(.store 1 (.t 87) (.c (.bool true)))⟩]) (.seq (.reg [⟨(some 2),none,(.mv (.c (.str ⟨#[]⟩)))⟩]) .ret)) .skip)) (.seq (.dreg [[],[0],[1,0],[2,1,0],[],[],[5],[6,5],[7,6,5],[3,2,1,0,4,8,7,6,5],[9,3,2,1,0,4,8,7,6,5]] [⟨some 88,none,.mv (.t 0)⟩,⟨some 89,none,.nilchk (.t 88)⟩,⟨some 90,none,.faddr 0 (.t 89)⟩,⟨some 91,none,.load false 1 (.t 90)⟩,⟨some 92,none,.mv (.t 3)⟩,⟨some 93,none,.mv (.t 0)⟩,⟨some 94,none,.nilchk (.t 93)⟩,⟨some 95,none,.faddr 1 (.t 94)⟩,⟨some 96,none,.load false 1 (.t 95)⟩,⟨some 97,none,.slice true 0 (.t 91) (some (.t 92)) (some (.t 96))⟩,⟨some 2,none,.mv (.t 97)⟩]) .ret)))))
theorem IC:Ar Tryz.prog 49=some ⟨98,F5,[(.tmp 2)]⟩:=by kernel_rfl
theorem Bl:modes 49=⟨[],.asis,none,false⟩:=by unfold modes; rfl
theorem S6 (n:Int):E 77 [.int .u8 n] []=some (.bool (dec (97≤n)&&dec (n≤122)),[]):=by
 cases h1:dec (97≤n)
 ·refine Ab H9 Dp (of_decide_eq_true rfl) ?_
  simp (disch:=omega) only [F3,go_sem,Aa,h1]
 ·refine Ab H9 Dp (of_decide_eq_true rfl) ?_
  simp (disch:=omega) only [F3,go_sem,Aa,h1]
theorem S7 (n:Int):E 78 [.int .u8 n] []=some (.bool (dec (65≤n)&&dec (n≤90)),[]):=by
 cases h1:dec (65≤n)
 ·refine Ab H8 Do (of_decide_eq_true rfl) ?_
  simp (disch:=omega) only [F2,go_sem,Aa,h1]
 ·refine Ab H8 Do (of_decide_eq_true rfl) ?_
  simp (disch:=omega) only [F2,go_sem,Aa,h1]
theorem S8 (n:Int):E 79 [.int .u8 n] []=some (.bool (dec (48≤n)&&dec (n≤57)),[]):=by
 cases h1:dec (48≤n)
 ·refine Ab HA Dq (of_decide_eq_true rfl) ?_
  simp (disch:=omega) only [F4,go_sem,Aa,h1]
 ·refine Ab HA Dq (of_decide_eq_true rfl) ?_
  simp (disch:=omega) only [F4,go_sem,Aa,h1]
noncomputable def preB (a b:ByteArray):Bool:=dec (b.size≤a.size)&&dec (a.extract 0 b.size=b)
theorem N3 (a b:ByteArray):E 117 [.str a,.str b] []=some (.bool (preB a b),[]):=by
 unfold preB
 by_cases h:b.size≤a.size
 ·have h1:((b.size:Int)≤(a.size:Int))=True:=eq_true (by omega)
  rw [Bb h,yK]
  refine Ab Co BC (of_decide_eq_true rfl) ?_
  simp (disch:=omega) only [BB,go_sem,Aa,h1,yN]
 ·have h1:((b.size:Int)≤(a.size:Int))=False:=eq_false (by omega)
  rw [Be h,yH]
  refine Ab Co BC (of_decide_eq_true rfl) ?_
  simp (disch:=omega) only [BB,go_sem,Aa,h1]
theorem O7 (a b:ByteArray):E 102 [.str a,.str b] []=some (.bool (preB a b),[]):=by
 have h:=N3 a b
 refine Ab Ic EQ (of_decide_eq_true rfl) ?_
 simp (disch:=omega) only [EP,go_sem,Aa,h,BC]
noncomputable def hasB (s:ByteArray) (i:Nat) (x:ByteArray):Bool:=preB (s.extract i s.size) x
theorem Ul {s:ByteArray} {a b:Nat} (h:a≤b) (k:b≤s.size):(seg s a b).length=b-a:=by
 unfold seg
 rw [yJ,yS,AA]; omega
theorem LZ {s:ByteArray} {a b:Nat} (h:a≤b) (k:b≤s.size):(s.extract a b).size=b-a:=by
 rw [←AA,toList_extract,Ul h k]
theorem S9 {a b:ByteArray}:preB a b=true ↔ b.toList=a.toList.take b.size∧b.size≤a.size:=by
 unfold preB
 rw [zF,Ax,Ax]
 constructor
 ·rintro ⟨h1,h2⟩
  refine ⟨?_,h1⟩
  rw [←h2,toList_extract]
  unfold seg
  rw [zS,Nat.sub_zero,h2]
 ·rintro ⟨h1,h2⟩
  refine ⟨h2,AJ ?_⟩
  rw [toList_extract,h1]
  unfold seg
  rw [zS,Nat.sub_zero]
theorem Cf {s:ByteArray} {i:Nat} {x:ByteArray} (hi:i≤s.size):hasB s i x=true ↔ i+x.size≤s.size∧seg s i (i+x.size)=x.toList:=by
 unfold hasB
 rw [S9,toList_extract,LZ hi (zJ _)]
 have hs:seg s i s.size=s.toList.drop i:=by
  unfold seg
  rw [List.take_of_length_le (by rw [yS,AA]; exact zJ _)]
 rw [hs]
 unfold seg
 rw [show i+x.size-i=x.size by omega]
 constructor
 ·rintro ⟨h1,h2⟩; exact ⟨by omega,h1.symm⟩
 ·rintro ⟨h1,h2⟩; exact ⟨h2.symm,by omega⟩
theorem Jm {s:ByteArray} {i:Nat} (hi:i≤s.size) (c:UInt8):hasB s i ⟨#[c]⟩=Dl s i c.toNat:=by
 cases h:Dl s i c.toNat with
 | true =>
  obtain ⟨h1,h2⟩:=C6.1 h
  refine (Cf hi).2 ⟨h1,?_⟩
  show seg s i (i+1)=_
  rw [K0 h1 h2,ByteArray.toList_eq]
 | false =>
  cases k:hasB s i ⟨#[c]⟩ with
  | false=>rfl
  | true =>
   obtain ⟨k1,k2⟩:=(Cf hi).1 k
   have k1:i+1≤s.size:=k1
   have k2:seg s i (i+1)=[c]:=by rw [ByteArray.toList_eq] at k2; exact k2
   have hl:i<s.toList.length:=by rw [AA]; exact k1
   unfold seg at k2
   rw [zK hl,show i+1-i=1 by omega,yE,yM] at k2
   have:Dl s i c.toNat=true:=C6.2 ⟨k1,by rw [Gc k1]; simp only [yB,and_true] at k2; rw [k2]⟩
   rw [this] at h; cases h
abbrev psr (s:ByteArray) (i:Nat) (f:Bool):Ob:=.box 51 [.str s,.int .i64 (i:Int),.bool f]
theorem VZ (s:ByteArray) (i:Nat) (x:ByteArray):E 80 [.ptr 0 0,.str x] [psr s i true]=some (.bool false,[psr s i true]):=by
 refine Ab FR Cp (of_decide_eq_true rfl) ?_
 simp (disch:=omega) only [DY,go_sem,Aa]
theorem U7 (s:ByteArray) (i:Nat) (x:ByteArray) (hi:i≤s.size):E 80 [.ptr 0 0,.str x] [psr s i false]=some (.bool (hasB s i x),[psr s i false]):=by
 have h:=O7 (s.extract i s.size) x
 unfold hasB
 refine Ab FR Cp (of_decide_eq_true rfl) ?_
 simp (disch:=omega) only [DY,go_sem,Aa,h,EQ]
theorem ID (s:ByteArray) (i:Nat) (x:ByteArray):E 50 [.ptr 0 0,.str x] [psr s i true]=some (.bool false,[psr s i true]):=by
 have h:=VZ s i x
 refine Ab DN Af (of_decide_eq_true rfl) ?_
 simp (disch:=omega) only [CG,go_sem,Aa,h,Cp]
theorem GV (s:ByteArray) (i:Nat) (x:ByteArray) (hi:i≤s.size) (hh:hasB s i x=false):E 50 [.ptr 0 0,.str x] [psr s i false]=some (.bool false,[psr s i false]):=by
 have h:=U7 s i x hi
 rw [hh] at h
 refine Ab DN Af (of_decide_eq_true rfl) ?_
 simp (disch:=omega) only [CG,go_sem,Aa,h,Cp]
theorem F6 (s:ByteArray) (i:Nat) (x:ByteArray) (hi:i+x.size≤1099511627776) (hi2:i≤s.size) (hh:hasB s i x=true):E 50 [.ptr 0 0,.str x] [psr s i false]=some (.bool true,[psr s (i+x.size) false]):=by
 have h:=U7 s i x hi2
 rw [hh] at h
 refine Ab DN Af (of_decide_eq_true rfl) ?_
 simp (disch:=omega) only [CG,go_sem,Aa,h,Cp]
 simp only [psr,Int.natCast_add]
theorem V8 (s:ByteArray) (i:Nat) (x:ByteArray):E 51 [.ptr 0 0,.str x] [psr s i true]=some (.tup [],[psr s i true]):=by
 have h:=ID s i x
 refine Ab DO AW (of_decide_eq_true rfl) ?_
 simp (disch:=omega) only [CH,go_sem,Aa,h,Af]
theorem Um (s:ByteArray) (i:Nat) (x:ByteArray) (hi:i≤s.size) (hh:hasB s i x=false):E 51 [.ptr 0 0,.str x] [psr s i false]=some (.tup [],[psr s i true]):=by
 have h:=GV s i x hi hh
 refine Ab DO AW (of_decide_eq_true rfl) ?_
 simp (disch:=omega) only [CH,go_sem,Aa,h,Af]
theorem SA (s:ByteArray) (i:Nat) (x:ByteArray) (hi:i+x.size≤1099511627776) (hi2:i≤s.size) (hh:hasB s i x=true):E 51 [.ptr 0 0,.str x] [psr s i false]=some (.tup [],[psr s (i+x.size) false]):=by
 have h:=F6 s i x hi hi2 hh
 refine Ab DO AW (of_decide_eq_true rfl) ?_
 simp (disch:=omega) only [CH,go_sem,Aa,h,Af]
theorem N4 (s:ByteArray) (i:Nat):E 27 [.ptr 0 0] [psr s i true]=some (.bool false,[psr s i true]):=by
 refine Ab ER A2 (of_decide_eq_true rfl) ?_
 simp (disch:=omega) only [D9,go_sem,Aa]
theorem N5 (s:ByteArray) (i:Nat):E 27 [.ptr 0 0] [psr s i false]=some (.bool (dec (i=s.size)),[psr s i false]):=by
 have e:dec (i=s.size)=dec ((i:Int)=(s.size:Int)):=by
  by_cases h:i=s.size
  ·rw [Bb h,Bb (by omega)]
  ·rw [Be h,Be (by omega)]
 rw [e]
 refine Ab ER A2 (of_decide_eq_true rfl) ?_
 simp (disch:=omega) only [D9,go_sem,Aa]
theorem V9 (s:ByteArray) (i:Nat) (hi:i≤s.size) (hs:s.size≤1048576):E 49 [.ptr 0 0] [psr s i false]=some (.str (bif dec (B9 s i=i) then ⟨#[]⟩ else s.extract i (B9 s i)),[psr s (B9 s i) (dec (B9 s i=i))]):=by
 refine Ab IC Bl (of_decide_eq_true rfl) ?_
 simp (disch:=omega) only [F5,go_sem,Aa]
 refine go_loop (α:=Nat) (fun j=>⟨slots 98 0 [(0,.ptr 0 0),(3,.int .i64 (i:Int))],[psr s j false]⟩) (fun j=>i≤j∧j≤s.size∧B9 s j=B9 s i) (fun j=>s.size-j) i ⟨zJ _,hi,rfl⟩ (by simp (disch:=omega) only [go_sem,Aa]) ?_
 rintro j ⟨h1,h2,h3⟩
 have hj:((j:Nat):Int).toNat=j:=Int.toNat_natCast j
 rcases zO j s.size with hlt | hge
 ·have hw:=@ML s j hlt
  have hx:Dk (BJ s j)=false→B9 s j=j:=fun h=>GA (fun k=>by rw [h] at k; exact absurd k.2 (by simp))
  have a1:=S6 (BJ s j)
  have a2:=S7 (BJ s j)
  have a3:=S8 (BJ s j)
  unfold Dk at hw hx
  generalize hg1:(dec (97≤BJ s j)&&dec (BJ s j≤122))=q1 at *
  generalize hg2:(dec (65≤BJ s j)&&dec (BJ s j≤90))=q2 at *
  generalize hg3:(dec (48≤BJ s j)&&dec (BJ s j≤57))=q3 at *
  generalize hg4:dec (BJ s j=95)=q4 at *
  cases q1 <;> cases q2 <;> cases q3 <;> cases q4
  all_goals
   simp only [Bool.or_true,Bool.or_false,yT,yP,true_implies,Bool.true_eq_false,Bool.false_eq_true,false_implies] at hw hx
  case false.false.false.false =>
   have e:B9 s i=j:=by rw [←h3,hx]
   rw [e]
   by_cases h0:j=i
   ·subst h0
    simp (disch:=omega) only [go_sem,Aa,hj,a1,a2,a3,hg4,Dp,Do,Dq,AD]
   ·have h0':((i:Int)=(j:Int))=False:=eq_false (by omega)
    rw [Be h0]
    simp (disch:=omega) only [go_sem,Aa,hj,a1,a2,a3,hg4,h0',Dp,Do,Dq]
  all_goals
   simp (disch:=omega) only [go_sem,Aa,hj,a1,a2,a3,hg4,Dp,Do,Dq]
   exact ⟨j+1,⟨by omega,by omega,by omega⟩,by omega,by first | trivial | (simp only [psr,Int.natCast_add,Int.natCast_one]) | rfl⟩
 ·have e:B9 s i=j:=by rw [←h3]; exact GA (by omega)
  rw [e]
  by_cases h0:j=i
  ·subst h0
   simp (disch:=omega) only [go_sem,Aa,hj,AD]
  ·have h0':((i:Int)=(j:Int))=False:=eq_false (by omega)
   rw [Be h0]
   simp (disch:=omega) only [go_sem,Aa,hj,h0']
def CI:SC:=(.seq (.reg [⟨(some 2),none,(.alloc 26 [(.str ⟨#[]⟩),.nil])⟩]) (.seq (.reg [⟨some 4,none,.mv (.t 0)⟩,⟨some 5,none,.call 49 [(.t 4)]⟩,⟨(some 6),none,(.build [(.str ⟨#[]⟩),.nil] [(0,(1,(.t 5)))])⟩,⟨(some 3),none,(.alloc 26 [(.str ⟨#[]⟩),.nil])⟩,⟨none,none,(.store 2 (.t 3) (.t 6))⟩]) (.seq (.seq (.reg [⟨some 7,none,.mv (.t 0)⟩,⟨(some 8),none,(.call 50 [(.t 7),(.c (.str ⟨#[40]⟩))])⟩]) (.cond (.t 8) (.seq (.dreg [[],[0],[],[2],[3,2],[1,0,4,3,2],[0,1,2,3,4,5],[6,0,1,2,3,4,5]] [⟨some 9,none,.faddr 1 (.t 3)⟩,⟨some 10,none,.load false 1 (.t 9)⟩,⟨some 11,none,.mv (.t 0)⟩,⟨some 12,none,.call 26 [(.t 11)]⟩,⟨(some 13),none,(.mkrow 26 2 [(.str ⟨#[]⟩),.nil] 1 [(0,(.t 12))])⟩,⟨(some 14),none,(.append 26 2 40 [(.str ⟨#[]⟩),.nil] (.t 10) (.t 13))⟩,⟨some 15,none,.faddr 1 (.t 3)⟩,⟨none,none,(.store 1 (.t 15) (.t 14))⟩]) (.seq (.block 0 (.loop [1,0,1,1,0,0,0,0,0,0,0,0,0,0,0,0,0,0,0,0,0,0,0,0,0,0,0,0] (.seq (.seq (.reg [⟨some 16,none,.mv (.t 0)⟩,⟨(some 17),none,(.call 50 [(.t 16),(.c (.str ⟨#[44]⟩))])⟩]) (.cond (.t 17) .skip (.exit 0))) (.block 1 (.dreg [[],[0],[],[2],[3,2],[1,0,4,3,2],[0,1,2,3,4,5],[6,0,1,2,3,4,5]] [⟨some 18,none,.faddr 1 (.t 3)⟩,⟨some 19,none,.load false 1 (.t 18)⟩,⟨some 20,none,.mv (.t 0)⟩,⟨some 21,none,.call 26 [(.t 20)]⟩,⟨(some 22),none,(.mkrow 26 2 [(.str ⟨#[]⟩),.nil] 1 [(0,(.t 21))])⟩,⟨(some 23),none,(.append 26 2 40 [(.str ⟨#[]⟩),.nil] (.t 19) (.t 22))⟩,⟨some 24,none,.faddr 1 (.t 3)⟩,⟨none,none,(.store 1 (.t 24) (.t 23))⟩]))))) (.reg [⟨some 25,none,.mv (.t 0)⟩,⟨(some 26),none,(.call 51 [(.t 25),(.c (.str ⟨#[41]⟩))])⟩]))) .skip)) (.seq (.reg [⟨some 27,none,.load true 2 (.t 3)⟩,⟨none,none,(.store 2 (.t 2) (.t 27))⟩]) .ret))))
theorem IE:Ar Tryz.prog 26=some ⟨28,CI,[(.cell 2 true 2)]⟩:=by kernel_rfl
theorem Ay:modes 26=⟨[],.own [none,some (26,2)],none,false⟩:=by unfold modes; rfl
theorem O8 (s:ByteArray) (i:Nat) (c:UInt8) (hi:i≤s.size) (hh:Dl s i c.toNat=false):E 50 [.ptr 0 0,.str ⟨#[c]⟩] [psr s i false]=some (.bool false,[psr s i false]) :=
 GV s i _ hi (by rw [Jm hi]; exact hh)
theorem MU (s:ByteArray) (i:Nat) (c:UInt8) (hs:s.size≤1048576) (hi:i≤s.size) (hh:Dl s i c.toNat=true):E 50 [.ptr 0 0,.str ⟨#[c]⟩] [psr s i false]=some (.bool true,[psr s (i+1) false]) :=
 F6 s i ⟨#[c]⟩ (by show i+1≤_; omega) hi (by rw [Jm hi]; exact hh)
theorem SB (s:ByteArray) (i:Nat) (c:UInt8) (hi:i≤s.size) (hh:Dl s i c.toNat=false):E 51 [.ptr 0 0,.str ⟨#[c]⟩] [psr s i false]=some (.tup [],[psr s i true]) :=
 Um s i _ hi (by rw [Jm hi]; exact hh)
theorem QV (s:ByteArray) (i:Nat) (c:UInt8) (hs:s.size≤1048576) (hi:i≤s.size) (hh:Dl s i c.toNat=true):E 51 [.ptr 0 0,.str ⟨#[c]⟩] [psr s i false]=some (.tup [],[psr s (i+1) false]) :=
 SA s i ⟨#[c]⟩ (by show i+1≤_; omega) hi (by rw [Jm hi]; exact hh)
noncomputable def Jn (r:Nat→Option (Tm × Nat)) (s:ByteArray) (m:Nat) (acc:List Tm) (e:Nat):Option (List Tm × Nat) :=
 bif Dl s e 44 then (match rdL r s m (e+1) with
  | none=>none
  | some (ts,e')=>some (acc++ts,e')) else bif Dl s e 41 then some (acc,e+1) else none
theorem MW (r:Nat→Option (Tm × Nat)) (s:ByteArray) (m i:Nat):rdL r s (m+1) i=match r i with
  | none=>none
  | some (t,e)=>Jn r s m [t] e:=by
 rw [rdL]
 cases r i with
 | none=>rfl
 | some p=>rfl
theorem PC {r:Nat→Option (Tm × Nat)} {s:ByteArray} {m:Nat} {acc:List Tm} {e:Nat} (h:Dl s e 44=true):Jn r s (m+1) acc e=match r (e+1) with
  | none=>none
  | some (t,e2)=>Jn r s m (acc++[t]) e2:=by
 unfold Jn
 rw [h,cond_true,MW]
 cases r (e+1) with
 | none=>rfl
 | some p =>
  obtain ⟨t,e2⟩:=p
  simp only
  unfold Jn
  cases Dl s e2 44 with
  | true =>
   simp only [cond_true]
   cases rdL r s m (e2+1) with
   | none=>rfl
   | some q=>simp only [zN]
  | false =>
   simp only [cond_false]
   cases Dl s e2 41 with
   | true=>rfl
   | false=>rfl
theorem QW {r:Nat→Option (Tm × Nat)} {s:ByteArray} {m:Nat} {acc:List Tm} {e:Nat} (h:Dl s e 44=false):Jn r s m acc e=bif Dl s e 41 then some (acc,e+1) else none:=by
 unfold Jn
 rw [h,cond_false]
def O9 (s:ByteArray) (i:Nat) (r:Option (Tm × Nat)) (out:SV × List Ob):Prop :=
 ∃ (t:Tm) (j:Nat) (f:Bool),out=(.agg [.str t.name,.ref 1],[psr s j f,.row 26 2 (t.args.map Tm.o)])∧i≤j∧j≤s.size∧(match r with
  | some (t0,e)=>t=t0∧j=e∧f=false
  | none=>f=true)
theorem Un (s:ByteArray) (hs:s.size≤1048576) (n:Nat) (ih:∀ i,i≤s.size→s.size-i<n→∃ out,E 26 [.ptr 0 0] [psr s i false]=some out∧O9 s i (rd s n i) out) (i:Nat) (hi:i≤s.size) (hn:s.size-i<n+1):∃ out,E 26 [.ptr 0 0] [psr s i false]=some out∧O9 s i (rd s (n+1) i) out:=by
 have hw:=V9 s i hi hs
 have w1:=Kz s i
 have w2:=JE s i hi
 rw [rd]
 refine AL IE Ay (of_decide_eq_true rfl) ?_
 by_cases h0:B9 s i=i
 ·rw [Bb h0] at hw ⊢
  rw [cond_true] at hw ⊢
  have ht:=ID s (B9 s i) ⟨#[40]⟩
  simp (disch:=omega) only [CI,go_sem,Aa,hw,ht,Bl,Af,AW]
  exact ⟨_,rfl,.mk ⟨#[]⟩ [],B9 s i,true,rfl,w1,w2,rfl⟩
 ·rw [Be h0] at hw ⊢
  rw [cond_false] at hw ⊢
  cases hc:Dl s (B9 s i) 40 with
  | false =>
   have ht:=O8 s (B9 s i) 40 w2 hc
   simp only [cond_false]
   simp (disch:=omega) only [CI,go_sem,Aa,hw,ht,Bl,Af,AW]
   exact ⟨_,rfl,.mk (s.extract i (B9 s i)) [],B9 s i,false,rfl,w1,w2,rfl,rfl,rfl⟩
  | true =>
   obtain ⟨c1,c2⟩:=C6.1 hc
   have ht:=MU s (B9 s i) 40 hs w2 hc
   obtain ⟨m,rfl⟩:∃ m,n=m+1:=⟨n-1,by omega⟩
   obtain ⟨total,htot⟩:∃ total,total=rdL (rd s (m+1)) s (m+1) (B9 s i+1):=⟨_,rfl⟩
   rw [←htot]
   simp only [cond_true]
   rw [MW] at htot
   obtain ⟨out1,hc1,t1,j1,f1,rfl,g1,g2,g3⟩:=ih (B9 s i+1) (by omega) (by omega)
   have start:i≤j1∧j1≤s.size∧[t1].length≤j1∧(f1=true→total=none)∧(f1=false→∃ q,s.size-j1≤q∧total=Jn (rd s (m+1)) s q [t1] j1):=by
    refine ⟨by omega,g2,by simp only [zM,zV]; omega,?_,?_⟩
    ·rintro rfl
     cases hr:rd s (m+1) (B9 s i+1) with
     | none=>rw [hr] at htot; exact htot
     | some p=>rw [hr] at g3; exact absurd g3.2.2 (by simp)
    ·rintro rfl
     cases hr:rd s (m+1) (B9 s i+1) with
     | none=>rw [hr] at g3; cases g3
     | some p =>
      obtain ⟨t0,e0⟩:=p
      rw [hr] at g3 htot
      obtain ⟨rfl,rfl,_⟩:=g3
      exact ⟨m,by omega,htot⟩
   simp (disch:=omega) only [CI,go_sem,Aa,hw,ht,hc1,Bl,Af,AW,Ay]
   refine go_loop (α:=List Tm × Nat × Bool) (fun a=>⟨slots 28 0 [(0,.ptr 0 0),(2,.ptr 1 0),(3,.ptr 2 0)],[psr s a.2.1 a.2.2,.box 26 [.str ⟨#[]⟩,.nil],.box 26 [.str (s.extract i (B9 s i)),.ref 3],.row 26 2 (a.1.map Tm.o)]⟩) (fun a=>i≤a.2.1∧a.2.1≤s.size∧a.1.length≤a.2.1∧(a.2.2=true→total=none)∧(a.2.2=false→∃ q,s.size-a.2.1≤q∧total=Jn (rd s (m+1)) s q a.1 a.2.1)) (fun a=>if a.2.2 then 0 else s.size-a.2.1+1) ([t1],j1,f1) start (by simp (disch:=omega) only [go_sem,Aa,zD,zY,Tm.H4]) ?_
   rintro ⟨acc,j,fl⟩ ⟨hij,hj,hal,hR1,hR2⟩
   dsimp only at hij hj hal hR1 hR2
   cases fl with
   | true =>
    have htk:=ID s j ⟨#[44]⟩
    have hmu:=V8 s j ⟨#[41]⟩
    rw [hR1 rfl]
    simp (disch:=omega) only [go_sem,Aa,htk,hmu,Bl,Af,AW]
    exact ⟨_,rfl,.mk (s.extract i (B9 s i)) acc,j,true,rfl,by omega,hj,rfl⟩
   | false =>
    obtain ⟨q,hq,hR⟩:=hR2 rfl
    cases hcm:Dl s j 44 with
    | false =>
     rw [QW hcm] at hR
     have htk:=O8 s j 44 hj hcm
     cases hcl:Dl s j 41 with
     | false =>
      have hmu:=SB s j 41 hj hcl
      rw [hcl,cond_false] at hR
      rw [hR]
      simp (disch:=omega) only [go_sem,Aa,htk,hmu,Bl,Af,AW]
      exact ⟨_,rfl,.mk (s.extract i (B9 s i)) acc,j,true,rfl,by omega,hj,rfl⟩
     | true =>
      obtain ⟨d1,d2⟩:=C6.1 hcl
      have hmu:=QV s j 41 hs hj hcl
      rw [hcl,cond_true] at hR
      rw [hR]
      simp (disch:=omega) only [go_sem,Aa,htk,hmu,Bl,Af,AW]
      exact ⟨_,rfl,.mk (s.extract i (B9 s i)) acc,j+1,false,rfl,by omega,by omega,rfl,rfl,rfl⟩
    | true =>
     obtain ⟨d1,d2⟩:=C6.1 hcm
     have htk:=MU s j 44 hs hj hcm
     obtain ⟨q,rfl⟩:∃ q',q=q'+1:=⟨q-1,by omega⟩
     rw [PC hcm] at hR
     obtain ⟨out2,hc2,t2,j2,f2,rfl,k1,k2,k3⟩:=ih (j+1) (by omega) (by omega)
     simp (disch:=omega) only [go_sem,Aa,htk,hc2,Bl,Af,AW,Ay,z7]
     refine ⟨(acc++[t2],j2,f2),⟨by dsimp only; omega,k2,by simp only [zW,zM,zV]; omega,?_,?_⟩,?_,?_⟩
     ·intro hf
      dsimp only at hf
      subst hf
      cases hr:rd s (m+1) (j+1) with
      | none=>rw [hr] at hR; exact hR
      | some p=>rw [hr] at k3; exact absurd k3.2.2 (by simp)
     ·intro hf
      dsimp only at hf
      subst hf
      cases hr:rd s (m+1) (j+1) with
      | none=>rw [hr] at k3; cases k3
      | some p =>
       obtain ⟨t0,e0⟩:=p
       rw [hr] at k3 hR
       obtain ⟨rfl,rfl,_⟩:=k3
       exact ⟨q,by dsimp only; omega,hR⟩
     ·show (if f2=true then 0 else s.size-j2+1)<s.size-j+1
      split
      ·omega
      ·cases hr:rd s (m+1) (j+1) with
       | none=>rw [hr] at k3; simp only at k3; rename_i h; exact absurd k3 h
       | some p=>omega
     ·exact ⟨rfl,by simp only [yU,zD,zY,Tm.H4]⟩
theorem Fc (s:ByteArray) (hs:s.size≤1048576):∀ (n i:Nat),i≤s.size→s.size-i<n→∃ out,E 26 [.ptr 0 0] [psr s i false]=some out∧O9 s i (rd s n i) out
 | 0,i,_,h=>absurd h (by omega)
 | n+1,i,hi,hn=>Un s hs n (fun i hi hn=>Fc s hs n i hi hn) i hi hn
theorem F7:modes 45=⟨[],.asis,some (G4 MB),false⟩:=by unfold modes; rfl
theorem SD (xs:List ByteArray) (sep:ByteArray) (h1:xs.length≤1099511627776) (h2:(C5 xs sep).size≤1099511627776):E 45 [.arr (xs.map fun s=>[D.str s]),.str sep] []=some (.str (C5 xs sep),[]):=by
 refine Jc (g:=MB) (congrArg FM.ext F7) ?_
 have e:(xs.map fun s=>[D.str s]).map Lq=xs:=by
  rw [yI]
  have:(Lq ∘ fun s=>[D.str s])=id:=rfl
  rw [this,List.map_id]
 simp only [MB,e]
 rw [Bb ⟨fun e he=>by obtain ⟨s,_,rfl⟩:=List.mem_map.1 he; exact ⟨s,rfl⟩,by simpa using h1,h2⟩,cond_true]
def CZ:SC:=(.seq (.reg [⟨some 1,none,.boxv 26 2 (.t 0)⟩,⟨(some 2),none,(.mv (.c (.str ⟨#[]⟩)))⟩]) (.seq (.seq (.reg [⟨some 6,none,.load true 2 (.t 1)⟩,⟨some 7,none,.call 44 [(.t 6)]⟩]) (.cond (.t 7) (.seq (.dreg [[],[0],[1,0],[2,1,0],[3,2,1,0],[4,3,2,1,0],[],[6],[7,6],[8,7,6],[9,8,7,6,4,3,2,1,0],[5,4,3,2,1,0,10,9,8,7,6],[11,5,4,3,2,1,0,10,9,8,7,6]] [⟨some 8,none,.faddr 1 (.t 1)⟩,⟨some 9,none,.load false 1 (.t 8)⟩,⟨some 10,none,.iaddr 2 (.t 9) (.c (.int .i64 0))⟩,⟨some 11,none,.load true 2 (.t 10)⟩,⟨some 12,none,.call 23 [(.t 11)]⟩,⟨(some 13),none,(.bin .add false (.t 12) (.c (.str ⟨#[32,61,32]⟩)))⟩,⟨some 14,none,.faddr 1 (.t 1)⟩,⟨some 15,none,.load false 1 (.t 14)⟩,⟨some 16,none,.iaddr 2 (.t 15) (.c (.int .i64 1))⟩,⟨some 17,none,.load true 2 (.t 16)⟩,⟨some 18,none,.call 23 [(.t 17)]⟩,⟨some 19,none,.bin .add false (.t 13) (.t 18)⟩,⟨some 2,none,.mv (.t 19)⟩]) .ret) .skip)) (.seq (.seq (.reg [⟨some 20,none,.faddr 1 (.t 1)⟩,⟨some 21,none,.load false 1 (.t 20)⟩,⟨some 22,none,.len false (.t 21)⟩,⟨some 23,none,.bin .eql false (.t 22) (.c (.int .i64 0))⟩]) (.cond (.t 23) (.seq (.reg [⟨some 24,none,.faddr 0 (.t 1)⟩,⟨some 25,none,.load false 1 (.t 24)⟩,⟨some 2,none,.mv (.t 25)⟩]) .ret) .skip)) (.seq (.reg [⟨(some 26),none,(.mkrow 9 1 [(.str ⟨#[]⟩)] 0 [])⟩,⟨some 3,none,.mv (.t 26)⟩]) (.seq (.seq (.reg [⟨some 27,none,.faddr 1 (.t 1)⟩,⟨some 28,none,.load false 1 (.t 27)⟩,⟨some 29,none,.len false (.t 28)⟩,⟨some 30,none,.mv (.c (.int .i64 0))⟩]) (.block 0 (.loop [0,1,0,1,0,0,0,0,0,0,0,0,0,0,0,0,0,0,0,0,0,0,0,0,0,0,0,0,1,1,1,0,0,0,0,0,0,0,0,0,0,0,0,0,0,0,0] (.seq (.reg [⟨some 31,none,.bin .lss false (.t 30) (.t 29)⟩]) (.seq (.cond (.t 31) .skip (.exit 0)) (.seq (.block 1 (.seq (.reg [⟨some 32,none,.iaddr 2 (.t 28) (.t 30)⟩,⟨some 33,none,.load true 2 (.t 32)⟩,⟨(some 5),none,(.alloc 26 [(.str ⟨#[]⟩),.nil])⟩,⟨none,none,(.store 2 (.t 5) (.t 33))⟩]) (.reg [⟨some 34,none,.mv (.t 3)⟩,⟨some 35,none,.load true 2 (.t 5)⟩,⟨some 36,none,.call 23 [(.t 35)]⟩,⟨(some 37),none,(.mkrow 9 1 [(.str ⟨#[]⟩)] 1 [(0,(.t 36))])⟩,⟨(some 38),none,(.append 9 1 16 [(.str ⟨#[]⟩)] (.t 34) (.t 37))⟩,⟨some 3,none,.mv (.t 38)⟩]))) (.reg [⟨some 39,none,.bin .add false (.t 30) (.c (.int .i64 1))⟩,⟨some 30,none,.mv (.t 39)⟩]))))))) (.seq (.dreg [[],[0],[1,0],[],[3],[2,1,0,4,3],[5,2,1,0,4,3],[6,5,2,1,0,4,3]] [⟨some 40,none,.faddr 0 (.t 1)⟩,⟨some 41,none,.load false 1 (.t 40)⟩,⟨(some 42),none,(.bin .add false (.t 41) (.c (.str ⟨#[40]⟩)))⟩,⟨some 43,none,.mv (.t 3)⟩,⟨(some 44),none,(.call 45 [(.t 43),(.c (.str ⟨#[44]⟩))])⟩,⟨some 45,none,.bin .add false (.t 42) (.t 44)⟩,⟨(some 46),none,(.bin .add false (.t 45) (.c (.str ⟨#[41]⟩)))⟩,⟨some 2,none,.mv (.t 46)⟩]) .ret))))))
theorem DZ:Ar Tryz.prog 23=some ⟨47,CZ,[(.tmp 2)]⟩:=by kernel_rfl
theorem AC:modes 23=⟨[],.asis,none,false⟩:=by unfold modes; rfl
theorem QX {α β:Type} (f:α→β) {xs:List α} {k:Nat} (h:k<xs.length):(xs.take k).map f++[f xs[k]]=(xs.take (k+1)).map f:=by
 rw [List.take_succ_eq_append_getElem h,yU]; rfl
theorem Ma (x:Tm) (hx:x.names=true) (hn:x.nodes≤1048576) (ih:∀ y∈x.args,E 23 [y.sv] []=some (.str y.txt,[])):E 23 [x.sv] []=some (.str x.txt,[]):=by
 have hl:=Tm.length_le x.args
 have hne:=Tm.An x
 have he:=D1 x
 rw [Tm.JH hx] at he
 have hsz:=Tm.D2 x hx
 rw [←Tm.Jl] at hsz
 rcases yG x.args.length with h0 | h0
 ·have hx0:x.args=[]:=zZ h0
  have hz:((x.args.length:Int)=0)=True:=by rw [hx0]; simp
  rw [Tm.Sz hx0]
  refine Ab DZ AC (of_decide_eq_true rfl) ?_
  simp (disch:=omega) only [CZ,go_sem,Aa,hz,he,AE]
 ·have hz:((x.args.length:Int)=0)=False:=eq_false (by omega)
  have hnode:=Tm.S2 (x:=x) (by omega)
  have hs1:(x.name++(⟨#[40]⟩:ByteArray)).size=x.name.size+1:=by rw [zQ]; rfl
  have hs2:x.name.size+1+(C5 (x.args.map Tm.txt) ⟨#[44]⟩).size+1=x.txt.size:=by
   rw [←hnode,zQ,zQ,zQ]; rfl
  have hs3:(x.name++(⟨#[40]⟩:ByteArray)++C5 (x.args.map Tm.txt) ⟨#[44]⟩).size=x.name.size+1+(C5 (x.args.map Tm.txt) ⟨#[44]⟩).size:=by rw [zQ,hs1]
  have hs4:(⟨#[40]⟩:ByteArray).size=1:=rfl
  have hs5:(⟨#[41]⟩:ByteArray).size=1:=rfl
  have hj:=SD (x.args.map Tm.txt) ⟨#[44]⟩ (by simp; omega) (by omega)
  rw [yI] at hj
  have hf:∀ k,OT.AP ((x.args.take k).map fun y=>[OT.str y.txt])=true:=fun k=>by
   have:=Nz ((x.args.take k).map Tm.txt)
   rwa [yI] at this
  have her:∀ k,OT.erss ((x.args.take k).map fun y=>[OT.str y.txt])=(x.args.take k).map fun y=>[D.str y.txt]:=fun k=>by
   have:=Qi ((x.args.take k).map Tm.txt)
   rwa [yI,yI] at this
  have htl:x.args.take x.args.length=x.args:=yR
  have hfx:=hf x.args.length
  have herx:=her x.args.length
  rw [htl] at hfx herx
  have hjm:(x.args.map ((fun s=>[D.str s]) ∘ Tm.txt))=x.args.map fun y=>[D.str y.txt]:=rfl
  rw [hjm] at hj
  refine Ab DZ AC (of_decide_eq_true rfl) ?_
  simp (disch:=omega) only [CZ,go_sem,Aa,hz,he,AE]
  refine go_loop (α:=Int) (fun a=>⟨slots 47 0 [(1,.ptr 0 0),(3,.ref 1),(28,.arr (x.args.map Tm.d)),(29,.int .i64 x.args.length),(30,.int .i64 a)],[.box 26 [.str x.name,.arr (x.args.map Tm.d)],.row 9 1 ((x.args.take a.toNat).map fun y=>[OT.str y.txt])]⟩) (fun a=>∃ k:Nat,a=k∧k≤(x.args).length) (fun a=>(x.args).length-(a).toNat) 0 ⟨0,rfl,zH _⟩ (by simp (disch:=omega) only [go_sem,Aa,yN]) ?_
  rintro i ⟨k,hi,hk⟩
  have hni:i.toNat=k:=by omega
  have hni1:(i+1).toNat=k+1:=by omega
  rcases zO k (x.args).length with hlt | hge
  ·have hg:=get_at Tm.d hlt
   rw [Tm.Ga] at hg
   have hc:=ih x.args[k] (zL hlt)
   have hse:=QX (fun y:Tm=>[OT.str y.txt]) hlt
   have hkl:((x.args.take k).map fun y=>[OT.str y.txt]).length=k:=by rw [z7,yJ]; omega
   have hkl2:(x.args.take k).length=k:=by rw [yJ]; omega
   simp (disch:=omega) only [go_sem,Aa,hni,hg,hc,hkl,hkl2,hse,AC]
   refine ⟨i+1,⟨k+1,by omega,hlt⟩,by omega,?_⟩
   simp (disch:=omega) only [go_sem,Aa,hni1,hse]
  ·obtain rfl:k=x.args.length:=by omega
   simp (disch:=omega) only [go_sem,Aa,hni,htl,hfx,herx,hj,hs1,hs2,hs3,hs4,hs5,hnode,F7]
theorem Cb (x:Tm) (hx:x.names=true) (hn:x.nodes≤1048576):E 23 [x.sv] []=some (.str x.txt,[]) :=
 Ma x hx hn fun y hy=>Cb y (Tm.Fh hx hy) (by have:=Tm.CT hy; have:=Tm.An x; omega)
termination_by SizeOf.sizeOf x
decreasing_by exact Tm.Bt hy
theorem MX {r:Nat→Option (Tm × Nat)} {s:ByteArray} (hr:∀ i t e,r i=some (t,e)→i+t.nodes≤e) :
  ∀ (m i:Nat) (ts:List Tm) (e:Nat),rdL r s m i=some (ts,e)→i+Tm.AQ ts≤e
 | 0,i,ts,e,h=>by cases h
 | m+1,i,ts,e,h=>by
  rw [rdL] at h
  cases hq:r i with
  | none=>rw [hq] at h; cases h
  | some p =>
   obtain ⟨t,e0⟩:=p
   rw [hq] at h
   simp only at h
   have h1:=hr i t e0 hq
   cases hc:Dl s e0 44 with
   | true =>
    rw [hc,cond_true] at h
    cases hl:rdL r s m (e0+1) with
    | none=>rw [hl] at h; cases h
    | some q =>
     obtain ⟨us,e1⟩:=q
     rw [hl] at h
     simp only [zE,zG] at h
     obtain ⟨rfl,rfl⟩:=h
     have:=MX hr m (e0+1) us e1 hl
     rw [Tm.AQ]; omega
   | false =>
    rw [hc,cond_false] at h
    cases hc2:Dl s e0 41 with
    | true =>
     rw [hc2,cond_true] at h
     simp only [zE,zG] at h
     obtain ⟨rfl,rfl⟩:=h
     rw [Tm.AQ,Tm.AQ]; omega
    | false=>rw [hc2] at h; cases h
theorem Ea {s:ByteArray}:∀ (n i:Nat) (t:Tm) (e:Nat),rd s n i=some (t,e)→i+t.nodes≤e
 | 0,i,t,e,h=>by cases h
 | n+1,i,t,e,h=>by
  rw [rd] at h
  have w1:=Kz s i
  by_cases h0:B9 s i=i
  ·rw [Bb h0] at h; cases h
  ·rw [Be h0,cond_false] at h
   cases hc:Dl s (B9 s i) 40 with
   | true =>
    rw [hc,cond_true] at h
    cases hl:rdL (rd s n) s n (B9 s i+1) with
    | none=>rw [hl] at h; cases h
    | some q =>
     obtain ⟨us,e1⟩:=q
     rw [hl] at h
     simp only [zE,zG] at h
     obtain ⟨rfl,rfl⟩:=h
     have:=MX (Ea n) n _ us e1 hl
     rw [Tm.An]
     show i+(1+Tm.AQ us)≤_
     omega
   | false =>
    rw [hc,cond_false] at h
    simp only [zE,zG] at h
    obtain ⟨rfl,rfl⟩:=h
    rw [Tm.An]
    show i+(1+Tm.AQ [])≤_
    rw [Tm.AQ]; omega
noncomputable def Jo (s:ByteArray):Bool:=match rd s (s.size+1) 0 with
 | some (t,e)=>dec (e=s.size)&&t.valid
 | none=>false
noncomputable def E0 (s:ByteArray):Tm:=match rd s (s.size+1) 0 with
 | some (t,e)=>bif dec (e=s.size)&&t.valid then t else .mk ⟨#[]⟩ []
 | none=>.mk ⟨#[]⟩ []
theorem Wa {s:ByteArray} (h:Jo s=false):E0 s=.mk ⟨#[]⟩ []:=by
 unfold Jo at h
 unfold E0
 cases hr:rd s (s.size+1) 0 with
 | none=>rfl
 | some p =>
  obtain ⟨t,e⟩:=p
  rw [hr] at h
  simp only at h ⊢
  rw [h]; rfl
theorem SE {s:ByteArray} (h:Jo s=true):(E0 s).valid=true∧(E0 s).txt=s:=by
 unfold Jo at h
 unfold E0
 cases hr:rd s (s.size+1) 0 with
 | none=>rw [hr] at h; cases h
 | some p =>
  obtain ⟨t,e⟩:=p
  rw [hr] at h
  simp only at h ⊢
  rw [h,cond_true]
  rw [zF,Ax] at h
  obtain ⟨rfl,hv⟩:=h
  refine ⟨hv,AJ ?_⟩
  obtain ⟨_,_,h3⟩:=MM _ 0 t s.size (zH _) hr
  rw [Tm.txt_toList,← h3,E4]
theorem Al {t:Tm} (h:t.valid=true):t.names=true:=by
 unfold Tm.valid at h; rw [zF] at h; exact h.2
theorem AN {t:Tm} (h:t.valid=true):t.nodes≤30:=Tm.GU (by unfold Tm.expr; rw [h]; rfl)
theorem Dr {t:Tm} (h:t.valid=true):t.txt.size≤4000:=by
 have h1:=Tm.D2 t (Al h)
 have h2:=AN h
 rw [Tm.Jl]; omega
def C7:SC:=(.seq (.reg [⟨(some 2),none,(.alloc 26 [(.str ⟨#[]⟩),.nil])⟩,⟨some 3,none,.mv (.c (.bool false))⟩]) (.seq (.reg [⟨some 6,none,.mv (.t 0)⟩,⟨(some 7),none,(.build [(.str ⟨#[]⟩),(.int .i64 0),(.bool false)] [(0,(1,(.t 6)))])⟩,⟨some 8,none,.boxv 51 3 (.t 7)⟩,⟨some 4,none,.mv (.t 8)⟩]) (.seq (.reg [⟨some 9,none,.mv (.t 4)⟩,⟨some 10,none,.call 26 [(.t 9)]⟩,⟨(some 5),none,(.alloc 26 [(.str ⟨#[]⟩),.nil])⟩,⟨none,none,(.store 2 (.t 5) (.t 10))⟩]) (.seq (.seq (.reg [⟨some 11,none,.mv (.t 4)⟩,⟨some 12,none,.call 27 [(.t 11)]⟩,⟨some 13,none,.un .not (.t 12)⟩,⟨some 14,none,.mv (.t 13)⟩,⟨(some 15),(some (14,false)),(.load true 2 (.t 5))⟩,⟨(some 16),(some (14,false)),(.call 28 [(.t 15)])⟩,⟨(some 17),(some (14,false)),(.un .not (.t 16))⟩,⟨some 18,none,.pick (.t 14) (.c (.bool true)) (.t 17)⟩,⟨some 19,none,.mv (.t 18)⟩,⟨(some 20),(some (19,false)),(.load true 2 (.t 5))⟩,⟨(some 21),(some (19,false)),(.call 23 [(.t 20)])⟩,⟨(some 22),(some (19,false)),(.mv (.t 0))⟩,⟨(some 23),(some (19,false)),(.bin .neq false (.t 21) (.t 22))⟩,⟨some 24,none,.pick (.t 19) (.c (.bool true)) (.t 23)⟩]) (.cond (.t 24) (.seq (.reg [⟨(some 25),none,(.build [(.str ⟨#[]⟩),.nil] [])⟩,⟨none,none,(.store 2 (.t 2) (.t 25))⟩,⟨some 3,none,.mv (.c (.bool false))⟩]) .ret) .skip)) (.seq (.reg [⟨some 26,none,.load true 2 (.t 5)⟩,⟨none,none,(.store 2 (.t 2) (.t 26))⟩,⟨some 3,none,.mv (.c (.bool true))⟩]) .ret)))))
theorem D4:Ar Tryz.prog 9=some ⟨27,C7,[(.cell 2 true 2),(.tmp 3)]⟩:=by kernel_rfl
theorem A1:modes 9=⟨[],.own [none,some (26,2),none],none,false⟩:=by unfold modes; rfl
theorem GW:(Tm.mk ⟨#[]⟩ []).osv=.agg [.str ⟨#[]⟩,.ref 0]:=rfl
theorem GX:(Tm.mk ⟨#[]⟩ []).obs=[.row 26 2 []]:=rfl
theorem CP (s:ByteArray) (hs:s.size≤1048576):E 9 [.str s] []=some (.tup [(E0 s).osv,.bool (Jo s)],(E0 s).obs):=by
 obtain ⟨out,h1,t,j,f,rfl,h2,h3,h4⟩:=Fc s hs (s.size+1) 0 (zH _) (by omega)
 have h1:E 26 [.ptr 0 0] [.box 51 [.str s,.int .i64 0,.bool false]]=some (.agg [.str t.name,.ref 1],[psr s j f,.row 26 2 (t.args.map Tm.o)]):=h1
 unfold E0 Jo
 cases hr:rd s (s.size+1) 0 with
 | none =>
  rw [hr] at h4
  have h4:f=true:=h4
  subst h4
  have he:=N4 s j
  simp only [GW,GX]
  refine Ab D4 A1 (of_decide_eq_true rfl) ?_
  simp (disch:=omega) only [C7,go_sem,Aa,h1,he,Ay,A2]
 | some p =>
  obtain ⟨t0,e⟩:=p
  rw [hr] at h4
  obtain ⟨rfl,rfl,rfl⟩:=h4
  have hn:=Ea _ _ _ _ hr
  obtain ⟨_,_,hsg⟩:=MM _ 0 t j (zH _) hr
  have he:=N5 s j
  have hv1:=Gh t (by omega)
  by_cases h0:j=s.size
  ·rw [Bb h0] at he
   simp only [Bb h0,yK]
   cases hv:t.valid with
   | true =>
    rw [hv] at hv1
    have hf:=Cb t (Al hv) (by have:=AN hv; omega)
    have ht:t.txt=s:=by
     refine AJ ?_
     rw [Tm.txt_toList,← hsg,h0,E4]
    rw [ht] at hf
    simp only [cond_true]
    refine Ab D4 A1 (of_decide_eq_true rfl) ?_
    simp (disch:=omega) only [C7,go_sem,Aa,h1,he,hv1,hf,Tm.osv,Tm.obs,Tm.erss,Tm.fus,AF,AC,Ay,A2,AD]
   | false =>
    rw [hv] at hv1
    simp only [cond_false,GW,GX]
    refine Ab D4 A1 (of_decide_eq_true rfl) ?_
    simp (disch:=omega) only [C7,go_sem,Aa,h1,he,hv1,Tm.erss,Tm.fus,AF,Ay,A2]
  ·rw [Be h0] at he
   simp only [Be h0,yH,cond_false,GW,GX]
   refine Ab D4 A1 (of_decide_eq_true rfl) ?_
   simp (disch:=omega) only [C7,go_sem,Aa,h1,he,Ay,A2]
def eqSign:List UInt8:=[32,61,32]
def neSign:List UInt8:=[32,33,61,32]
def Tm.U8 (g:List UInt8):List Tm→List UInt8
 | [a,b]=>a.fmt++g++b.fmt
 | _=>[]
noncomputable def Tm.fmtA (x:Tm):List UInt8:=bif x.eqn then Tm.U8 eqSign x.args else x.fmt
noncomputable def Tm.txtA (x:Tm):ByteArray:=⟨x.fmtA.toArray⟩
theorem Tm.BI (x:Tm):x.txtA.toList=x.fmtA:=AZ _
theorem Tm.E1 {x:Tm} (h:x.atom=true):(x.eqn=false∧x.valid=true)∨(∃ a b,x=.mk ⟨#[61]⟩ [a,b]∧x.eqn=true∧a.names=true∧b.names=true∧x.small=true):=by
 have h0:=h
 unfold Tm.atom at h
 split at h
 ·rename_i he
  rw [zF,zF] at h
  right
  have hl:x.args.length=2:=by simpa using h.1.1
  obtain ⟨nm,us⟩:=x
  have hnm:nm=⟨#[61]⟩:=by unfold Tm.eqn at he; exact Ax.1 he
  match us,hl with
  | [a,b],_ =>
   refine ⟨a,b,by rw [hnm],he,?_,?_,h.1.2⟩
   ·have:=h.2
    rw [Tm.G8,yA] at this
    exact this a (by simp [Tm.args])
   ·have:=h.2
    rw [Tm.G8,yA] at this
    exact this b (by simp [Tm.args])
 ·rename_i he
  rw [zF] at h
  exact .inl ⟨by simpa using he,h.2⟩
def noB (l:List UInt8):Prop:=∀ c∈l,c≠32
theorem Jp {a b:List UInt8} (h:noB a) (k:noB b):noB (a++b):=fun c hc=>(List.mem_append.1 hc).elim (h c) (k c)
theorem OA:∀ {xs:List (List UInt8)},(∀ x∈xs,noB x)→noB (Cd [44] xs)
 | [],_=>fun c hc=>by cases hc
 | [x],h=>h x (by simp)
 | x :: y :: r,h=>by
  rw [Cd]
  exact Jp (Jp (h x (by simp)) (fun c hc=>by simp at hc; rw [hc]; decide)) (OA fun z hz=>h z (by simp [hz]))
theorem Tm.K1 (x:Tm) (hx:x.names=true):noB x.fmt:=by
 have hw:=Tm.wd hx
 have hn:noB x.name.toList:=fun c hc e=>by
  have:=hw.2 c hc
  rw [e] at this
  have h2:Dk ((32:UInt8).toNat:Int)=false:=GB (.inr (.inr (.inr rfl)))
  rw [h2] at this; cases this
 rw [Tm.Ge]
 split
 ·rw [yV]; exact hn
 ·refine Jp hn (Jp (Jp (fun c hc=>by simp at hc; rw [hc]; decide) (OA fun z hz=>?_)) (fun c hc=>by simp at hc; rw [hc]; decide))
  rw [Tm.Jf] at hz
  obtain ⟨y,hy,rfl⟩:=List.mem_map.1 hz
  exact Tm.K1 y (Tm.Fh hx hy)
termination_by SizeOf.sizeOf x
decreasing_by exact Tm.Bt hy
theorem N6 {a b:Tm} (ha:a.names=true) (hb:b.names=true) (h:a.fmt=b.fmt):a=b:=by
 have hs:a.txt=b.txt:=AJ (by rw [Tm.txt_toList,Tm.txt_toList,h])
 have h1:=DX (s:=a.txt) a ha (a.txt.size+1) 0 a.txt.size (zJ _) (zH _) (by rw [E4,Tm.txt_toList]) (.inl rfl) (by omega)
 have h2:=DX (s:=a.txt) b hb (a.txt.size+1) 0 a.txt.size (zJ _) (zH _) (by rw [E4,Tm.txt_toList,h]) (.inl rfl) (by omega)
 rw [h1] at h2
 simp only [zE,zG] at h2
 exact h2.1
theorem Uo {s:ByteArray} {t:Tm} (hv:t.valid=true) (h:s.toList=t.fmt):Jo s=true∧E0 s=t:=by
 have h1:=DX (s:=s) t (Al hv) (s.size+1) 0 s.size (zJ _) (zH _) (by rw [E4,h]) (.inl rfl) (by omega)
 unfold Jo E0
 rw [h1]
 simp only [U6,AD,hv,zR,cond_true,and_self]
theorem MY:∀ {A A' B B':List UInt8},noB A→noB A'→A++32 :: B=A'++32 :: B'→A=A'∧B=B'
 | [],[],B,B',_,_,h=>by simpa using h
 | [],c :: A',B,B',_,h',h=>by
  simp only [yW,zP,yB] at h
  exact absurd h.1.symm (h' c (by simp))
 | c :: A,[],B,B',h',_,h=>by
  simp only [yW,zP,yB] at h
  exact absurd h.1 (h' c (by simp))
 | c :: A,c' :: A',B,B',h1,h2,h=>by
  simp only [zP,yB] at h
  obtain ⟨h3,h4⟩:=MY (fun x hx=>h1 x (by simp [hx])) (fun x hx=>h2 x (by simp [hx])) h.2
  exact ⟨by rw [h.1,h3],h4⟩
theorem F8 {a b:Tm} {n:ByteArray} (h:(Tm.mk n [a,b]).small=true):a.small=true∧b.small=true:=by
 unfold Tm.small at h ⊢
 rw [zF,decide_eq_true_eq,decide_eq_true_eq,Tm.An,Tm.Ky] at h
 have e1:(Tm.mk n [a,b]).args=[a,b]:=rfl
 rw [e1,Tm.AQ,Tm.AQ,Tm.AQ,Tm.EC,Tm.EC,Tm.EC] at h
 rw [zF,decide_eq_true_eq,decide_eq_true_eq,zF,decide_eq_true_eq,decide_eq_true_eq]
 omega
def QY (g:List UInt8) (s:ByteArray) (t:Tm):Prop:=∃ a b:Tm,t=.mk ⟨#[61]⟩ [a,b]∧a.valid=true∧b.valid=true∧t.atom=true∧s.toList=a.fmt++g++b.fmt
theorem QZ {g:List UInt8} {s:ByteArray} {t t':Tm} (h:QY (32 :: g) s t) (h':QY (32 :: g) s t'):t=t':=by
 obtain ⟨a,b,rfl,ha,hb,_,hs⟩:=h
 obtain ⟨a',b',rfl,ha',hb',_,hs'⟩:=h'
 rw [hs,zN,zN,zP,zP] at hs'
 obtain ⟨e1,e2⟩:=MY (Tm.K1 a (Al ha)) (Tm.K1 a' (Al ha')) hs'
 rw [N6 (Al ha) (Al ha') e1,N6 (Al hb) (Al hb') (List.append_cancel_left e2)]
def Ko (s:ByteArray) (t:Tm):Prop:=t.atom=true∧t.txtA=s
theorem GC {s:ByteArray} {t:Tm}:Ko s t ↔ QY eqSign s t∨(t.eqn=false∧t.atom=true∧t.valid=true∧s.toList=t.fmt):=by
 constructor
 ·rintro ⟨h1,rfl⟩
  rw [Tm.BI]
  unfold Tm.fmtA
  rcases Tm.E1 h1 with ⟨h2,h3⟩ | ⟨a,b,rfl,h2,h3,h4,h5⟩
  ·right
   refine ⟨h2,h1,h3,by rw [h2]; rfl⟩
  ·left
   obtain ⟨g1,g2⟩:=F8 h5
   refine ⟨a,b,rfl,by unfold Tm.valid; rw [g1,h3]; rfl,by unfold Tm.valid; rw [g2,h4]; rfl,h1,?_⟩
   rw [Tm.BI]
   unfold Tm.fmtA
   rw [h2]; rfl
 ·rintro (⟨a,b,rfl,h1,h2,h3,h4⟩ | ⟨h1,h2,h3,h4⟩)
  ·refine ⟨h3,AJ ?_⟩
   rw [Tm.BI,h4]
   have he:(Tm.mk ⟨#[61]⟩ [a,b]).eqn=true:=by unfold Tm.eqn; exact Bb rfl
   unfold Tm.fmtA
   rw [he]; rfl
  ·refine ⟨h2,AJ ?_⟩
   rw [Tm.BI,h4]
   unfold Tm.fmtA
   rw [h1]; rfl
theorem L7 {g:List UInt8} {s:ByteArray} {t u:Tm} (h:QY (32 :: g) s t) (hu:u.valid=true) (hs:s.toList=u.fmt):False:=by
 obtain ⟨a,b,_,_,_,_,h4⟩:=h
 have:=Tm.K1 u (Al hu)
 rw [←hs,h4] at this
 exact this 32 (by simp) rfl
theorem Ra {s:ByteArray} {t t':Tm} (h:Ko s t) (h':Ko s t'):t=t':=by
 rcases GC.1 h with h1 | ⟨_,_,h2,h3⟩ <;> rcases GC.1 h' with h1' | ⟨_,_,h2',h3'⟩
 ·exact QZ h1 h1'
 ·exact (L7 h1 h2' h3').elim
 ·exact (L7 h1' h2 h3).elim
 ·exact N6 (Al h2) (Al h2') (h3.symm.trans h3')
noncomputable def Up (s:ByteArray):Bool:=dec (∃ t,Ko s t)
open Classical in
noncomputable def PD (s:ByteArray):Tm:=if h:∃ t,Ko s t then h.choose else .mk ⟨#[]⟩ []
theorem SF {s:ByteArray} {t:Tm} (h:Ko s t):Up s=true∧PD s=t:=by
 have he:∃ t,Ko s t:=⟨t,h⟩
 refine ⟨Bb he,?_⟩
 unfold PD
 rw [dif_pos he]
 exact Ra he.choose_spec h
theorem U9 {s:ByteArray} (h:∀ t,¬ Ko s t):Up s=false∧PD s=.mk ⟨#[]⟩ []:=by
 have he:¬ ∃ t,Ko s t:=fun ⟨t,ht⟩=>h t ht
 refine ⟨Be he,?_⟩
 unfold PD
 rw [dif_neg he]
theorem SG {t:Tm} (h:t.atom=true):t.txtA.size≤4000:=by
 obtain hq:=GC.1 ⟨h,rfl⟩
 rcases hq with ⟨a,b,rfl,h1,h2,h3,h4⟩ | ⟨_,_,h1,h2⟩
 ·have l1:=Tm.D2 a (Al h1)
  have l2:=Tm.D2 b (Al h2)
  have n1:=AN h1
  have n2:=AN h2
  rw [←AA,h4]
  simp only [zW,eqSign,zM,zV]
  omega
 ·have l1:=Tm.D2 t (Al h1)
  have n1:=AN h1
  rw [←AA,h2]; omega
noncomputable def Mb (g s:ByteArray) (n:Nat):Option (Tm × Nat):=match rd s n 0 with
 | none=>none
 | some (a,e)=>bif hasB s e g then (match rd s n (e+g.size) with
  | none=>none
  | some (b,e2)=>some (.mk ⟨#[61]⟩ [a,b],e2)) else some (a,e)
theorem Uq {g:List UInt8} {gb s:ByteArray} {a b:Tm} (hg:gb.toList=32 :: g) (ha:a.valid=true) (hb:b.valid=true) (hs:s.toList=a.fmt++gb.toList++b.fmt):Mb gb s (s.size+1)=some (.mk ⟨#[61]⟩ [a,b],s.size):=by
 have h0:=E4 s
 rw [hs,zN] at h0
 obtain ⟨h1,h2,h3⟩:=D3 h0 (zJ _) (zH _)
 rw [Nat.zero_add] at h1 h2 h3
 obtain ⟨k1,k2,k3⟩:=D3 h3 (zJ _) h1
 rw [AA] at k1 k2 k3
 have k2':=k2
 rw [hg] at k2'
 obtain ⟨b1,b2,_⟩:=DF k2' (by omega)
 have r1:=DX (s:=s) a (Al ha) (s.size+1) 0 a.fmt.length (by omega) (zH _) h2 (.inr ⟨by omega,GB (.inr (.inr (.inr b2))),by rw [b2]; decide⟩) (by omega)
 have r2:=DX (s:=s) b (Al hb) (s.size+1) (a.fmt.length+gb.size) s.size (zJ _) (by omega) k3 (.inl rfl) (by omega)
 have hh:hasB s a.fmt.length gb=true:=(Cf (by omega)).2 ⟨k1,k2⟩
 unfold Mb
 rw [r1]
 simp only [hh,cond_true,r2]
theorem SH {gb s:ByteArray} {t:Tm} (hg:0<gb.size) (ht:t.valid=true) (hs:s.toList=t.fmt):Mb gb s (s.size+1)=some (t,s.size):=by
 have r1:=DX (s:=s) t (Al ht) (s.size+1) 0 s.size (zJ _) (zH _) (by rw [E4,hs]) (.inl rfl) (by omega)
 have hh:hasB s s.size gb=false:=by
  cases h:hasB s s.size gb with
  | false=>rfl
  | true=>have:=((Cf (zJ _)).1 h).1; omega
 unfold Mb
 rw [r1]
 simp only [hh,cond_false]
theorem Qs {s:ByteArray} {t:Tm} (h:Ko s t):Mb ⟨#[32,61,32]⟩ s (s.size+1)=some (t,s.size):=by
 have hg:(⟨#[32,61,32]⟩:ByteArray).toList=[32,61,32]:=AZ [32,61,32]
 rcases GC.1 h with ⟨a,b,rfl,h1,h2,_,h4⟩ | ⟨_,_,h1,h2⟩
 ·exact Uq (g:=[61,32]) hg h1 h2 (by rw [hg]; exact h4)
 ·exact SH (by show 0<3; omega) h1 h2
theorem PE {gb s:ByteArray} {n:Nat} {t:Tm} {e:Nat} (h:Mb gb s n=some (t,e)) (hs:∀ i t e,rd s n i=some (t,e)→e≤s.size):t.nodes≤2*s.size+1:=by
 unfold Mb at h
 cases h1:rd s n 0 with
 | none=>rw [h1] at h; cases h
 | some p =>
  obtain ⟨a,e0⟩:=p
  rw [h1] at h
  simp only at h
  have n1:=Ea _ _ _ _ h1
  have z1:=hs _ _ _ h1
  cases hh:hasB s e0 gb with
  | false=>rw [hh] at h; simp only [cond_false,zE,zG] at h; obtain ⟨rfl,rfl⟩:=h; omega
  | true =>
   rw [hh] at h
   simp only [cond_true] at h
   cases h2:rd s n (e0+gb.size) with
   | none=>rw [h2] at h; cases h
   | some p =>
    obtain ⟨b,e2⟩:=p
    rw [h2] at h
    simp only [zE,zG] at h
    obtain ⟨rfl,rfl⟩:=h
    have n2:=Ea _ _ _ _ h2
    have z2:=hs _ _ _ h2
    rw [Tm.An]
    show 1+Tm.AQ [a,b]≤_
    rw [Tm.AQ,Tm.AQ,Tm.AQ]
    omega
noncomputable def Kj (g s:ByteArray) (n i:Nat):Option (Tm × Nat):=match rd s n i with
 | none=>none
 | some (a,e)=>bif hasB s e g then (match rd s n (e+g.size) with
  | none=>none
  | some (b,e2)=>some (.mk ⟨#[61]⟩ [a,b],e2)) else some (a,e)
theorem L8 {x:Tm} (hx:x.names=true):∃ c r,x.fmt=c :: r∧c≠126:=by
 have hw:=Tm.wd hx
 rw [Tm.Ge]
 obtain ⟨c,r,hc⟩:∃ c r,x.name.toList=c :: r:=by
  cases h:x.name.toList with
  | nil=>exact absurd h hw.1
  | cons c r=>exact ⟨c,r,rfl⟩
 refine ⟨c,r++_,by rw [hc,zP],fun e=>?_⟩
 have h1:=hw.2 c (by rw [hc]; simp)
 rw [e] at h1
 have h2:Dk ((126:UInt8).toNat:Int)=false:=by
  unfold Dk
  have e:((126:UInt8).toNat:Int)=126:=rfl
  rw [e,Be (p:=(126:Int)≤122) (by omega),Be (p:=(126:Int)≤90) (by omega),Be (p:=(126:Int)≤57) (by omega),Be (p:=(126:Int)=95) (by omega)]
  simp
 rw [h2] at h1; cases h1
theorem HY {s:ByteArray} {c:UInt8} {r:List UInt8} (h:s.toList=c :: r):hasB s 0 ⟨#[126]⟩=dec (c=126):=by
 have h2:(⟨#[126]⟩:ByteArray).toList=[126]:=AZ [126]
 have hz:s.size=r.length+1:=by rw [←AA,h]; rfl
 have h3:seg s 0 (0+(⟨#[126]⟩:ByteArray).size)=[c]:=by
  show seg s 0 1=_
  unfold seg
  rw [h]; rfl
 cases hh:hasB s 0 ⟨#[126]⟩ with
 | true =>
  have:=((Cf (zH _)).1 hh).2
  rw [h3,h2] at this
  rw [Bb (by simpa using this)]
 | false =>
  by_cases hc:c=126
  ·have:=(Cf (s:=s) (x:=⟨#[126]⟩) (zH _)).2 ⟨by show 0+1≤_; omega,by rw [h3,h2,hc]⟩
   rw [this] at hh; cases hh
  ·rw [Be hc]
theorem L9 {s g:ByteArray} (hg:0<g.size):hasB s s.size g=false:=by
 cases h:hasB s s.size g with
 | false=>rfl
 | true=>have:=((Cf (zJ _)).1 h).1; omega
theorem OB {gb s:ByteArray} {n i:Nat} {t:Tm} {e:Nat} (h:Kj gb s n i=some (t,e)) (hs:∀ i t e,rd s n i=some (t,e)→e≤s.size):t.nodes≤2*s.size+1:=by
 unfold Kj at h
 cases h1:rd s n i with
 | none=>rw [h1] at h; cases h
 | some p =>
  obtain ⟨a,e0⟩:=p
  rw [h1] at h
  simp only at h
  have n1:=Ea _ _ _ _ h1
  have z1:=hs _ _ _ h1
  cases hh:hasB s e0 gb with
  | false=>rw [hh] at h; simp only [cond_false,zE,zG] at h; obtain ⟨rfl,rfl⟩:=h; omega
  | true =>
   rw [hh] at h
   simp only [cond_true] at h
   cases h2:rd s n (e0+gb.size) with
   | none=>rw [h2] at h; cases h
   | some p =>
    obtain ⟨b,e2⟩:=p
    rw [h2] at h
    simp only [zE,zG] at h
    obtain ⟨rfl,rfl⟩:=h
    have n2:=Ea _ _ _ _ h2
    have z2:=hs _ _ _ h2
    rw [Tm.An]
    show 1+Tm.AQ [a,b]≤_
    rw [Tm.AQ,Tm.AQ,Tm.AQ]
    omega
theorem N7 {s:ByteArray} (i:Nat) (t:Tm) (e:Nat) (h:rd s (s.size+1) i=some (t,e)):e≤s.size:=by
 rcases zO s.size i with hi | hi
 ·exfalso
  rw [rd] at h
  have hw:B9 s i=i:=GA (by omega)
  rw [hw,AD] at h; cases h
 ·exact (MM _ i t e hi h).2.1
theorem HC:(⟨#[32,61,32]⟩:ByteArray).toList=eqSign:=AZ [32,61,32]
theorem JI (x:Tm) (hx:x.atom=true):E 23 [x.sv] []=some (.str x.txtA,[]):=by
 rcases Tm.E1 hx with ⟨h1,h2⟩ | ⟨a,b,rfl,h1,h2,h3,h4⟩
 ·have e:x.txtA=x.txt:=AJ (by rw [Tm.BI,Tm.txt_toList]; unfold Tm.fmtA; rw [h1]; rfl)
  rw [e]
  exact Cb x (Al h2) (by have:=AN h2; omega)
 ·have he:=D1 (.mk ⟨#[61]⟩ [a,b])
  rw [h1] at he
  obtain ⟨s1,s2⟩:=F8 h4
  have va:a.valid=true:=by unfold Tm.valid; rw [s1,h2]; rfl
  have vb:b.valid=true:=by unfold Tm.valid; rw [s2,h3]; rfl
  have f1:=Cb a h2 (by have:=AN va; omega)
  have f2:=Cb b h3 (by have:=AN vb; omega)
  have z1:=Dr va
  have z2:=Dr vb
  have hs1:(a.txt++(⟨#[32,61,32]⟩:ByteArray)).size=a.txt.size+3:=by rw [zQ]; rfl
  have hs2:(⟨#[32,61,32]⟩:ByteArray).size=3:=rfl
  have ht:a.txt++⟨#[32,61,32]⟩++b.txt=(Tm.mk ⟨#[61]⟩ [a,b]).txtA:=by
   refine AJ ?_
   rw [B4,B4,Tm.txt_toList,Tm.txt_toList,Tm.BI,HC]
   unfold Tm.fmtA
   rw [h1]; rfl
  have g0:([a,b].map Tm.d)[(0:Nat)]?=some [D.str a.name,D.arr (a.args.map Tm.d)]:=by rw [zD,Tm.Ga]; rfl
  have g1:([a,b].map Tm.d)[(1:Nat)]?=some [D.str b.name,D.arr (b.args.map Tm.d)]:=by rw [zD,zD,Tm.Ga b]; rfl
  have hsv:(Tm.mk ⟨#[61]⟩ [a,b]).sv=.agg [.str ⟨#[61]⟩,.arr ([a,b].map Tm.d)]:=rfl
  rw [hsv] at he ⊢
  obtain ⟨ds,hds⟩:∃ ds,ds=[a,b].map Tm.d:=⟨_,rfl⟩
  rw [←hds] at he g0 g1 ⊢
  refine Ab DZ AC (of_decide_eq_true rfl) ?_
  simp (disch:=omega) only [CZ,go_sem,Aa,he,g0,g1,f1,f2,hs1,hs2,ht,yN,Int.toNat_one,AE,AC]
def B5:SC:=(.seq (.reg [⟨(some 2),none,(.alloc 26 [(.str ⟨#[]⟩),.nil])⟩]) (.seq (.reg [⟨some 4,none,.mv (.t 0)⟩,⟨some 5,none,.call 26 [(.t 4)]⟩,⟨(some 3),none,(.alloc 26 [(.str ⟨#[]⟩),.nil])⟩,⟨none,none,(.store 2 (.t 3) (.t 5))⟩]) (.seq (.seq (.reg [⟨some 6,none,.mv (.t 0)⟩,⟨(some 7),none,(.call 50 [(.t 6),(.c (.str ⟨#[32,61,32]⟩))])⟩]) (.cond (.t 7) (.seq (.dreg [[],[],[1],[0,2,1],[3,0,2,1],[4,3,0,2,1]] [⟨some 8,none,.load true 2 (.t 3)⟩,⟨some 9,none,.mv (.t 0)⟩,⟨some 10,none,.call 26 [(.t 9)]⟩,⟨(some 11),none,(.mkrow 26 2 [(.str ⟨#[]⟩),.nil] 2 [(0,(.t 8)),(1,(.t 10))])⟩,⟨(some 12),none,(.build [(.str ⟨#[]⟩),.nil] [(0,(1,(.c (.str ⟨#[61]⟩)))),(1,(1,(.t 11)))])⟩,⟨none,none,(.store 2 (.t 2) (.t 12))⟩]) .ret) .skip)) (.seq (.reg [⟨some 13,none,.load true 2 (.t 3)⟩,⟨none,none,(.store 2 (.t 2) (.t 13))⟩]) .ret))))
theorem F9:Ar Tryz.prog 29=some ⟨14,B5,[(.cell 2 true 2)]⟩:=by kernel_rfl
theorem AK:modes 29=⟨[],.own [none,some (26,2)],none,false⟩:=by unfold modes; rfl
theorem Ur (s:ByteArray) (hs:s.size≤1048576) (i:Nat) (hi:i≤s.size):∃ out,E 29 [.ptr 0 0] [psr s i false]=some out∧O9 s i (Kj ⟨#[32,61,32]⟩ s (s.size+1) i) out:=by
 obtain ⟨out1,h1,t,j,f,rfl,g1,g2,g3⟩:=Fc s hs (s.size+1) i hi (by omega)
 refine AL F9 AK (of_decide_eq_true rfl) ?_
 unfold Kj
 cases hr:rd s (s.size+1) i with
 | none =>
  rw [hr] at g3
  have g3:f=true:=g3
  subst g3
  have ht:=ID s j ⟨#[32,61,32]⟩
  simp (disch:=omega) only [B5,go_sem,Aa,h1,ht,Ay,Af]
  exact ⟨_,rfl,t,j,true,rfl,g1,g2,rfl⟩
 | some p =>
  obtain ⟨a,e⟩:=p
  rw [hr] at g3
  obtain ⟨rfl,rfl,rfl⟩:=g3
  cases hh:hasB s j ⟨#[32,61,32]⟩ with
  | false =>
   have ht:=GV s j ⟨#[32,61,32]⟩ g2 hh
   simp only [hh,cond_false]
   simp (disch:=omega) only [B5,go_sem,Aa,h1,ht,Ay,Af]
   exact ⟨_,rfl,t,j,false,rfl,g1,g2,rfl,rfl,rfl⟩
  | true =>
   have ht:E 50 [.ptr 0 0,.str ⟨#[32,61,32]⟩] [psr s j false]=some (.bool true,[psr s (j+3) false]):=F6 s j ⟨#[32,61,32]⟩ (by show j+3≤_; omega) g2 hh
   have hj3:j+3≤s.size:=((Cf g2).1 hh).1
   obtain ⟨out2,h2,t2,j2,f2,rfl,k1,k2,k3⟩:=Fc s hs (s.size+1) (j+3) hj3 (by omega)
   simp only [hh,cond_true]
   have e3:rd s (s.size+1) (j+(⟨#[32,61,32]⟩:ByteArray).size)=rd s (s.size+1) (j+3):=rfl
   rw [e3]
   have ho:(Tm.mk ⟨#[61]⟩ [t,t2]).args.map Tm.o=[[OT.str t.name,.ow (t.args.map Tm.o)],[OT.str t2.name,.ow (t2.args.map Tm.o)]]:=by
    show [t,t2].map Tm.o=_
    rw [zD,zD,zY,Tm.H4,Tm.H4]
   simp (disch:=omega) only [B5,go_sem,Aa,h1,ht,h2,Ay,Af]
   cases hr2:rd s (s.size+1) (j+3) with
   | none =>
    rw [hr2] at k3
    have k3:f2=true:=k3
    subst k3
    exact ⟨_,rfl,.mk ⟨#[61]⟩ [t,t2],j2,true,by rw [ho]; rfl,by omega,k2,rfl⟩
   | some p =>
    obtain ⟨b,e⟩:=p
    rw [hr2] at k3
    obtain ⟨rfl,rfl,rfl⟩:=k3
    exact ⟨_,rfl,.mk ⟨#[61]⟩ [t,t2],j2,false,by rw [ho]; rfl,by omega,k2,rfl,rfl,rfl⟩
def Ce:SC:=(.seq (.reg [⟨(some 2),none,(.alloc 26 [(.str ⟨#[]⟩),.nil])⟩,⟨some 3,none,.mv (.c (.bool false))⟩]) (.seq (.reg [⟨some 6,none,.mv (.t 0)⟩,⟨(some 7),none,(.build [(.str ⟨#[]⟩),(.int .i64 0),(.bool false)] [(0,(1,(.t 6)))])⟩,⟨some 8,none,.boxv 51 3 (.t 7)⟩,⟨some 4,none,.mv (.t 8)⟩]) (.seq (.reg [⟨some 9,none,.mv (.t 4)⟩,⟨some 10,none,.call 29 [(.t 9)]⟩,⟨(some 5),none,(.alloc 26 [(.str ⟨#[]⟩),.nil])⟩,⟨none,none,(.store 2 (.t 5) (.t 10))⟩]) (.seq (.seq (.reg [⟨some 11,none,.mv (.t 4)⟩,⟨some 12,none,.call 27 [(.t 11)]⟩,⟨some 13,none,.un .not (.t 12)⟩,⟨some 14,none,.mv (.t 13)⟩,⟨(some 15),(some (14,false)),(.load true 2 (.t 5))⟩,⟨(some 16),(some (14,false)),(.call 30 [(.t 15)])⟩,⟨(some 17),(some (14,false)),(.un .not (.t 16))⟩,⟨some 18,none,.pick (.t 14) (.c (.bool true)) (.t 17)⟩,⟨some 19,none,.mv (.t 18)⟩,⟨(some 20),(some (19,false)),(.load true 2 (.t 5))⟩,⟨(some 21),(some (19,false)),(.call 23 [(.t 20)])⟩,⟨(some 22),(some (19,false)),(.mv (.t 0))⟩,⟨(some 23),(some (19,false)),(.bin .neq false (.t 21) (.t 22))⟩,⟨some 24,none,.pick (.t 19) (.c (.bool true)) (.t 23)⟩]) (.cond (.t 24) (.seq (.reg [⟨(some 25),none,(.build [(.str ⟨#[]⟩),.nil] [])⟩,⟨none,none,(.store 2 (.t 2) (.t 25))⟩,⟨some 3,none,.mv (.c (.bool false))⟩]) .ret) .skip)) (.seq (.reg [⟨some 26,none,.load true 2 (.t 5)⟩,⟨none,none,(.store 2 (.t 2) (.t 26))⟩,⟨some 3,none,.mv (.c (.bool true))⟩]) .ret)))))
theorem C8:Ar Tryz.prog 11=some ⟨27,Ce,[(.cell 2 true 2),(.tmp 3)]⟩:=by kernel_rfl
theorem Av:modes 11=⟨[],.own [none,some (26,2),none],none,false⟩:=by unfold modes; rfl
def Wb (s g:ByteArray) (k:Int):Prop:=(k=-1∧∀ j,j+g.size≤s.size→¬ s.extract j (j+g.size)=g)∨∃ i:Nat,k=i∧i+g.size≤s.size∧s.extract i (i+g.size)=g∧∀ j,j<i→¬ s.extract j (j+g.size)=g
theorem GY (s:ByteArray):(E0 s).nodes≤30:=by
 cases h:Jo s with
 | false=>rw [Wa h,Tm.An]; show 1+Tm.AQ []≤30; rw [Tm.AQ]; omega
 | true=>exact AN (SE h).1
theorem Rb (s:ByteArray) (hs:s.size≤1048576):∃ out,E 29 [.ptr 0 0] [psr s 0 false]=some out∧O9 s 0 (Mb ⟨#[32,61,32]⟩ s (s.size+1)) out:=by
 obtain ⟨out1,h1,t,j,f,rfl,g1,g2,g3⟩:=Fc s hs (s.size+1) 0 (zH _) (by omega)
 refine AL F9 AK (of_decide_eq_true rfl) ?_
 unfold Mb
 cases hr:rd s (s.size+1) 0 with
 | none =>
  rw [hr] at g3
  have g3:f=true:=g3
  subst g3
  have ht:=ID s j ⟨#[32,61,32]⟩
  simp (disch:=omega) only [B5,go_sem,Aa,h1,ht,Ay,Af]
  exact ⟨_,rfl,t,j,true,rfl,zH _,g2,rfl⟩
 | some p =>
  obtain ⟨a,e⟩:=p
  rw [hr] at g3
  obtain ⟨rfl,rfl,rfl⟩:=g3
  cases hh:hasB s j ⟨#[32,61,32]⟩ with
  | false =>
   have ht:=GV s j ⟨#[32,61,32]⟩ g2 hh
   simp only [hh,cond_false]
   simp (disch:=omega) only [B5,go_sem,Aa,h1,ht,Ay,Af]
   exact ⟨_,rfl,t,j,false,rfl,zH _,g2,rfl,rfl,rfl⟩
  | true =>
   have ht:E 50 [.ptr 0 0,.str ⟨#[32,61,32]⟩] [psr s j false]=some (.bool true,[psr s (j+3) false]):=F6 s j ⟨#[32,61,32]⟩ (by show j+3≤_; omega) g2 hh
   have hj3:j+3≤s.size:=((Cf g2).1 hh).1
   obtain ⟨out2,h2,t2,j2,f2,rfl,k1,k2,k3⟩:=Fc s hs (s.size+1) (j+3) hj3 (by omega)
   simp only [hh,cond_true]
   have e3:rd s (s.size+1) (j+(⟨#[32,61,32]⟩:ByteArray).size)=rd s (s.size+1) (j+3):=rfl
   rw [e3]
   have ho:(Tm.mk ⟨#[61]⟩ [t,t2]).args.map Tm.o=[[OT.str t.name,.ow (t.args.map Tm.o)],[OT.str t2.name,.ow (t2.args.map Tm.o)]]:=by
    show [t,t2].map Tm.o=_
    rw [zD,zD,zY,Tm.H4,Tm.H4]
   simp (disch:=omega) only [B5,go_sem,Aa,h1,ht,h2,Ay,Af]
   cases hr2:rd s (s.size+1) (j+3) with
   | none =>
    rw [hr2] at k3
    have k3:f2=true:=k3
    subst k3
    exact ⟨_,rfl,.mk ⟨#[61]⟩ [t,t2],j2,true,by rw [ho]; rfl,zH _,k2,rfl⟩
   | some p =>
    obtain ⟨b,e⟩:=p
    rw [hr2] at k3
    obtain ⟨rfl,rfl,rfl⟩:=k3
    exact ⟨_,rfl,.mk ⟨#[61]⟩ [t,t2],j2,false,by rw [ho]; rfl,zH _,k2,rfl,rfl,rfl⟩
theorem Kp (s:ByteArray) (hs:s.size≤1048576):E 11 [.str s] []=some (.tup [(PD s).osv,.bool (Up s)],(PD s).obs):=by
 obtain ⟨out,h1,t,j,f,rfl,h2,h3,h4⟩:=Rb s hs
 have h1:E 29 [.ptr 0 0] [.box 51 [.str s,.int .i64 0,.bool false]]=some (.agg [.str t.name,.ref 1],[psr s j f,.row 26 2 (t.args.map Tm.o)]):=h1
 cases hr:Mb ⟨#[32,61,32]⟩ s (s.size+1) with
 | none =>
  rw [hr] at h4
  have h4:f=true:=h4
  subst h4
  have he:=N4 s j
  obtain ⟨q1,q2⟩:=U9 (s:=s) fun u hu=>by rw [Qs hu] at hr; cases hr
  rw [q1,q2]
  simp only [GW,GX]
  refine Ab C8 Av (of_decide_eq_true rfl) ?_
  simp (disch:=omega) only [Ce,go_sem,Aa,h1,he,AG,AC,AK,A2]
 | some p =>
  obtain ⟨t0,e⟩:=p
  rw [hr] at h4
  obtain ⟨rfl,rfl,rfl⟩:=h4
  have hn:=PE hr fun i t e h=>by
   rcases zO s.size i with hi | hi
   ·exfalso
    rw [rd] at h
    have hw:B9 s i=i:=GA (by omega)
    rw [hw,AD] at h; cases h
   ·exact (MM _ i t e hi h).2.1
  have he:=N5 s j
  have hv1:=Gi t (by omega)
  have no:¬ (j=s.size∧t.atom=true∧t.txtA=s)→Up s=false∧PD s=.mk ⟨#[]⟩ []:=fun h=>U9 fun u hu=>by
   have:=Qs hu
   rw [hr] at this
   simp only [zE,zG] at this
   obtain ⟨rfl,rfl⟩:=this
   exact h ⟨rfl,hu.1,hu.2⟩
  by_cases h0:j=s.size
  ·rw [Bb h0] at he
   cases hv:t.atom with
   | true =>
    rw [hv] at hv1
    have hf:=JI t hv
    by_cases hx:t.txtA=s
    ·obtain ⟨q1,q2⟩:=SF (s:=s) (t:=t) ⟨hv,hx⟩
     rw [q1,q2]
     have hx':(t.txtA=s)=True:=eq_true hx
     refine Ab C8 Av (of_decide_eq_true rfl) ?_
     simp (disch:=omega) only [Ce,go_sem,Aa,h1,he,hv1,hf,hx',Tm.osv,Tm.obs,Tm.erss,Tm.fus,AG,AC,AK,A2]
    ·obtain ⟨q1,q2⟩:=no fun h=>hx h.2.2
     rw [q1,q2]
     have hx':(t.txtA=s)=False:=eq_false hx
     simp only [GW,GX]
     refine Ab C8 Av (of_decide_eq_true rfl) ?_
     simp (disch:=omega) only [Ce,go_sem,Aa,h1,he,hv1,hf,hx',Tm.erss,Tm.fus,AG,AC,AK,A2]
   | false =>
    rw [hv] at hv1
    obtain ⟨q1,q2⟩:=no fun h=>by rw [hv] at h; cases h.2.1
    rw [q1,q2]
    simp only [GW,GX]
    refine Ab C8 Av (of_decide_eq_true rfl) ?_
    simp (disch:=omega) only [Ce,go_sem,Aa,h1,he,hv1,Tm.erss,Tm.fus,AG,AC,AK,A2]
  ·rw [Be h0] at he
   obtain ⟨q1,q2⟩:=no fun h=>h0 h.1
   rw [q1,q2]
   simp only [GW,GX]
   refine Ab C8 Av (of_decide_eq_true rfl) ?_
   simp (disch:=omega) only [Ce,go_sem,Aa,h1,he,AG,AC,AK,A2]
def dotB:ByteArray:=⟨#[46]⟩
theorem EE:dotB.toList=[46]:=AZ [46]
theorem N8 {s g:ByteArray} {j:Nat} (hg:1≤g.size):Lib.occAt s.data.toList g.data.toList j=true ↔ j+g.size≤s.size∧s.extract j (j+g.size)=g:=by
 have es:s.data.toList.length=s.size:=rfl
 have eg:g.data.toList.length=g.size:=rfl
 have key:j+g.size≤s.size→(Lib.occAt s.data.toList g.data.toList j=true ↔ s.extract j (j+g.size)=g):=fun h=>by
  rw [Lib.occAt_iff_take _ _ _ (by rw [es,eg]; exact h),beq_iff_eq]
  constructor
  ·intro h2
   refine AJ ?_
   rw [toList_extract]
   unfold seg
   rw [show j+g.size-j=g.size by omega,ByteArray.toList_eq,ByteArray.toList_eq]
   exact h2
  ·intro h2
   have h3:(s.extract j (j+g.size)).toList=g.toList:=by rw [h2]
   rw [toList_extract] at h3
   unfold seg at h3
   rw [show j+g.size-j=g.size by omega,ByteArray.toList_eq,ByteArray.toList_eq] at h3
   exact h3
 constructor
 ·intro h
  rcases Lib.occAt_room h with h1 | h1
  ·rw [es,eg] at h1
   exact ⟨h1,(key h1).1 h⟩
  ·rw [h1] at eg
   simp at eg
   omega
 ·rintro ⟨h1,h2⟩
  exact (key h1).2 h2
theorem IF {s g:ByteArray} {k:Int} (hg:1≤g.size) (h:Wb s g k):Lib.indexB s g=k:=by
 rcases h with ⟨rfl,h⟩ | ⟨i,rfl,h1,h2,h3⟩
 ·refine Lib.index_none fun j _=>?_
  cases ho:Lib.occAt s.data.toList g.data.toList j with
  | false=>rfl
  | true=>obtain ⟨k1,k2⟩:=(N8 hg).1 ho; exact absurd k2 (h j k1)
 ·refine Lib.index_first ?_ ((N8 hg).2 ⟨h1,h2⟩) fun j hj=>?_
  ·show i≤s.size; omega
  ·cases ho:Lib.occAt s.data.toList g.data.toList j with
   | false=>rfl
   | true=>obtain ⟨k1,k2⟩:=(N8 hg).1 ho; exact absurd k2 (h3 j hj)
theorem LA {s:ByteArray} (h:Lib.indexB s dotB=-1):Dj s dotB=[s]:=by
 unfold Dj
 rw [Lib.countB_miss s dotB h,Lib.splitB_zero]
theorem Rc {s:ByteArray} {i:Nat} (h:Lib.indexB s dotB=i):Dj s dotB=s.extract 0 i :: Dj (s.extract (i+1) s.size) dotB:=by
 unfold Dj
 rw [Lib.countB_hit s dotB i (by decide) h,Nat.add_comm 1,Lib.splitB_hit dotB 0 _ s i h]
 rfl
theorem SI {s T:ByteArray} {c:UInt8} (hs:s.toList=c :: 46 :: T.toList) (hc:c≠46):Dj s dotB=⟨#[c]⟩ :: Dj T dotB:=by
 have hz:s.size=T.size+2:=by rw [←AA,← AA,hs]; rfl
 have hi:Lib.indexB s dotB=((1:Nat):Int):=by
  refine IF (by decide) (.inr ⟨1,rfl,?_,?_,fun j hj=>?_⟩)
  ·show 1+1≤s.size; omega
  ·refine AJ ?_
   rw [toList_extract,EE]
   unfold seg
   rw [hs]; rfl
  ·obtain rfl:j=0:=by omega
   intro e
   have e2:(s.extract 0 (0+dotB.size)).toList=dotB.toList:=by rw [e]
   rw [toList_extract,EE] at e2
   unfold seg at e2
   rw [hs] at e2
   have e3:[c]=[46]:=e2
   exact hc (yY e3).1
 rw [Rc hi]
 congr 1
 ·refine AJ ?_
  rw [toList_extract,show (⟨#[c]⟩:ByteArray).toList=[c] from AZ [c]]
  unfold seg
  rw [hs]; rfl
 ·congr 1
  refine AJ ?_
  rw [toList_extract]
  unfold seg
  rw [hs,hz]
  show T.toList.take (T.size+2-(1+1))=T.toList
  rw [show T.size+2-(1+1)=T.size by omega,← AA,yR]
theorem SJ {c:UInt8} (hc:c≠46):Dj ⟨#[c]⟩ dotB=[⟨#[c]⟩]:=by
 refine LA (IF (by decide) (.inl ⟨rfl,fun j hj=>?_⟩))
 have hj':j+1≤1:=hj
 obtain rfl:j=0:=by omega
 intro e
 have e2:((⟨#[c]⟩:ByteArray).extract 0 (0+dotB.size)).toList=dotB.toList:=by rw [e]
 rw [toList_extract,EE] at e2
 unfold seg at e2
 rw [show (⟨#[c]⟩:ByteArray).toList=[c] from AZ [c]] at e2
 have e3:[c]=[46]:=e2
 exact hc (yY e3).1
theorem PF:Dj ⟨#[]⟩ dotB=[⟨#[]⟩]:=by
 refine LA (IF (by decide) (.inl ⟨rfl,fun j hj=>?_⟩))
 have hj':j+1≤0:=hj
 omega
noncomputable def EF (p:List Int):Bool:=dec (p.length≤8)&&p.all fun k=>dec (0≤k)&&dec (k≤3)
theorem OC {p:List Int} (h:EF p=true):p.length≤8∧∀ k∈p,0≤k∧k≤3:=by
 unfold EF at h
 rw [zF,Ax,yA] at h
 refine ⟨h.1,fun k hk=>?_⟩
 have:=h.2 k hk
 rw [zF,Ax,Ax] at this
 exact this
theorem GD {k:Int} (h:0≤k∧k≤3):∃ c:UInt8,Cx k=⟨#[c]⟩∧c≠46∧(c.toNat:Int)=48+k:=by
 rcases (show k=0∨k=1∨k=2∨k=3 by omega) with rfl | rfl | rfl | rfl
 ·exact ⟨48,by kernel_rfl,by decide,rfl⟩
 ·exact ⟨49,by kernel_rfl,by decide,rfl⟩
 ·exact ⟨50,by kernel_rfl,by decide,rfl⟩
 ·exact ⟨51,by kernel_rfl,by decide,rfl⟩
theorem Fd (xs:List ByteArray) (sep:ByteArray):(C5 xs sep).toList=Cd sep.toList (xs.map (·.toList)):=by
 unfold C5
 rw [AZ,JF,ByteArray.toList_eq]
 congr 1
 exact List.map_congr_left fun x _=>(ByteArray.toList_eq x).symm
theorem FA (c:UInt8):(⟨#[c]⟩:ByteArray).toList=[c]:=AZ [c]
theorem join_one (x:ByteArray):C5 [x] dotB=x:=by
 refine AJ ?_
 rw [Fd]; rfl
theorem MZ (x y:ByteArray) (r:List ByteArray):(C5 (x :: y :: r) dotB).toList=x.toList++(46 :: (C5 (y :: r) dotB).toList):=by
 rw [Fd,Fd,EE,zD,zD,Cd]
 first | rfl | simp
theorem LB:∀ p:List Int,p≠[]→(∀ k∈p,0≤k∧k≤3)→Dj (C5 (p.map Cx) dotB) dotB=p.map Cx
 | [],h,_=>absurd rfl h
 | [k],_,h=>by
  obtain ⟨c,h1,h2,_⟩:=GD (h k (by simp))
  rw [zD,zY,join_one,h1,SJ h2]
 | k :: k' :: r,_,h=>by
  obtain ⟨c,h1,h2,_⟩:=GD (h k (by simp))
  have ih:=LB (k' :: r) (by simp) fun x hx=>h x (by simp [hx])
  rw [zD] at ih
  have e:(C5 (Cx k :: Cx k' :: r.map Cx) dotB).toList=c :: 46 :: (C5 (Cx k' :: r.map Cx) dotB).toList:=by
   rw [MZ,h1,FA]; rfl
  rw [zD,zD,SI e h2,ih,h1]
noncomputable def LC (p:List Int):ByteArray:=bif dec (p=[]) then ⟨#[45]⟩ else C5 (p.map Cx) dotB
theorem OD {p:List Int} (hp:p≠[]) (h:∀ k∈p,0≤k∧k≤3):¬ C5 (p.map Cx) dotB=⟨#[45]⟩:=by
 intro e
 have e2:(C5 (p.map Cx) dotB).toList=[45]:=by rw [e,AZ]
 cases p with
 | nil=>exact hp rfl
 | cons k r =>
  obtain ⟨c,h1,h2,h3⟩:=GD (h k (by simp))
  have hc:∃ t,(C5 ((k :: r).map Cx) dotB).toList=c :: t:=by
   cases r with
   | nil=>rw [zD,zY,join_one,h1,FA]; exact ⟨_,rfl⟩
   | cons k' r=>rw [zD,zD,MZ,h1,FA]; exact ⟨_,rfl⟩
  obtain ⟨t,ht⟩:=hc
  rw [ht] at e2
  have e3:=(yY e2).1
  subst e3
  have:=(h k (by simp)).1
  have h45:((45:UInt8).toNat:Int)=45:=rfl
  omega
noncomputable def N9 (s:ByteArray) (n:Nat):Option (Lt × Nat) :=
 bif hasB s 0 ⟨#[126]⟩ then (match Kj ⟨#[32,61,32]⟩ s n 1 with
  | none=>none
  | some (t,e)=>some (⟨false,t⟩,e))
 else (match rd s n 0 with
  | none=>none
  | some (a,e)=>bif hasB s e ⟨#[32,33,61,32]⟩ then (match rd s n (e+4) with
    | none=>none
    | some (b,e2)=>some (⟨false,.mk ⟨#[61]⟩ [a,b]⟩,e2))
   else bif hasB s e ⟨#[32,61,32]⟩ then (match rd s n (e+3) with
    | none=>none
    | some (b,e2)=>some (⟨true,.mk ⟨#[61]⟩ [a,b]⟩,e2))
   else some (⟨true,a⟩,e))
noncomputable def Lt.fmt (l:Lt):List UInt8:=bif l.pos then l.atom.fmtA else bif l.atom.eqn then Tm.U8 neSign l.atom.args else 126 :: l.atom.fmt
noncomputable def Lt.txt (l:Lt):ByteArray:=⟨l.fmt.toArray⟩
theorem Lt.txt_toList (l:Lt):l.txt.toList=l.fmt:=AZ _
def LE (s:ByteArray) (l:Lt):Prop:=l.atom.atom=true∧l.txt=s
theorem OE {s:ByteArray} {l:Lt}:LE s l ↔ (l.pos=true∧Ko s l.atom)∨(l.pos=false∧QY neSign s l.atom)∨(l.pos=false∧l.atom.eqn=false∧l.atom.atom=true∧l.atom.valid=true∧s.toList=126 :: l.atom.fmt):=by
 obtain ⟨p,t⟩:=l
 constructor
 ·rintro ⟨h1,rfl⟩
  have h1:t.atom=true:=h1
  cases p with
  | true=>exact .inl ⟨rfl,h1,AJ (by rw [Tm.BI,Lt.txt_toList]; rfl)⟩
  | false =>
   right
   rw [Lt.txt_toList]
   unfold Lt.fmt
   rcases Tm.E1 h1 with ⟨h2,h3⟩ | ⟨a,b,rfl,h2,h3,h4,h5⟩
   ·exact .inr ⟨rfl,h2,h1,h3,by simp only [h2,cond_false]⟩
   ·obtain ⟨g1,g2⟩:=F8 h5
    refine .inl ⟨rfl,a,b,rfl,by unfold Tm.valid; rw [g1,h3]; rfl,by unfold Tm.valid; rw [g2,h4]; rfl,h1,?_⟩
    rw [Lt.txt_toList]
    unfold Lt.fmt
    simp only [h2,cond_false,cond_true]; rfl
 ·rintro (⟨hp,h1,h2⟩ | ⟨hp,a,b,ht,h1,h2,h3,h4⟩ | ⟨hp,h1,h2,h3,h4⟩)
  ·refine ⟨h1,AJ ?_⟩
   rw [Lt.txt_toList,← h2,Tm.BI]
   unfold Lt.fmt
   have hp:p=true:=hp
   rw [hp]; rfl
  ·have hp:p=false:=hp
   have ht:t=.mk ⟨#[61]⟩ [a,b]:=ht
   subst hp; subst ht
   refine ⟨h3,AJ ?_⟩
   have he:(Tm.mk ⟨#[61]⟩ [a,b]).eqn=true:=by unfold Tm.eqn; exact Bb rfl
   rw [Lt.txt_toList,h4]
   unfold Lt.fmt
   simp only [he,cond_false,cond_true]; rfl
  ·have hp:p=false:=hp
   subst hp
   refine ⟨h2,AJ ?_⟩
   have h1:t.eqn=false:=h1
   rw [Lt.txt_toList,h4]
   unfold Lt.fmt
   simp only [h1,cond_false]
theorem Us {s:ByteArray} {t:Tm} (h:Ko s t):hasB s 0 ⟨#[126]⟩=false:=by
 rcases GC.1 h with ⟨a,b,rfl,h1,h2,_,h4⟩ | ⟨_,_,h1,h2⟩
 ·obtain ⟨c,r,e,hc⟩:=L8 (Al h1)
  rw [HY (c:=c) (r:=r++eqSign++b.fmt) (by rw [h4,e]; simp),Be hc]
 ·obtain ⟨c,r,e,hc⟩:=L8 (Al h1)
  rw [HY (c:=c) (r:=r) (by rw [h2,e]),Be hc]
theorem Rd {g:List UInt8} {s:ByteArray} {t:Tm} (h:QY g s t):hasB s 0 ⟨#[126]⟩=false:=by
 obtain ⟨a,b,rfl,h1,h2,_,h4⟩:=h
 obtain ⟨c,r,e,hc⟩:=L8 (Al h1)
 rw [HY (c:=c) (r:=r++g++b.fmt) (by rw [h4,e]; simp),Be hc]
theorem OF {g:List UInt8} {gb s:ByteArray} {a b:Tm} (hg:gb.toList=32 :: g) (ha:a.valid=true) (hb:b.valid=true) (hs:s.toList=a.fmt++gb.toList++b.fmt) :
  rd s (s.size+1) 0=some (a,a.fmt.length)∧hasB s a.fmt.length gb=true∧rd s (s.size+1) (a.fmt.length+gb.size)=some (b,s.size):=by
 have h0:=E4 s
 rw [hs,zN] at h0
 obtain ⟨h1,h2,h3⟩:=D3 h0 (zJ _) (zH _)
 rw [Nat.zero_add] at h1 h2 h3
 obtain ⟨k1,k2,k3⟩:=D3 h3 (zJ _) h1
 rw [AA] at k1 k2 k3
 have k2':=k2
 rw [hg] at k2'
 obtain ⟨b1,b2,_⟩:=DF k2' (by omega)
 exact ⟨DX (s:=s) a (Al ha) (s.size+1) 0 a.fmt.length (by omega) (zH _) h2 (.inr ⟨by omega,GB (.inr (.inr (.inr b2))),by rw [b2]; decide⟩) (by omega),
  (Cf (by omega)).2 ⟨k1,k2⟩,DX (s:=s) b (Al hb) (s.size+1) (a.fmt.length+gb.size) s.size (zJ _) (by omega) k3 (.inl rfl) (by omega)⟩
theorem PG {s:ByteArray} {i:Nat} (hi:i≤s.size) (h:hasB s i ⟨#[32,61,32]⟩=true):hasB s i ⟨#[32,33,61,32]⟩=false:=by
 cases k:hasB s i ⟨#[32,33,61,32]⟩ with
 | false=>rfl
 | true =>
  obtain ⟨h1,h2⟩:=(Cf hi).1 h
  obtain ⟨k1,k2⟩:=(Cf hi).1 k
  have e1:(⟨#[32,61,32]⟩:ByteArray).toList=[32,61,32]:=AZ [32,61,32]
  have e2:(⟨#[32,33,61,32]⟩:ByteArray).toList=[32,33,61,32]:=AZ [32,33,61,32]
  rw [e1] at h2
  rw [e2] at k2
  have h1:i+3≤s.size:=h1
  have k1:i+4≤s.size:=k1
  obtain ⟨_,_,h3⟩:=DF h2 h1
  obtain ⟨_,h4,_⟩:=DF h3 h1
  obtain ⟨_,_,k3⟩:=DF k2 k1
  obtain ⟨_,k4,_⟩:=DF k3 k1
  rw [h4] at k4
  exact absurd k4 (by decide)
theorem K2 {s:ByteArray} {l:Lt} (h:LE s l):N9 s (s.size+1)=some (l,s.size):=by
 have e1:(⟨#[32,61,32]⟩:ByteArray).toList=[32,61,32]:=AZ [32,61,32]
 have e2:(⟨#[32,33,61,32]⟩:ByteArray).toList=[32,33,61,32]:=AZ [32,33,61,32]
 obtain ⟨p,t⟩:=l
 rcases OE.1 h with ⟨hp,ha⟩ | ⟨hp,ha⟩ | ⟨hp,h1,h2,h3,h4⟩
 ·have hp:p=true:=hp
  subst hp
  have hh:=Us ha
  unfold N9
  rw [hh,cond_false]
  rcases GC.1 ha with ⟨a,b,ht,h1,h2,_,h4⟩ | ⟨_,_,h1,h2⟩
  ·have ht:t=.mk ⟨#[61]⟩ [a,b]:=ht
   subst ht
   obtain ⟨r1,r2,r3⟩:=OF (s:=s) (gb:=⟨#[32,61,32]⟩) e1 h1 h2 (by rw [e1]; exact h4)
   have r4:=PG (MM _ _ _ _ (zH _) r1).2.1 r2
   have r3:rd s (s.size+1) (a.fmt.length+3)=some (b,s.size):=r3
   rw [r1]
   simp only [r2,r3,r4,cond_true,cond_false]
  ·have h1:t.valid=true:=h1
   have h2:s.toList=t.fmt:=h2
   have r1:=DX (s:=s) t (Al h1) (s.size+1) 0 s.size (zJ _) (zH _) (by rw [E4,h2]) (.inl rfl) (by omega)
   rw [r1]
   simp only [L9 (s:=s) (g:=⟨#[32,61,32]⟩) (by show 0<3; omega),L9 (s:=s) (g:=⟨#[32,33,61,32]⟩) (by show 0<4; omega),cond_false]
 ·have hp:p=false:=hp
  subst hp
  have hh:=Rd ha
  obtain ⟨a,b,ht,h1,h2,_,h4⟩:=ha
  have ht:t=.mk ⟨#[61]⟩ [a,b]:=ht
  subst ht
  unfold N9
  rw [hh,cond_false]
  obtain ⟨r1,r2,r3⟩:=OF (s:=s) (gb:=⟨#[32,33,61,32]⟩) e2 h1 h2 (by rw [e2]; exact h4)
  have r3:rd s (s.size+1) (a.fmt.length+4)=some (b,s.size):=r3
  rw [r1]
  simp only [r2,r3,cond_true]
 ·have hp:p=false:=hp
  subst hp
  have h3:t.valid=true:=h3
  have h4:s.toList=126 :: t.fmt:=h4
  have hh:=HY h4
  rw [Bb rfl] at hh
  have h0:=E4 s
  rw [h4,show (126:UInt8) :: t.fmt=[126]++t.fmt from rfl] at h0
  obtain ⟨k1,k2,k3⟩:=D3 h0 (zJ _) (zH _)
  have k3:seg s 1 s.size=t.fmt:=k3
  have k1:1≤s.size:=k1
  have r1:=DX (s:=s) t (Al h3) (s.size+1) 1 s.size (zJ _) k1 k3 (.inl rfl) (by omega)
  unfold N9
  rw [hh,cond_true]
  unfold Kj
  rw [r1]
  simp only [L9 (s:=s) (g:=⟨#[32,61,32]⟩) (by show 0<3; omega),cond_false]
noncomputable def OG (s:ByteArray):Bool:=dec (∃ l,LE s l)
open Classical in
noncomputable def LF (s:ByteArray):Lt:=if h:∃ l,LE s l then h.choose else ⟨false,.mk ⟨#[]⟩ []⟩
theorem Re {s:ByteArray} {l l':Lt} (h:LE s l) (h':LE s l'):l=l':=by
 have:=(K2 h).symm.trans (K2 h')
 simp only [zE,zG] at this
 exact this.1
theorem SK {s:ByteArray} {l:Lt} (h:LE s l):OG s=true∧LF s=l:=by
 have he:∃ l,LE s l:=⟨l,h⟩
 refine ⟨Bb he,?_⟩
 unfold LF
 rw [dif_pos he]
 exact Re he.choose_spec h
theorem UA {s:ByteArray} (h:∀ l,¬ LE s l):OG s=false∧LF s=⟨false,.mk ⟨#[]⟩ []⟩:=by
 have he:¬ ∃ l,LE s l:=fun ⟨l,hl⟩=>h l hl
 refine ⟨Be he,?_⟩
 unfold LF
 rw [dif_neg he]
theorem Ut {l:Lt} (h:l.atom.atom=true):l.txt.size≤4000:=by
 rcases OE.1 (show LE l.txt l from ⟨h,rfl⟩) with ⟨_,h1⟩ | ⟨_,a,b,_,h1,h2,h3,h4⟩ | ⟨_,_,_,h1,h2⟩
 ·have:=SG h1.1
  rwa [h1.2] at this
 ·have l1:=Tm.D2 a (Al h1)
  have l2:=Tm.D2 b (Al h2)
  have n1:=AN h1
  have n2:=AN h2
  rw [←AA,h4]
  simp only [zW,neSign,zM,zV]
  omega
 ·have l1:=Tm.D2 _ (Al h1)
  have n1:=AN h1
  rw [←AA,h2,zM]; omega
theorem Na {s:ByteArray} {i j e f:Nat} {a b:Tm} (h1:rd s (s.size+1) i=some (a,e)) (h2:rd s (s.size+1) j=some (b,f)):(Tm.mk ⟨#[61]⟩ [a,b]).nodes≤2*s.size+1:=by
 have n1:=Ea _ _ _ _ h1
 have z1:=N7 _ _ _ h1
 have n2:=Ea _ _ _ _ h2
 have z2:=N7 _ _ _ h2
 rw [Tm.An]
 show 1+Tm.AQ [a,b]≤_
 rw [Tm.AQ,Tm.AQ,Tm.AQ]
 omega
theorem PH {s:ByteArray} {l:Lt} {e:Nat} (h:N9 s (s.size+1)=some (l,e)):l.atom.nodes≤2*s.size+1:=by
 unfold N9 at h
 cases h0:hasB s 0 ⟨#[126]⟩ with
 | true =>
  rw [h0,cond_true] at h
  cases h1:Kj ⟨#[32,61,32]⟩ s (s.size+1) 1 with
  | none=>rw [h1] at h; cases h
  | some p =>
   obtain ⟨t,e0⟩:=p
   rw [h1] at h
   simp only [zE,zG] at h
   obtain ⟨rfl,rfl⟩:=h
   exact OB h1 N7
 | false =>
  rw [h0,cond_false] at h
  cases h1:rd s (s.size+1) 0 with
  | none=>rw [h1] at h; cases h
  | some p =>
   obtain ⟨a,e0⟩:=p
   rw [h1] at h
   simp only at h
   have n1:=Ea _ _ _ _ h1
   have z1:=N7 _ _ _ h1
   cases hn:hasB s e0 ⟨#[32,33,61,32]⟩ with
   | true =>
    rw [hn,cond_true] at h
    cases h2:rd s (s.size+1) (e0+4) with
    | none=>rw [h2] at h; cases h
    | some p =>
     obtain ⟨b,e2⟩:=p
     rw [h2] at h
     simp only [zE,zG] at h
     obtain ⟨rfl,rfl⟩:=h
     exact Na h1 h2
   | false =>
    rw [hn,cond_false] at h
    cases hq:hasB s e0 ⟨#[32,61,32]⟩ with
    | true =>
     rw [hq,cond_true] at h
     cases h2:rd s (s.size+1) (e0+3) with
     | none=>rw [h2] at h; cases h
     | some p =>
      obtain ⟨b,e2⟩:=p
      rw [h2] at h
      simp only [zE,zG] at h
      obtain ⟨rfl,rfl⟩:=h
      exact Na h1 h2
    | false =>
     rw [hq,cond_false] at h
     simp only [zE,zG] at h
     obtain ⟨rfl,rfl⟩:=h
     show a.nodes≤_
     omega
def Em:SC:=(.seq (.reg [⟨some 1,none,.boxv 35 3 (.t 0)⟩,⟨some 2,none,.mv (.c (.bool false))⟩]) (.seq (.reg [⟨some 3,none,.faddr 1 (.t 1)⟩,⟨some 4,none,.load true 2 (.t 3)⟩,⟨some 5,none,.call 30 [(.t 4)]⟩,⟨some 2,none,.mv (.t 5)⟩]) .ret))
theorem Hh:Ar Tryz.prog 32=some ⟨6,Em,[(.tmp 2)]⟩:=by kernel_rfl
theorem AY:modes 32=⟨[],.asis,none,false⟩:=by unfold modes; rfl
def Cq:SC:=(.seq (.reg [⟨some 1,none,.boxv 35 3 (.t 0)⟩,⟨(some 2),none,(.mv (.c (.str ⟨#[]⟩)))⟩]) (.seq (.block 0 (.seq (.reg [⟨some 4,none,.faddr 0 (.t 1)⟩,⟨some 5,none,.load false 1 (.t 4)⟩,⟨some 3,none,.mv (.t 5)⟩]) (.cond (.t 3) (.seq (.reg [⟨some 6,none,.faddr 1 (.t 1)⟩,⟨some 7,none,.load true 2 (.t 6)⟩,⟨some 8,none,.call 23 [(.t 7)]⟩,⟨some 2,none,.mv (.t 8)⟩]) .ret) (.seq (.reg [⟨some 10,none,.faddr 1 (.t 1)⟩,⟨some 11,none,.load true 2 (.t 10)⟩,⟨some 12,none,.call 44 [(.t 11)]⟩,⟨some 9,none,.mv (.t 12)⟩]) (.cond (.t 9) (.seq (.dreg [[],[0],[1,0],[2,1,0],[3,2,1,0],[4,3,2,1,0],[5,4,3,2,1,0],[],[7],[8,7],[9,8,7],[10,9,8,7],[11,10,9,8,7,5,4,3,2,1,0],[6,5,4,3,2,1,0,12,11,10,9,8,7],[13,6,5,4,3,2,1,0,12,11,10,9,8,7]] [⟨some 13,none,.faddr 1 (.t 1)⟩,⟨some 14,none,.faddr 1 (.t 13)⟩,⟨some 15,none,.load false 1 (.t 14)⟩,⟨some 16,none,.iaddr 2 (.t 15) (.c (.int .i64 0))⟩,⟨some 17,none,.load true 2 (.t 16)⟩,⟨some 18,none,.call 23 [(.t 17)]⟩,⟨(some 19),none,(.bin .add false (.t 18) (.c (.str ⟨#[32,33,61,32]⟩)))⟩,⟨some 20,none,.faddr 1 (.t 1)⟩,⟨some 21,none,.faddr 1 (.t 20)⟩,⟨some 22,none,.load false 1 (.t 21)⟩,⟨some 23,none,.iaddr 2 (.t 22) (.c (.int .i64 1))⟩,⟨some 24,none,.load true 2 (.t 23)⟩,⟨some 25,none,.call 23 [(.t 24)]⟩,⟨some 26,none,.bin .add false (.t 19) (.t 25)⟩,⟨some 2,none,.mv (.t 26)⟩]) .ret) .skip))))) (.seq (.reg [⟨some 27,none,.faddr 1 (.t 1)⟩,⟨some 28,none,.load true 2 (.t 27)⟩,⟨some 29,none,.call 23 [(.t 28)]⟩,⟨(some 30),none,(.bin .add false (.c (.str ⟨#[126]⟩)) (.t 29))⟩,⟨some 2,none,.mv (.t 30)⟩]) .ret)))
theorem Ds:Ar Tryz.prog 33=some ⟨31,Cq,[(.tmp 2)]⟩:=by kernel_rfl
theorem AU:modes 33=⟨[],.asis,none,false⟩:=by unfold modes; rfl
def Bu:SC:=(.seq (.reg [⟨(some 2),none,(.alloc 35 [(.bool false),(.str ⟨#[]⟩),.nil])⟩]) (.seq (.seq (.reg [⟨some 4,none,.mv (.t 0)⟩,⟨(some 5),none,(.call 50 [(.t 4),(.c (.str ⟨#[126]⟩))])⟩]) (.cond (.t 5) (.seq (.reg [⟨some 6,none,.mv (.t 0)⟩,⟨some 7,none,.call 29 [(.t 6)]⟩,⟨(some 8),none,(.build [(.bool false),(.str ⟨#[]⟩),.nil] [(1,(2,(.t 7)))])⟩,⟨none,none,(.store 3 (.t 2) (.t 8))⟩]) .ret) .skip)) (.seq (.reg [⟨some 9,none,.mv (.t 0)⟩,⟨some 10,none,.call 26 [(.t 9)]⟩,⟨(some 3),none,(.alloc 26 [(.str ⟨#[]⟩),.nil])⟩,⟨none,none,(.store 2 (.t 3) (.t 10))⟩]) (.seq (.block 0 (.seq (.reg [⟨some 12,none,.mv (.t 0)⟩,⟨(some 13),none,(.call 50 [(.t 12),(.c (.str ⟨#[32,33,61,32]⟩))])⟩,⟨some 11,none,.mv (.t 13)⟩]) (.cond (.t 11) (.seq (.dreg [[],[],[1],[0,2,1],[3,0,2,1],[4,3,0,2,1],[5,4,3,0,2,1]] [⟨some 14,none,.load true 2 (.t 3)⟩,⟨some 15,none,.mv (.t 0)⟩,⟨some 16,none,.call 26 [(.t 15)]⟩,⟨(some 17),none,(.mkrow 26 2 [(.str ⟨#[]⟩),.nil] 2 [(0,(.t 14)),(1,(.t 16))])⟩,⟨(some 18),none,(.build [(.str ⟨#[]⟩),.nil] [(0,(1,(.c (.str ⟨#[61]⟩)))),(1,(1,(.t 17)))])⟩,⟨(some 19),none,(.build [(.bool false),(.str ⟨#[]⟩),.nil] [(1,(2,(.t 18)))])⟩,⟨none,none,(.store 3 (.t 2) (.t 19))⟩]) .ret) (.seq (.reg [⟨some 21,none,.mv (.t 0)⟩,⟨(some 22),none,(.call 50 [(.t 21),(.c (.str ⟨#[32,61,32]⟩))])⟩,⟨some 20,none,.mv (.t 22)⟩]) (.cond (.t 20) (.dreg [[],[],[1],[0,2,1],[3,0,2,1],[4,3,0,2,1]] [⟨some 23,none,.load true 2 (.t 3)⟩,⟨some 24,none,.mv (.t 0)⟩,⟨some 25,none,.call 26 [(.t 24)]⟩,⟨(some 26),none,(.mkrow 26 2 [(.str ⟨#[]⟩),.nil] 2 [(0,(.t 23)),(1,(.t 25))])⟩,⟨(some 27),none,(.build [(.str ⟨#[]⟩),.nil] [(0,(1,(.c (.str ⟨#[61]⟩)))),(1,(1,(.t 26)))])⟩,⟨none,none,(.store 2 (.t 3) (.t 27))⟩]) .skip))))) (.seq (.reg [⟨some 28,none,.load true 2 (.t 3)⟩,⟨(some 29),none,(.build [(.bool false),(.str ⟨#[]⟩),.nil] [(0,(1,(.c (.bool true)))),(1,(2,(.t 28)))])⟩,⟨none,none,(.store 3 (.t 2) (.t 29))⟩]) .ret)))))
theorem Hi:Ar Tryz.prog 34=some ⟨30,Bu,[(.cell 2 true 3)]⟩:=by kernel_rfl
theorem Bv:modes 34=⟨[],.own [none,none,some (26,2)],none,false⟩:=by unfold modes; rfl
def BF:SC:=(.seq (.reg [⟨(some 2),none,(.alloc 35 [(.bool false),(.str ⟨#[]⟩),.nil])⟩,⟨some 3,none,.mv (.c (.bool false))⟩]) (.seq (.reg [⟨some 6,none,.mv (.t 0)⟩,⟨(some 7),none,(.build [(.str ⟨#[]⟩),(.int .i64 0),(.bool false)] [(0,(1,(.t 6)))])⟩,⟨some 8,none,.boxv 51 3 (.t 7)⟩,⟨some 4,none,.mv (.t 8)⟩]) (.seq (.reg [⟨some 9,none,.mv (.t 4)⟩,⟨some 10,none,.call 34 [(.t 9)]⟩,⟨(some 5),none,(.alloc 35 [(.bool false),(.str ⟨#[]⟩),.nil])⟩,⟨none,none,(.store 3 (.t 5) (.t 10))⟩]) (.seq (.seq (.reg [⟨some 11,none,.mv (.t 4)⟩,⟨some 12,none,.call 27 [(.t 11)]⟩,⟨some 13,none,.un .not (.t 12)⟩,⟨some 14,none,.mv (.t 13)⟩,⟨(some 15),(some (14,false)),(.load true 3 (.t 5))⟩,⟨(some 16),(some (14,false)),(.call 32 [(.t 15)])⟩,⟨(some 17),(some (14,false)),(.un .not (.t 16))⟩,⟨some 18,none,.pick (.t 14) (.c (.bool true)) (.t 17)⟩,⟨some 19,none,.mv (.t 18)⟩,⟨(some 20),(some (19,false)),(.load true 3 (.t 5))⟩,⟨(some 21),(some (19,false)),(.call 33 [(.t 20)])⟩,⟨(some 22),(some (19,false)),(.mv (.t 0))⟩,⟨(some 23),(some (19,false)),(.bin .neq false (.t 21) (.t 22))⟩,⟨some 24,none,.pick (.t 19) (.c (.bool true)) (.t 23)⟩]) (.cond (.t 24) (.seq (.reg [⟨(some 25),none,(.build [(.bool false),(.str ⟨#[]⟩),.nil] [])⟩,⟨none,none,(.store 3 (.t 2) (.t 25))⟩,⟨some 3,none,.mv (.c (.bool false))⟩]) .ret) .skip)) (.seq (.reg [⟨some 26,none,.load true 3 (.t 5)⟩,⟨none,none,(.store 3 (.t 2) (.t 26))⟩,⟨some 3,none,.mv (.c (.bool true))⟩]) .ret)))))
theorem BZ:Ar Tryz.prog 14=some ⟨27,BF,[(.cell 2 true 3),(.tmp 3)]⟩:=by kernel_rfl
theorem Ai:modes 14=⟨[],.own [none,none,some (26,2),none],none,false⟩:=by unfold modes; rfl
theorem GE (x:Lt) (hn:x.atom.nodes≤1099511627776):E 32 [x.sv] []=some (.bool x.atom.atom,[]):=by
 have h:=Gi x.atom hn
 refine Ab Hh AY (of_decide_eq_true rfl) ?_
 simp (disch:=omega) only [Em,go_sem,Aa,h,AG]
theorem LG:(⟨#[32,33,61,32]⟩:ByteArray).toList=neSign:=AZ [32,33,61,32]
theorem Hf (x:Lt) (hx:x.atom.atom=true):E 33 [x.sv] []=some (.str x.txt,[]):=by
 obtain ⟨p,t⟩:=x
 have hx:t.atom=true:=hx
 cases p with
 | true =>
  have h:=JI t hx
  have e:(⟨true,t⟩:Lt).txt=t.txtA:=rfl
  rw [e]
  refine Ab Ds AU (of_decide_eq_true rfl) ?_
  simp (disch:=omega) only [Cq,go_sem,Aa,h,AC]
 | false =>
  have he:=D1 t
  rcases Tm.E1 (x:=t) hx with ⟨h1,h2⟩ | ⟨a,b,rfl,h1,h2,h3,h4⟩
  ·rw [h1] at he
   have f1:=Cb t (Al h2) (by have:=AN h2; omega)
   have z1:=Dr h2
   have z3:((1:Int)+(t.txt.size:Int)≤9223372036854775807)=True:=eq_true (by omega)
   have z2:(⟨#[126]⟩:ByteArray).size=1:=rfl
   have e:(⟨#[126]⟩:ByteArray)++t.txt=(⟨false,t⟩:Lt).txt:=AJ (by
    have e1:(⟨#[126]⟩:ByteArray).toList=[126]:=AZ [126]
    rw [B4,e1,Tm.txt_toList,Lt.txt_toList]
    unfold Lt.fmt
    simp only [h1,cond_false]; rfl)
   refine Ab Ds AU (of_decide_eq_true rfl) ?_
   simp (disch:=omega) only [Cq,go_sem,Aa,he,f1,z2,e,AE,AC]
  ·rw [h1] at he
   obtain ⟨s1,s2⟩:=F8 h4
   have va:a.valid=true:=by unfold Tm.valid; rw [s1,h2]; rfl
   have vb:b.valid=true:=by unfold Tm.valid; rw [s2,h3]; rfl
   have f1:=Cb a h2 (by have:=AN va; omega)
   have f2:=Cb b h3 (by have:=AN vb; omega)
   have z1:=Dr va
   have z2:=Dr vb
   have hs1:(a.txt++(⟨#[32,33,61,32]⟩:ByteArray)).size=a.txt.size+4:=by rw [zQ]; rfl
   have hs2:(⟨#[32,33,61,32]⟩:ByteArray).size=4:=rfl
   have ht:a.txt++⟨#[32,33,61,32]⟩++b.txt=(⟨false,.mk ⟨#[61]⟩ [a,b]⟩:Lt).txt:=by
    refine AJ ?_
    rw [B4,B4,Tm.txt_toList,Tm.txt_toList,Lt.txt_toList,LG]
    unfold Lt.fmt
    simp only [h1,cond_false,cond_true]; rfl
   have g0:([a,b].map Tm.d)[(0:Nat)]?=some [D.str a.name,D.arr (a.args.map Tm.d)]:=by rw [zD,Tm.Ga]; rfl
   have g1:([a,b].map Tm.d)[(1:Nat)]?=some [D.str b.name,D.arr (b.args.map Tm.d)]:=by rw [zD,zD,Tm.Ga b]; rfl
   have hsv:(Tm.mk ⟨#[61]⟩ [a,b]).sv=.agg [.str ⟨#[61]⟩,.arr ([a,b].map Tm.d)]:=rfl
   have hlv:(⟨false,.mk ⟨#[61]⟩ [a,b]⟩:Lt).sv=.agg [.bool false,.str ⟨#[61]⟩,.arr ([a,b].map Tm.d)]:=rfl
   rw [hsv] at he
   rw [hlv]
   obtain ⟨ds,hds⟩:∃ ds,ds=[a,b].map Tm.d:=⟨_,rfl⟩
   rw [←hds] at he g0 g1 ⊢
   refine Ab Ds AU (of_decide_eq_true rfl) ?_
   simp (disch:=omega) only [Cq,go_sem,Aa,he,g0,g1,f1,f2,hs1,hs2,ht,yN,Int.toNat_one,AE,AC]
theorem K3:(⟨false,.mk ⟨#[]⟩ []⟩:Lt).osv=.agg [.bool false,.str ⟨#[]⟩,.ref 0]:=rfl
theorem K4:(⟨false,.mk ⟨#[]⟩ []⟩:Lt).obs=[.row 26 2 []]:=rfl
def Wh (s:ByteArray) (r:Option (Lt × Nat)) (out:SV × List Ob):Prop :=
 ∃ (l:Lt) (j:Nat) (f:Bool),out=(.agg [.bool l.pos,.str l.atom.name,.ref 1],[psr s j f,.row 26 2 (l.atom.args.map Tm.o)])∧j≤s.size∧(match r with
  | some (l0,e)=>l=l0∧j=e∧f=false
  | none=>f=true)
theorem Rf (s:ByteArray) (hs:s.size≤1048576):∃ out,E 34 [.ptr 0 0] [psr s 0 false]=some out∧Wh s (N9 s (s.size+1)) out:=by
 refine AL Hi Bv (of_decide_eq_true rfl) ?_
 unfold N9
 cases h0:hasB s 0 ⟨#[126]⟩ with
 | true =>
  have ht:E 50 [.ptr 0 0,.str ⟨#[126]⟩] [psr s 0 false]=some (.bool true,[psr s 1 false]):=F6 s 0 ⟨#[126]⟩ (by show 0+1≤_; omega) (zH _) h0
  have h1s:0+1≤s.size:=((Cf (zH _)).1 h0).1
  obtain ⟨out1,h1,t,j,f,rfl,g1,g2,g3⟩:=Ur s hs 1 (by omega)
  rw [cond_true]
  simp (disch:=omega) only [Bu,go_sem,Aa,h1,ht,Ay,Af,AK]
  cases hr:Kj ⟨#[32,61,32]⟩ s (s.size+1) 1 with
  | none =>
   rw [hr] at g3
   exact ⟨_,rfl,⟨false,t⟩,j,f,rfl,g2,g3⟩
  | some p =>
   obtain ⟨a,e⟩:=p
   rw [hr] at g3
   obtain ⟨rfl,rfl,rfl⟩:=g3
   exact ⟨_,rfl,⟨false,t⟩,j,false,rfl,g2,rfl,rfl,rfl⟩
 | false =>
  have ht0:=GV s 0 ⟨#[126]⟩ (zH _) h0
  rw [cond_false]
  obtain ⟨out1,h1,t,j,f,rfl,g1,g2,g3⟩:=Fc s hs (s.size+1) 0 (zH _) (by omega)
  have ho:∀ u,(Tm.mk ⟨#[61]⟩ [t,u]).args.map Tm.o=[[OT.str t.name,.ow (t.args.map Tm.o)],[OT.str u.name,.ow (u.args.map Tm.o)]]:=fun u=>by
   show [t,u].map Tm.o=_
   rw [zD,zD,zY,Tm.H4,Tm.H4]
  cases hr:rd s (s.size+1) 0 with
  | none =>
   rw [hr] at g3
   have g3:f=true:=g3
   subst g3
   have ht1:=ID s j ⟨#[32,33,61,32]⟩
   have ht2:=ID s j ⟨#[32,61,32]⟩
   simp (disch:=omega) only [Bu,go_sem,Aa,h1,ht0,ht1,ht2,Ay,Af,AK]
   exact ⟨_,rfl,⟨true,t⟩,j,true,rfl,g2,rfl⟩
  | some p =>
   obtain ⟨a,e⟩:=p
   rw [hr] at g3
   obtain ⟨rfl,rfl,rfl⟩:=g3
   cases hn:hasB s j ⟨#[32,33,61,32]⟩ with
   | true =>
    have ht1:E 50 [.ptr 0 0,.str ⟨#[32,33,61,32]⟩] [psr s j false]=some (.bool true,[psr s (j+4) false]):=F6 s j ⟨#[32,33,61,32]⟩ (by show j+4≤_; omega) g2 hn
    have hj4:j+4≤s.size:=((Cf g2).1 hn).1
    obtain ⟨out2,h2,t2,j2,f2,rfl,k1,k2,k3⟩:=Fc s hs (s.size+1) (j+4) hj4 (by omega)
    simp only [hn,cond_true]
    simp (disch:=omega) only [Bu,go_sem,Aa,h1,h2,ht0,ht1,Ay,Af,AK]
    cases hr2:rd s (s.size+1) (j+4) with
    | none =>
     rw [hr2] at k3
     have k3:f2=true:=k3
     subst k3
     exact ⟨_,rfl,⟨false,.mk ⟨#[61]⟩ [t,t2]⟩,j2,true,by rw [ho]; rfl,k2,rfl⟩
    | some p =>
     obtain ⟨b,e⟩:=p
     rw [hr2] at k3
     obtain ⟨rfl,rfl,rfl⟩:=k3
     exact ⟨_,rfl,⟨false,.mk ⟨#[61]⟩ [t,t2]⟩,j2,false,by rw [ho]; rfl,k2,rfl,rfl,rfl⟩
   | false =>
    have ht1:=GV s j ⟨#[32,33,61,32]⟩ g2 hn
    simp only [hn,cond_false]
    cases hh:hasB s j ⟨#[32,61,32]⟩ with
    | false =>
     have ht2:=GV s j ⟨#[32,61,32]⟩ g2 hh
     simp only [hh,cond_false]
     simp (disch:=omega) only [Bu,go_sem,Aa,h1,ht0,ht1,ht2,Ay,Af,AK]
     exact ⟨_,rfl,⟨true,t⟩,j,false,rfl,g2,rfl,rfl,rfl⟩
    | true =>
     have ht2:E 50 [.ptr 0 0,.str ⟨#[32,61,32]⟩] [psr s j false]=some (.bool true,[psr s (j+3) false]):=F6 s j ⟨#[32,61,32]⟩ (by show j+3≤_; omega) g2 hh
     have hj3:j+3≤s.size:=((Cf g2).1 hh).1
     obtain ⟨out2,h2,t2,j2,f2,rfl,k1,k2,k3⟩:=Fc s hs (s.size+1) (j+3) hj3 (by omega)
     simp only [hh,cond_true]
     simp (disch:=omega) only [Bu,go_sem,Aa,h1,h2,ht0,ht1,ht2,Ay,Af,AK]
     cases hr2:rd s (s.size+1) (j+3) with
     | none =>
      rw [hr2] at k3
      have k3:f2=true:=k3
      subst k3
      exact ⟨_,rfl,⟨true,.mk ⟨#[61]⟩ [t,t2]⟩,j2,true,by rw [ho]; rfl,k2,rfl⟩
     | some p =>
      obtain ⟨b,e⟩:=p
      rw [hr2] at k3
      obtain ⟨rfl,rfl,rfl⟩:=k3
      exact ⟨_,rfl,⟨true,.mk ⟨#[61]⟩ [t,t2]⟩,j2,false,by rw [ho]; rfl,k2,rfl,rfl,rfl⟩
theorem Cg (s:ByteArray) (hs:s.size≤1048576):E 14 [.str s] []=some (.tup [(LF s).osv,.bool (OG s)],(LF s).obs):=by
 obtain ⟨out,h1,t,j,f,rfl,h3,h4⟩:=Rf s hs
 have h1:E 34 [.ptr 0 0] [.box 51 [.str s,.int .i64 0,.bool false]]=some (.agg [.bool t.pos,.str t.atom.name,.ref 1],[psr s j f,.row 26 2 (t.atom.args.map Tm.o)]):=h1
 cases hr:N9 s (s.size+1) with
 | none =>
  rw [hr] at h4
  have h4:f=true:=h4
  subst h4
  have he:=N4 s j
  obtain ⟨q1,q2⟩:=UA (s:=s) fun u hu=>by rw [K2 hu] at hr; cases hr
  rw [q1,q2]
  simp only [K3,K4]
  refine Ab BZ Ai (of_decide_eq_true rfl) ?_
  simp (disch:=omega) only [BF,go_sem,Aa,h1,he,AY,AU,Bv,A2]
 | some p =>
  obtain ⟨t0,e⟩:=p
  rw [hr] at h4
  obtain ⟨rfl,rfl,rfl⟩:=h4
  have hn:=PH hr
  have he:=N5 s j
  have hv1:=GE t (by omega)
  have no:¬ (j=s.size∧t.atom.atom=true∧t.txt=s)→OG s=false∧LF s=⟨false,.mk ⟨#[]⟩ []⟩:=fun h=>UA fun u hu=>by
   have:=K2 hu
   rw [hr] at this
   simp only [zE,zG] at this
   obtain ⟨rfl,rfl⟩:=this
   exact h ⟨rfl,hu.1,hu.2⟩
  by_cases h0:j=s.size
  ·rw [Bb h0] at he
   cases hv:t.atom.atom with
   | true =>
    rw [hv] at hv1
    have hf:=Hf t hv
    by_cases hx:t.txt=s
    ·obtain ⟨q1,q2⟩:=SK (s:=s) (l:=t) ⟨hv,hx⟩
     rw [q1,q2]
     have hx':(t.txt=s)=True:=eq_true hx
     refine Ab BZ Ai (of_decide_eq_true rfl) ?_
     simp (disch:=omega) only [BF,go_sem,Aa,h1,he,hv1,hf,hx',Lt.osv,Lt.obs,Tm.erss,Tm.fus,AY,AU,Bv,A2]
    ·obtain ⟨q1,q2⟩:=no fun h=>hx h.2.2
     rw [q1,q2]
     have hx':(t.txt=s)=False:=eq_false hx
     simp only [K3,K4]
     refine Ab BZ Ai (of_decide_eq_true rfl) ?_
     simp (disch:=omega) only [BF,go_sem,Aa,h1,he,hv1,hf,hx',Tm.erss,Tm.fus,AY,AU,Bv,A2]
   | false =>
    rw [hv] at hv1
    obtain ⟨q1,q2⟩:=no fun h=>by rw [hv] at h; cases h.2.1
    rw [q1,q2]
    simp only [K3,K4]
    refine Ab BZ Ai (of_decide_eq_true rfl) ?_
    simp (disch:=omega) only [BF,go_sem,Aa,h1,he,hv1,Tm.erss,Tm.fus,AY,AU,Bv,A2]
  ·rw [Be h0] at he
   obtain ⟨q1,q2⟩:=no fun h=>h0 h.1
   rw [q1,q2]
   simp only [K3,K4]
   refine Ab BZ Ai (of_decide_eq_true rfl) ?_
   simp (disch:=omega) only [BF,go_sem,Aa,h1,he,AY,AU,Bv,A2]
def Eb:SC:=(.seq (.reg [⟨some 2,none,.mv (.c (.int .i64 0))⟩]) (.seq (.reg [⟨some 3,none,.mv (.c (.int .i64 0))⟩]) (.seq (.seq (.dreg [[],[0],[1,0],[2,1,0],[],[4],[5,4],[6,5,4],[7,6,5,4],[3,2,1,0,8,7,6,5,4]] [⟨some 4,none,.mv (.t 0)⟩,⟨some 5,none,.nilchk (.t 4)⟩,⟨some 6,none,.faddr 1 (.t 5)⟩,⟨some 7,none,.load false 1 (.t 6)⟩,⟨some 8,none,.mv (.t 0)⟩,⟨some 9,none,.nilchk (.t 8)⟩,⟨some 10,none,.faddr 0 (.t 9)⟩,⟨some 11,none,.load false 1 (.t 10)⟩,⟨some 12,none,.len false (.t 11)⟩,⟨some 13,none,.bin .lss false (.t 7) (.t 12)⟩]) (.cond (.t 13) (.dreg [[],[0],[1,0],[2,1,0],[],[4],[5,4],[6,5,4],[3,2,1,0,7,6,5,4],[8,3,2,1,0,7,6,5,4],[9,8,3,2,1,0,7,6,5,4],[10,9,8,3,2,1,0,7,6,5,4]] [⟨some 14,none,.mv (.t 0)⟩,⟨some 15,none,.nilchk (.t 14)⟩,⟨some 16,none,.faddr 0 (.t 15)⟩,⟨some 17,none,.load false 1 (.t 16)⟩,⟨some 18,none,.mv (.t 0)⟩,⟨some 19,none,.nilchk (.t 18)⟩,⟨some 20,none,.faddr 1 (.t 19)⟩,⟨some 21,none,.load false 1 (.t 20)⟩,⟨some 22,none,.iaddr 1 (.t 17) (.t 21)⟩,⟨some 23,none,.load false 1 (.t 22)⟩,⟨some 24,none,.conv .i64 (.t 23)⟩,⟨some 3,none,.mv (.t 24)⟩]) .skip)) (.seq (.reg [⟨some 25,none,.mv (.t 0)⟩,⟨some 26,none,.nilchk (.t 25)⟩,⟨some 27,none,.faddr 1 (.t 26)⟩,⟨some 28,none,.load false 1 (.t 27)⟩,⟨some 29,none,.bin .add false (.t 28) (.c (.int .i64 1))⟩,⟨some 30,none,.nilchk (.t 25)⟩,⟨some 31,none,.faddr 1 (.t 30)⟩,⟨none,none,(.store 1 (.t 31) (.t 29))⟩]) (.seq (.reg [⟨some 32,none,.mv (.t 0)⟩,⟨some 33,none,.mv (.t 0)⟩,⟨some 34,none,.nilchk (.t 33)⟩,⟨some 35,none,.faddr 2 (.t 34)⟩,⟨some 36,none,.load false 1 (.t 35)⟩,⟨some 37,none,.bin .mul false (.t 36) (.c (.int .u64 6364136223846793005))⟩,⟨some 38,none,.mv (.t 3)⟩,⟨some 39,none,.conv .u64 (.t 38)⟩,⟨some 40,none,.bin .add false (.t 37) (.t 39)⟩,⟨some 41,none,.bin .add false (.t 40) (.c (.int .u64 892892))⟩,⟨some 42,none,.nilchk (.t 32)⟩,⟨some 43,none,.faddr 2 (.t 42)⟩,⟨none,none,(.store 1 (.t 43) (.t 41))⟩]) (.seq (.seq (.dreg [[],[0],[1,0],[2,1,0],[],[4],[5,4],[6,5,4],[7,6,5,4],[3,2,1,0,8,7,6,5,4]] [⟨some 44,none,.mv (.t 0)⟩,⟨some 45,none,.nilchk (.t 44)⟩,⟨some 46,none,.faddr 1 (.t 45)⟩,⟨some 47,none,.load false 1 (.t 46)⟩,⟨some 48,none,.mv (.t 0)⟩,⟨some 49,none,.nilchk (.t 48)⟩,⟨some 50,none,.faddr 0 (.t 49)⟩,⟨some 51,none,.load false 1 (.t 50)⟩,⟨some 52,none,.len false (.t 51)⟩,⟨some 53,none,.bin .leq false (.t 47) (.t 52)⟩]) (.cond (.t 53) (.seq (.reg [⟨some 54,none,.mv (.t 3)⟩,⟨some 2,none,.mv (.t 54)⟩]) .ret) .skip)) (.seq (.reg [⟨some 55,none,.mv (.t 0)⟩,⟨some 56,none,.nilchk (.t 55)⟩,⟨some 57,none,.faddr 2 (.t 56)⟩,⟨some 58,none,.load false 1 (.t 57)⟩,⟨some 59,none,.bin .shr false (.t 58) (.c (.int .u64 40))⟩,⟨some 60,none,.bin .and false (.t 59) (.c (.int .u64 255))⟩,⟨some 61,none,.conv .i64 (.t 60)⟩,⟨some 2,none,.mv (.t 61)⟩]) .ret)))))))
theorem FS:Ar Tryz.prog 58=some ⟨62,Eb,[(.tmp 2)]⟩:=by kernel_rfl
theorem Da:modes 58=⟨[],.asis,none,false⟩:=by unfold modes; rfl
def Db:SC:=(.seq (.reg [⟨some 4,none,.mv (.c (.int .i64 0))⟩]) (.seq (.seq (.reg [⟨some 6,none,.mv (.t 1)⟩,⟨some 7,none,.bin .leq false (.t 6) (.c (.int .i64 1))⟩]) (.cond (.t 7) (.seq (.reg [⟨some 4,none,.mv (.c (.int .i64 0))⟩]) .ret) .skip)) (.seq (.reg [⟨some 8,none,.mv (.t 0)⟩,⟨some 9,none,.call 58 [(.t 8)]⟩,⟨some 5,none,.mv (.t 9)⟩]) (.seq (.seq (.reg [⟨some 10,none,.mv (.t 1)⟩,⟨some 11,none,.bin .gtr false (.t 10) (.c (.int .i64 200))⟩]) (.cond (.t 11) (.reg [⟨some 12,none,.mv (.t 5)⟩,⟨some 13,none,.bin .mul false (.t 12) (.c (.int .i64 256))⟩,⟨some 14,none,.mv (.t 0)⟩,⟨some 15,none,.call 58 [(.t 14)]⟩,⟨some 16,none,.bin .add false (.t 13) (.t 15)⟩,⟨some 5,none,.mv (.t 16)⟩]) .skip)) (.seq (.reg [⟨some 17,none,.mv (.t 5)⟩,⟨some 18,none,.mv (.t 1)⟩,⟨some 19,none,.bin .rem false (.t 17) (.t 18)⟩,⟨some 4,none,.mv (.t 19)⟩]) .ret)))))
theorem Ec:Ar Tryz.prog 36=some ⟨20,Db,[(.tmp 4)]⟩:=by kernel_rfl
theorem Ac:modes 36=⟨[],.asis,none,false⟩:=by unfold modes; rfl
def GF:SC:=(.seq (.reg [⟨some 4,none,.mv (.c (.bool false))⟩]) (.seq (.reg [⟨some 5,none,.mv (.t 0)⟩,⟨some 6,none,.mv (.t 1)⟩,⟨some 7,none,.call 36 [(.t 5),(.t 6)]⟩,⟨some 8,none,.bin .eql false (.t 7) (.c (.int .i64 0))⟩,⟨some 4,none,.mv (.t 8)⟩]) .ret))
theorem JJ:Ar Tryz.prog 37=some ⟨9,GF,[(.tmp 4)]⟩:=by kernel_rfl
theorem A7:modes 37=⟨[],.asis,none,false⟩:=by unfold modes; rfl
def Hg:SC:=(.seq (.reg [⟨(some 4),none,(.mv (.c (.str ⟨#[]⟩)))⟩]) (.seq (.reg [⟨some 5,none,.mv (.t 1)⟩,⟨some 6,none,.mv (.t 0)⟩,⟨some 7,none,.mv (.t 1)⟩,⟨some 8,none,.len false (.t 7)⟩,⟨some 9,none,.call 36 [(.t 6),(.t 8)]⟩,⟨some 10,none,.iaddr 1 (.t 5) (.t 9)⟩,⟨some 11,none,.load false 1 (.t 10)⟩,⟨some 4,none,.mv (.t 11)⟩]) .ret))
theorem Kq:Ar Tryz.prog 88=some ⟨12,Hg,[(.tmp 4)]⟩:=by kernel_rfl
theorem AS:modes 88=⟨[],.asis,none,false⟩:=by unfold modes; rfl
def FB:SC:=(.seq (.reg [⟨some 4,none,.mv (.c (.int .i64 0))⟩]) (.seq (.reg [⟨some 5,none,.mv (.t 1)⟩,⟨some 6,none,.mv (.t 0)⟩,⟨some 7,none,.mv (.t 1)⟩,⟨some 8,none,.len false (.t 7)⟩,⟨some 9,none,.call 36 [(.t 6),(.t 8)]⟩,⟨some 10,none,.iaddr 1 (.t 5) (.t 9)⟩,⟨some 11,none,.load false 1 (.t 10)⟩,⟨some 4,none,.mv (.t 11)⟩]) .ret))
theorem IG:Ar Tryz.prog 35=some ⟨12,FB,[(.tmp 4)]⟩:=by kernel_rfl
theorem CJ:modes 35=⟨[],.asis,none,false⟩:=by unfold modes; rfl
theorem Wi {α:Type} {a:α} {Q:α→Prop}:(∃ out,a=out∧Q out)=Q a:=propext ⟨fun ⟨o,h,q⟩=>by subst h; exact q,fun q=>⟨a,rfl,q⟩⟩
attribute [go_sem] Wi
abbrev by_ (b:Int):List D:=[D.byte b]
def Bytes (l:List Int):Prop:=∀ b∈l,0≤b∧b≤255
abbrev cur (l:List Int) (p s:Int):Ob:=.box 57 [.arr (l.map by_),.int .i64 p,.int .u64 s]
theorem VA (a:Int):0≤bits .and .u64 a 255∧bits .and .u64 a 255≤255:=by
 have h:(BitVec.ofInt 64 a &&& BitVec.ofInt 64 255).toNat≤255:=by
  rw [BitVec.toNat_and]
  exact Nat.and_le_right
 have e:bits .and .u64 a 255=(((BitVec.ofInt 64 a &&& BitVec.ofInt 64 255).toNat:Nat):Int):=by
  show IntKind.u64.wrap _=_
  refine NK ⟨?_,?_⟩
  ·show (0:Int)≤_; omega
  ·show _≤(18446744073709551615:Int)
   have:(BitVec.ofInt 64 a &&& BitVec.ofInt 64 255).toNat≤255:=h
   show (((BitVec.ofInt 64 a &&& BitVec.ofInt 64 255).toNat:Nat):Int)≤_
   omega
 rw [e]
 omega
theorem NA (l:List Int) (hl:Bytes l) (hn:l.length≤1099511627776) (p s:Int) (hp0:0≤p) (hp:p≤1099511627776):∃ v s',E 58 [.ptr 0 0] [cur l p s]=some (.int .i64 v,[cur l (p+1) s'])∧0≤v∧v≤255:=by
 obtain ⟨Q,hQ⟩:∃ Q:SV × List Ob→Prop,Q=fun out=>∃ v s',out=(.int .i64 v,[cur l (p+1) s'])∧0≤v∧v≤255:=⟨_,rfl⟩
 suffices h:∃ out,E 58 [.ptr 0 0] [cur l p s]=some out∧Q out by
  obtain ⟨out,h1,h2⟩:=h
  rw [hQ] at h2
  obtain ⟨v,s',rfl,h3⟩:=h2
  exact ⟨v,s',h1,h3⟩
 by_cases hlt:p<l.length
 ·have hg:=get_at by_ (show p.toNat<l.length by omega)
  have hb:=hl _ (zL (show p.toNat<l.length by omega))
  have hi:dec (inK .i64 l[p.toNat])=true:=Fa (by omega) (by omega)
  have h1:(p<(l.length:Int))=True:=eq_true (by omega)
  have h2:(p+1≤(l.length:Int))=True:=eq_true (by omega)
  refine AL FS Da (of_decide_eq_true rfl) ?_
  simp (disch:=omega) only [Eb,go_sem,Aa,hg,hi,h1,h2]
  rw [hQ]
  exact ⟨_,_,rfl,hb⟩
 ·have h1:(p<(l.length:Int))=False:=eq_false (by omega)
  have h2:(p+1≤(l.length:Int))=False:=eq_false (by omega)
  have hb:=fun a=>VA a
  have hi:∀ a,dec (inK .i64 (bits .and .u64 a 255))=true:=fun a=>Fa (by have:=hb a; omega) (by have:=hb a; omega)
  refine AL FS Da (of_decide_eq_true rfl) ?_
  simp (disch:=omega) only [Eb,go_sem,Aa,hi,h1,h2]
  rw [hQ]
  exact ⟨_,_,rfl,hb _⟩
theorem EN (l:List Int) (hl:Bytes l) (hn:l.length≤1099511627776) (n:Int) (h1:1≤n) (h2:n≤200) (p s:Int) (hp0:0≤p) (hp:p≤1099511627776):∃ v p' s',E 36 [.ptr 0 0,.int .i64 n] [cur l p s]=some (.int .i64 v,[cur l p' s'])∧(0≤v∧v<n)∧p≤p'∧p'≤p+1:=by
 by_cases hn1:n≤1
 ·refine ⟨0,p,s,?_,by omega,by omega,by omega⟩
  have q1:(n≤1)=True:=eq_true hn1
  refine Ab Ec Ac (of_decide_eq_true rfl) ?_
  simp (disch:=omega) only [Db,go_sem,Aa,q1]
 ·obtain ⟨v,s',hv,hv1,hv2⟩:=NA l hl hn p s hp0 hp
  have hm1:=Int.emod_nonneg v (show n≠0 by omega)
  have hm2:=Int.emod_lt_of_pos v (show 0<n by omega)
  have hm3:v.tmod n=v % n:=Int.tmod_eq_emod_of_nonneg hv1
  refine ⟨v.tmod n,p+1,s',?_,by omega,by omega,by omega⟩
  have q1:(n≤1)=False:=eq_false hn1
  have q2:(200<n)=False:=eq_false (by omega)
  have q3:(n=0)=False:=eq_false (by omega)
  refine Ab Ec Ac (of_decide_eq_true rfl) ?_
  simp (disch:=omega) only [Db,go_sem,Aa,q1,q2,q3,hv,Da]
theorem Jq (l:List Int) (hl:Bytes l) (hn:l.length≤1099511627776) (n:Int) (h1:1≤n) (h2:n≤200) (p s:Int) (hp0:0≤p) (hp:p≤1099511627776):∃ b p' s',E 37 [.ptr 0 0,.int .i64 n] [cur l p s]=some (.bool b,[cur l p' s'])∧p≤p'∧p'≤p+1:=by
 obtain ⟨v,p',s',hv,_,h3,h4⟩:=EN l hl hn n h1 h2 p s hp0 hp
 refine ⟨dec (v=0),p',s',?_,h3,h4⟩
 refine Ab JJ A7 (of_decide_eq_true rfl) ?_
 simp (disch:=omega) only [GF,go_sem,Aa,hv,Ac]
theorem Uu (l:List Int) (hl:Bytes l) (hn:l.length≤1099511627776) (xs:List ByteArray) (h1:1≤xs.length) (h2:xs.length≤200) (p s:Int) (hp0:0≤p) (hp:p≤1099511627776):∃ x p' s',E 88 [.ptr 0 0,.arr (xs.map fun s=>[D.str s])] [cur l p s]=some (.str x,[cur l p' s'])∧x∈xs∧p≤p'∧p'≤p+1:=by
 obtain ⟨v,p',s',hv,⟨hv0,hv1⟩,h3,h4⟩:=EN l hl hn xs.length (by omega) (by omega) p s hp0 hp
 have hg:=get_at (fun s=>[D.str s]) (show v.toNat<xs.length by omega)
 refine ⟨xs[v.toNat],p',s',?_,zL _,h3,h4⟩
 refine Ab Kq AS (of_decide_eq_true rfl) ?_
 simp (disch:=omega) only [Hg,go_sem,Aa,hv,hg,Ac]
theorem Qt (l:List Int) (hl:Bytes l) (hn:l.length≤1099511627776) (xs:List Int) (h1:1≤xs.length) (h2:xs.length≤200) (p s:Int) (hp0:0≤p) (hp:p≤1099511627776):∃ x p' s',E 35 [.ptr 0 0,.arr (xs.map fun n=>[D.int n])] [cur l p s]=some (.int .i64 x,[cur l p' s'])∧x∈xs∧p≤p'∧p'≤p+1:=by
 obtain ⟨v,p',s',hv,⟨hv0,hv1⟩,h3,h4⟩:=EN l hl hn xs.length (by omega) (by omega) p s hp0 hp
 have hg:=get_at (fun n=>[D.int n]) (show v.toNat<xs.length by omega)
 refine ⟨xs[v.toNat],p',s',?_,zL _,h3,h4⟩
 refine Ab IG CJ (of_decide_eq_true rfl) ?_
 simp (disch:=omega) only [FB,go_sem,Aa,hv,hg,Ac]
def Ch:SC:=(.seq (.reg [⟨(some 4),none,(.alloc 26 [(.str ⟨#[]⟩),.nil])⟩]) (.seq (.seq (.reg [⟨some 5,none,.mv (.t 1)⟩,⟨some 6,none,.bin .leq false (.t 5) (.c (.int .i64 1))⟩,⟨some 7,none,.mv (.t 6)⟩,⟨(some 8),(some (7,false)),(.mv (.t 0))⟩,⟨(some 9),(some (7,false)),(.call 37 [(.t 8),(.c (.int .i64 3))])⟩,⟨some 10,none,.pick (.t 7) (.c (.bool true)) (.t 9)⟩]) (.cond (.t 10) (.seq (.reg [⟨some 11,none,.mv (.t 0)⟩,⟨(some 12),none,(.mkrow 9 1 [(.str ⟨#[]⟩)] 7 [(0,(.c (.str ⟨#[88]⟩))),(1,(.c (.str ⟨#[89]⟩))),(2,(.c (.str ⟨#[90]⟩))),(3,(.c (.str ⟨#[97]⟩))),(4,(.c (.str ⟨#[98]⟩))),(5,(.c (.str ⟨#[88]⟩))),(6,(.c (.str ⟨#[97]⟩)))])⟩,⟨some 13,none,.call 88 [(.t 11),(.t 12)]⟩,⟨(some 14),none,(.build [(.str ⟨#[]⟩),.nil] [(0,(1,(.t 13)))])⟩,⟨none,none,(.store 2 (.t 4) (.t 14))⟩]) .ret) .skip)) (.seq (.seq (.reg [⟨some 15,none,.mv (.t 0)⟩,⟨some 16,none,.call 37 [(.t 15),(.c (.int .i64 2))]⟩]) (.cond (.t 16) (.seq (.reg [⟨some 17,none,.mv (.t 0)⟩,⟨some 18,none,.mv (.t 1)⟩,⟨some 19,none,.bin .sub false (.t 18) (.c (.int .i64 1))⟩,⟨some 20,none,.call 91 [(.t 17),(.t 19)]⟩,⟨(some 21),none,(.mkrow 26 2 [(.str ⟨#[]⟩),.nil] 1 [(0,(.t 20))])⟩,⟨(some 22),none,(.build [(.str ⟨#[]⟩),.nil] [(0,(1,(.c (.str ⟨#[102]⟩)))),(1,(1,(.t 21)))])⟩,⟨none,none,(.store 2 (.t 4) (.t 22))⟩]) .ret) .skip)) (.seq (.reg [⟨some 23,none,.mv (.t 0)⟩,⟨some 24,none,.mv (.t 1)⟩,⟨some 25,none,.bin .sub false (.t 24) (.c (.int .i64 1))⟩,⟨some 26,none,.call 91 [(.t 23),(.t 25)]⟩,⟨some 27,none,.mv (.t 0)⟩,⟨some 28,none,.mv (.t 1)⟩,⟨some 29,none,.bin .sub false (.t 28) (.c (.int .i64 1))⟩,⟨some 30,none,.call 91 [(.t 27),(.t 29)]⟩,⟨(some 31),none,(.mkrow 26 2 [(.str ⟨#[]⟩),.nil] 2 [(0,(.t 26)),(1,(.t 30))])⟩,⟨(some 32),none,(.build [(.str ⟨#[]⟩),.nil] [(0,(1,(.c (.str ⟨#[103]⟩)))),(1,(1,(.t 31)))])⟩,⟨none,none,(.store 2 (.t 4) (.t 32))⟩]) .ret))))
theorem CK:Ar Tryz.prog 91=some ⟨33,Ch,[(.cell 4 true 2)]⟩:=by kernel_rfl
theorem AH:modes 91=⟨[],.half [none,some (26,2)],none,false⟩:=by unfold modes; rfl
def FT:SC:=(.seq (.reg [⟨(some 2),none,(.alloc 26 [(.str ⟨#[]⟩),.nil])⟩]) (.seq (.reg [⟨some 3,none,.mv (.t 0)⟩,⟨some 4,none,.mv (.t 0)⟩,⟨some 5,none,.call 36 [(.t 4),(.c (.int .i64 3))]⟩,⟨some 6,none,.bin .add false (.c (.int .i64 1)) (.t 5)⟩,⟨some 7,none,.call 91 [(.t 3),(.t 6)]⟩,⟨none,none,(.store 2 (.t 2) (.t 7))⟩]) .ret))
theorem Jr:Ar Tryz.prog 57=some ⟨8,FT,[(.cell 2 true 2)]⟩:=by kernel_rfl
theorem As:modes 57=⟨[],.half [none,some (26,2)],none,false⟩:=by unfold modes; rfl
def BD:SC:=(.seq (.reg [⟨(some 2),none,(.alloc 26 [(.str ⟨#[]⟩),.nil])⟩]) (.seq (.seq (.reg [⟨some 3,none,.mv (.t 0)⟩,⟨some 4,none,.call 36 [(.t 3),(.c (.int .i64 8))]⟩]) (.block 0 (.seq (.seq (.reg [⟨some 6,none,.bin .eql false (.t 4) (.c (.int .i64 0))⟩,⟨some 5,none,.mv (.t 6)⟩]) (.cond (.t 5) .skip (.reg [⟨some 7,none,.bin .eql false (.t 4) (.c (.int .i64 1))⟩,⟨some 5,none,.mv (.t 7)⟩]))) (.cond (.t 5) (.seq (.reg [⟨some 8,none,.mv (.t 0)⟩,⟨some 9,none,.call 57 [(.t 8)]⟩,⟨some 10,none,.mv (.t 0)⟩,⟨some 11,none,.call 57 [(.t 10)]⟩,⟨(some 12),none,(.mkrow 26 2 [(.str ⟨#[]⟩),.nil] 2 [(0,(.t 9)),(1,(.t 11))])⟩,⟨(some 13),none,(.build [(.str ⟨#[]⟩),.nil] [(0,(1,(.c (.str ⟨#[61]⟩)))),(1,(1,(.t 12)))])⟩,⟨none,none,(.store 2 (.t 2) (.t 13))⟩]) .ret) (.seq (.reg [⟨some 15,none,.bin .eql false (.t 4) (.c (.int .i64 2))⟩,⟨some 14,none,.mv (.t 15)⟩]) (.cond (.t 14) (.seq (.reg [⟨(some 16),none,(.build [(.str ⟨#[]⟩),.nil] [(0,(1,(.c (.str ⟨#[114]⟩))))])⟩,⟨none,none,(.store 2 (.t 2) (.t 16))⟩]) .ret) (.seq (.seq (.reg [⟨some 18,none,.bin .eql false (.t 4) (.c (.int .i64 3))⟩,⟨some 17,none,.mv (.t 18)⟩]) (.cond (.t 17) .skip (.reg [⟨some 19,none,.bin .eql false (.t 4) (.c (.int .i64 4))⟩,⟨some 17,none,.mv (.t 19)⟩]))) (.cond (.t 17) (.seq (.reg [⟨some 20,none,.mv (.t 0)⟩,⟨some 21,none,.call 91 [(.t 20),(.c (.int .i64 2))]⟩,⟨some 22,none,.mv (.t 0)⟩,⟨some 23,none,.call 91 [(.t 22),(.c (.int .i64 2))]⟩,⟨(some 24),none,(.mkrow 26 2 [(.str ⟨#[]⟩),.nil] 2 [(0,(.t 21)),(1,(.t 23))])⟩,⟨(some 25),none,(.build [(.str ⟨#[]⟩),.nil] [(0,(1,(.c (.str ⟨#[113]⟩)))),(1,(1,(.t 24)))])⟩,⟨none,none,(.store 2 (.t 2) (.t 25))⟩]) .ret) .skip)))))))) (.seq (.reg [⟨some 26,none,.mv (.t 0)⟩,⟨some 27,none,.call 91 [(.t 26),(.c (.int .i64 2))]⟩,⟨(some 28),none,(.mkrow 26 2 [(.str ⟨#[]⟩),.nil] 1 [(0,(.t 27))])⟩,⟨(some 29),none,(.build [(.str ⟨#[]⟩),.nil] [(0,(1,(.c (.str ⟨#[112]⟩)))),(1,(1,(.t 28)))])⟩,⟨none,none,(.store 2 (.t 2) (.t 29))⟩]) .ret)))
theorem BT:Ar Tryz.prog 68=some ⟨30,BD,[(.cell 2 true 2)]⟩:=by kernel_rfl
theorem Bf:modes 68=⟨[],.half [none,some (26,2)],none,false⟩:=by unfold modes; rfl
def Tm.oh (x:Tm):List OT:=[.str x.name,.ow (x.args.map Tm.osh)]
theorem Tm.SL (x:Tm):x.oh=[.str x.name,.ow (x.args.map Tm.osh)]:=rfl
theorem Tm.OH:∀ xs:List Tm,OT.Cw (xs.map Tm.osh)=xs.map Tm.osh
 | []=>rfl
 | x :: xs=>by rw [zD,Tm.Lz]; simp only [OT.Cw,OT.IZ,OT.half,Tm.OH xs]
theorem Tm.Qu:∀ xs:List Tm,OT.AP (xs.map Tm.oh)=true
 | []=>rfl
 | x :: xs=>by rw [zD,Tm.SL]; simp only [OT.AP,OT.Ej,OT.full,Tm.L1,Tm.Qu xs,zR]
theorem Tm.Qv:∀ xs:List Tm,OT.Cw (xs.map Tm.oh)=xs.map Tm.osh
 | []=>rfl
 | x :: xs=>by rw [zD,zD,Tm.SL,Tm.Lz]; simp only [OT.Cw,OT.IZ,OT.half,Tm.N1,Tm.Qv xs]
theorem Tm.UC:∀ xs:List Tm,OT.erss (xs.map Tm.oh)=xs.map Tm.d
 | []=>rfl
 | x :: xs=>by rw [zD,zD,Tm.SL,Tm.Ga]; simp only [OT.erss,OT.ers,OT.er,Tm.N1,Tm.UC xs]
theorem Tm.PI:∀ xs:List Tm,OT.Cw (xs.map Tm.o)=xs.map Tm.osh
 | []=>rfl
 | x :: xs=>by rw [zD,zD,Tm.H4,Tm.Lz]; simp only [OT.Cw,OT.IZ,OT.half,Tm.erss,Tm.PI xs]
theorem OT.LH:∀ a b:List (List OT),OT.AP (a++b)=(OT.AP a&&OT.AP b)
 | [],b=>by simp [OT.AP]
 | x :: a,b=>by simp only [zP,OT.AP,OT.LH a b,Bool.and_assoc]
theorem OT.LI:∀ a b:List (List OT),OT.Cw (a++b)=OT.Cw a++OT.Cw b
 | [],b=>by simp [OT.Cw]
 | x :: a,b=>by simp only [zP,OT.Cw,OT.LI a b]
theorem OT.OI:∀ a b:List (List OT),OT.erss (a++b)=OT.erss a++OT.erss b
 | [],b=>by simp [OT.erss]
 | x :: a,b=>by simp only [zP,OT.erss,OT.OI a b]
attribute [go_sem] OT.LH OT.LI OT.OI Tm.L1 Tm.N1 Tm.OH Tm.Qu Tm.UC Tm.Qv Tm.PI
abbrev tmH (t:Tm) (g:Nat):SV:=.agg [.str t.name,.ref g]
abbrev Id (t:Tm):Ob:=.row 26 2 (t.args.map Tm.osh)
theorem NB (l:List Int) (hl:Bytes l) (hn:l.length≤1099511627776):∀ (d:Nat) (m:Int),m=d→1≤d→d≤20→∀ p s:Int,0≤p→p+(4*2 ^ d:Nat)≤1099000000000→∃ t p' s',E 91 [.ptr 0 0,.int .i64 m] [cur l p s]=some (tmH t 1,[cur l p' s',Id t])∧(p≤p'∧p'+2≤p+(4*2 ^ d:Nat))∧t.nodes+1≤2 ^ d:=by
 intro d
 have leaf:∀ (p1 s1:Int),0≤p1→p1≤1099500000000→∃ x p2 s2,E 88 [.ptr 0 0,.arr [[D.str ⟨#[88]⟩],[D.str ⟨#[89]⟩],[D.str ⟨#[90]⟩],[D.str ⟨#[97]⟩],[D.str ⟨#[98]⟩],[D.str ⟨#[88]⟩],[D.str ⟨#[97]⟩]]] [cur l p1 s1]=some (.str x,[cur l p2 s2])∧p1≤p2∧p2≤p1+1:=fun p1 s1 a b=>by
  obtain ⟨x,p2,s2,ho,_,h2,h3⟩:=Uu l hl hn [⟨#[88]⟩,⟨#[89]⟩,⟨#[90]⟩,⟨#[97]⟩,⟨#[98]⟩,⟨#[88]⟩,⟨#[97]⟩] (by decide) (by decide) p1 s1 a (by omega)
  simp only [zD,zY] at ho
  exact ⟨x,p2,s2,ho,h2,h3⟩
 have n1:∀ x,(Tm.mk x []).nodes=1:=fun x=>by rw [Tm.An]; rfl
 induction d with
 | zero=>exact fun _ _ h=>absurd h (by omega)
 | succ e ih =>
  intro m hm _ hd p s h0 h1
  have hpe:2 ^ (e+1)=2*2 ^ e:=by rw [Nat.pow_succ,Nat.mul_comm]
  have hp1:1≤2 ^ e:=Nat.one_le_two_pow
  have hp2:2 ^ e≤2 ^ 20:=Nat.pow_le_pow_right (by omega) (by omega)
  have hp3:(2:Nat) ^ 20=1048576:=by decide
  have ih:=fun h1e=>ih (m-1) (by omega) h1e (by omega)
  rw [hpe] at h1 ⊢
  generalize 2 ^ e=q at *
  generalize hq2:2*q=q2 at *
  obtain ⟨Q,hQ⟩:∃ Q:SV × List Ob→Prop,Q=fun out=>∃ t p' s',out=(tmH t 1,[cur l p' s',Id t])∧(p≤p'∧p'+2≤p+(4*q2:Nat))∧t.nodes+1≤q2:=⟨_,rfl⟩
  suffices hq0:∃ out,E 91 [.ptr 0 0,.int .i64 m] [cur l p s]=some out∧Q out by
   obtain ⟨out,hq1,hq2⟩:=hq0
   rw [hQ] at hq2
   obtain ⟨t,p',s',rfl,hq3⟩:=hq2
   exact ⟨t,p',s',hq1,hq3⟩
  by_cases hm1:m≤1
  ·have q1:(m≤1)=True:=eq_true hm1
   obtain ⟨x,p1,s1,ho,h2,h3⟩:=leaf p s h0 (by omega)
   refine AL CK AH (of_decide_eq_true rfl) ?_
   simp (disch:=omega) only [Ch,go_sem,Aa,ho,q1,AS]
   rw [hQ]
   exact ⟨.mk x [],p1,s1,rfl,by omega,by rw [n1]; omega⟩
  ·have q1:(m≤1)=False:=eq_false hm1
   have ih:=ih (by omega)
   obtain ⟨b1,p1,s1,hb1,g1,g2⟩:=Jq l hl hn 3 (by omega) (by omega) p s h0 (by omega)
   cases b1 with
   | true =>
    obtain ⟨x,p2,s2,ho,h2,h3⟩:=leaf p1 s1 (by omega) (by omega)
    refine AL CK AH (of_decide_eq_true rfl) ?_
    simp (disch:=omega) only [Ch,go_sem,Aa,q1,hb1,ho,AS,A7]
    rw [hQ]
    exact ⟨.mk x [],p2,s2,rfl,by omega,by rw [n1]; omega⟩
   | false =>
    obtain ⟨b2,p2,s2,hb2,g3,g4⟩:=Jq l hl hn 2 (by omega) (by omega) p1 s1 (by omega) (by omega)
    obtain ⟨t3,p3,s3,h3,⟨g5,g6⟩,g7⟩:=ih p2 s2 (by omega) (by omega)
    cases b2 with
    | true =>
     have e1:(Tm.mk ⟨#[102]⟩ [t3]).nodes=1+(t3.nodes+0):=by rw [Tm.An]; rfl
     refine AL CK AH (of_decide_eq_true rfl) ?_
     simp (disch:=omega) only [Ch,go_sem,Aa,q1,hb1,hb2,h3,AS,A7,AH]
     rw [hQ]
     exact ⟨.mk ⟨#[102]⟩ [t3],p3,s3,rfl,by omega,by rw [e1]; omega⟩
    | false =>
     obtain ⟨t4,p4,s4,h4,⟨g8,g9⟩,g10⟩:=ih p3 s3 (by omega) (by omega)
     have e1:(Tm.mk ⟨#[103]⟩ [t3,t4]).nodes=1+(t3.nodes+(t4.nodes+0)):=by rw [Tm.An]; rfl
     refine AL CK AH (of_decide_eq_true rfl) ?_
     simp (disch:=omega) only [Ch,go_sem,Aa,q1,hb1,hb2,h3,h4,AS,A7,AH]
     rw [hQ]
     exact ⟨.mk ⟨#[103]⟩ [t3,t4],p4,s4,rfl,by omega,by rw [e1]; omega⟩
theorem HD (l:List Int) (hl:Bytes l) (hn:l.length≤1099511627776) (p s:Int) (h0:0≤p) (h1:p≤1098000000000):∃ t p' s',E 57 [.ptr 0 0] [cur l p s]=some (tmH t 1,[cur l p' s',Id t])∧(p≤p'∧p'≤p+40)∧t.nodes≤7:=by
 obtain ⟨v,p1,s1,hv,⟨v0,v1⟩,g1,g2⟩:=EN l hl hn 3 (by omega) (by omega) p s h0 (by omega)
 have hp3:(2:Nat) ^ (1+v).toNat≤2 ^ 3:=Nat.pow_le_pow_right (by omega) (by omega)
 obtain ⟨t,p2,s2,ht,⟨g3,g4⟩,g5⟩:=NB l hl hn (1+v).toNat (1+v) (by omega) (by omega) (by omega) p1 s1 (by omega) (by omega)
 have hp4:(2:Nat) ^ 3=8:=by decide
 refine ⟨t,p2,s2,?_,by omega,by omega⟩
 have hi:dec (inK .i64 (1+v))=true:=Fa (by omega) (by omega)
 refine Ab Jr As (of_decide_eq_true rfl) ?_
 simp (disch:=omega) only [FT,go_sem,Aa,hv,ht,hi,Ac,AH]
theorem SM (l:List Int) (hl:Bytes l) (hn:l.length≤1099511627776) (p s:Int) (h0:0≤p) (h1:p≤1097000000000):∃ t p' s',E 68 [.ptr 0 0] [cur l p s]=some (tmH t 1,[cur l p' s',Id t])∧(p≤p'∧p'≤p+100)∧t.nodes≤15:=by
 obtain ⟨Q,hQ⟩:∃ Q:SV × List Ob→Prop,Q=fun out=>∃ t p' s',out=(tmH t 1,[cur l p' s',Id t])∧(p≤p'∧p'≤p+100)∧t.nodes≤15:=⟨_,rfl⟩
 suffices hq0:∃ out,E 68 [.ptr 0 0] [cur l p s]=some out∧Q out by
  obtain ⟨out,hq1,hq2⟩:=hq0
  rw [hQ] at hq2
  obtain ⟨t,p',s',rfl,hq3⟩:=hq2
  exact ⟨t,p',s',hq1,hq3⟩
 have hp4:(2:Nat) ^ 2=4:=by decide
 have e1:∀ x a,(Tm.mk x [a]).nodes=1+(a.nodes+0):=fun x a=>by rw [Tm.An]; rfl
 have e2:∀ x a b,(Tm.mk x [a,b]).nodes=1+(a.nodes+(b.nodes+0)):=fun x a b=>by rw [Tm.An]; rfl
 obtain ⟨v,p1,s1,hv,⟨v0,v1⟩,g1,g2⟩:=EN l hl hn 8 (by omega) (by omega) p s h0 (by omega)
 obtain ⟨ta,p2,s2,ha,⟨a3,a4⟩,a5⟩:=HD l hl hn p1 s1 (by omega) (by omega)
 obtain ⟨tb,p3,s3,hb,⟨b3,b4⟩,b5⟩:=HD l hl hn p2 s2 (by omega) (by omega)
 obtain ⟨tc,p4,s4,hc,⟨c3,c4⟩,c5⟩:=NB l hl hn 2 2 rfl (by omega) (by omega) p1 s1 (by omega) (by omega)
 obtain ⟨td,p5,s5,hd,⟨d3,d4⟩,d5⟩:=NB l hl hn 2 2 rfl (by omega) (by omega) p4 s4 (by omega) (by omega)
 rw [hp4] at c4 c5 d4 d5
 rcases (show v=0∨v=1∨v=2∨v=3∨v=4∨(¬ v=0∧¬ v=1∧¬ v=2∧¬ v=3∧¬ v=4) by omega) with rfl | rfl | rfl | rfl | rfl | ⟨k0,k1,k2,k3,k4⟩
 ·refine AL BT Bf (of_decide_eq_true rfl) ?_
  simp (disch:=omega) only [BD,go_sem,Aa,hv,ha,hb,hc,hd,Ac,AH,As]
  rw [hQ]
  exact ⟨.mk ⟨#[61]⟩ [ta,tb],p3,s3,rfl,by omega,by rw [e2]; omega⟩
 ·refine AL BT Bf (of_decide_eq_true rfl) ?_
  simp (disch:=omega) only [BD,go_sem,Aa,hv,ha,hb,hc,hd,Ac,AH,As]
  rw [hQ]
  exact ⟨.mk ⟨#[61]⟩ [ta,tb],p3,s3,rfl,by omega,by rw [e2]; omega⟩
 ·refine AL BT Bf (of_decide_eq_true rfl) ?_
  simp (disch:=omega) only [BD,go_sem,Aa,hv,ha,hb,hc,hd,Ac,AH,As]
  rw [hQ]
  exact ⟨.mk ⟨#[114]⟩ [],p1,s1,rfl,by omega,by rw [Tm.An]; show 1+0≤_; omega⟩
 ·refine AL BT Bf (of_decide_eq_true rfl) ?_
  simp (disch:=omega) only [BD,go_sem,Aa,hv,ha,hb,hc,hd,Ac,AH,As]
  rw [hQ]
  exact ⟨.mk ⟨#[113]⟩ [tc,td],p5,s5,rfl,by omega,by rw [e2]; omega⟩
 ·refine AL BT Bf (of_decide_eq_true rfl) ?_
  simp (disch:=omega) only [BD,go_sem,Aa,hv,ha,hb,hc,hd,Ac,AH,As]
  rw [hQ]
  exact ⟨.mk ⟨#[113]⟩ [tc,td],p5,s5,rfl,by omega,by rw [e2]; omega⟩
 ·have k0:=eq_false k0
  have k1:=eq_false k1
  have k2:=eq_false k2
  have k3:=eq_false k3
  have k4:=eq_false k4
  refine AL BT Bf (of_decide_eq_true rfl) ?_
  simp (disch:=omega) only [BD,go_sem,Aa,hv,hc,k0,k1,k2,k3,k4,Ac,AH,As]
  rw [hQ]
  exact ⟨.mk ⟨#[112]⟩ [tc],p4,s4,rfl,by omega,by rw [e1]; omega⟩
end Go.Proofs.YtlglakdefklhoaaGreatDoor
