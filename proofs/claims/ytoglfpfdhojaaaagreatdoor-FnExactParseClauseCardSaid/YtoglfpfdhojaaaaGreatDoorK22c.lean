/-
  Texts of this claim, one behind the other, each built on those ahead of it. No condition.
-/
import Derived.Test.YtoglfpfdhojaaaaGreatDoorK22b
import Derived.Shelf.Lays
import Derived.Test.YtoglfpfdhojaaaaGreatDoorChecked
import Derived.Shelf.Strings.OnBuilder
import Derived.Shelf.Strings.Split
set_option maxHeartbeats 16000000
open Bool renaming and_eq_true → zA, and_self → zO, and_true → zR, false_and → zS, and_false → z6, or_eq_true → yA, true_and → yB, false_eq_true → yE, false_or → yT, not_false → y0, or_false → y3, not_true → y4
open Option.some renaming injEq → zB, inj → zK
open List renaming drop_eq_getElem_cons → zC, map_cons → zD, getElem_mem → zI, drop_eq_nil_of_le → zJ, getElem?_eq_getElem → zL, append_assoc → zM, drop_zero → zN, length_cons → zP, eq_nil_of_length_eq_zero → zQ, length_map → zT, cons_append → zV, length_nil → zX, mem_cons → zY, all_eq_true → zZ, length_append → z7, eq_nil_or_concat → z8, map_nil → yD, map_append → yF, getD_eq_getElem?_getD → yH, take_succ_cons → yI, take_succ_eq_append_getElem → yL, map_map → yM, length_take → yN, length → yO, nil_append → yP, take_zero → yR, getElem?_map → yS, length_drop → yV, append_nil → yY, any_cons → y2
open Nat renaming zero_le → zE, lt_or_ge → zF, le_refl → zH, eq_zero_or_pos → yJ, sub_zero → yW
open Prod.mk renaming injEq → zG, inj → yK
open ByteArray renaming size_append → zU
open Int renaming toNat_natCast → zW, toNat_zero → yC, natCast_add → yQ, lt_or_le → yX, natCast_one → yZ
open List.cons renaming injEq → yG
open Option renaming getD_some → yU
set_option maxRecDepth 100000
set_option linter.unusedSimpArgs false
set_option linter.unusedVariables false
set_option linter.unusedSectionVars false
namespace Go.Proofs.YtoglfpfdhojaaaaGreatDoor
open Go.RowKit
theorem Pg (b n c:Nat) (f:Nat→ByteArray) (x:ByteArray) (w:World) (hn:n≤9223372036854775807)
  (hc:∀ k,k<n→w.cell? ⟨b,k,none⟩=some (.string (f k))):Calls Tryz.prog 104 #[.slice (some ⟨b,0,none⟩) n c,.string x] w (Same w (.int .i64 (N2 (fun k=>x.toList == (f k).toList) n))):=by
 go_enter Tryz.func104,Tryz.ntmps104
 go_wp2
 go_loopw [8] (fun i wr=>Cnt w n (fun k=>∀ j,j<k→(x.toList == (f j).toList)=false) i wr) (fun i _=>n-(intOf i).toNat)
 case atStart=>exact ⟨0,zE _,rfl,fun j hj=>absurd hj (by omega),rfl⟩
 case round =>
  obtain ⟨k,hk,rfl,hok,rfl⟩:=hrel
  have Hok:=Lib.hid hok
  clear hok
  by_cases hlt:k<n
  ·have hck:=hc k (by omega)
   go_wp2_with fail
   ·go_ret
    exact Same.mk' _ (by rw [N3 hlt Hok.out (by assumption)]; rfl)
   ·go_roundw
    case rel=>exact ⟨_,hlt,by go_num,N4 Hok.out (by assumption),rfl⟩
    case measure=>exact Gt hlt
  ·obtain rfl:k=n:=by omega
   go_wp2_with fail
   go_ret
   exact Same.mk' _ (by rw [LM Hok.out]; rfl)
theorem L6 (b n c:Nat) (f:Nat→ByteArray) (x:ByteArray) (w:World) (hn:n≤9223372036854775807)
  (hc:∀ k,k<n→w.cell? ⟨b,k,none⟩=some (.string (f k))):Calls Tryz.prog 93 #[.slice (some ⟨b,0,none⟩) n c,.string x] w (Same w (.bool (Rk (fun k=>x.toList == (f k).toList) n))):=by
 have Hc:=Lib.hid hc
 clear hc
 go_enter Tryz.func93,Tryz.ntmps93
 go_wp2_with (first
  |(go_at_call 104; refine (Pg _ _ _ f _ _ hn Hc.out).mono ?_; rintro e w' ⟨rfl,rfl⟩))
 go_ret
 exact Same.mk' _ (by rw [←SQ]; rfl)
theorem Nd (w:World):Calls Tryz.prog 94 #[] w fun e w'=>e=.returned (.slice (some ⟨w.heap.size,0,none⟩) 8 8)∧w'=w.alloc (.cells ((words.map fun l=>Value.string ⟨l.toArray⟩).toArray) 9):=by
 go_enter Tryz.func94,Tryz.ntmps94
 go_wp2
 go_ret
 exact ⟨rfl,rfl⟩
theorem Ok (w:World):∀ k,k<8→(w.alloc (.cells ((words.map fun l=>Value.string ⟨l.toArray⟩).toArray) 9)).cell? ⟨w.heap.size,k,none⟩=some (.string ⟨(words.getD k []).toArray⟩):=by
 intro k hk
 have hh:(w.alloc (.cells ((words.map fun l=>Value.string ⟨l.toArray⟩).toArray) 9)).heap[w.heap.size]?=some (.cells ((words.map fun l=>Value.string ⟨l.toArray⟩).toArray) 9):=heap_alloc_new w _
 unfold World.cell?
 rw [hh]
 match k,hk with
 | 0,_=>rfl
 | 1,_=>rfl
 | 2,_=>rfl
 | 3,_=>rfl
 | 4,_=>rfl
 | 5,_=>rfl
 | 6,_=>rfl
 | 7,_=>rfl
theorem Nf (s:ByteArray) (w:World) (hs:s.size≤9223372036854775807):Calls Tryz.prog 63 #[.string s] w (Ret w (.bool (Dn s))):=by
  go_enter Tryz.func63,Tryz.ntmps63
  go_wp2
  go_loopw [6] (fun i wr=>Cnt w s.size (fun k=>Dm G9 s k=true) i wr) (fun i _=>s.size-(intOf i).toNat)
  case atStart=>exact ⟨0,zE _,rfl,rfl,rfl⟩
  case round =>
    obtain ⟨k,hk,rfl,hok,rfl⟩:=hrel
    have Hok:=Lib.hid hok
    clear hok
    by_cases hlt:k<s.size
    · have Hb:=Lib.hid (DA hlt)
      rcases yJ k with rfl | hpos
      all_goals
        go_wp2_with (first
          | (go_at_call 84; refine (JE _ _).mono ?_; rintro e w' ⟨rfl,rfl⟩)
          | (go_at_call 86; refine (JF _ _).mono ?_; rintro e w' ⟨rfl,rfl⟩))
        all_goals first
          | (go_ret
             refine Ret.same _ ?_
             unfold Dn
             rw [DB hlt (by rw [←Hb.out]; simp_all [G9,E9] <;> omega)]
             rfl)
          | (go_roundw
             case rel=>exact ⟨_,hlt,by go_num,FV Hok.out (by rw [←Hb.out]; simp_all [G9,E9] <;> omega),rfl⟩
             case measure=>first | exact Gt hlt | (simp [intOf]; omega))
    · obtain rfl:k=s.size:=by omega
      cases hin:inB s.size 1 6
      · go_wp2_with (first
          | (go_at_call 92; refine (HS _ _ _ _).mono ?_; rintro e w' ⟨rfl,rfl⟩))
        go_ret
        exact Ret.same _ (by unfold Dn; rw [hin]; simp)
      · go_wp2_with (first
          | (go_at_call 92; refine (HS _ _ _ _).mono ?_; rintro e w' ⟨rfl,rfl⟩)
          | (go_at_call 94; refine (Nd _).mono ?_; rintro e w' ⟨rfl,rfl⟩)
          | (go_at_call 93; refine (L6 _ _ _ (fun k=>⟨(words.getD k []).toArray⟩) _ _ (by omega) (Ok w)).mono ?_; rintro e w' ⟨rfl,rfl⟩))
        go_ret
        refine Ret.bel ?_ ((Below.refl _ _).alloc (zH _) _)
        unfold Dn RQ
        rw [hin,Hok.out]
        simp
theorem Q7 (s:ByteArray) (w:World) (hs:s.size≤9223372036854775807):Calls Tryz.prog 74 #[.string s] w (Same w (.bool (BY s))):=by
  cases hin:inB s.size 1 4
  · go_enter Tryz.func74,Tryz.ntmps74
    go_wp2_with (first
      | (go_at_call 75; refine (G8 _ _ _ _).mono ?_; rintro e w' ⟨rfl,rfl⟩))
    go_ret
    exact Same.mk' _ (by unfold BY; rw [hin]; simp)
  · have hpos:0<s.size:=by simp [inB] at hin; omega
    have Hb:=Lib.hid (DA hpos)
    go_enter Tryz.func74,Tryz.ntmps74
    go_wp2_with (first
      | (go_at_call 75; refine (G8 _ _ _ _).mono ?_; rintro e w' ⟨rfl,rfl⟩))
    all_goals first
      | (go_ret
         refine Same.mk' _ ?_
         unfold BY
         rw [DB hpos (by rw [←Hb.out]; simp [Gh,KR]; omega)]
         rfl)
      | skip
    · go_loopw [3] (fun i wr=>Cnt w s.size (fun k=>1≤k∧Dm Gh s k=true) i wr) (fun i _=>s.size-(intOf i).toNat)
      case atStart=>exact ⟨1,hpos,rfl,⟨zH _,by rw [EA,← Hb.out]; simp [Dm,Gh,KR]; omega⟩,rfl⟩
      case round =>
        obtain ⟨k,hk,rfl,⟨hk1,hok⟩,rfl⟩:=hrel
        have Hok:=Lib.hid hok
        clear hok
        by_cases hlt:k<s.size
        · have Hbk:=Lib.hid (DA hlt)
          have hk0:k≠0:=by omega
          go_wp2_with (first
            | (go_at_call 76; refine (JG _ _).mono ?_; rintro e w' ⟨rfl,rfl⟩))
          all_goals first
            | (go_ret
               refine Same.mk' _ ?_
               unfold BY
               rw [DB hlt (by rw [←Hbk.out]; simp_all [Gh] <;> omega)]
               rfl)
            | (go_roundw
               case rel=>exact ⟨_,hlt,by go_num,⟨by omega,FV Hok.out (by rw [←Hbk.out]; simp_all [Gh] <;> omega)⟩,rfl⟩
               case measure=>first | exact Gt hlt | (simp [intOf]; omega))
        · obtain rfl:k=s.size:=by omega
          go_wp2_with fail
          go_ret
          exact Same.mk' _ (by unfold BY; rw [Hok.out,hin]; rfl)
theorem PV (s:ByteArray):RQ s=(s.toList == [116,114,117,101] || s.toList == [102,97,108,115,101] || s.toList == [116,114,117,116,104] || s.toList == [98,111,116,104] || s.toList == [101,105,116,104,101,114] || s.toList == [105,102] || s.toList == [97,108,108] || s.toList == [115,111,109,101]):=by
 unfold RQ Rk words
 simp [List.range,List.range.loop,Bool.or_assoc]
theorem Ng (s:ByteArray) (w:World) (hs:s.size≤9223372036854775807):Calls Tryz.prog 52 #[.string s] w (Same w (.bool (Dn s))):=by
  cases hin:inB s.size 1 6
  · go_enter Tryz.func52,Tryz.ntmps52
    go_wp2_with (first
      | (go_at_call 75; refine (G8 _ _ _ _).mono ?_; rintro e w' ⟨rfl,rfl⟩))
    go_ret
    exact Same.mk' _ (by unfold Dn; rw [hin]; simp)
  · have hpos:0<s.size:=by simp [inB] at hin; omega
    have Hb:=Lib.hid (DA hpos)
    cases hres:RQ s
    case true =>
      have Hres:=Lib.hid hres
      rw [PV] at hres
      go_enter Tryz.func52,Tryz.ntmps52
      go_wp2_with (first
        | (go_at_call 75; refine (G8 _ _ _ _).mono ?_; rintro e w' ⟨rfl,rfl⟩))
      all_goals first
        | (go_ret
           refine Same.mk' _ ?_
           unfold Dn
           rw [Hres.out]; simp)
        | (exfalso; simp_all; done)
    have Hres:=Lib.hid hres
    rw [PV] at hres
    simp only [Bool.or_eq_false_iff] at hres
    obtain ⟨⟨⟨⟨⟨⟨⟨e1,e2⟩,e3⟩,e4⟩,e5⟩,e6⟩,e7⟩,e8⟩:=hres
    go_enter Tryz.func52,Tryz.ntmps52
    go_wp2_with (first
      | (go_at_call 75; refine (G8 _ _ _ _).mono ?_; rintro e w' ⟨rfl,rfl⟩))
    all_goals first
      | (go_ret
         refine Same.mk' _ ?_
         unfold Dn
         rw [DB hpos (by rw [←Hb.out]; simp [G9,L5]; omega)]; rfl)
      | skip
    go_loopw [3] (fun i wr=>Cnt w s.size (fun k=>1≤k∧Dm G9 s k=true) i wr) (fun i _=>s.size-(intOf i).toNat)
    case atStart=>exact ⟨1,hpos,rfl,⟨zH _,by rw [EA,← Hb.out]; simp [Dm,G9,E9,L5]; omega⟩,rfl⟩
    case round =>
      obtain ⟨k,hk,rfl,⟨hk1,hok⟩,rfl⟩:=hrel
      have Hok:=Lib.hid hok
      clear hok
      by_cases hlt:k<s.size
      · have Hbk:=Lib.hid (DA hlt)
        have hk0:k≠0:=by omega
        go_wp2_with (first
          | (go_at_call 76; refine (JG _ _).mono ?_; rintro e w' ⟨rfl,rfl⟩))
        all_goals first
          | (go_ret
             refine Same.mk' _ ?_
             unfold Dn
             rw [DB hlt (by rw [←Hbk.out]; simp_all [G9] <;> omega)]
             rfl)
          | (go_roundw
             case rel=>exact ⟨_,hlt,by go_num,⟨by omega,FV Hok.out (by rw [←Hbk.out]; simp_all [G9] <;> omega)⟩,rfl⟩
             case measure=>first | exact Gt hlt | (simp [intOf]; omega))
      · obtain rfl:k=s.size:=by omega
        go_wp2_with fail
        go_ret
        exact Same.mk' _ (by unfold Dn; rw [Hok.out,hin,Hres.out]; rfl)
end Go.Proofs.YtoglfpfdhojaaaaGreatDoor
set_option maxRecDepth 100000
namespace Go.Proofs.YtoglfpfdhojaaaaGreatDoor
open Go.Shelf
def so_Join_ren:Go.Shelf.Ren:=⟨fun | 156=>65 | 165=>95 | 166=>96 | 169=>97 | 240=>105 | 241=>106 | 276=>107 | 277=>108 | n=>n,fun | 31=>30 | 9=>9 | 3=>3 | 4=>4 | 0=>0 | 20=>20 | 72=>93 | 76=>97 | 70=>91 | 37=>67 | 75=>96 | 127=>108 | 164=>109 | 5=>5 | 80=>74 | n=>n,fun | n=>n⟩
theorem PW:Go.Proofs.Lays.n156 Tryz.prog so_Join_ren:={
 mixed:=by kernel_rfl,
 f156:=Tryz.func65.trans (congrArg some (by kernel_rfl)),
 f165:=Tryz.func95.trans (congrArg some (by kernel_rfl)),
 f166:=Tryz.func96.trans (congrArg some (by kernel_rfl)),
 f169:=Tryz.func97.trans (congrArg some (by kernel_rfl)),
 f240:=Tryz.func105.trans (congrArg some (by kernel_rfl)),
 f241:=Tryz.func106.trans (congrArg some (by kernel_rfl)),
 f276:=Tryz.func107.trans (congrArg some (by kernel_rfl)),
 f277:=Tryz.func108.trans (congrArg some (by kernel_rfl)),
 t0:=Tryz.underlying0,
 a0:=Tryz.isAgg0,
 z0:=Tryz.sizeOf0,
 v0:=Tryz.zeroValue0,
 t3:=Tryz.underlying3,
 a3:=Tryz.isAgg3,
 z3:=Tryz.sizeOf3,
 v3:=Tryz.zeroValue3,
 t4:=Tryz.underlying4,
 a4:=Tryz.isAgg4,
 z4:=Tryz.sizeOf4,
 v4:=Tryz.zeroValue4,
 t9:=Tryz.underlying9,
 a9:=Tryz.isAgg9,
 z9:=Tryz.sizeOf9,
 v9:=Tryz.zeroValue9,
 t20:=Tryz.underlying20,
 a20:=Tryz.isAgg20,
 z20:=Tryz.sizeOf20,
 v20:=Tryz.zeroValue20,
 t31:=Tryz.underlying30,
 a31:=Tryz.isAgg30,
 z31:=Tryz.sizeOf30,
 v31:=Tryz.zeroValue30,
 t37:=Tryz.underlying67,
 a37:=Tryz.isAgg67,
 z37:=Tryz.sizeOf67,
 v37:=Tryz.zeroValue67,
 t70:=Tryz.underlying91,
 a70:=Tryz.isAgg91,
 z70:=Tryz.sizeOf91,
 v70:=Tryz.zeroValue91,
 t72:=Tryz.underlying93,
 a72:=Tryz.isAgg93,
 z72:=Tryz.sizeOf93,
 v72:=Tryz.zeroValue93,
 t75:=Tryz.underlying96,
 a75:=Tryz.isAgg96,
 z75:=Tryz.sizeOf96,
 v75:=Tryz.zeroValue96,
 t76:=Tryz.underlying97,
 a76:=Tryz.isAgg97,
 z76:=Tryz.sizeOf97,
 v76:=Tryz.zeroValue97,
 t127:=Tryz.underlying108,
 a127:=Tryz.isAgg108,
 z127:=Tryz.sizeOf108,
 v127:=Tryz.zeroValue108,
 t164:=Tryz.underlying109,
 a164:=Tryz.isAgg109,
 z164:=Tryz.sizeOf109,
 v164:=Tryz.zeroValue109 }
end Go.Proofs.YtoglfpfdhojaaaaGreatDoor
set_option maxRecDepth 100000
set_option linter.unusedSimpArgs false
set_option linter.unusedVariables false
set_option linter.unusedSectionVars false
namespace Go.Proofs.YtoglfpfdhojaaaaGreatDoor
open Go.RowKit Go.Shelf
theorem Ol:Builder.Extra Tryz.prog so_Join_ren:={
 sizeBuilder:=by kernel_rfl,
 liesBuilder:=by kernel_rfl,
 t5:=Tryz.underlying5,
 a5:=Tryz.isAgg5,
 z5:=Tryz.sizeOf5,
 v5:=Tryz.zeroValue5,
 infoByte:=by kernel_rfl,
 cellsByte:=by kernel_rfl,
 sizeByte:=by kernel_rfl,
 neB5:=by decide }
def KT:List D→ByteArray
 | .str s :: _=>s
 | _=>⟨#[]⟩
def Gi (xs:List ByteArray) (sep:ByteArray):ByteArray:=⟨(Lib.join (xs.map (·.data.toList)) sep.data.toList).toArray⟩
noncomputable def Mt:List SV→Option SV
 | [.arr es,.str sep]=>bif dec ((∀ e∈es,∃ s,e=[D.str s])∧es.length≤1099511627776∧(Gi (es.map KT) sep).size≤1099511627776) then some (.str (Gi (es.map KT) sep)) else none
 | _=>none
theorem Ph {xs:List SV} {r:SV} (h:Mt xs=some r):Fun Tryz.prog 65 xs [] r []:=by
 unfold Mt at h
 split at h
 ·rename_i es sep
  obtain ⟨h1,h2⟩:=Ae h
  obtain ⟨k1,k2,k3⟩:=Aj.1 h1
  obtain rfl:=zK h2
  refine Fun.Nb (rv:=.string (Gi (es.map KT) sep)) (fun w I V=>by simp only [RepV,true_and]; omega) fun w I V vs h=>?_
  obtain ⟨v,r,rfl,h3,h⟩:=CF h
  obtain ⟨v2,r,rfl,h4,h⟩:=CF h
  obtain rfl:=KQ h
  obtain ⟨rfl,h5⟩:=FU h4
  simp only [RepV] at h3
  have hlen:(Lib.join ((es.map KT).map (·.data.toList)) sep.data.toList).length≤140737488355328:=by
   have e:(Gi (es.map KT) sep).size=(Lib.join ((es.map KT).map (·.data.toList)) sep.data.toList).length:=by
    show (Lib.join ((es.map KT).map (·.data.toList)) sep.data.toList).toArray.size=_
    simp
   omega
  rcases yJ es.length with h0 | h0
  ·have he:es=[]:=zQ h0
   subst he
   obtain ⟨a,c,rfl,_⟩:=h3.slice_form
   have hcon:=Any.strings_Join_none PW Ol a c sep w
   change Calls Tryz.prog 65 _ _ _ at hcon
   refine hcon.mono ?_
   rintro e w' ⟨rfl,rfl⟩
   exact ⟨rfl,Below.refl _ _⟩
  ·cases h3 with
   | arr S sz es a cap f Sub g1 g2 g3 g4 g5 g6 g7 =>
    rcases g3 with g3 | ⟨b,off,rfl,hS,hlt,hc,_⟩
    ·omega
    have hsz:sz=1:=by
     obtain ⟨s,e⟩:=k1 es[0] (zI h0)
     rw [←g4 0 h0,e]; rfl
    subst hsz
    have hcells:∀ (j:Nat) x,(es.map KT)[j]?=some x→w.cell? ⟨b,off+j,none⟩=some (.string x):=fun j x hx=>by
     have hj:j<es.length:=by
      have:=(List.getElem?_eq_some_iff.1 hx).1
      simpa using this
     obtain ⟨s,e⟩:=k1 es[j] (zI hj)
     rw [yS,zL hj,e] at hx
     obtain rfl:=zK hx
     have hd:=g7 j 0 hj (by rw [g4 j hj]; omega)
     have hcell:=hc j 0 hj (by omega)
     simp only [e,List.getElem_cons_zero] at hd
     rw [Nat.mul_one,Nat.add_zero] at hcell
     rw [hcell]
     cases hv:f j 0 <;> rw [hv] at hd <;> cases hd
     rfl
    have hcon:=Any.strings_Join PW Ol b off cap (es.map KT) sep w hcells hlt (by simp; omega) (by simpa using g1) hlen
    change Calls Tryz.prog 65 _ _ _ at hcon
    rw [zT] at hcon
    exact hcon
 ·cases h
end Go.Proofs.YtoglfpfdhojaaaaGreatDoor
set_option maxRecDepth 100000
namespace Go.Proofs.YtoglfpfdhojaaaaGreatDoor
open Go.Shelf
def so_Split_ren:Go.Shelf.Ren:=⟨fun | 146=>10 | 221=>19 | 268=>34 | 138=>35 | 143=>36 | 195=>54 | 197=>55 | 218=>56 | 219=>57 | 260=>78 | 217=>79 | 225=>80 | 224=>81 | 267=>82 | 266=>100 | 314=>101 | n=>n,fun | 9=>9 | 31=>30 | 3=>3 | 4=>4 | 0=>0 | 105=>71 | 21=>21 | 5=>5 | 46=>86 | 119=>99 | 139=>102 | 138=>101 | 146=>104 | 51=>103 | n=>n,fun | 1=>0 | 3=>1 | 4=>2 | n=>n⟩
theorem RR:Go.Proofs.Lays.n146 Tryz.prog so_Split_ren:={
 mixed:=by kernel_rfl,
 f138:=Tryz.func35.trans (congrArg some (by kernel_rfl)),
 f143:=Tryz.func36.trans (congrArg some (by kernel_rfl)),
 f146:=Tryz.func10.trans (congrArg some (by kernel_rfl)),
 f195:=Tryz.func54.trans (congrArg some (by kernel_rfl)),
 f197:=Tryz.func55.trans (congrArg some (by kernel_rfl)),
 f217:=Tryz.func79.trans (congrArg some (by kernel_rfl)),
 f218:=Tryz.func56.trans (congrArg some (by kernel_rfl)),
 f219:=Tryz.func57.trans (congrArg some (by kernel_rfl)),
 f221:=Tryz.func19.trans (congrArg some (by kernel_rfl)),
 f224:=Tryz.func81.trans (congrArg some (by kernel_rfl)),
 f225:=Tryz.func80.trans (congrArg some (by kernel_rfl)),
 f260:=Tryz.func78.trans (congrArg some (by kernel_rfl)),
 f266:=Tryz.func100.trans (congrArg some (by kernel_rfl)),
 f267:=Tryz.func82.trans (congrArg some (by kernel_rfl)),
 f268:=Tryz.func34.trans (congrArg some (by kernel_rfl)),
 f314:=Tryz.func101.trans (congrArg some (by kernel_rfl)),
 t0:=Tryz.underlying0,
 a0:=Tryz.isAgg0,
 z0:=Tryz.sizeOf0,
 v0:=Tryz.zeroValue0,
 t3:=Tryz.underlying3,
 a3:=Tryz.isAgg3,
 z3:=Tryz.sizeOf3,
 v3:=Tryz.zeroValue3,
 t4:=Tryz.underlying4,
 a4:=Tryz.isAgg4,
 z4:=Tryz.sizeOf4,
 v4:=Tryz.zeroValue4,
 t5:=Tryz.underlying5,
 a5:=Tryz.isAgg5,
 z5:=Tryz.sizeOf5,
 v5:=Tryz.zeroValue5,
 t9:=Tryz.underlying9,
 a9:=Tryz.isAgg9,
 z9:=Tryz.sizeOf9,
 v9:=Tryz.zeroValue9,
 t21:=Tryz.underlying21,
 a21:=Tryz.isAgg21,
 z21:=Tryz.sizeOf21,
 v21:=Tryz.zeroValue21,
 t31:=Tryz.underlying30,
 a31:=Tryz.isAgg30,
 z31:=Tryz.sizeOf30,
 v31:=Tryz.zeroValue30,
 t46:=Tryz.underlying86,
 a46:=Tryz.isAgg86,
 z46:=Tryz.sizeOf86,
 v46:=Tryz.zeroValue86,
 t51:=Tryz.underlying103,
 a51:=Tryz.isAgg103,
 z51:=Tryz.sizeOf103,
 v51:=Tryz.zeroValue103,
 t105:=Tryz.underlying71,
 a105:=Tryz.isAgg71,
 z105:=Tryz.sizeOf71,
 v105:=Tryz.zeroValue71,
 t119:=Tryz.underlying99,
 a119:=Tryz.isAgg99,
 z119:=Tryz.sizeOf99,
 t138:=Tryz.underlying101,
 a138:=Tryz.isAgg101,
 z138:=Tryz.sizeOf101,
 v138:=Tryz.zeroValue101,
 t139:=Tryz.underlying102,
 a139:=Tryz.isAgg102,
 z139:=Tryz.sizeOf102,
 v139:=Tryz.zeroValue102,
 t146:=Tryz.underlying104,
 a146:=Tryz.isAgg104,
 z146:=Tryz.sizeOf104,
 v146:=Tryz.zeroValue104,
 g1:=by kernel_rfl,
 g3:=by kernel_rfl,
 g4:=by kernel_rfl }
end Go.Proofs.YtoglfpfdhojaaaaGreatDoor
set_option maxRecDepth 100000
set_option linter.unusedSimpArgs false
set_option linter.unusedVariables false
set_option linter.unusedSectionVars false
namespace Go.Proofs.YtoglfpfdhojaaaaGreatDoor
open Go.RowKit
theorem JH (s:ByteArray) (a b:Nat):(s.extract a b).size≤s.size:=by
 rw [ByteArray.size_extract]; omega
theorem Mu {g x:ByteArray}:∀ (k:Nat) (s:ByteArray),x∈Lib.splitB g 0 k s→x.size≤s.size
 | 0,s,h=>by
  rw [Lib.splitB_zero] at h
  obtain rfl:=List.mem_singleton.1 h
  exact zH _
 | k+1,s,h=>by
  rcases Lib.indexB_cases s g with h1 | ⟨i,h1,_⟩
  ·rw [Lib.splitB_miss g 0 _ s h1] at h
   obtain rfl:=List.mem_singleton.1 h
   exact zH _
  ·rw [Lib.splitB_hit g 0 k s i h1] at h
   rcases zY.1 h with rfl | h
   ·exact JH _ _ _
   ·exact Nat.le_trans (Mu k _ h) (JH _ _ _)
noncomputable def Jm (s g:ByteArray):List ByteArray:=Lib.splitB g 0 (Lib.countB s g) s
noncomputable def Jn:List SV→Option SV
 | [.str s,.str g]=>bif dec (s.size≤1048576∧1≤g.size) then some (.arr ((Jm s g).map fun x=>[D.str x])) else none
 | _=>none
theorem Om {xs:List SV} {r:SV} (h:Jn xs=some r):Fun Tryz.prog 10 xs [] r []:=by
 unfold Jn at h
 split at h
 ·rename_i s g
  obtain ⟨h1,h2⟩:=Ae h
  obtain ⟨k1,k2⟩:=Aj.1 h1
  obtain rfl:=zK h2
  intro w I V B vs hwf hvs
  obtain ⟨v,q,rfl,hv,hvs⟩:=CF hvs
  obtain ⟨v2,q,rfl,hv2,hvs⟩:=CF hvs
  obtain rfl:=KQ hvs
  obtain ⟨rfl,_⟩:=FU hv
  obtain ⟨rfl,_⟩:=FU hv2
  obtain ⟨g1,g2,m,hm⟩:=hwf.gl
  have hcon:Calls Tryz.prog 10 #[.string s,.string g] w (fun e w'=>e=.returned (.slice (some ⟨w.heap.size,0,none⟩) (Lib.countB s g+1) (Lib.countB s g+1))∧w'=w.alloc (.cells ((Jm s g).map Value.string).toArray 9)):=Any.strings_Split RR (by kernel_rfl) s g m w (by omega) hm k2
  refine hcon.mono ?_
  have hlen:(Jm s g).length=Lib.countB s g+1:=Lib.splitB_all g k2 0 _ s rfl
  have hcl:=Lib.countB_le g k2 s.size s (zH _)
  have hsm:∀ x∈Jm s g,x.size≤s.size:=fun x hx=>Mu _ s hx
  have hpl:(Jm s g).length≤1048577:=by omega
  rw [←hlen]
  clear hcon hlen hcl
  generalize Jm s g=ps at *
  rintro e w' ⟨rfl,rfl⟩
  obtain ⟨W,hW⟩:∃ W,W=w.alloc (.cells (ps.map Value.string).toArray 9):=⟨_,rfl⟩
  rw [←hW]
  have hrow:W.heap[w.heap.size]?=some (.cells (ps.map Value.string).toArray 9):=by rw [hW]; exact heap_alloc_new w _
  have hsz:W.heap.size=w.heap.size+1:=by rw [hW]; simp
  have hbl:∀ x,x<w.heap.size→W.heap[x]?=w.heap[x]?:=fun x hx=>by rw [hW]; exact Below.heap_alloc _ _ _ hx
  have hno:∀ g,¬ (Ad ([]:List Ob) g).live:=fun g h=>by
   have e:Ad ([]:List Ob) g=.free:=rfl
   rw [e] at h
   exact h
  have hos:W.os=w.os∧W.tape=w.tape∧W.output=w.output:=by rw [hW]; exact ⟨rfl,rfl,rfl⟩
  have hcell:∀ i (hi:i<ps.length),W.cell? ⟨w.heap.size,i,none⟩=some (.string ps[i]):=fun i hi=>by
   unfold World.cell?
   simp only [hrow]
   simp
  refine ⟨_,fun x=>I x∨x=w.heap.size,V,B,rfl,?_,?_⟩
  ·simp only [RepV]
   have hA:DRep false W (fun x=>I x∨x=w.heap.size) (.arr (ps.map fun x=>[D.str x])) (.slice (some ⟨w.heap.size,0,none⟩) (ps.map fun x=>[D.str x]).length ps.length):=by
    refine .arr _ 1 _ _ ps.length (fun i _=>.string (ps.getD i ⟨#[]⟩)) (fun _ _ _=>False) (by simp) (by omega) (.inr ⟨w.heap.size,0,rfl,.inr rfl,by omega,fun i j hi hj=>?_,fun h=>by cases h⟩) (fun i hi=>by simp) (fun _ _ _ h=>h.elim) (fun h=>by cases h) (fun i j hi hj=>?_)
    ·rw [zT] at hi
     have e:0+i*1+j=i:=by omega
     rw [e,hcell i hi]
     show _=some (Value.string (ps.getD i ⟨#[]⟩))
     rw [yH,zL hi]
     rfl
    ·rw [zT] at hi
     simp only [List.getElem_map,zP,zX] at hj
     have hj0:j=0:=by omega
     subst hj0
     simp only [List.getElem_map,List.getElem_cons_zero]
     show DRep false W _ (.str ps[i]) (Value.string (ps.getD i ⟨#[]⟩))
     rw [yH,zL hi]
     exact .str _ _ (by have:=hsm _ (zI hi); show (ps[i]).size≤_; omega)
   rw [zT] at hA
   exact hA
  ·refine ⟨⟨hos.1,⟨hos.2.1,fun h=>False.elim h⟩,hos.2.2,by omega,fun x hx _=>hbl x hx⟩,fun x hx=>.inl hx,fun x hx=>hx.elim .inl fun e=>.inr (.inl (by omega)),VLe.refl _,⟨fun x hx=>?_,fun g hl=>(hno g hl).elim,fun g x hl=>(hno g hl).elim,fun g x hl=>(hno g hl).elim,fun g g' x hl=>(hno g hl).elim,fun g hg=>hwf.fr g hg,hwf.gl.keep ⟨by omega,fun x _ hx=>hbl x hx⟩ fun _ h=>.inl h⟩,fun g x hl=>(hno g hl).elim⟩
   rcases hx with hx | rfl
   ·have:=hwf.ilt x hx; omega
   ·omega
 ·cases h
def PX:List (Nat × FM)→Nat→FM
 | [],_=>⟨[],.asis,none,false⟩
 | (f,m) :: r,g=>bif f == g then m else PX r g
theorem Q8 {l:List (Nat × FM)} {f:Nat} {g:List SV→List Ob→Option (SV × List Ob)} (h:(PX l f).ext=some g):∃ m,(f,m)∈l∧m.ext=some g:=by
 induction l with
 | nil=>cases h
 | cons x r ih =>
  obtain ⟨f',m⟩:=x
  simp only [PX] at h
  cases e:f' == f with
  | true =>
   rw [e] at h
   obtain rfl:f'=f:=by simpa using e
   exact ⟨m,by simp,h⟩
  | false =>
   rw [e] at h
   obtain ⟨m',h1,h2⟩:=ih h
   exact ⟨m',by simp [h1],h2⟩
noncomputable def Mv:List SV→Option SV
 | [.int .i64 k]=>bif dec (1≤k)&&dec (k≤1099511627776) then some (.str (ET k)) else none
 | _=>none
theorem Pi {xs:List SV} {r:SV} (h:Mv xs=some r):Fun Tryz.prog 26 xs [] r []:=by
 unfold Mv at h
 split at h
 ·rename_i k
  obtain ⟨h1,h2⟩:=Ae h
  rw [zA,Aj,Aj] at h1
  obtain rfl:=zK h2
  obtain ⟨n,rfl⟩:∃ n:Nat,k=n:=⟨k.toNat,by omega⟩
  refine Fun.Nb (rv:=.string (ET n)) (fun w I V=>by simp only [RepV,true_and]; exact Pe (by omega) (by omega)) fun w I V vs h=>?_
  obtain ⟨v,r,rfl,h3,h⟩:=CF h
  obtain rfl:=KQ h
  obtain rfl:=T8 h3
  exact Nc n w (by omega) (by omega)
 ·cases h
def RS:List SV→Option SV
 | [.str s]=>some (.bool (BY s))
 | _=>none
theorem Q9 {xs:List SV} {r:SV} (h:RS xs=some r):Fun Tryz.prog 89 xs [] r []:=by
 unfold RS at h
 split at h
 ·rename_i s
  obtain rfl:=zK h
  refine Fun.of_same (rv:=.bool (BY s)) (fun w I V=>by simp only [RepV]) fun w I V vs h=>?_
  obtain ⟨v,r,rfl,h3,h⟩:=CF h
  obtain rfl:=KQ h
  obtain ⟨rfl,h4⟩:=FU h3
  exact KS s w h4
 ·cases h
def RT:List SV→Option SV
 | [.str s]=>some (.bool (BY s))
 | _=>none
theorem QA {xs:List SV} {r:SV} (h:RT xs=some r):Fun Tryz.prog 74 xs [] r []:=by
 unfold RT at h
 split at h
 ·rename_i s
  obtain rfl:=zK h
  refine Fun.of_same (rv:=.bool (BY s)) (fun w I V=>by simp only [RepV]) fun w I V vs h=>?_
  obtain ⟨v,r,rfl,h3,h⟩:=CF h
  obtain rfl:=KQ h
  obtain ⟨rfl,h4⟩:=FU h3
  exact Q7 s w h4
 ·cases h
def RU:List SV→Option SV
 | [.str s]=>some (.bool (Dn s))
 | _=>none
theorem QB {xs:List SV} {r:SV} (h:RU xs=some r):Fun Tryz.prog 63 xs [] r []:=by
 unfold RU at h
 split at h
 ·rename_i s
  obtain rfl:=zK h
  refine Fun.Nb (rv:=.bool (Dn s)) (fun w I V=>by simp only [RepV]) fun w I V vs h=>?_
  obtain ⟨v,r,rfl,h3,h⟩:=CF h
  obtain rfl:=KQ h
  obtain ⟨rfl,h4⟩:=FU h3
  exact Nf s w h4
 ·cases h
def RV:List SV→Option SV
 | [.str s]=>some (.bool (Dn s))
 | _=>none
theorem QC {xs:List SV} {r:SV} (h:RV xs=some r):Fun Tryz.prog 52 xs [] r []:=by
 unfold RV at h
 split at h
 ·rename_i s
  obtain rfl:=zK h
  refine Fun.of_same (rv:=.bool (Dn s)) (fun w I V=>by simp only [RepV]) fun w I V vs h=>?_
  obtain ⟨v,r,rfl,h3,h⟩:=CF h
  obtain rfl:=KQ h
  obtain ⟨rfl,h4⟩:=FU h3
  exact Ng s w h4
 ·cases h
noncomputable def modes:FuncId→FM:=PX [(26,⟨[],.asis,some (Gm Mv),false⟩),(89,⟨[],.asis,some (Gm RS),false⟩),(74,⟨[],.asis,some (Gm RT),false⟩),(63,⟨[],.asis,some (Gm RU),false⟩),(52,⟨[],.asis,some (Gm RV),false⟩),(10,⟨[],.asis,some (Gm Jn),false⟩),(65,⟨[],.asis,some (Gm Mt),false⟩),(27,⟨[true],.asis,none,true⟩),(14,⟨[true],.asis,none,true⟩),(7,⟨[true],.asis,none,false⟩),(39,⟨[],.own [none,some (34,2)],none,false⟩),(38,⟨[],.own [none,some (34,2)],none,false⟩),(20,⟨[],.own [none,none,some (34,2)],none,false⟩),(11,⟨[],.own [none,none,some (34,2),none],none,false⟩),(48,⟨[],.frz,none,false⟩),(30,⟨[],.frz,none,false⟩),(29,⟨[],.frz,none,false⟩),(32,⟨[],.frz,none,false⟩),(17,⟨[],.frz,none,false⟩),(9,⟨[],.frz,none,false⟩),(4,⟨[],.frz,none,false⟩),(5,⟨[],.own [some (36,3),none],none,false⟩)]
theorem noExt {l:List (Nat × FM)} (h:(l.all fun p=>p.2.ext.isNone)=true) {f:Nat} {m:FM} {g:List SV→List Ob→Option (SV × List Ob)} (h1:(f,m)∈l) (h2:m.ext=some g):False:=by
 have h3:=zZ.1 h _ h1
 rw [h2] at h3
 cases h3
theorem Pj:Ke Tryz.prog modes:=by
 intro f g xs ob r ob' hg hx
 obtain ⟨m,h1,h2⟩:=Q8 hg
 rcases zY.1 h1 with h1 | h1
 ·obtain ⟨rfl,rfl⟩:=yK h1
  obtain rfl:=zK h2
  exact D7 Pi hx
 rcases zY.1 h1 with h1 | h1
 ·obtain ⟨rfl,rfl⟩:=yK h1
  obtain rfl:=zK h2
  exact D7 Q9 hx
 rcases zY.1 h1 with h1 | h1
 ·obtain ⟨rfl,rfl⟩:=yK h1
  obtain rfl:=zK h2
  exact D7 QA hx
 rcases zY.1 h1 with h1 | h1
 ·obtain ⟨rfl,rfl⟩:=yK h1
  obtain rfl:=zK h2
  exact D7 QB hx
 rcases zY.1 h1 with h1 | h1
 ·obtain ⟨rfl,rfl⟩:=yK h1
  obtain rfl:=zK h2
  exact D7 QC hx
 rcases zY.1 h1 with h1 | h1
 ·obtain ⟨rfl,rfl⟩:=yK h1
  obtain rfl:=zK h2
  exact D7 Om hx
 rcases zY.1 h1 with h1 | h1
 ·obtain ⟨rfl,rfl⟩:=yK h1
  obtain rfl:=zK h2
  exact D7 Ph hx
 exact (noExt rfl h1 h2).elim
noncomputable def E:FEnv:=ev Tryz.prog modes
noncomputable def calls:CallF:=Cd modes E
theorem UH {f:FuncId} {xs:List SV} {ob:List Ob} {r:SV} {ob':List Ob} (h:E f xs ob=some (r,ob')):Fun Tryz.prog f xs ob r ob':=T7 UD Pj f xs ob r ob' h
noncomputable def run (n0:Nat):SC→St→Option (X × St):=fr Tryz.prog calls (HR n0)
def go (n0:Nat) (sc:SC) (st:St) (K:X→St→Prop):Prop:=∃ x st',run n0 sc st=some (x,st')∧K x st'
def TD (n0:Nat) (b:SC) (K:X→St→Prop):X→St→Prop
 | .normal,st=>go n0 b st K
 | .exit i,st=>K (.exit i) st
 | .ret,st=>K .ret st
def blk (id:Nat) (K:X→St→Prop):X→St→Prop
 | .normal,st=>K .normal st
 | .exit i,st=>if i=id then K .normal st else K (.exit i) st
 | .ret,st=>K .ret st
def RW (r:Option St) (k:X→St→Prop):Prop :=
 match r with
 | some st=>k .normal st
 | none=>False
def RY (anc:List (List Nat)) (r:Option (List Ent × St)) (k:X→St→Prop):Prop :=
 match r with
 | some (es,st)=>obB anc [] (HH es) 0=true∧k .normal st
 | none=>False
def Iw (v:SV) (a b:Unit→Prop):Prop :=
 match v with
 | .bool true=>a ()
 | .bool false=>b ()
 | _=>False
noncomputable def Pk (ops:List SOper) (st:St):Option St:=KB Tryz.prog calls ops st
noncomputable def Pl (ops:List SOper) (acc:List Ent) (st:St):Option (List Ent × St):=F2 Tryz.prog calls ops acc st
section
variable {n0:Nat} {st:St} {K:X→St→Prop}
theorem go_skip:go n0 .skip st K=K .normal st:=by
 refine propext ⟨fun ⟨x,st',h,k⟩=>?_,fun k=>⟨_,_,rfl,k⟩⟩
 obtain ⟨rfl,rfl⟩:X.normal=x∧st=st':=by simpa [run,fr] using h
 exact k
theorem TE {i:Nat}:go n0 (.exit i) st K=K (.exit i) st:=by
 refine propext ⟨fun ⟨x,st',h,k⟩=>?_,fun k=>⟨_,_,rfl,k⟩⟩
 obtain ⟨rfl,rfl⟩:X.exit i=x∧st=st':=by simpa [run,fr] using h
 exact k
theorem go_ret:go n0 .ret st K=K .ret st:=by
 refine propext ⟨fun ⟨x,st',h,k⟩=>?_,fun k=>⟨_,_,rfl,k⟩⟩
 obtain ⟨rfl,rfl⟩:X.ret=x∧st=st':=by simpa [run,fr] using h
 exact k
theorem UI {ops:List SOper}:go n0 (.reg ops) st K=RW (Pk ops st) K:=by
 unfold RW Pk
 refine propext ⟨fun ⟨x,st',h,k⟩=>?_,fun k=>?_⟩
 ·simp only [run,fr] at h
  split at h
  ·rename_i s hs
   simp only [zB,zG] at h
   obtain ⟨rfl,rfl⟩:=h
   first | exact k | (simp only [hs]; exact k)
  ·cases h
 ·split at k
  ·rename_i s hs
   exact ⟨.normal,s,by simp only [run,fr,hs],k⟩
  ·exact k.elim
theorem TF {anc:List (List Nat)} {ops:List SOper}:go n0 (.dreg anc ops) st K=RY anc (Pl ops [] st) K:=by
 unfold RY Pl
 refine propext ⟨fun ⟨x,st',h,k⟩=>?_,fun k=>?_⟩
 ·simp only [run,fr] at h
  split at h
  ·rename_i es s hs
   obtain ⟨h1,h2⟩:=Ae h
   simp only [zB,zG] at h2
   obtain ⟨rfl,rfl⟩:=h2
   first | exact ⟨h1,k⟩ | (simp only [hs]; exact ⟨h1,k⟩)
  ·cases h
 ·split at k
  ·rename_i es s hs
   exact ⟨.normal,s,by simp only [run,fr,hs,k.1,cond_true],k.2⟩
  ·exact k.elim
theorem UJ {a b:SC}:go n0 (.seq a b) st K=go n0 a st (TD n0 b K):=by
 refine propext ⟨fun ⟨x,st',h,k⟩=>?_,fun ⟨x,st',h,k⟩=>?_⟩
 ·simp only [run,fr,BV] at h
  split at h
  ·rename_i s hs
   exact ⟨.normal,s,hs,x,st',h,k⟩
  ·rename_i i s hs
   simp only [zB,zG] at h
   obtain ⟨rfl,rfl⟩:=h
   exact ⟨_,_,hs,k⟩
  ·rename_i s hs
   simp only [zB,zG] at h
   obtain ⟨rfl,rfl⟩:=h
   exact ⟨_,_,hs,k⟩
  ·cases h
 ·simp only [run] at h
  cases x with
  | normal =>
   obtain ⟨x2,st2,h2,k2⟩:=k
   exact ⟨x2,st2,by simp only [run,fr,BV,h]; exact h2,k2⟩
  | exit i=>exact ⟨_,st',by simp only [run,fr,BV,h],k⟩
  | ret=>exact ⟨_,st',by simp only [run,fr,BV,h],k⟩
theorem RZ {n:Nat} {b:SC}:go n0 (.ghost n b) st K=go n0 b (Oc n st) K:=by simp only [go,run,fr]
theorem Sa {id:Nat} {b:SC}:go n0 (.block id b) st K=go n0 b st (blk id K):=by
 refine propext ⟨fun ⟨x,st',h,k⟩=>?_,fun ⟨x,st',h,k⟩=>?_⟩
 ·simp only [run,fr,FR] at h
  split at h
  ·rename_i s hs
   simp only [zB,zG] at h
   obtain ⟨rfl,rfl⟩:=h
   exact ⟨.normal,s,hs,k⟩
  ·rename_i i s hs
   refine ⟨.exit i,s,hs,?_⟩
   simp only [blk]
   by_cases hi:i=id
   ·simp only [if_pos hi,zB,zG] at h ⊢
    obtain ⟨rfl,rfl⟩:=h
    exact k
   ·simp only [if_neg hi,zB,zG] at h ⊢
    obtain ⟨rfl,rfl⟩:=h
    exact k
  ·rename_i s hs
   simp only [zB,zG] at h
   obtain ⟨rfl,rfl⟩:=h
   exact ⟨_,s,hs,k⟩
  ·cases h
 ·simp only [run] at h
  cases x with
  | normal=>exact ⟨_,st',by simp only [run,fr,FR,h],k⟩
  | exit i =>
   simp only [blk] at k
   by_cases hi:i=id
   ·simp only [if_pos hi] at k
    exact ⟨.normal,st',by simp only [run,fr,FR,h,if_pos hi],k⟩
   ·simp only [if_neg hi] at k
    exact ⟨.exit i,st',by simp only [run,fr,FR,h,if_neg hi],k⟩
  | ret=>exact ⟨_,st',by simp only [run,fr,FR,h],k⟩
theorem Aa {q:SX} {a b:SC}:go n0 (.cond q a b) st K=Iw (Am (gets st.sl) q) (fun _=>go n0 a st K) (fun _=>go n0 b st K):=by
 unfold Iw
 refine propext ⟨fun ⟨x,st',h,k⟩=>?_,fun k=>?_⟩
 ·simp only [run,fr] at h
  split at h
  ·rename_i t ht
   simp only [ht]
   cases t with
   | true=>exact ⟨x,st',h,k⟩
   | false=>exact ⟨x,st',h,k⟩
  ·cases h
 ·split at k
  ·rename_i ht
   obtain ⟨x,st',h,k⟩:=k
   exact ⟨x,st',by simp only [run,fr,ht,cond_true]; exact h,k⟩
  ·rename_i ht
   obtain ⟨x,st',h,k⟩:=k
   exact ⟨x,st',by simp only [run,fr,ht,cond_false]; exact h,k⟩
  ·exact k.elim
theorem TG {a b:Unit→Prop}:Iw (.bool true) a b=a ():=rfl
theorem TH {a b:Unit→Prop}:Iw (.bool false) a b=b ():=rfl
theorem TI {t:Bool} {a b:Unit→Prop}:Iw (.bool (!t)) a b=Iw (.bool t) b a:=by cases t <;> rfl
theorem Sc {q:SX} {a b:SC} (h:Am (gets st.sl) q=.bool true) (k:go n0 a st K):go n0 (.cond q a b) st K:=by rw [Aa,h]; exact k
theorem Sd {q:SX} {a b:SC} (h:Am (gets st.sl) q=.bool false) (k:go n0 b st K):go n0 (.cond q a b) st K:=by rw [Aa,h]; exact k
theorem On {t:Bool} {a b:Unit→Prop} (h1:t=true→a ()) (h2:t=false→b ()):Iw (.bool t) a b:=by
 cases t with
 | true=>exact h1 rfl
 | false=>exact h2 rfl
theorem UK {b:SC}:TD n0 b K .normal st=go n0 b st K:=rfl
theorem UL {b:SC} {i:Nat}:TD n0 b K (.exit i) st=K (.exit i) st:=rfl
theorem UM {b:SC}:TD n0 b K .ret st=K .ret st:=rfl
theorem V9 {id:Nat}:blk id K .normal st=K .normal st:=rfl
theorem VA {id i:Nat}:blk id K (.exit i) st=if i=id then K .normal st else K (.exit i) st:=rfl
theorem VB {id:Nat}:blk id K .ret st=K .ret st:=rfl
theorem TJ:RW (some st) K=K .normal st:=rfl
def quiet:List Ent→Bool
 | []=>true
 | ⟨_,_,[],_⟩ :: r=>quiet r
 | ⟨_,_,_ :: _,_⟩ :: _=>false
theorem KU {anc:List (List Nat)} {rd:List Nat} {j:Nat}:∀ {l:List Ent} {i:Nat},quiet l=true→OE anc rd [] j (HH l) i=true
 | [],i,_=>rfl
 | ⟨_,_,[],rdi⟩ :: r,i,h=>by
  have:=KU (anc:=anc) (rd:=rd) (j:=j) (l:=r) (i:=i+1) h
  simp only [HH,zD,yD] at this ⊢
  simp only [OE,this,zR]
  have e1:meets [] (rd++[])=false:=rfl
  have e2:meets rdi []=false:=by cases rdi <;> simp [meets]
  rw [e1,e2]; rfl
theorem QD {l l':List Ent} (h:quiet l=true) (h':quiet l'=true):quiet (l++l')=true:=by
 induction l with
 | nil=>exact h'
 | cons x r ih =>
  obtain ⟨a,b,c,d⟩:=x
  cases c with
  | nil=>exact ih h
  | cons _ _=>cases h
theorem Mw {anc:List (List Nat)}:∀ {l pre:List Ent} {j:Nat},quiet pre=true→quiet l=true→obB anc (HH pre) (HH l) j=true
 | [],pre,j,_,_=>rfl
 | ⟨a,b,[],rd⟩ :: r,pre,j,hp,h=>by
  have e:=Mw (anc:=anc) (l:=r) (pre:=pre++[⟨a,b,[],rd⟩]) (j:=j+1) (QD hp rfl) h
  have e2:=KU (anc:=anc) (rd:=rd) (j:=j) (i:=0) hp
  simp only [HH,yF,zD,yD] at e e2 ⊢
  simp only [obB,e2,e,zO]
theorem TK {anc:List (List Nat)} {es:List Ent}:RY anc (some (es,st)) K=match quiet es with
  | true=>K .normal st
  | false=>obB anc [] (HH es) 0=true∧K .normal st:=by
 show (obB anc [] (HH es) 0=true∧K .normal st)=_
 cases h:quiet es with
 | true=>exact propext ⟨fun h=>h.2,fun h'=>⟨Mw (pre:=[]) rfl h,h'⟩⟩
 | false=>rfl
noncomputable def UN (r:List SOper) (e:Option (Ent × St)):Option St :=
 match e with
 | some (_,st)=>Pk r st
 | none=>none
noncomputable def UO (r:List SOper) (acc:List Ent) (e:Option (Ent × St)):Option (List Ent × St) :=
 match e with
 | some (x,st)=>Pl r (acc++[x]) st
 | none=>none
noncomputable def opF (so:SOp) (sl:List SV) (ob:List Ob):Option R3:=fOp Tryz.prog calls so sl ob
theorem Se:Pk [] st=some st:=rfl
theorem QE {d:Option Tmp} {so:SOp} {r:List SOper} {sl:List SV} {ob:List Ob}:Pk (⟨d,none,so⟩ :: r) ⟨sl,ob⟩=UN r (Hs d ⟨sl,ob⟩ (opF so sl ob)):=rfl
noncomputable def gdF (d:Option Tmp) (so:SOp) (want:Bool) (sl:List SV) (ob:List Ob) (v:SV):Option (Ent × St) :=
 match v with
 | .bool b=>bif OQ b want then Hs d ⟨sl,ob⟩ (opF so sl ob) else some (⟨false,.tup [],[],[]⟩,⟨Ez sl d (.tup []),ob⟩)
 | .tup []=>some (⟨false,.tup [],[],[]⟩,⟨Ez sl d (.tup []),ob⟩)
 | _=>none
theorem TL {d:Option Tmp} {k:Nat} {want:Bool} {so:SOp} {r:List SOper} {sl:List SV} {ob:List Ob}:Pk (⟨d,some (k,want),so⟩ :: r) ⟨sl,ob⟩=UN r (gdF d so want sl ob (gets sl k)):=rfl
theorem Sf {acc:List Ent}:Pl [] acc st=some (acc,st):=rfl
theorem QF {d:Option Tmp} {so:SOp} {r:List SOper} {acc:List Ent} {sl:List SV} {ob:List Ob}:Pl (⟨d,none,so⟩ :: r) acc ⟨sl,ob⟩=UO r acc (Hs d ⟨sl,ob⟩ (opF so sl ob)):=rfl
theorem TM {d:Option Tmp} {k:Nat} {want:Bool} {so:SOp} {r:List SOper} {acc:List Ent} {sl:List SV} {ob:List Ob}:Pl (⟨d,some (k,want),so⟩ :: r) acc ⟨sl,ob⟩=UO r acc (gdF d so want sl ob (gets sl k)):=rfl
theorem UP {r:List SOper} {e:Ent}:UN r (some (e,st))=Pk r st:=rfl
theorem UQ {r:List SOper} {acc:List Ent} {e:Ent}:UO r acc (some (e,st))=Pl r (acc++[e]) st:=rfl
theorem VC {d:Option Tmp} {so:SOp} {sl:List SV} {ob:List Ob}:gdF d so true sl ob (.bool true)=Hs d ⟨sl,ob⟩ (opF so sl ob):=rfl
theorem UR {d:Option Tmp} {so:SOp} {sl:List SV} {ob:List Ob}:gdF d so false sl ob (.bool false)=Hs d ⟨sl,ob⟩ (opF so sl ob):=rfl
theorem US {d:Option Tmp} {so:SOp} {sl:List SV} {ob:List Ob}:gdF d so true sl ob (.bool false)=some (⟨false,.tup [],[],[]⟩,⟨Ez sl d (.tup []),ob⟩):=rfl
theorem UT {d:Option Tmp} {so:SOp} {sl:List SV} {ob:List Ob}:gdF d so false sl ob (.bool true)=some (⟨false,.tup [],[],[]⟩,⟨Ez sl d (.tup []),ob⟩):=rfl
theorem VD {d:Option Tmp} {so:SOp} {want:Bool} {sl:List SV} {ob:List Ob}:gdF d so want sl ob (.tup [])=some (⟨false,.tup [],[],[]⟩,⟨Ez sl d (.tup []),ob⟩):=rfl
theorem UU {d:Option Tmp} {x:SV} {rd:List Nat}:Hs d st (some (x,[],rd))=some (⟨true,x,[],rd⟩,⟨Ez st.sl d x,st.ob⟩):=rfl
theorem UV {d:Option Tmp} {x:SV} {q:Nat × Ob} {u:List (Nat × Ob)} {rd:List Nat}:Hs d st (some (x,q :: u,rd))=bif Qw (C2 st.ob (q :: u)).length (q :: u) then some (⟨true,x,q :: u,rd⟩,⟨Ez st.sl d x,C2 st.ob (q :: u)⟩) else none:=rfl
def Oo (ob:List Ob) (xs:List SV) (sel:List Nat) (r:Option (SV × List Ob)) (n:Nat):Option R3 :=
 match r with
 | some (r,fob')=>bif decide (n≤fob'.length) then some (EQ sel (AP sel xs) ob.length r fob') else none
 | none=>none
def UW (hd:List Bool) (f:FuncId) (xs:List SV) (ob:List Ob) (sel:List Nat) (e:List SV→List Ob→Option (SV × List Ob)) (b:Option (List Ob)):Option R3 :=
 match b with
 | some fob=>bif Fj sel&&HO ob.length sel&&FN fob.length fob then Oo ob xs sel (e (EO hd (Ad ob) sel xs) fob) fob.length else none
 | none=>none
def Sg (hd:List Bool) (f:FuncId) (xs:List SV) (ob:List Ob) (sel:List Nat) (e:List SV→List Ob→Option (SV × List Ob)):Option R3:=UW hd f xs ob sel e (El sel ob sel)
theorem Sh {f:FuncId} {xs:List SV} {ob:List Ob}:calls f xs ob=E3 (modes f).res (Sg (modes f).hand f xs ob (reach ob 64 (F6 (modes f).hand xs) []) (E f)):=rfl
theorem UX {r:Option R3}:E3 .asis r=r:=rfl
theorem UY {r:Option R3}:E3 .frz r=r:=rfl
theorem UZ {l:List (Option (Nat × Nat))} {r:Option R3}:E3 (.own l) r=r:=rfl
theorem Va {l:List (Option (Nat × Nat))} {r:Option R3}:E3 (.half l) r=r:=rfl
theorem Vb {l:List (Option (Nat × Nat))} {r:Option R3}:E3 (.tr l) r=r:=rfl
theorem Vd {d n:Nat} {r:Option R3}:E3 (.frzg d n) r=r:=rfl
theorem Ve {d n:Nat} {l:List (Option (Nat × Nat))} {r:Option R3}:E3 (.halfg d n l) r=r:=rfl
theorem Vf {l:List Nat} {r:Option R3}:E3 (.frl l) r=r:=rfl
theorem Vg {r:R3}:E3 .late (some r)=NV r:=rfl
theorem HT:∀ u:List (Nat × Ob),CL [] u=u
 | []=>rfl
 | (g,o) :: u=>by rw [CL,HT u]; rfl
theorem Vh {m:RM} {b:Bool} {u:List (Nat × Ob)} {rd:List Nat}:E3 m (some (.bool b,u,rd))=some (.bool b,u,rd):=by
 cases m <;> first | rfl | (show some (SV.bool b,CL [] u,rd)=_; rw [HT])
theorem Vi {m:RM} {k:IntKind} {n:Int} {u:List (Nat × Ob)} {rd:List Nat}:E3 m (some (.int k n,u,rd))=some (.int k n,u,rd):=by
 cases m <;> first | rfl | (show some (SV.int k n,CL [] u,rd)=_; rw [HT])
theorem QG {hd:List Bool} {f:FuncId} {xs:List SV} {ob:List Ob} {e:List SV→List Ob→Option (SV × List Ob)}:Sg hd f xs ob [] e=Oo ob xs [] (e (EO hd (Ad ob) [] xs) []) 0:=rfl
theorem Pm {hd:List Bool} {f:FuncId} {xs:List SV} {ob:List Ob} {g:Nat} {r:List Nat} {e:List SV→List Ob→Option (SV × List Ob)}:Sg hd f xs ob (g :: r) e=UW hd f xs ob (g :: r) e (El (g :: r) ob (g :: r)):=rfl
theorem TN {ob:List Ob} {xs:List SV} {r:SV} {fob':List Ob}:Oo ob xs [] (some (r,fob')) 0=some (EQ [] (AP [] xs) ob.length r fob'):=rfl
theorem TO {ob:List Ob} {xs:List SV} {sel:List Nat} {r:SV} {fob':List Ob} {n:Nat}:Oo ob xs sel (some (r,fob')) n=bif decide (n≤fob'.length) then some (EQ sel (AP sel xs) ob.length r fob') else none:=rfl
theorem Vj {hd:List Bool} {f:FuncId} {xs:List SV} {ob:List Ob} {sel:List Nat} {fob:List Ob} {e:List SV→List Ob→Option (SV × List Ob)}:UW hd f xs ob sel e (some fob)=bif Fj sel&&HO ob.length sel&&FN fob.length fob then Oo ob xs sel (e (EO hd (Ad ob) sel xs) fob) fob.length else none:=rfl
theorem QH {p:Nat} {r:SV}:EQ [] [] p r []=(r.ren (sgp [] p),[],[]):=rfl
def Nh {α:Type} (n0:Nat) (keep:List Nat) (H:α→St) (R:α→Prop) (μ:α→Nat) (a:α) (K:X→St→Prop):X→St→Prop
 | .normal,st'=>∃ y,R y∧μ y < μ a∧canon n0 keep st'=H y
 | .exit i,st'=>K (.exit i) st'
 | .ret,st'=>K .ret st'
theorem Si {α:Type} {keep:List Nat} {H:α→St} {R:α→Prop} {μ:α→Nat} {a:α} {st':St}:Nh n0 keep H R μ a K .normal st'=∃ y,R y∧μ y < μ a∧canon n0 keep st'=H y:=rfl
theorem Sj {α:Type} {keep:List Nat} {H:α→St} {R:α→Prop} {μ:α→Nat} {a:α} {i:Nat} {st':St}:Nh n0 keep H R μ a K (.exit i) st'=K (.exit i) st':=rfl
theorem Sk {α:Type} {keep:List Nat} {H:α→St} {R:α→Prop} {μ:α→Nat} {a:α} {st':St}:Nh n0 keep H R μ a K .ret st'=K .ret st':=rfl
theorem go_loop {α:Type} {keep:List Nat} {b:SC} (H:α→St) (R:α→Prop) (μ:α→Nat) (a0:α) (hR:R a0) (h0:canon n0 keep st=H a0) (round:∀ a,R a→go n0 b (H a) (Nh n0 keep H R μ a K)):go n0 (.loop keep b) st K:=by
 have key:∀ (n:Nat) (a:α) (st:St),μ a≤n→R a→canon n0 keep st=H a→∃ x st',Mo n0 keep (run n0 b) st=some (x,st')∧K x st':=by
  intro n
  induction n with
  | zero =>
   intro a st hn hR hc
   obtain ⟨x,st',h,k⟩:=round a hR
   cases x with
   | normal =>
    obtain ⟨y,_,h2,_⟩:=k
    omega
   | exit i=>exact ⟨_,st',by rw [G7,hc,h]; rfl,k⟩
   | ret=>exact ⟨_,st',by rw [G7,hc,h]; rfl,k⟩
  | succ n ih =>
   intro a st hn hR hc
   obtain ⟨x,st',h,k⟩:=round a hR
   cases x with
   | normal =>
    obtain ⟨y,h1,h2,h3⟩:=k
    obtain ⟨x2,st2,h4,k2⟩:=ih y st' (by omega) h1 h3
    exact ⟨x2,st2,by rw [G7,hc,h]; exact h4,k2⟩
   | exit i=>exact ⟨_,st',by rw [G7,hc,h]; rfl,k⟩
   | ret=>exact ⟨_,st',by rw [G7,hc,h]; rfl,k⟩
 exact key (μ a0) a0 st (zH _) hR h0
def Ni (n0:Nat) (keep keepO:List Nat) (H:EL→St) (F:X × St) (p:EL):X→St→Prop
 | .normal,st'=>canon n0 keep st'=H p
 | .exit i,st'=>F=(.exit i,canon n0 keepO st')
 | .ret,st'=>F=(.ret,canon n0 keepO st')
def Us (n0:Nat) (keepO:List Nat) (F:X × St):X→St→Prop
 | .normal,_=>False
 | .exit i,st'=>F=(.exit i,canon n0 keepO st')
 | .ret,st'=>F=(.ret,canon n0 keepO st')
theorem QI {keep keepO:List Nat} {H:EL→St} {F:X × St} {p:EL} {st':St}:Ni n0 keep keepO H F p .normal st'=(canon n0 keep st'=H p):=rfl
theorem QJ {keep keepO:List Nat} {H:EL→St} {F:X × St} {p:EL} {i:Nat} {st':St}:Ni n0 keep keepO H F p (.exit i) st'=(F=(.exit i,canon n0 keepO st')):=rfl
theorem QK {keep keepO:List Nat} {H:EL→St} {F:X × St} {p:EL} {st':St}:Ni n0 keep keepO H F p .ret st'=(F=(.ret,canon n0 keepO st')):=rfl
theorem TP {keepO:List Nat} {F:X × St} {i:Nat} {st':St}:Us n0 keepO F (.exit i) st'=(F=(.exit i,canon n0 keepO st')):=rfl
theorem TQ {keepO:List Nat} {F:X × St} {st':St}:Us n0 keepO F .ret st'=(F=(.ret,canon n0 keepO st')):=rfl
end
def slots:Nat→Nat→List (Nat × SV)→List SV
 | 0,_,_=>[]
 | n+1,k,[]=>.any :: slots n (k+1) []
 | n+1,k,(j,x) :: r=>bif j == k then x :: slots n (k+1) r else .any :: slots n (k+1) ((j,x) :: r)
def TR (res:RM) (n0:Nat) (rs:List RX) (out:SV × List Ob) (x:X) (st:St):Prop:=fin res n0 rs x st=some out
def Vk (res:RM) (n0:Nat) (r:Option (SV × List Ob)):Option (SV × List Ob) :=
 match r with
 | some (r,ob)=>order res n0 r ob
 | none=>none
def Oq (res:RM) (n0:Nat) (ob:List Ob) (r:Option SV):Option (SV × List Ob) :=
 match r with
 | some r0=>Vk res n0 (gc n0 r0 ob)
 | none=>none
theorem Vl {res:RM} {n0:Nat} {rs:List RX} {out:SV × List Ob} {sl:List SV} {ob:List Ob}:TR res n0 rs out .ret ⟨sl,ob⟩=(Oq res n0 ob (L1 ⟨sl,ob⟩ rs)=some out):=rfl
theorem Vm {res:RM} {n0:Nat} {rs:List RX} {out:SV × List Ob} {sl:List SV} {ob:List Ob}:TR res n0 rs out .normal ⟨sl,ob⟩=(Oq res n0 ob (L1 ⟨sl,ob⟩ rs)=some out):=rfl
theorem TS {res:RM} {n0:Nat} {ob:List Ob} {r:SV}:Oq res n0 ob (some r)=Vk res n0 (gc n0 r ob):=rfl
theorem Vn {n0:Nat} {r:SV} {ob:List Ob} {res:RM}:Vk res n0 (some (r,ob))=order res n0 r ob:=rfl
theorem Ab {f:FuncId} {fc:FC} {hand:List Bool} {res:RM} {tr:Bool} {xs:List SV} {ob:List Ob} {out:SV × List Ob} (hc:Ai Tryz.prog f=some fc) (hr:modes f=⟨hand,res,none,tr⟩) (hn:xs.length≤fc.nt) (h:go ob.length (Ea res fc.sc) ⟨xs++It (fc.nt-xs.length),entry tr ob⟩ (TR res ob.length fc.rs out)):E f xs ob=some out:=by
 obtain ⟨x,st',h1,h2⟩:=h
 unfold E
 rw [Uq]
 unfold ES
 rw [hc,hr]
 simp only
 rw [decide_eq_true hn,cond_true]
 have h1:fr Tryz.prog (Cd modes (ev Tryz.prog modes)) (HR ob.length) (Ea res fc.sc) ⟨xs++It (fc.nt-xs.length),entry tr ob⟩=some (x,st'):=h1
 rw [h1]
 exact h2
theorem Vo {f:FuncId} {g:List SV→List Ob→Option (SV × List Ob)} {xs:List SV} {ob:List Ob} (hg:(modes f).ext=some g):E f xs ob=g xs ob:=by
 unfold E
 rw [Uq]
 unfold ES
 rw [hg]
theorem KV {f:FuncId} {g:List SV→Option SV} {xs:List SV} {r:SV} (hg:(modes f).ext=some (Gm g)) (h:g xs=some r):E f xs []=some (r,[]):=by
 rw [Vo hg]
 simp only [Gm,h]
theorem Da:modes 26=⟨[],.asis,some (Gm Mv),false⟩:=by unfold modes; rfl
theorem FW {k:Int} (h1:1≤k) (h2:k≤1099511627776):E 26 [.int .i64 k] []=some (.str (ET k),[]):=by
 refine KV (g:=Mv) (by unfold modes; rfl) ?_
 simp only [Mv,AJ h1,AJ h2,zO,cond_true]
theorem BJ:modes 89=⟨[],.asis,some (Gm RS),false⟩:=by unfold modes; rfl
theorem Ix (s:ByteArray):E 89 [.str s] []=some (.bool (BY s),[]):=KV (g:=RS) (congrArg FM.ext BJ) rfl
theorem Bk:modes 74=⟨[],.asis,some (Gm RT),false⟩:=by unfold modes; rfl
theorem Nj (s:ByteArray):E 74 [.str s] []=some (.bool (BY s),[]):=KV (g:=RT) (congrArg FM.ext Bk) rfl
theorem AS:modes 63=⟨[],.asis,some (Gm RU),false⟩:=by unfold modes; rfl
theorem KW (s:ByteArray):E 63 [.str s] []=some (.bool (Dn s),[]):=KV (g:=RU) (congrArg FM.ext AS) rfl
theorem AT:modes 52=⟨[],.asis,some (Gm RV),false⟩:=by unfold modes; rfl
theorem KX (s:ByteArray):E 52 [.str s] []=some (.bool (Dn s),[]):=KV (g:=RV) (congrArg FM.ext AT) rfl
abbrev Tm.sv (x:Tm):SV:=.agg [.str x.name,.arr (x.args.map Tm.d)]
mutual
def Tm.o:Tm→List OT
 | .mk name args=>[.str name,.ow (Tm.os args)]
def Tm.os:List Tm→List (List OT)
 | []=>[]
 | x :: xs=>Tm.o x :: Tm.os xs
end
theorem Tm.Ut:∀ xs:List Tm,Tm.os xs=xs.map Tm.o
 | []=>rfl
 | x :: xs=>by rw [Tm.os,Tm.Ut xs]; rfl
theorem Tm.o_eq (x:Tm):Tm.o x=[.str x.name,.ow (x.args.map Tm.o)]:=by
 obtain ⟨name,args⟩:=x
 rw [Tm.o,Tm.Ut]; rfl
theorem Tm.Pn:∀ xs:List Tm,(∀ x∈xs,OT.ers (Tm.o x)=Tm.d x)→OT.erss (xs.map Tm.o)=xs.map Tm.d
 | [],_=>rfl
 | x :: xs,h=>by
  simp only [zD,OT.erss]
  rw [h x (by simp),Tm.Pn xs fun y hy=>h y (by simp [hy])]
theorem Tm.er (x:Tm):OT.ers (Tm.o x)=Tm.d x:=by
 have h:=Tm.Pn x.args fun y hy=>Tm.er y
 rw [Tm.o_eq,Tm.d_eq]
 simp only [OT.ers,OT.er,h]
termination_by SizeOf.sizeOf x
decreasing_by exact Tm.AC hy
theorem Tm.erss (xs:List Tm):OT.erss (xs.map Tm.o)=xs.map Tm.d:=Tm.Pn xs fun x _=>Tm.er x
theorem Tm.Po:∀ xs:List Tm,(∀ x∈xs,OT.E1 (Tm.o x)=true)→OT.Ci (xs.map Tm.o)=true
 | [],_=>rfl
 | x :: xs,h=>by
  simp only [zD,OT.Ci]
  rw [h x (by simp),Tm.Po xs fun y hy=>h y (by simp [hy])]; rfl
theorem Tm.no (x:Tm):OT.E1 (Tm.o x)=true:=by
 have h:=Tm.Po x.args fun y hy=>Tm.no y
 rw [Tm.o_eq]
 simp only [OT.E1,OT.noSh,h,zO,zR]
termination_by SizeOf.sizeOf x
decreasing_by exact Tm.AC hy
theorem Tm.noss (xs:List Tm):OT.Ci (xs.map Tm.o)=true:=Tm.Po xs fun x _=>Tm.no x
abbrev Tm.osv (x:Tm):SV:=.agg [.str x.name,.ref 0]
abbrev Tm.obs (x:Tm):List Ob:=[.row 34 2 (x.args.map Tm.o)]
abbrev Lt.sv (x:Lt):SV:=.agg [.bool x.pos,.str x.atom.name,.arr (x.atom.args.map Tm.d)]
def Lt.o (x:Lt):List OT:=[.bool x.pos,.str x.atom.name,.ow (x.atom.args.map Tm.o)]
theorem Lt.o_eq (x:Lt):Lt.o x=[.bool x.pos,.str x.atom.name,.ow (x.atom.args.map Tm.o)]:=rfl
theorem Lt.er (x:Lt):OT.ers (Lt.o x)=Lt.d x:=by
 simp only [Lt.o,Lt.d,OT.ers,OT.er,Tm.erss]
theorem Lt.erss:∀ xs:List Lt,OT.erss (xs.map Lt.o)=xs.map Lt.d
 | []=>rfl
 | x :: xs=>by simp only [zD,OT.erss,Lt.er,Lt.erss xs]
theorem Lt.no (x:Lt):OT.E1 (Lt.o x)=true:=by
 simp only [Lt.o,OT.E1,OT.noSh,Tm.noss,zO,zR]
theorem Lt.noss:∀ xs:List Lt,OT.Ci (xs.map Lt.o)=true
 | []=>rfl
 | x :: xs=>by simp only [zD,OT.Ci,Lt.no,Lt.noss xs,zO]
abbrev Lt.osv (x:Lt):SV:=.agg [.bool x.pos,.str x.atom.name,.ref 0]
abbrev Lt.obs (x:Lt):List Ob:=[.row 34 2 (x.atom.args.map Tm.o)]
abbrev Cl.sv (x:Cl):SV:=.agg [.arr (x.lits.map Lt.d)]
def Cl.o (x:Cl):List OT:=[.ow (x.lits.map Lt.o)]
theorem Cl.er (x:Cl):OT.ers (Cl.o x)=Cl.d x:=by
 simp only [Cl.o,Cl.d,OT.ers,OT.er,Lt.erss]
theorem Cl.erss:∀ xs:List Cl,OT.erss (xs.map Cl.o)=xs.map Cl.d
 | []=>rfl
 | x :: xs=>by simp only [zD,OT.erss,Cl.er,Cl.erss xs]
theorem Cl.no (x:Cl):OT.E1 (Cl.o x)=true:=by
 simp only [Cl.o,OT.E1,OT.noSh,Lt.noss,zO,zR]
theorem Cl.noss:∀ xs:List Cl,OT.Ci (xs.map Cl.o)=true
 | []=>rfl
 | x :: xs=>by simp only [zD,OT.Ci,Cl.no,Cl.noss xs,zO]
abbrev Cl.osv (x:Cl):SV:=.agg [.ref 0]
abbrev Cl.obs (x:Cl):List Ob:=[.row 36 3 (x.lits.map Lt.o)]
theorem TT {n:Int} (h1:-9223372036854775808≤n) (h2:n≤9223372036854775807):dec (inK .i64 n)=true:=AJ (Tr.2 ⟨h1,h2⟩)
theorem get_at {α β:Type} (f:α→β) {xs:List α} {k:Nat} (h:k<xs.length):(xs.map f)[k]?=some (f xs[k]):=by rw [yS,zL h]; rfl
theorem Uu:dec True=true:=AJ trivial
theorem VE:dec False=false:=AN fun h=>h
attribute [go_sem] T5 T4 Ve Vd RZ Oc SC.CD RN pfx D1 H3 OT.FQ OT.NZ OT.half Va T2 EO NM SV.isNil Ob.idsB SV.idsB SV.J7 List.getElem?_cons_zero List.getElem?_cons_succ OT.AK OT.DN OT.full entry toTree PS Oa PR DR F5 D3 R9 LR RI OT.erss OT.ers OT.er OT.Ci OT.E1 OT.noSh quiet obB OE HH meets Gu go_skip TE go_ret UI TF UJ Sa TG TH TI UK UL UM V9 VA VB TJ TK Se QE TL Sf QF TM UP UQ VC UR US UT VD UU UV Sh UX UY UZ Vb Vf Vg Vh Vi NV NU CL seen QG Pm TN TO Vj QH EQ Si Sj Sk Vl Vm TS Vn order opF fOp DQ PN Ts PL PM R8 G0 eqK Am gets Ad Lz Ez C2 Im K3 Au Qw SV.cellsN SV.one Hz splice CQ N8 Hy Ik CC Bh B3 Bg Fu Ge OG eOp.mkEs eOp.addS D.sv OT.sv D.ot F0 Fj reach SV.refs SV.Md SV.ptrs SV.Me Ob.refs Ob.liveB F6 El SV.back SV.J8 Ob.back Fy Gf BG AP AO HO FN SV.ren SV.Iq Ob.ren mkU sgp gc JC names Iu Tv Tw Tx KH RJ Ty Tz T0 T1 T3 T6 SC.mark Mi E4 slots L1 OO rxV It NT SV.noSh SV.J4 Ob.noSh SV.own SV.MY DZ cond_true cond_false zP zX zD yD List.drop_succ_cons zN List.drop_nil yI yR List.take_nil yY yP zV List.all_cons List.all_nil List.getD_cons_zero List.getD_cons_succ y2 List.any_nil List.contains_cons List.contains_nil List.isEmpty_nil List.isEmpty_cons List.flatten_cons List.flatten_nil List.replicate_succ List.replicate_zero List.set_cons_zero List.set_cons_succ Nat.add_zero Nat.zero_add zH zE zR yB zO y3 yT Bool.true_or Bool.or_true y4 y0 zS z6 decide_true decide_false beq_self_eq_true if_true if_false Option.map_some Option.map_none zB yU Option.getD_none zW true_and and_true and_self eq_self_iff_true zT yE Bool.true_eq_false zG SV.int.injEq SV.bool.injEq SV.str.injEq SV.agg.injEq SV.tup.injEq SV.arr.injEq yG St.mk.injEq Int.zero_add Uu VE TT AJ AN V3 svK svD Rn svM MV.sv PA RA RB RC Fi St.app Oe MK.sv QI QJ QK TP TQ
attribute [go_sem_proc] Nat.reduceAdd Nat.reduceSub Nat.reduceLT Nat.reduceLeDiff Nat.reduceEqDiff Nat.reduceBEq Nat.reduceBneDiff Nat.reduceMul Int.reduceToNat Int.reduceNeg Int.reduceAdd reduceCtorEq
attribute [go_sem_proc ↓] reduceIte
theorem Nk:∀ xs:List ByteArray,OT.AK (xs.map fun s=>[OT.str s])=true
 | []=>rfl
 | x :: xs=>by simp only [zD,OT.AK,OT.DN,OT.full,Nk xs,zO]
theorem PY:∀ xs:List Int,OT.AK (xs.map fun n=>[OT.int n])=true
 | []=>rfl
 | x :: xs=>by simp only [zD,OT.AK,OT.DN,OT.full,PY xs,zO]
theorem Tm.Sl:∀ xs:List Tm,(∀ x∈xs,OT.DN (Tm.o x)=true)→OT.AK (xs.map Tm.o)=true
 | [],_=>rfl
 | x :: xs,h=>by
  simp only [zD,OT.AK]
  rw [h x (by simp),Tm.Sl xs fun y hy=>h y (by simp [hy])]; rfl
theorem Tm.fu (x:Tm):OT.DN (Tm.o x)=true:=by
 have h:=Tm.Sl x.args fun y hy=>Tm.fu y
 rw [Tm.o_eq]
 simp only [OT.DN,OT.full,h,zO,zR]
termination_by SizeOf.sizeOf x
decreasing_by exact Tm.AC hy
theorem Tm.fus (xs:List Tm):OT.AK (xs.map Tm.o)=true:=Tm.Sl xs fun x _=>Tm.fu x
theorem Lt.fu (x:Lt):OT.DN (Lt.o x)=true:=by
 simp only [Lt.o,OT.DN,OT.full,Tm.fus,zO,zR]
theorem Lt.fus:∀ xs:List Lt,OT.AK (xs.map Lt.o)=true
 | []=>rfl
 | x :: xs=>by simp only [zD,OT.AK,Lt.fu,Lt.fus xs,zO]
theorem Cl.fu (x:Cl):OT.DN (Cl.o x)=true:=by
 simp only [Cl.o,OT.DN,OT.full,Lt.fus,zO,zR]
theorem Cl.fus:∀ xs:List Cl,OT.AK (xs.map Cl.o)=true
 | []=>rfl
 | x :: xs=>by simp only [zD,OT.AK,Cl.fu,Cl.fus xs,zO]
attribute [go_sem] Nk PY PU T9 TA TB Tm.fus Tm.erss Tm.noss Lt.fus Lt.erss Lt.noss Cl.fus Cl.erss Cl.noss
theorem JI {α β:Type} (f:α→β) (dn rest:List α) (x y:α) {k:Nat} (h:dn.length=k):((dn++x :: rest).map f).set k (f y)=((dn++[y])++rest).map f:=by
 subst h
 rw [yF,List.set_append_right _ _ (by simp)]
 simp
theorem Cb {α:Type} (a:α):dec (a=a)=true:=AJ rfl
section
variable {α β:Type} (f:α→β) (z:β) {xs:List α} {k:Nat}
end
theorem TU (a b:Int):(bif dec (a<b) then b else a)=max a b:=by
 by_cases h:a<b
 ·rw [AJ h,cond_true,Int.max_eq_right (by omega)]
 ·rw [AN h,cond_false,Int.max_eq_left (by omega)]
def L7 {α:Type} (p:α→Bool):List α→Int→Int
 | [],_=>-1
 | x :: xs,i=>if p x then i else L7 p xs (i+1)
theorem Sm {α:Type} (p:α→Bool):∀ (xs:List α),dec (0≤L7 p xs 0)=xs.any p:=by
 have key:∀ (xs:List α) (i:Int),0≤i→(0≤L7 p xs i ↔ xs.any p=true):=by
  intro xs
  induction xs with
  | nil=>intro i h; simp [L7]
  | cons x xs ih =>
   intro i h
   simp only [L7,y2,yA]
   by_cases hp:p x=true
   ·simp [hp,h]
   ·rw [if_neg hp,ih (i+1) (by omega)]; simp [hp]
 intro xs
 cases h:xs.any p with
 | true=>exact AJ ((key xs 0 (by omega)).2 h)
 | false=>exact AN fun h'=>by rw [(key xs 0 (by omega)).1 h'] at h; cases h
mutual
def Tm.nodes:Tm→Nat
 | .mk _ args=>1+Tm.A3 args
def Tm.A3:List Tm→Nat
 | []=>0
 | x :: xs=>Tm.nodes x+Tm.A3 xs
end
mutual
def Tm.deep:Tm→Nat
 | .mk _ args=>Tm.DS args+1
def Tm.DS:List Tm→Nat
 | []=>0
 | x :: xs=>max (Tm.deep x) (Tm.DS xs)
end
mutual
def Tm.names:Tm→Bool
 | .mk name args=>if BY name then args.length == 0 else Dn name&&decide (args.length≤4)&&Tm.Eb args
def Tm.Eb:List Tm→Bool
 | []=>true
 | x :: xs=>Tm.names x&&Tm.Eb xs
end
def Tm.small (x:Tm):Bool:=decide (x.nodes≤30)&&decide (x.deep≤8)
def Tm.valid (x:Tm):Bool:=x.small&&x.names
noncomputable def Tm.eqn (x:Tm):Bool:=dec (x.name=⟨#[61]⟩)
noncomputable def Tm.atom (x:Tm):Bool:=if x.eqn then x.args.length == 2&&x.small&&Tm.Eb x.args else Dn x.name&&x.valid
noncomputable def Tm.expr (x:Tm):Bool:=x.valid || x.atom
theorem Tm.At (x:Tm):x.nodes=1+Tm.A3 x.args:=by
 obtain ⟨name,args⟩:=x
 rw [Tm.nodes]; rfl
theorem Tm.QL (x:Tm):1≤x.nodes:=by rw [Tm.At]; omega
theorem Tm.DT:∀ (xs:List Tm) (k:Nat) (h:k<xs.length),xs[k].nodes≤Tm.A3 xs
 | [],k,h=>absurd h (by simp)
 | x :: xs,0,_=>by rw [Tm.A3]; simp
 | x :: xs,k+1,h=>by
  have:=Tm.DT xs k (by simpa using h)
  rw [Tm.A3]; simp only [List.getElem_cons_succ]; omega
theorem Tm.Kf (x:Tm):x.deep=Tm.DS x.args+1:=by
 obtain ⟨name,args⟩:=x
 rw [Tm.deep]; rfl
theorem Tm.GA:∀ xs:List Tm,(∀ y∈xs,y.deep≤y.nodes)→Tm.DS xs≤Tm.A3 xs
 | [],_=>by simp [Tm.DS]
 | x :: xs,h=>by
  have h1:=h x (by simp)
  have h2:=Tm.GA xs fun y hy=>h y (by simp [hy])
  rw [Tm.DS,Tm.A3]; omega
theorem Tm.Fk (x:Tm):x.deep≤x.nodes:=by
 rw [Tm.Kf,Tm.At]
 have:=Tm.GA x.args fun y hy=>Tm.Fk y
 omega
termination_by SizeOf.sizeOf x
decreasing_by exact Tm.AC hy
theorem Tm.EB (x:Tm):x.names=if BY x.name then x.args.length == 0 else Dn x.name&&decide (x.args.length≤4)&&Tm.Eb x.args:=by
 obtain ⟨name,args⟩:=x
 rw [Tm.names]; rfl
theorem Tm.Et:∀ xs:List Tm,Tm.Eb xs=xs.all Tm.names
 | []=>rfl
 | x :: xs=>by rw [Tm.Eb,Tm.Et xs]; rfl
theorem Tm.length_le:∀ xs:List Tm,xs.length≤Tm.A3 xs
 | []=>zH _
 | x :: xs=>by
  have:=Tm.length_le xs
  have:=Tm.QL x
  rw [Tm.A3]; simp only [zP]; omega
theorem Tm.CG {xs:List Tm} {y:Tm} (h:y∈xs):y.nodes≤Tm.A3 xs:=by
 obtain ⟨k,hk,rfl⟩:=List.getElem_of_mem h
 exact Tm.DT xs k hk
theorem My {xs:List Tm} (h:xs.length=2):Tm.Eb xs=((xs[0]'(by omega)).names&&(xs[1]'(by omega)).names):=by
 match xs,h with
 | [a,b],_=>simp [Tm.Eb]
mutual
def Tm.cap:Tm→Int
 | .mk _ xs=>Tm.Jo xs 1
def Tm.Jo:List Tm→Int→Int
 | [],n=>n
 | x :: xs,n=>if 30 < n then n else Tm.Jo xs (n+Tm.cap x)
end
theorem Tm.Sn (x:Tm):x.cap=Tm.Jo x.args 1:=by
 obtain ⟨n,xs⟩:=x
 rw [Tm.cap]; rfl
theorem Tm.Mz:∀ (xs:List Tm) (n:Int),(∀ x∈xs,1≤x.cap∧x.cap≤x.nodes∧(x.cap≤30→x.cap=x.nodes))→1≤n→n≤Tm.Jo xs n∧Tm.Jo xs n≤n+Tm.A3 xs∧(Tm.Jo xs n≤30→Tm.Jo xs n=n+Tm.A3 xs)
 | [],n,_,h=>by simp [Tm.Jo,Tm.A3]
 | x :: xs,n,hx,h=>by
  rw [Tm.Jo,Tm.A3]
  have h1:=hx x (by simp)
  split
  ·omega
  ·have:=Tm.Mz xs (n+x.cap) (fun y hy=>hx y (by simp [hy])) (by omega)
   omega
theorem Tm.Iy (x:Tm):1≤x.cap∧x.cap≤x.nodes∧(x.cap≤30→x.cap=x.nodes):=by
 rw [Tm.Sn,Tm.At]
 have:=Tm.Mz x.args 1 (fun y hy=>Tm.Iy y) (by omega)
 omega
termination_by SizeOf.sizeOf x
decreasing_by exact Tm.AC hy
mutual
def Tm.many:Tm→Int→Int
 | .mk _ xs,m=>Tm.F8 xs m 1
def Tm.F8:List Tm→Int→Int→Int
 | [],_,n=>n
 | x :: xs,m,n=>if n≤m then Tm.F8 xs m (n+Tm.many x (m-n)) else n
end
theorem Tm.PZ (x:Tm) (m:Int):x.many m=Tm.F8 x.args m 1:=by
 obtain ⟨n,xs⟩:=x
 rw [Tm.many]; rfl
theorem Tm.KY (m:Int):∀ (xs:List Tm) (n:Int),(∀ x∈xs,∀ m,0≤m→1≤x.many m∧x.many m≤x.nodes∧(x.many m≤m→x.many m=x.nodes))→1≤n→n≤Tm.F8 xs m n∧Tm.F8 xs m n≤n+Tm.A3 xs∧(Tm.F8 xs m n≤m→Tm.F8 xs m n=n+Tm.A3 xs)
 | [],n,_,h=>by simp [Tm.F8,Tm.A3]
 | x :: xs,n,hx,h=>by
  rw [Tm.F8,Tm.A3]
  split
  ·have h1:=hx x (by simp) (m-n) (by omega)
   have:=Tm.KY m xs (n+x.many (m-n)) (fun y hy=>hx y (by simp [hy])) (by omega)
   omega
  ·omega
theorem Tm.Hk (x:Tm) (m:Int):1≤x.many m∧x.many m≤x.nodes∧(x.many m≤m→x.many m=x.nodes):=by
 rw [Tm.PZ,Tm.At]
 have:=Tm.KY m x.args 1 (fun y hy m _=>Tm.Hk y m) (by omega)
 omega
termination_by SizeOf.sizeOf x
decreasing_by exact Tm.AC hy
theorem Tm.Eu {x:Tm} (h:x.names=true) {y:Tm} (hy:y∈x.args):y.names=true:=by
 rw [Tm.EB] at h
 split at h
 ·have:x.args=[]:=zQ (by simpa using h)
  rw [this] at hy; cases hy
 ·rw [zA,Tm.Et,zZ] at h
  exact h.2 y hy
def Vp (res:RM) (n0:Nat) (rs:List RX) (Q:SV × List Ob→Prop) (x:X) (st:St):Prop:=∃ out,TR res n0 rs out x st∧Q out
theorem exq {α:Type} {a:α} {Q:α→Prop}:(∃ out,some a=some out∧Q out)=Q a:=propext ⟨fun ⟨o,h,q⟩=>by obtain rfl:=zK h; exact q,fun q=>⟨a,rfl,q⟩⟩
theorem Vq {res:RM} {n0:Nat} {rs:List RX} {Q:SV × List Ob→Prop} {sl:List SV} {ob:List Ob}:Vp res n0 rs Q .ret ⟨sl,ob⟩=∃ out,Oq res n0 ob (L1 ⟨sl,ob⟩ rs)=some out∧Q out:=rfl
theorem Vr {res:RM} {n0:Nat} {rs:List RX} {Q:SV × List Ob→Prop} {sl:List SV} {ob:List Ob}:Vp res n0 rs Q .normal ⟨sl,ob⟩=∃ out,Oq res n0 ob (L1 ⟨sl,ob⟩ rs)=some out∧Q out:=rfl
theorem Iz {f:FuncId} {fc:FC} {hand:List Bool} {res:RM} {tr:Bool} {xs:List SV} {ob:List Ob} {Q:SV × List Ob→Prop} (hc:Ai Tryz.prog f=some fc) (hr:modes f=⟨hand,res,none,tr⟩) (hn:xs.length≤fc.nt) (h:go ob.length (Ea res fc.sc) ⟨xs++It (fc.nt-xs.length),entry tr ob⟩ (Vp res ob.length fc.rs Q)):∃ out,E f xs ob=some out∧Q out:=by
 obtain ⟨x,st',h1,out,h2,h3⟩:=h
 exact ⟨out,Ab hc hr hn ⟨x,st',h1,h2⟩,h3⟩
attribute [go_sem] Vq Vr exq
def Tm.osh (x:Tm):List OT:=[.str x.name,.sh (x.args.map Tm.d)]
theorem Tm.So (x:Tm):x.osh=[.str x.name,.sh (x.args.map Tm.d)]:=rfl
theorem Tm.F9:∀ xs:List Tm,OT.AK (xs.map Tm.osh)=true
 | []=>rfl
 | x :: xs=>by rw [zD,Tm.So]; simp [OT.AK,OT.DN,OT.full,Tm.F9 xs]
theorem Tm.Jp:∀ xs:List Tm,OT.erss (xs.map Tm.osh)=xs.map Tm.d
 | []=>rfl
 | x :: xs=>by rw [zD,zD,Tm.So,Tm.d_eq]; simp [OT.erss,OT.ers,OT.er,Tm.Jp xs]
theorem Sp {α β:Type} (f:α→β) {xs:List α} {k:Nat} (h:k<xs.length):(xs.take k).map f++[f xs[k]]=(xs.take (k+1)).map f:=by
 rw [yL h,yF]; rfl
noncomputable def BX (c:Int):Bool:=(dec (97≤c)&&dec (c≤122)) || (dec (65≤c)&&dec (c≤90)) || (dec (48≤c)&&dec (c≤57)) || dec (c=95)
noncomputable def Ax (s:ByteArray) (i:Nat):Nat:=if h:i<s.size∧BX (A1 s i)=true then Ax s (i+1) else i
termination_by s.size-i
theorem Jq {s:ByteArray} {i:Nat} (h:i<s.size) (hw:BX (A1 s i)=true):Ax s i=Ax s (i+1):=by rw [Ax,dif_pos ⟨h,hw⟩]
theorem FA {s:ByteArray} {i:Nat} (h:¬ (i<s.size∧BX (A1 s i)=true)):Ax s i=i:=by rw [Ax,dif_neg h]
theorem I1 (s:ByteArray) (i:Nat):i≤Ax s i:=by
 rw [Ax]
 split
 ·have:=I1 s (i+1); omega
 ·exact zH _
termination_by s.size-i
theorem Hm (s:ByteArray) (i:Nat) (h:i≤s.size):Ax s i≤s.size:=by
 rw [Ax]
 split
 ·exact Hm s (i+1) (by omega)
 ·exact h
termination_by s.size-i
noncomputable def BK (s:ByteArray) (i:Nat) (c:Int):Bool:=dec (i<s.size)&&dec (A1 s i=c)
theorem AZ {s:ByteArray} {i:Nat} {c:Int}:BK s i c=true ↔ i<s.size∧A1 s i=c:=by
 unfold BK; rw [zA,Aj,Aj]
noncomputable def rdL (r:Nat→Option (Tm × Nat)) (s:ByteArray):Nat→Nat→Option (List Tm × Nat)
 | 0,_=>none
 | m+1,i=>match r i with
  | none=>none
  | some (t,e)=>bif BK s e 44 then (match rdL r s m (e+1) with
   | none=>none
   | some (ts,e')=>some (t :: ts,e')) else bif BK s e 41 then some ([t],e+1) else none
noncomputable def rd (s:ByteArray):Nat→Nat→Option (Tm × Nat)
 | 0,_=>none
 | n+1,i=>bif dec (Ax s i=i) then none else bif BK s (Ax s i) 40 then (match rdL (rd s n) s n (Ax s i+1) with
  | none=>none
  | some (ts,e)=>some (.mk (s.extract i (Ax s i)) ts,e)) else some (.mk (s.extract i (Ax s i)) [],Ax s i)
def seg (s:ByteArray) (a b:Nat):List UInt8:=(s.toList.drop a).take (b-a)
theorem An (s:ByteArray):s.toList.length=s.size:=by rw [ByteArray.toList_eq]; simp
theorem EU {s:ByteArray} {a b c:Nat} (h:a≤b) (k:b≤c):seg s a c=seg s a b++seg s b c:=by
 unfold seg
 rw [show c-a=(b-a)+(c-b) by omega,List.take_add,List.drop_drop,show a+(b-a)=b by omega]
theorem toList_extract (s:ByteArray) (a b:Nat):(s.extract a b).toList=seg s a b:=by
 unfold seg
 rw [ByteArray.toList_eq,ByteArray.toList_eq,ByteArray.data_extract,Array.toList_extract,List.extract_eq_take_drop]
theorem CT {s:ByteArray} {i:Nat} (h:i<s.size):A1 s i=((s.toList[i]'(by rw [An]; exact h)).toNat:Int):=by
 unfold A1
 rw [getElem?_pos s i h]
 simp only [yU,ByteArray.toList_eq]
 rfl
theorem Kg {s:ByteArray} {i:Nat} {c:UInt8} (h:i<s.size) (hc:A1 s i=(c.toNat:Int)):seg s i (i+1)=[c]:=by
 have hl:i<s.toList.length:=by rw [An]; exact h
 unfold seg
 rw [zC hl,show i+1-i=1 by omega,yI,yR]
 rw [CT h] at hc
 congr 1
 exact UInt8.toNat_inj.1 (by exact_mod_cast hc)
theorem Em (s:ByteArray):seg s 0 s.size=s.toList:=by
 unfold seg
 rw [zN,yW,← An,List.take_length]
def Dq (c:List UInt8):List (List UInt8)→List UInt8
 | []=>[]
 | [x]=>x
 | x :: y :: r=>x++c++Dq c (y :: r)
mutual
def Tm.fmt:Tm→List UInt8
 | .mk name args=>name.toList++(if args.length=0 then [] else [40]++Dq [44] (Tm.Fl args)++[41])
def Tm.Fl:List Tm→List (List UInt8)
 | []=>[]
 | x :: xs=>Tm.fmt x :: Tm.Fl xs
end
theorem Tm.GB (x:Tm):x.fmt=x.name.toList++(if x.args.length=0 then [] else [40]++Dq [44] (Tm.Fl x.args)++[41]):=by
 obtain ⟨n,a⟩:=x
 rw [Tm.fmt]; rfl
theorem Tm.Sq:∀ xs:List Tm,(Tm.Fl xs).length=xs.length
 | []=>by simp [Tm.Fl]
 | x :: xs=>by rw [Tm.Fl,zP,zP,Tm.Sq xs]
theorem Tm.KZ:∀ xs:List Tm,Tm.Fl xs=xs.map Tm.fmt
 | []=>by simp [Tm.Fl]
 | x :: xs=>by rw [Tm.Fl,Tm.KZ xs]; rfl
theorem Sr {r:Nat→Option (Tm × Nat)} {s:ByteArray} (hr:∀ i t e,i≤s.size→r i=some (t,e)→i<e∧e≤s.size∧seg s i e=t.fmt) :
  ∀ (m i:Nat) (ts:List Tm) (e:Nat),i≤s.size→rdL r s m i=some (ts,e)→i<e∧e≤s.size∧ts.length≠0∧seg s i e=Dq [44] (Tm.Fl ts)++[41]
 | 0,i,ts,e,_,h=>by cases h
 | m+1,i,ts,e,hi,h=>by
  rw [rdL] at h
  cases hq:r i with
  | none=>rw [hq] at h; cases h
  | some p =>
   obtain ⟨t,e0⟩:=p
   rw [hq] at h
   simp only at h
   obtain ⟨h1,h2,h3⟩:=hr i t e0 hi hq
   cases hc:BK s e0 44 with
   | true =>
    rw [hc,cond_true] at h
    obtain ⟨k1,k2⟩:=AZ.1 hc
    cases hl:rdL r s m (e0+1) with
    | none=>rw [hl] at h; cases h
    | some q =>
     obtain ⟨us,e1⟩:=q
     rw [hl] at h
     simp only [zB,zG] at h
     obtain ⟨rfl,rfl⟩:=h
     obtain ⟨g1,g2,g3,g4⟩:=Sr hr m (e0+1) us e1 (by omega) hl
     refine ⟨by omega,g2,by simp,?_⟩
     rw [EU (show i≤e0 by omega) (show e0≤e1 by omega),h3,EU (show e0≤e0+1 by omega) (show e0+1≤e1 by omega),Kg (c:=44) k1 k2,g4]
     cases us with
     | nil=>simp at g3
     | cons u us=>simp only [Tm.Fl,Dq,zM]
   | false =>
    rw [hc,cond_false] at h
    cases hc2:BK s e0 41 with
    | true =>
     rw [hc2,cond_true] at h
     obtain ⟨k1,k2⟩:=AZ.1 hc2
     simp only [zB,zG] at h
     obtain ⟨rfl,rfl⟩:=h
     refine ⟨by omega,by omega,by simp,?_⟩
     rw [EU (show i≤e0 by omega) (show e0≤e0+1 by omega),h3,Kg (c:=41) k1 k2]
     simp only [Tm.Fl,Dq]
    | false=>rw [hc2] at h; cases h
theorem M0 {s:ByteArray}:∀ (n i:Nat) (t:Tm) (e:Nat),i≤s.size→rd s n i=some (t,e)→i<e∧e≤s.size∧seg s i e=t.fmt
 | 0,i,t,e,_,h=>by cases h
 | n+1,i,t,e,hi,h=>by
  rw [rd] at h
  have w1:=I1 s i
  have w2:=Hm s i hi
  by_cases h0:Ax s i=i
  ·rw [AJ h0] at h; cases h
  ·rw [AN h0,cond_false] at h
   cases hc:BK s (Ax s i) 40 with
   | true =>
    rw [hc,cond_true] at h
    obtain ⟨k1,k2⟩:=AZ.1 hc
    cases hl:rdL (rd s n) s n (Ax s i+1) with
    | none=>rw [hl] at h; cases h
    | some q =>
     obtain ⟨us,e1⟩:=q
     rw [hl] at h
     simp only [zB,zG] at h
     obtain ⟨rfl,rfl⟩:=h
     obtain ⟨g1,g2,g3,g4⟩:=Sr (fun i t e=>M0 n i t e) n _ us e1 (by omega) hl
     refine ⟨by omega,g2,?_⟩
     rw [Tm.GB]
     show _=(s.extract i (Ax s i)).toList++(if us.length=0 then [] else [40]++Dq [44] (Tm.Fl us)++[41])
     rw [if_neg g3,toList_extract,EU (show i≤Ax s i by omega) (show Ax s i≤e1 by omega),EU (show Ax s i≤Ax s i+1 by omega) (show Ax s i+1≤e1 by omega),Kg (c:=40) k1 k2,g4]
     simp only [zM]
   | false =>
    rw [hc,cond_false] at h
    simp only [zB,zG] at h
    obtain ⟨rfl,rfl⟩:=h
    refine ⟨by omega,w2,?_⟩
    rw [Tm.GB]
    have e0:(Tm.mk (s.extract i (Ax s i)) []).args.length=0:=rfl
    rw [if_pos e0,yY]
    exact (toList_extract s i (Ax s i)).symm
def JJ:SC:=(.seq (.reg [⟨some 1,none,.boxv 34 2 (.t 0)⟩,⟨some 2,none,.mv (.c (.int .i64 0))⟩]) (.seq (.reg [⟨some 3,none,.mv (.c (.int .i64 1))⟩]) (.seq (.seq (.reg [⟨some 6,none,.faddr 1 (.t 1)⟩,⟨some 7,none,.load false 1 (.t 6)⟩,⟨some 8,none,.len false (.t 7)⟩,⟨some 9,none,.mv (.c (.int .i64 0))⟩]) (.block 0 (.loop [0,0,0,1,0,0,0,1,1,1,0,0,0,0,0,0,0,0,0,0,0,0] (.seq (.reg [⟨some 10,none,.bin .lss false (.t 9) (.t 8)⟩]) (.seq (.cond (.t 10) .skip (.exit 0)) (.seq (.block 1 (.seq (.reg [⟨some 11,none,.iaddr 2 (.t 7) (.t 9)⟩,⟨some 12,none,.load true 2 (.t 11)⟩,⟨(some 5),none,(.alloc 34 [(.str ⟨#[]⟩),.nil])⟩,⟨none,none,(.store 2 (.t 5) (.t 12))⟩]) (.seq (.seq (.reg [⟨some 13,none,.mv (.t 3)⟩,⟨some 14,none,.bin .gtr false (.t 13) (.c (.int .i64 30))⟩]) (.cond (.t 14) (.seq (.reg [⟨some 15,none,.mv (.t 3)⟩,⟨some 2,none,.mv (.t 15)⟩]) .ret) .skip)) (.reg [⟨some 16,none,.mv (.t 3)⟩,⟨some 17,none,.load true 2 (.t 5)⟩,⟨some 18,none,.call 87 [(.t 17)]⟩,⟨some 19,none,.bin .add false (.t 16) (.t 18)⟩,⟨some 3,none,.mv (.t 19)⟩])))) (.reg [⟨some 20,none,.bin .add false (.t 9) (.c (.int .i64 1))⟩,⟨some 9,none,.mv (.t 20)⟩]))))))) (.seq (.reg [⟨some 21,none,.mv (.t 3)⟩,⟨some 2,none,.mv (.t 21)⟩]) .ret))))
theorem Or:Ai Tryz.prog 87=some ⟨22,JJ,[(.tmp 2)]⟩:=by kernel_rfl
theorem DU:modes 87=⟨[],.asis,none,false⟩:=by unfold modes; rfl
theorem TV (x:Tm) (hn:x.nodes≤1099511627776) (ih:∀ y∈x.args,E 87 [y.sv] []=some (.int .i64 y.cap,[])):E 87 [x.sv] []=some (.int .i64 x.cap,[]):=by
 have hl:=Tm.length_le x.args
 have hx:=Tm.At x
 rw [Tm.Sn]
 refine Ab Or DU (of_decide_eq_true rfl) ?_
 simp (disch:=omega) only [JJ,go_sem,Aa]
 refine go_loop (α:=Int × Int) (fun a=>⟨slots 22 0 [(3,.int .i64 a.2),(7,.arr (x.args.map Tm.d)),(8,.int .i64 x.args.length),(9,.int .i64 a.1)],[]⟩) (fun a=>∃ k:Nat,a.1=k∧k≤x.args.length∧1≤a.2∧a.2+Tm.A3 (x.args.drop k)≤x.nodes∧Tm.Jo (x.args.drop k) a.2=Tm.Jo x.args 1) (fun a=>x.args.length-a.1.toNat) (0,1) ⟨0,rfl,zE _,by dsimp only; omega,by rw [zN]; dsimp only; omega,rfl⟩ (by simp (disch:=omega) only [go_sem,Aa]) ?_
 rintro ⟨i,n⟩ ⟨k,hi,hk,hn0,hn1,hs⟩
 dsimp only at hi hn0 hn1 hs
 have hni:i.toNat=k:=by omega
 rcases zF k x.args.length with hlt | hge
 ·have hg:=get_at Tm.d hlt
  rw [Tm.d_eq] at hg
  have hd:x.args.drop k=x.args[k] :: x.args.drop (k+1):=zC hlt
  have hc:=ih x.args[k] (zI hlt)
  have hp:=Tm.Iy x.args[k]
  rw [hd,Tm.Jo] at hs
  rw [hd,Tm.A3] at hn1
  rcases yX 30 n with h30 | h30
  ·rw [if_pos h30] at hs
   simp (disch:=omega) only [go_sem,Aa,hni,hg,hc,DU]
   exact hs
  ·rw [if_neg (by omega)] at hs
   simp (disch:=omega) only [go_sem,Aa,hni,hg,hc,DU]
   refine ⟨(i+1,n+x.args[k].cap),⟨k+1,by dsimp only; omega,hlt,by dsimp only; omega,by dsimp only; omega,hs⟩,by dsimp only; omega,?_⟩
   simp only [and_self]
 ·have hd:x.args.drop k=[]:=zJ hge
  rw [hd,Tm.Jo] at hs
  simp (disch:=omega) only [go_sem,Aa,hni]
  exact hs
theorem Ss (x:Tm) (hn:x.nodes≤1099511627776):E 87 [x.sv] []=some (.int .i64 x.cap,[]) :=
 TV x hn fun y hy=>Ss y (by have:=Tm.CG hy; have:=Tm.At x; omega)
termination_by SizeOf.sizeOf x
decreasing_by exact Tm.AC hy
def H4:SC:=(.seq (.reg [⟨some 2,none,.boxv 34 2 (.t 0)⟩,⟨some 4,none,.mv (.c (.int .i64 0))⟩]) (.seq (.reg [⟨some 5,none,.mv (.c (.int .i64 1))⟩]) (.seq (.seq (.reg [⟨some 6,none,.mv (.c (.int .i64 0))⟩]) (.block 0 (.loop [0,1,1,0,0,1,1,0,0,0,0,0,0,0,0,0,0,0,0,0,0,0,0,0,0,0,0,0,0,0,0] (.seq (.seq (.reg [⟨some 7,none,.mv (.t 6)⟩,⟨some 8,none,.faddr 1 (.t 2)⟩,⟨some 9,none,.load false 1 (.t 8)⟩,⟨some 10,none,.len false (.t 9)⟩,⟨some 11,none,.bin .lss false (.t 7) (.t 10)⟩,⟨some 12,none,.mv (.t 11)⟩,⟨(some 13),(some (12,true)),(.mv (.t 5))⟩,⟨(some 14),(some (12,true)),(.mv (.t 1))⟩,⟨(some 15),(some (12,true)),(.bin .leq false (.t 13) (.t 14))⟩,⟨some 16,none,.pick (.t 12) (.t 15) (.c (.bool false))⟩]) (.cond (.t 16) .skip (.exit 0))) (.seq (.block 1 (.reg [⟨some 19,none,.mv (.t 5)⟩,⟨some 20,none,.faddr 1 (.t 2)⟩,⟨some 21,none,.load false 1 (.t 20)⟩,⟨some 22,none,.mv (.t 6)⟩,⟨some 23,none,.iaddr 2 (.t 21) (.t 22)⟩,⟨some 24,none,.load true 2 (.t 23)⟩,⟨some 25,none,.mv (.t 1)⟩,⟨some 26,none,.mv (.t 5)⟩,⟨some 27,none,.bin .sub false (.t 25) (.t 26)⟩,⟨some 28,none,.call 72 [(.t 24),(.t 27)]⟩,⟨some 29,none,.bin .add false (.t 19) (.t 28)⟩,⟨some 5,none,.mv (.t 29)⟩])) (.reg [⟨some 17,none,.mv (.t 6)⟩,⟨some 18,none,.bin .add false (.t 17) (.c (.int .i64 1))⟩,⟨some 6,none,.mv (.t 18)⟩])))))) (.seq (.reg [⟨some 30,none,.mv (.t 5)⟩,⟨some 4,none,.mv (.t 30)⟩]) .ret))))
theorem L8:Ai Tryz.prog 72=some ⟨31,H4,[(.tmp 4)]⟩:=by kernel_rfl
theorem CU:modes 72=⟨[],.asis,none,false⟩:=by unfold modes; rfl
theorem TW (x:Tm) (m:Int) (hm:0≤m) (hm1:m≤1099511627776) (hn:x.nodes≤1099511627776) (ih:∀ y∈x.args,∀ m:Int,0≤m→m≤1099511627776→E 72 [y.sv,.int .i64 m] []=some (.int .i64 (y.many m),[])):E 72 [x.sv,.int .i64 m] []=some (.int .i64 (x.many m),[]):=by
 have hl:=Tm.length_le x.args
 have hx:=Tm.At x
 rw [Tm.PZ]
 refine Ab L8 CU (of_decide_eq_true rfl) ?_
 simp (disch:=omega) only [H4,go_sem,Aa]
 refine go_loop (α:=Int × Int) (fun a=>⟨slots 31 0 [(1,.int .i64 m),(2,.ptr 0 0),(5,.int .i64 a.2),(6,.int .i64 a.1)],[.box 34 [.str x.name,.arr (x.args.map Tm.d)]]⟩) (fun a=>∃ k:Nat,a.1=k∧k≤x.args.length∧1≤a.2∧a.2+Tm.A3 (x.args.drop k)≤x.nodes∧Tm.F8 (x.args.drop k) m a.2=Tm.F8 x.args m 1) (fun a=>x.args.length-a.1.toNat) (0,1) ⟨0,rfl,zE _,by dsimp only; omega,by rw [zN]; dsimp only; omega,rfl⟩ (by simp (disch:=omega) only [go_sem,Aa]) ?_
 rintro ⟨i,n⟩ ⟨k,hi,hk,hn0,hn1,hs⟩
 dsimp only at hi hn0 hn1 hs
 have hni:i.toNat=k:=by omega
 rcases zF k x.args.length with hlt | hge
 ·have hg:=get_at Tm.d hlt
  rw [Tm.d_eq] at hg
  have hd:x.args.drop k=x.args[k] :: x.args.drop (k+1):=zC hlt
  rw [hd,Tm.F8] at hs
  rw [hd,Tm.A3] at hn1
  rcases yX m n with h30 | h30
  ·rw [if_neg (by omega)] at hs
   simp (disch:=omega) only [go_sem,Aa,hni,hg,CU]
   exact hs
  ·rw [if_pos h30] at hs
   have hc:=ih x.args[k] (zI hlt) (m-n) (by omega) (by omega)
   have hp:=Tm.Hk x.args[k] (m-n)
   simp (disch:=omega) only [go_sem,Aa,hni,hg,hc,CU]
   refine ⟨(i+1,n+x.args[k].many (m-n)),⟨k+1,by dsimp only; omega,hlt,by dsimp only; omega,by dsimp only; omega,hs⟩,by dsimp only; omega,?_⟩
   simp only [and_self]
 ·have hd:x.args.drop k=[]:=zJ hge
  rw [hd,Tm.F8] at hs
  simp (disch:=omega) only [go_sem,Aa,hni]
  exact hs
theorem Su (x:Tm) (m:Int) (hm:0≤m) (hm1:m≤1099511627776) (hn:x.nodes≤1099511627776):E 72 [x.sv,.int .i64 m] []=some (.int .i64 (x.many m),[]) :=
 TW x m hm hm1 hn fun y hy m hm hm1=>Su y m hm hm1 (by have:=Tm.CG hy; have:=Tm.At x; omega)
termination_by SizeOf.sizeOf x
decreasing_by exact Tm.AC hy
def I3:SC:=(.seq (.reg [⟨some 1,none,.boxv 34 2 (.t 0)⟩,⟨some 2,none,.mv (.c (.int .i64 0))⟩]) (.seq (.reg [⟨some 3,none,.mv (.c (.int .i64 0))⟩]) (.seq (.seq (.reg [⟨some 6,none,.faddr 1 (.t 1)⟩,⟨some 7,none,.load false 1 (.t 6)⟩,⟨some 8,none,.len false (.t 7)⟩,⟨some 9,none,.mv (.c (.int .i64 0))⟩]) (.block 0 (.loop [0,0,0,1,0,0,0,1,1,1,0,0,0,0,0,0,0,0,0,0] (.seq (.reg [⟨some 10,none,.bin .lss false (.t 9) (.t 8)⟩]) (.seq (.cond (.t 10) .skip (.exit 0)) (.seq (.block 1 (.seq (.reg [⟨some 11,none,.iaddr 2 (.t 7) (.t 9)⟩,⟨some 12,none,.load true 2 (.t 11)⟩,⟨(some 5),none,(.alloc 34 [(.str ⟨#[]⟩),.nil])⟩,⟨none,none,(.store 2 (.t 5) (.t 12))⟩]) (.reg [⟨some 13,none,.mv (.t 3)⟩,⟨some 14,none,.load true 2 (.t 5)⟩,⟨some 15,none,.call 88 [(.t 14)]⟩,⟨some 16,none,.minmax true (.t 13) (.t 15)⟩,⟨some 3,none,.mv (.t 16)⟩]))) (.reg [⟨some 17,none,.bin .add false (.t 9) (.c (.int .i64 1))⟩,⟨some 9,none,.mv (.t 17)⟩]))))))) (.seq (.reg [⟨some 18,none,.mv (.t 3)⟩,⟨some 19,none,.bin .add false (.t 18) (.c (.int .i64 1))⟩,⟨some 2,none,.mv (.t 19)⟩]) .ret))))
theorem Nl:Ai Tryz.prog 88=some ⟨20,I3,[(.tmp 2)]⟩:=by kernel_rfl
theorem En:modes 88=⟨[],.asis,none,false⟩:=by unfold modes; rfl
def H5:SC:=(.seq (.reg [⟨some 4,none,.mv (.c (.int .i64 0))⟩]) (.seq (.seq (.reg [⟨some 5,none,.mv (.t 0)⟩,⟨some 6,none,.mv (.t 1)⟩,⟨some 7,none,.bin .gtr false (.t 5) (.t 6)⟩]) (.cond (.t 7) (.seq (.reg [⟨some 8,none,.mv (.t 0)⟩,⟨some 4,none,.mv (.t 8)⟩]) .ret) .skip)) (.seq (.reg [⟨some 9,none,.mv (.t 1)⟩,⟨some 4,none,.mv (.t 9)⟩]) .ret)))
theorem L9:Ai Tryz.prog 99=some ⟨10,H5,[(.tmp 4)]⟩:=by kernel_rfl
theorem H6:modes 99=⟨[],.asis,none,false⟩:=by unfold modes; rfl
def GC:SC:=(.seq (.reg [⟨some 1,none,.boxv 34 2 (.t 0)⟩,⟨some 2,none,.mv (.c (.int .i64 0))⟩]) (.seq (.reg [⟨some 3,none,.mv (.c (.int .i64 0))⟩]) (.seq (.seq (.reg [⟨some 4,none,.mv (.c (.int .i64 0))⟩]) (.block 0 (.loop [0,1,0,1,1,0,0,0,0,0,0,0,0,0,0,0,0,0,0,0,0,0] (.seq (.seq (.reg [⟨some 5,none,.mv (.t 4)⟩,⟨some 6,none,.faddr 1 (.t 1)⟩,⟨some 7,none,.load false 1 (.t 6)⟩,⟨some 8,none,.len false (.t 7)⟩,⟨some 9,none,.bin .lss false (.t 5) (.t 8)⟩]) (.cond (.t 9) .skip (.exit 0))) (.seq (.block 1 (.reg [⟨some 12,none,.mv (.t 3)⟩,⟨some 13,none,.faddr 1 (.t 1)⟩,⟨some 14,none,.load false 1 (.t 13)⟩,⟨some 15,none,.mv (.t 4)⟩,⟨some 16,none,.iaddr 2 (.t 14) (.t 15)⟩,⟨some 17,none,.load true 2 (.t 16)⟩,⟨some 18,none,.call 73 [(.t 17)]⟩,⟨some 19,none,.call 99 [(.t 12),(.t 18)]⟩,⟨some 3,none,.mv (.t 19)⟩])) (.reg [⟨some 10,none,.mv (.t 4)⟩,⟨some 11,none,.bin .add false (.t 10) (.c (.int .i64 1))⟩,⟨some 4,none,.mv (.t 11)⟩])))))) (.seq (.reg [⟨some 20,none,.mv (.t 3)⟩,⟨some 21,none,.bin .add false (.t 20) (.c (.int .i64 1))⟩,⟨some 2,none,.mv (.t 21)⟩]) .ret))))
theorem La:Ai Tryz.prog 73=some ⟨22,GC,[(.tmp 2)]⟩:=by kernel_rfl
theorem Dr:modes 73=⟨[],.asis,none,false⟩:=by unfold modes; rfl
theorem Sv (a b:Int):E 99 [.int .i64 a,.int .i64 b] []=some (.int .i64 (max a b),[]):=by
 refine Ab L9 H6 (of_decide_eq_true rfl) ?_
 simp (disch:=omega) only [H5,go_sem,Aa]
 repeat' (refine On (fun hq=>?_) (fun hq=>?_) <;> (first | replace hq:=Aj.1 hq | replace hq:=EP.1 hq) <;> (try simp (disch:=omega) only [go_sem,Aa]))
 all_goals omega
theorem Sw (x:Tm) (hn:x.nodes≤1099511627776) (ih:∀ y∈x.args,E 88 [y.sv] []=some (.int .i64 y.deep,[])):E 88 [x.sv] []=some (.int .i64 x.deep,[]):=by
 have hl:=Tm.length_le x.args
 have hx:=Tm.At x
 have hd1:=Tm.Kf x
 have hd2:=Tm.Fk x
 refine Ab Nl En (of_decide_eq_true rfl) ?_
 simp (disch:=omega) only [I3,go_sem,Aa]
 refine go_loop (α:=Int × (Int)) (fun a=>⟨slots 20 0 [(3,.int .i64 (a.2)),(7,.arr (x.args.map Tm.d)),(8,.int .i64 x.args.length),(9,.int .i64 (a.1))],[]⟩) (fun a=>∃ k:Nat,a.1=k∧k≤(x.args).length∧0≤(a.2)∧max (a.2) (Tm.DS (x.args.drop k):Nat)=(Tm.DS x.args:Nat)) (fun a=>(x.args).length-(a.1).toNat) (0,0) ⟨0,rfl,zE _,by dsimp only; omega,by rw [zN]; dsimp only; omega⟩ (by simp (disch:=omega) only [go_sem,Aa]) ?_
 rintro ⟨i,n⟩ ⟨k,hi,hk,hR⟩
 dsimp only at hi hR
 have hni:i.toNat=k:=by omega
 have hni1:(i+1).toNat=k+1:=by omega
 rcases zF k (x.args).length with hlt | hge
 ·have hg:=get_at Tm.d hlt
  rw [Tm.d_eq] at hg
  have hc:=ih x.args[k] (zI hlt)
  rw [zC hlt,Tm.DS] at hR
  simp (disch:=omega) only [go_sem,Aa,hni,hg,hc,En,TU]
  refine ⟨(i+1,max n (x.args[k].deep:Int)),⟨k+1,by dsimp only; omega,hlt,by dsimp only; omega⟩,by dsimp only; omega,?_⟩
  simp only [and_self]
 ·rw [zJ hge,Tm.DS] at hR
  simp (disch:=omega) only [go_sem,Aa,hni]
  omega
theorem Qa (x:Tm) (hn:x.nodes≤1099511627776):E 88 [x.sv] []=some (.int .i64 x.deep,[]) :=
 Sw x hn fun y hy=>Qa y (by have:=Tm.CG hy; have:=Tm.At x; omega)
termination_by SizeOf.sizeOf x
decreasing_by exact Tm.AC hy
theorem Pp (x:Tm) (hn:x.nodes≤1099511627776) (ih:∀ y∈x.args,E 73 [y.sv] []=some (.int .i64 y.deep,[])):E 73 [x.sv] []=some (.int .i64 x.deep,[]):=by
 have hl:=Tm.length_le x.args
 have hx:=Tm.At x
 have hd1:=Tm.Kf x
 have hd2:=Tm.Fk x
 refine Ab La Dr (of_decide_eq_true rfl) ?_
 simp (disch:=omega) only [GC,go_sem,Aa]
 refine go_loop (α:=Int × (Int)) (fun a=>⟨slots 22 0 [(1,.ptr 0 0),(3,.int .i64 (a.2)),(4,.int .i64 (a.1))],[.box 34 [.str x.name,.arr (x.args.map Tm.d)]]⟩) (fun a=>∃ k:Nat,a.1=k∧k≤(x.args).length∧0≤(a.2)∧max (a.2) (Tm.DS (x.args.drop k):Nat)=(Tm.DS x.args:Nat)) (fun a=>(x.args).length-(a.1).toNat) (0,0) ⟨0,rfl,zE _,by dsimp only; omega,by rw [zN]; dsimp only; omega⟩ (by simp (disch:=omega) only [go_sem,Aa]) ?_
 rintro ⟨i,n⟩ ⟨k,hi,hk,hR⟩
 dsimp only at hi hR
 have hni:i.toNat=k:=by omega
 have hni1:(i+1).toNat=k+1:=by omega
 rcases zF k (x.args).length with hlt | hge
 ·have hg:=get_at Tm.d hlt
  rw [Tm.d_eq] at hg
  have hc:=ih x.args[k] (zI hlt)
  rw [zC hlt,Tm.DS] at hR
  simp (disch:=omega) only [go_sem,Aa,hni,hg,hc,Dr,Sv,H6]
  refine ⟨(i+1,max n (x.args[k].deep:Int)),⟨k+1,by dsimp only; omega,hlt,by dsimp only; omega⟩,by dsimp only; omega,?_⟩
  simp only [and_self]
 ·rw [zJ hge,Tm.DS] at hR
  simp (disch:=omega) only [go_sem,Aa,hni]
  omega
theorem M1 (x:Tm) (hn:x.nodes≤1099511627776):E 73 [x.sv] []=some (.int .i64 x.deep,[]) :=
 Pp x hn fun y hy=>M1 y (by have:=Tm.CG hy; have:=Tm.At x; omega)
termination_by SizeOf.sizeOf x
decreasing_by exact Tm.AC hy
def B4:SC:=(.seq (.reg [⟨some 4,none,.mv (.c (.int .i64 0))⟩]) (.seq (.seq (.reg [⟨some 6,none,.mv (.t 0)⟩,⟨some 7,none,.len false (.t 6)⟩,⟨some 8,none,.mv (.c (.int .i64 0))⟩]) (.block 0 (.loop [1,1,0,0,0,0,0,1,1,0,0,0,0,0,0,0,0,0,0] (.seq (.reg [⟨some 9,none,.bin .lss false (.t 8) (.t 7)⟩]) (.seq (.cond (.t 9) .skip (.exit 0)) (.seq (.block 1 (.seq (.reg [⟨some 10,none,.mv (.t 8)⟩,⟨some 5,none,.mv (.t 10)⟩]) (.seq (.reg [⟨some 11,none,.mv (.t 1)⟩,⟨some 12,none,.mv (.t 0)⟩,⟨some 13,none,.mv (.t 5)⟩,⟨some 14,none,.iaddr 2 (.t 12) (.t 13)⟩,⟨some 15,none,.load true 2 (.t 14)⟩,⟨some 16,none,.callv (.t 11) [(.t 15)]⟩]) (.cond (.t 16) (.seq (.reg [⟨some 17,none,.mv (.t 5)⟩,⟨some 4,none,.mv (.t 17)⟩]) .ret) .skip)))) (.reg [⟨some 18,none,.bin .add false (.t 8) (.c (.int .i64 1))⟩,⟨some 8,none,.mv (.t 18)⟩]))))))) (.seq (.reg [⟨some 4,none,.mv (.c (.int .i64 (-(0+1))))⟩]) .ret)))
theorem C3:Ai Tryz.prog 103=some ⟨19,B4,[(.tmp 4)]⟩:=by kernel_rfl
theorem B5:modes 103=⟨[],.asis,none,false⟩:=by unfold modes; rfl
def Br:SC:=(.seq (.reg [⟨some 4,none,.mv (.c (.bool false))⟩]) (.seq (.reg [⟨some 5,none,.mv (.t 0)⟩,⟨some 6,none,.mv (.t 1)⟩,⟨some 7,none,.call 103 [(.t 5),(.t 6)]⟩,⟨some 8,none,.bin .geq false (.t 7) (.c (.int .i64 0))⟩,⟨some 4,none,.mv (.t 8)⟩]) .ret))
theorem Ct:Ai Tryz.prog 90=some ⟨9,Br,[(.tmp 4)]⟩:=by kernel_rfl
theorem Bs:modes 90=⟨[],.asis,none,false⟩:=by unfold modes; rfl
theorem JQ (fid:Nat) (p:Tm→Bool) (xs:List Tm) (hl:xs.length≤1099511627776) (hg:Kn Tryz.prog fid=true) (hm:(modes fid).hand=[]) (hE:∀ x∈xs,E fid [x.sv] []=some (.bool (p x),[])):E 103 [.arr (xs.map Tm.d),.fn fid []] []=some (.int .i64 (L7 p xs 0),[]):=by
 refine Ab C3 B5 (of_decide_eq_true rfl) ?_
 simp (disch:=omega) only [B4,go_sem,Aa]
 refine go_loop (α:=Int) (fun a=>⟨slots 19 0 [(0,.arr (xs.map Tm.d)),(1,.fn fid []),(7,.int .i64 xs.length),(8,.int .i64 a)],[]⟩) (fun a=>∃ k:Nat,a=k∧k≤(xs).length∧L7 p (xs.drop k) a=L7 p xs 0) (fun a=>(xs).length-(a).toNat) 0 ⟨0,rfl,zE _,by rw [zN]⟩ (by simp (disch:=omega) only [go_sem,Aa]) ?_
 rintro i ⟨k,hi,hk,hR⟩
 have hni:i.toNat=k:=by omega
 have hni1:(i+1).toNat=k+1:=by omega
 rcases zF k (xs).length with hlt | hge
 ·have hg':=get_at Tm.d hlt
  rw [Tm.d_eq] at hg'
  have hc:=hE xs[k] (zI hlt)
  rw [zC hlt,L7] at hR
  cases hp:p xs[k] with
  | true =>
   rw [hp] at hc hR
   simp (disch:=omega) only [go_sem,Aa,hni,hg',hc,hg,hm]
   simpa using hR
  | false =>
   rw [hp] at hc hR
   simp (disch:=omega) only [go_sem,Aa,hni,hg',hc,hg,hm]
   exact ⟨i+1,⟨k+1,by omega,hlt,by simpa using hR⟩,by omega,by first | trivial | rfl⟩
 ·rw [zJ hge,L7] at hR
  simp (disch:=omega) only [go_sem,Aa,hni]
  exact hR
theorem HU (fid:Nat) (p:Tm→Bool) (xs:List Tm) (hl:xs.length≤1099511627776) (hg:Kn Tryz.prog fid=true) (hm:(modes fid).hand=[]) (hE:∀ x∈xs,E fid [x.sv] []=some (.bool (p x),[])):E 90 [.arr (xs.map Tm.d),.fn fid []] []=some (.bool (xs.any p),[]):=by
 have h:=JQ fid p xs hl hg hm hE
 refine Ab Ct Bs (of_decide_eq_true rfl) ?_
 simp (disch:=omega) only [Br,go_sem,Aa,h,B5]
 rw [Sm]
def Cu:SC:=(.seq (.reg [⟨some 1,none,.boxv 34 2 (.t 0)⟩,⟨some 2,none,.mv (.c (.bool false))⟩]) (.seq (.seq (.reg [⟨some 3,none,.faddr 0 (.t 1)⟩,⟨some 4,none,.load false 1 (.t 3)⟩,⟨some 5,none,.call 89 [(.t 4)]⟩]) (.cond (.t 5) (.seq (.reg [⟨some 6,none,.faddr 1 (.t 1)⟩,⟨some 7,none,.load false 1 (.t 6)⟩,⟨some 8,none,.len false (.t 7)⟩,⟨some 9,none,.bin .eql false (.t 8) (.c (.int .i64 0))⟩,⟨some 2,none,.mv (.t 9)⟩]) .ret) .skip)) (.seq (.reg [⟨some 10,none,.faddr 0 (.t 1)⟩,⟨some 11,none,.load false 1 (.t 10)⟩,⟨some 12,none,.call 63 [(.t 11)]⟩,⟨some 13,none,.mv (.t 12)⟩,⟨(some 14),(some (13,true)),(.faddr 1 (.t 1))⟩,⟨(some 15),(some (13,true)),(.load false 1 (.t 14))⟩,⟨(some 16),(some (13,true)),(.len false (.t 15))⟩,⟨(some 17),(some (13,true)),(.bin .leq false (.t 16) (.c (.int .i64 4)))⟩,⟨some 18,none,.pick (.t 13) (.t 17) (.c (.bool false))⟩,⟨some 19,none,.mv (.t 18)⟩,⟨(some 20),(some (19,true)),(.faddr 1 (.t 1))⟩,⟨(some 21),(some (19,true)),(.load false 1 (.t 20))⟩,⟨(some 22),(some (19,true)),(.call 90 [(.t 21),(.c (.fn 91 []))])⟩,⟨(some 23),(some (19,true)),(.un .not (.t 22))⟩,⟨some 24,none,.pick (.t 19) (.t 23) (.c (.bool false))⟩,⟨some 2,none,.mv (.t 24)⟩]) .ret)))
theorem Db:Ai Tryz.prog 62=some ⟨25,Cu,[(.tmp 2)]⟩:=by kernel_rfl
theorem A4:modes 62=⟨[],.asis,none,false⟩:=by unfold modes; rfl
def EV:SC:=(.seq (.reg [⟨some 1,none,.boxv 34 2 (.t 0)⟩,⟨some 2,none,.mv (.c (.bool false))⟩]) (.seq (.reg [⟨some 3,none,.load true 2 (.t 1)⟩,⟨some 4,none,.call 62 [(.t 3)]⟩,⟨some 5,none,.un .not (.t 4)⟩,⟨some 2,none,.mv (.t 5)⟩]) .ret))
theorem I4:Ai Tryz.prog 91=some ⟨6,EV,[(.tmp 2)]⟩:=by kernel_rfl
theorem EW:modes 91=⟨[],.asis,none,false⟩:=by unfold modes; rfl
theorem I5:Kn Tryz.prog 91=true:=by kernel_rfl
theorem Tm.TX (xs:List Tm):(!xs.any fun y=>!y.names)=Tm.Eb xs:=by
 rw [Tm.Et]
 induction xs with
 | nil=>rfl
 | cons x xs ih=>simp only [y2,List.all_cons,Bool.not_or,Bool.not_not,ih]
theorem Ot (x:Tm) (hn:x.nodes≤1099511627776) (ih:∀ y∈x.args,E 62 [y.sv] []=some (.bool y.names,[])):E 62 [x.sv] []=some (.bool x.names,[]):=by
 have hl:=Tm.length_le x.args
 have hx:=Tm.At x
 have h1:∀ y∈x.args,E 91 [y.sv] []=some (.bool (!y.names),[]):=fun y hy=>by
  have h:=ih y hy
  refine Ab I4 EW (of_decide_eq_true rfl) ?_
  simp (disch:=omega) only [EV,go_sem,Aa,h,A4]
 have h2:=HU 91 (fun y=>!y.names) x.args (by omega) I5 (by rw [EW]) h1
 rw [Tm.EB,← Tm.TX]
 cases hv:BY x.name with
 | true =>
  have h3:=Ix x.name
  rw [hv] at h3
  refine Ab Db A4 (of_decide_eq_true rfl) ?_
  simp (disch:=omega) only [Cu,go_sem,Aa,h3,BJ]
  rw [Jf]; cases x.args <;> simp <;> omega
 | false =>
  have h3:=Ix x.name
  rw [hv] at h3
  have h4:=KW x.name
  cases hs:Dn x.name with
  | false =>
   rw [hs] at h4
   refine Ab Db A4 (of_decide_eq_true rfl) ?_
   simp (disch:=omega) only [Cu,go_sem,Aa,h2,h3,h4,BJ,AS]
  | true =>
   rw [hs] at h4
   rcases zF 4 x.args.length with h5 | h5
   ·refine Ab Db A4 (of_decide_eq_true rfl) ?_
    simp (disch:=omega) only [Cu,go_sem,Aa,h2,h3,h4,BJ,AS]
    simp; omega
   ·refine Ab Db A4 (of_decide_eq_true rfl) ?_
    simp (disch:=omega) only [Cu,go_sem,Aa,h2,h3,h4,BJ,AS,Bs]
    simp [h5]
theorem FX (x:Tm) (hn:x.nodes≤1099511627776):E 62 [x.sv] []=some (.bool x.names,[]) :=
 Ot x hn fun y hy=>FX y (by have:=Tm.CG hy; have:=Tm.At x; omega)
termination_by SizeOf.sizeOf x
decreasing_by exact Tm.AC hy
def C4:SC:=(.seq (.reg [⟨some 1,none,.boxv 34 2 (.t 0)⟩,⟨some 2,none,.mv (.c (.bool false))⟩]) (.seq (.seq (.reg [⟨some 4,none,.faddr 0 (.t 1)⟩,⟨some 5,none,.load false 1 (.t 4)⟩,⟨some 6,none,.call 74 [(.t 5)]⟩]) (.cond (.t 6) (.seq (.reg [⟨some 7,none,.faddr 1 (.t 1)⟩,⟨some 8,none,.load false 1 (.t 7)⟩,⟨some 9,none,.len false (.t 8)⟩,⟨some 10,none,.bin .eql false (.t 9) (.c (.int .i64 0))⟩,⟨some 2,none,.mv (.t 10)⟩]) .ret) .skip)) (.seq (.seq (.reg [⟨some 11,none,.faddr 0 (.t 1)⟩,⟨some 12,none,.load false 1 (.t 11)⟩,⟨some 13,none,.call 52 [(.t 12)]⟩,⟨some 14,none,.un .not (.t 13)⟩,⟨some 15,none,.mv (.t 14)⟩,⟨(some 16),(some (15,false)),(.faddr 1 (.t 1))⟩,⟨(some 17),(some (15,false)),(.load false 1 (.t 16))⟩,⟨(some 18),(some (15,false)),(.len false (.t 17))⟩,⟨(some 19),(some (15,false)),(.bin .gtr false (.t 18) (.c (.int .i64 4)))⟩,⟨some 20,none,.pick (.t 15) (.c (.bool true)) (.t 19)⟩]) (.cond (.t 20) (.seq (.reg [⟨some 2,none,.mv (.c (.bool false))⟩]) .ret) .skip)) (.seq (.seq (.reg [⟨some 3,none,.mv (.c (.int .i64 0))⟩]) (.block 0 (.loop [0,1,0,1,0,0,0,0,0,0,0,0,0,0,0,0,0,0,0,0,0,0,0,0,0,0,0,0,0,0,0,0,0,0,0] (.seq (.seq (.reg [⟨some 21,none,.mv (.t 3)⟩,⟨some 22,none,.faddr 1 (.t 1)⟩,⟨some 23,none,.load false 1 (.t 22)⟩,⟨some 24,none,.len false (.t 23)⟩,⟨some 25,none,.bin .lss false (.t 21) (.t 24)⟩]) (.cond (.t 25) .skip (.exit 0))) (.seq (.block 1 (.seq (.reg [⟨some 28,none,.faddr 1 (.t 1)⟩,⟨some 29,none,.load false 1 (.t 28)⟩,⟨some 30,none,.mv (.t 3)⟩,⟨some 31,none,.iaddr 2 (.t 29) (.t 30)⟩,⟨some 32,none,.load true 2 (.t 31)⟩,⟨some 33,none,.call 51 [(.t 32)]⟩,⟨some 34,none,.un .not (.t 33)⟩]) (.cond (.t 34) (.seq (.reg [⟨some 2,none,.mv (.c (.bool false))⟩]) .ret) .skip))) (.reg [⟨some 26,none,.mv (.t 3)⟩,⟨some 27,none,.bin .add false (.t 26) (.c (.int .i64 1))⟩,⟨some 3,none,.mv (.t 27)⟩])))))) (.seq (.reg [⟨some 2,none,.mv (.c (.bool true))⟩]) .ret)))))
theorem Ds:Ai Tryz.prog 51=some ⟨35,C4,[(.tmp 2)]⟩:=by kernel_rfl
theorem A5:modes 51=⟨[],.asis,none,false⟩:=by unfold modes; rfl
theorem Pq (x:Tm) (hn:x.nodes≤1099511627776) (ih:∀ y∈x.args,E 51 [y.sv] []=some (.bool y.names,[])):E 51 [x.sv] []=some (.bool x.names,[]):=by
 have hl:=Tm.length_le x.args
 have hx:=Tm.At x
 have h3:=Nj x.name
 have h4:=KX x.name
 rw [Tm.EB]
 cases hv:BY x.name with
 | true =>
  rw [hv] at h3
  refine Ab Ds A5 (of_decide_eq_true rfl) ?_
  simp (disch:=omega) only [C4,go_sem,Aa,h3,Bk]
  rw [Jf]; cases x.args <;> simp <;> omega
 | false =>
  rw [hv] at h3
  cases hs:Dn x.name with
  | false =>
   rw [hs] at h4
   refine Ab Ds A5 (of_decide_eq_true rfl) ?_
   simp (disch:=omega) only [C4,go_sem,Aa,h3,h4,Bk,AT]
  | true =>
   rw [hs] at h4
   rcases zF 4 x.args.length with h5 | h5
   ·refine Ab Ds A5 (of_decide_eq_true rfl) ?_
    simp (disch:=omega) only [C4,go_sem,Aa,h3,h4,Bk,AT]
    simp; omega
   ·refine Ab Ds A5 (of_decide_eq_true rfl) ?_
    simp (disch:=omega) only [C4,go_sem,Aa,h3,h4,Bk,AT]
    refine go_loop (α:=Int) (fun a=>⟨slots 35 0 [(1,.ptr 0 0),(3,.int .i64 a)],[.box 34 [.str x.name,.arr (x.args.map Tm.d)]]⟩) (fun a=>∃ k:Nat,a=k∧k≤(x.args).length∧Tm.Eb (x.args.drop k)=Tm.Eb x.args) (fun a=>(x.args).length-(a).toNat) 0 ⟨0,rfl,zE _,by rw [zN]⟩ (by simp (disch:=omega) only [go_sem,Aa]) ?_
    rintro i ⟨k,hi,hk,hR⟩
    have hni:i.toNat=k:=by omega
    have hni1:(i+1).toNat=k+1:=by omega
    rcases zF k (x.args).length with hlt | hge
    ·have hg:=get_at Tm.d hlt
     rw [Tm.d_eq] at hg
     have hc:=ih x.args[k] (zI hlt)
     rw [zC hlt,Tm.Eb] at hR
     cases hp:x.args[k].names with
     | true =>
      rw [hp] at hc hR
      simp (disch:=omega) only [go_sem,Aa,hni,hg,hc,A5]
      exact ⟨i+1,⟨k+1,by omega,hlt,by simpa using hR⟩,by omega,by first | trivial | rfl⟩
     | false =>
      rw [hp] at hc hR
      simp (disch:=omega) only [go_sem,Aa,hni,hg,hc,A5]
      simp at hR ⊢; exact fun _=>hR
    ·rw [zJ hge,Tm.Eb] at hR
     simp (disch:=omega) only [go_sem,Aa,hni]
     simp [h5,← hR]
theorem Hn (x:Tm) (hn:x.nodes≤1099511627776):E 51 [x.sv] []=some (.bool x.names,[]) :=
 Pq x hn fun y hy=>Hn y (by have:=Tm.CG hy; have:=Tm.At x; omega)
termination_by SizeOf.sizeOf x
decreasing_by exact Tm.AC hy
def EC:SC:=(.seq (.reg [⟨some 1,none,.boxv 34 2 (.t 0)⟩,⟨some 2,none,.mv (.c (.bool false))⟩]) (.seq (.reg [⟨some 3,none,.load true 2 (.t 1)⟩,⟨some 4,none,.call 87 [(.t 3)]⟩,⟨some 5,none,.bin .leq false (.t 4) (.c (.int .i64 30))⟩,⟨some 6,none,.mv (.t 5)⟩,⟨(some 7),(some (6,true)),(.load true 2 (.t 1))⟩,⟨(some 8),(some (6,true)),(.call 88 [(.t 7)])⟩,⟨(some 9),(some (6,true)),(.bin .leq false (.t 8) (.c (.int .i64 8)))⟩,⟨some 10,none,.pick (.t 6) (.t 9) (.c (.bool false))⟩,⟨some 2,none,.mv (.t 10)⟩]) .ret))
theorem GD:Ai Tryz.prog 61=some ⟨11,EC,[(.tmp 2)]⟩:=by kernel_rfl
theorem Ba:modes 61=⟨[],.asis,none,false⟩:=by unfold modes; rfl
def Fn:SC:=(.seq (.reg [⟨some 1,none,.boxv 34 2 (.t 0)⟩,⟨some 2,none,.mv (.c (.bool false))⟩]) (.seq (.reg [⟨some 3,none,.load true 2 (.t 1)⟩,⟨some 4,none,.call 72 [(.t 3),(.c (.int .i64 30))]⟩,⟨some 5,none,.bin .leq false (.t 4) (.c (.int .i64 30))⟩,⟨some 6,none,.mv (.t 5)⟩,⟨(some 7),(some (6,true)),(.load true 2 (.t 1))⟩,⟨(some 8),(some (6,true)),(.call 73 [(.t 7)])⟩,⟨(some 9),(some (6,true)),(.bin .leq false (.t 8) (.c (.int .i64 8)))⟩,⟨some 10,none,.pick (.t 6) (.t 9) (.c (.bool false))⟩,⟨some 2,none,.mv (.t 10)⟩]) .ret))
theorem H7:Ai Tryz.prog 50=some ⟨11,Fn,[(.tmp 2)]⟩:=by kernel_rfl
theorem Bi:modes 50=⟨[],.asis,none,false⟩:=by unfold modes; rfl
def Dg:SC:=(.seq (.reg [⟨some 1,none,.boxv 34 2 (.t 0)⟩,⟨some 2,none,.mv (.c (.bool false))⟩]) (.seq (.reg [⟨some 3,none,.load true 2 (.t 1)⟩,⟨some 4,none,.call 61 [(.t 3)]⟩,⟨some 5,none,.mv (.t 4)⟩,⟨(some 6),(some (5,true)),(.load true 2 (.t 1))⟩,⟨(some 7),(some (5,true)),(.call 62 [(.t 6)])⟩,⟨some 8,none,.pick (.t 5) (.t 7) (.c (.bool false))⟩,⟨some 2,none,.mv (.t 8)⟩]) .ret))
theorem ED:Ai Tryz.prog 64=some ⟨9,Dg,[(.tmp 2)]⟩:=by kernel_rfl
theorem AQ:modes 64=⟨[],.asis,none,false⟩:=by unfold modes; rfl
def Fo:SC:=(.seq (.reg [⟨some 1,none,.boxv 34 2 (.t 0)⟩,⟨some 2,none,.mv (.c (.bool false))⟩]) (.seq (.reg [⟨some 3,none,.load true 2 (.t 1)⟩,⟨some 4,none,.call 50 [(.t 3)]⟩,⟨some 5,none,.mv (.t 4)⟩,⟨(some 6),(some (5,true)),(.load true 2 (.t 1))⟩,⟨(some 7),(some (5,true)),(.call 51 [(.t 6)])⟩,⟨some 8,none,.pick (.t 5) (.t 7) (.c (.bool false))⟩,⟨some 2,none,.mv (.t 8)⟩]) .ret))
theorem H8:Ai Tryz.prog 49=some ⟨9,Fo,[(.tmp 2)]⟩:=by kernel_rfl
theorem Bj:modes 49=⟨[],.asis,none,false⟩:=by unfold modes; rfl
def EX:SC:=(.seq (.reg [⟨some 1,none,.boxv 34 2 (.t 0)⟩,⟨some 2,none,.mv (.c (.bool false))⟩]) (.seq (.reg [⟨some 3,none,.faddr 0 (.t 1)⟩,⟨some 4,none,.load false 1 (.t 3)⟩,⟨(some 5),none,(.bin .eql false (.t 4) (.c (.str ⟨#[61]⟩)))⟩,⟨some 2,none,.mv (.t 5)⟩]) .ret))
theorem I6:Ai Tryz.prog 42=some ⟨6,EX,[(.tmp 2)]⟩:=by kernel_rfl
theorem Az:modes 42=⟨[],.asis,none,false⟩:=by unfold modes; rfl
def Be:SC:=(.seq (.reg [⟨some 1,none,.boxv 34 2 (.t 0)⟩,⟨some 2,none,.mv (.c (.bool false))⟩]) (.seq (.seq (.reg [⟨some 3,none,.load true 2 (.t 1)⟩,⟨some 4,none,.call 42 [(.t 3)]⟩]) (.cond (.t 4) (.seq (.reg [⟨some 5,none,.faddr 1 (.t 1)⟩,⟨some 6,none,.load false 1 (.t 5)⟩,⟨some 7,none,.len false (.t 6)⟩,⟨some 8,none,.bin .eql false (.t 7) (.c (.int .i64 2))⟩,⟨some 9,none,.mv (.t 8)⟩,⟨(some 10),(some (9,true)),(.load true 2 (.t 1))⟩,⟨(some 11),(some (9,true)),(.call 61 [(.t 10)])⟩,⟨some 12,none,.pick (.t 9) (.t 11) (.c (.bool false))⟩,⟨some 13,none,.mv (.t 12)⟩,⟨(some 14),(some (13,true)),(.faddr 1 (.t 1))⟩,⟨(some 15),(some (13,true)),(.load false 1 (.t 14))⟩,⟨(some 16),(some (13,true)),(.iaddr 2 (.t 15) (.c (.int .i64 0)))⟩,⟨(some 17),(some (13,true)),(.load true 2 (.t 16))⟩,⟨(some 18),(some (13,true)),(.call 62 [(.t 17)])⟩,⟨some 19,none,.pick (.t 13) (.t 18) (.c (.bool false))⟩,⟨some 20,none,.mv (.t 19)⟩,⟨(some 21),(some (20,true)),(.faddr 1 (.t 1))⟩,⟨(some 22),(some (20,true)),(.load false 1 (.t 21))⟩,⟨(some 23),(some (20,true)),(.iaddr 2 (.t 22) (.c (.int .i64 1)))⟩,⟨(some 24),(some (20,true)),(.load true 2 (.t 23))⟩,⟨(some 25),(some (20,true)),(.call 62 [(.t 24)])⟩,⟨some 26,none,.pick (.t 20) (.t 25) (.c (.bool false))⟩,⟨some 2,none,.mv (.t 26)⟩]) .ret) .skip)) (.seq (.reg [⟨some 27,none,.faddr 0 (.t 1)⟩,⟨some 28,none,.load false 1 (.t 27)⟩,⟨some 29,none,.call 63 [(.t 28)]⟩,⟨some 30,none,.mv (.t 29)⟩,⟨(some 31),(some (30,true)),(.load true 2 (.t 1))⟩,⟨(some 32),(some (30,true)),(.call 64 [(.t 31)])⟩,⟨some 33,none,.pick (.t 30) (.t 32) (.c (.bool false))⟩,⟨some 2,none,.mv (.t 33)⟩]) .ret)))
theorem Bu:Ai Tryz.prog 40=some ⟨34,Be,[(.tmp 2)]⟩:=by kernel_rfl
theorem Bf:modes 40=⟨[],.asis,none,false⟩:=by unfold modes; rfl
def BT:SC:=(.seq (.reg [⟨some 1,none,.boxv 34 2 (.t 0)⟩,⟨some 2,none,.mv (.c (.bool false))⟩]) (.seq (.seq (.reg [⟨some 3,none,.faddr 0 (.t 1)⟩,⟨some 4,none,.load false 1 (.t 3)⟩,⟨(some 5),none,(.bin .eql false (.t 4) (.c (.str ⟨#[61]⟩)))⟩]) (.cond (.t 5) (.seq (.reg [⟨some 6,none,.faddr 1 (.t 1)⟩,⟨some 7,none,.load false 1 (.t 6)⟩,⟨some 8,none,.len false (.t 7)⟩,⟨some 9,none,.bin .eql false (.t 8) (.c (.int .i64 2))⟩,⟨some 10,none,.mv (.t 9)⟩,⟨(some 11),(some (10,true)),(.load true 2 (.t 1))⟩,⟨(some 12),(some (10,true)),(.call 50 [(.t 11)])⟩,⟨some 13,none,.pick (.t 10) (.t 12) (.c (.bool false))⟩,⟨some 14,none,.mv (.t 13)⟩,⟨(some 15),(some (14,true)),(.faddr 1 (.t 1))⟩,⟨(some 16),(some (14,true)),(.load false 1 (.t 15))⟩,⟨(some 17),(some (14,true)),(.iaddr 2 (.t 16) (.c (.int .i64 0)))⟩,⟨(some 18),(some (14,true)),(.load true 2 (.t 17))⟩,⟨(some 19),(some (14,true)),(.call 51 [(.t 18)])⟩,⟨some 20,none,.pick (.t 14) (.t 19) (.c (.bool false))⟩,⟨some 21,none,.mv (.t 20)⟩,⟨(some 22),(some (21,true)),(.faddr 1 (.t 1))⟩,⟨(some 23),(some (21,true)),(.load false 1 (.t 22))⟩,⟨(some 24),(some (21,true)),(.iaddr 2 (.t 23) (.c (.int .i64 1)))⟩,⟨(some 25),(some (21,true)),(.load true 2 (.t 24))⟩,⟨(some 26),(some (21,true)),(.call 51 [(.t 25)])⟩,⟨some 27,none,.pick (.t 21) (.t 26) (.c (.bool false))⟩,⟨some 2,none,.mv (.t 27)⟩]) .ret) .skip)) (.seq (.reg [⟨some 28,none,.faddr 0 (.t 1)⟩,⟨some 29,none,.load false 1 (.t 28)⟩,⟨some 30,none,.call 52 [(.t 29)]⟩,⟨some 31,none,.mv (.t 30)⟩,⟨(some 32),(some (31,true)),(.load true 2 (.t 1))⟩,⟨(some 33),(some (31,true)),(.call 49 [(.t 32)])⟩,⟨some 34,none,.pick (.t 31) (.t 33) (.c (.bool false))⟩,⟨some 2,none,.mv (.t 34)⟩]) .ret)))
theorem Cw:Ai Tryz.prog 31=some ⟨35,BT,[(.tmp 2)]⟩:=by kernel_rfl
theorem Av:modes 31=⟨[],.asis,none,false⟩:=by unfold modes; rfl
theorem M2 (x:Tm) (hn:x.nodes≤1099511627776):E 61 [x.sv] []=some (.bool x.small,[]):=by
 have h1:=Ss x hn
 have h2:=Qa x hn
 have h3:=Tm.Iy x
 have h4:=Tm.Hk x 30
 unfold Tm.small
 rcases zF 30 x.nodes with h5 | h5
 ·rw [decide_eq_false (by omega),zS]
  refine Ab GD Ba (of_decide_eq_true rfl) ?_
  simp (disch:=omega) only [EC,go_sem,Aa,h1,h2,DU,En]
 ·rw [decide_eq_true h5,yB]
  refine Ab GD Ba (of_decide_eq_true rfl) ?_
  simp (disch:=omega) only [EC,go_sem,Aa,h1,h2,DU,En]
  rcases zF 8 x.deep with h6 | h6
  ·rw [decide_eq_false (by omega),AN (by omega)]
  ·rw [decide_eq_true h6,AJ (by omega)]
theorem Ou (x:Tm) (hn:x.nodes≤1099511627776):E 50 [x.sv] []=some (.bool x.small,[]):=by
 have h1:=Su x 30 (by omega) (by omega) hn
 have h2:=M1 x hn
 have h3:=Tm.Iy x
 have h4:=Tm.Hk x 30
 unfold Tm.small
 rcases zF 30 x.nodes with h5 | h5
 ·rw [decide_eq_false (by omega),zS]
  refine Ab H7 Bi (of_decide_eq_true rfl) ?_
  simp (disch:=omega) only [Fn,go_sem,Aa,h1,h2,CU,Dr]
 ·rw [decide_eq_true h5,yB]
  refine Ab H7 Bi (of_decide_eq_true rfl) ?_
  simp (disch:=omega) only [Fn,go_sem,Aa,h1,h2,CU,Dr]
  rcases zF 8 x.deep with h6 | h6
  ·rw [decide_eq_false (by omega),AN (by omega)]
  ·rw [decide_eq_true h6,AJ (by omega)]
theorem LA (x:Tm) (hn:x.nodes≤1099511627776):E 64 [x.sv] []=some (.bool x.valid,[]):=by
 have h1:=M2 x hn
 have h2:=FX x hn
 unfold Tm.valid
 cases h3:x.small <;> rw [h3] at h1
 ·refine Ab ED AQ (of_decide_eq_true rfl) ?_
  simp (disch:=omega) only [Dg,go_sem,Aa,h1,h2,Ba,A4]
 ·refine Ab ED AQ (of_decide_eq_true rfl) ?_
  simp (disch:=omega) only [Dg,go_sem,Aa,h1,h2,Ba,A4]
theorem Ov (x:Tm) (hn:x.nodes≤1099511627776):E 49 [x.sv] []=some (.bool x.valid,[]):=by
 have h1:=Ou x hn
 have h2:=Hn x hn
 unfold Tm.valid
 cases h3:x.small <;> rw [h3] at h1
 ·refine Ab H8 Bj (of_decide_eq_true rfl) ?_
  simp (disch:=omega) only [Fo,go_sem,Aa,h1,h2,Bi,A5]
 ·refine Ab H8 Bj (of_decide_eq_true rfl) ?_
  simp (disch:=omega) only [Fo,go_sem,Aa,h1,h2,Bi,A5]
theorem Dt (x:Tm):E 42 [x.sv] []=some (.bool x.eqn,[]):=by
 unfold Tm.eqn
 refine Ab I6 Az (of_decide_eq_true rfl) ?_
 simp (disch:=omega) only [EX,go_sem,Aa]
theorem LB (x:Tm) (hn:x.nodes≤1099511627776):E 40 [x.sv] []=some (.bool x.atom,[]):=by
 have hl:=Tm.length_le x.args
 have hx:=Tm.At x
 have h0:=Dt x
 have h1:=M2 x hn
 have h2:=KW x.name
 have h3:=LA x hn
 have hE:dec (x.name=⟨#[61]⟩)=x.eqn:=rfl
 unfold Tm.atom
 cases he:x.eqn <;> rw [he] at h0 hE
 ·rw [if_neg (by simp)]
  cases hs:Dn x.name <;> rw [hs] at h2
  ·refine Ab Bu Bf (of_decide_eq_true rfl) ?_
   simp (disch:=omega) only [Be,go_sem,Aa,h0,h1,h2,h3,hE,Ba,A4,AS,AQ,Az]
  ·refine Ab Bu Bf (of_decide_eq_true rfl) ?_
   simp (disch:=omega) only [Be,go_sem,Aa,h0,h1,h2,h3,hE,Ba,A4,AS,AQ,Az]
 ·rw [if_pos rfl]
  by_cases hc:x.args.length=2
  ·have hlt0:0<x.args.length:=by omega
   have hlt1:1<x.args.length:=by omega
   have hg0:=get_at Tm.d hlt0
   have hg1:=get_at Tm.d hlt1
   rw [Tm.d_eq] at hg0 hg1
   have hb0:=Tm.DT x.args 0 hlt0
   have hb1:=Tm.DT x.args 1 hlt1
   have hn0:=FX x.args[0] (by omega)
   have hn1:=FX x.args[1] (by omega)
   rw [My hc,show (x.args.length == 2)=true by simpa using hc]
   cases hs:x.small <;> rw [hs] at h1
   ·refine Ab Bu Bf (of_decide_eq_true rfl) ?_
    simp (disch:=omega) only [Be,go_sem,Aa,h0,h1,h2,h3,hE,hg0,hg1,hn0,hn1,hc,Ba,A4,AS,AQ,Az]
    try simp
   ·cases hq:(x.args[0]'hlt0).names <;> rw [hq] at hn0
    ·refine Ab Bu Bf (of_decide_eq_true rfl) ?_
     simp (disch:=omega) only [Be,go_sem,Aa,h0,h1,h2,h3,hE,hg0,hg1,hn0,hn1,hc,Ba,A4,AS,AQ,Az]
     try simp
    ·refine Ab Bu Bf (of_decide_eq_true rfl) ?_
     simp (disch:=omega) only [Be,go_sem,Aa,h0,h1,h2,h3,hE,hg0,hg1,hn0,hn1,hc,Ba,A4,AS,AQ,Az]
     try simp
  ·refine Ab Bu Bf (of_decide_eq_true rfl) ?_
   simp (disch:=omega) only [Be,go_sem,Aa,h0,h1,h2,h3,hE,Ba,A4,AS,AQ,Az]
   rw [show (x.args.length == 2)=false by simpa using hc]
   try simp
theorem I7 (x:Tm) (hn:x.nodes≤1099511627776):E 31 [x.sv] []=some (.bool x.atom,[]):=by
 have hl:=Tm.length_le x.args
 have hx:=Tm.At x
 have h0:=Dt x
 have h1:=Ou x hn
 have h2:=KX x.name
 have h3:=Ov x hn
 have hE:dec (x.name=⟨#[61]⟩)=x.eqn:=rfl
 unfold Tm.atom
 cases he:x.eqn <;> rw [he] at h0 hE
 ·rw [if_neg (by simp)]
  cases hs:Dn x.name <;> rw [hs] at h2
  ·refine Ab Cw Av (of_decide_eq_true rfl) ?_
   simp (disch:=omega) only [BT,go_sem,Aa,h0,h1,h2,h3,hE,Bi,A5,AT,Bj]
  ·refine Ab Cw Av (of_decide_eq_true rfl) ?_
   simp (disch:=omega) only [BT,go_sem,Aa,h0,h1,h2,h3,hE,Bi,A5,AT,Bj]
 ·rw [if_pos rfl]
  by_cases hc:x.args.length=2
  ·have hlt0:0<x.args.length:=by omega
   have hlt1:1<x.args.length:=by omega
   have hg0:=get_at Tm.d hlt0
   have hg1:=get_at Tm.d hlt1
   rw [Tm.d_eq] at hg0 hg1
   have hb0:=Tm.DT x.args 0 hlt0
   have hb1:=Tm.DT x.args 1 hlt1
   have hn0:=Hn x.args[0] (by omega)
   have hn1:=Hn x.args[1] (by omega)
   rw [My hc,show (x.args.length == 2)=true by simpa using hc]
   cases hs:x.small <;> rw [hs] at h1
   ·refine Ab Cw Av (of_decide_eq_true rfl) ?_
    simp (disch:=omega) only [BT,go_sem,Aa,h0,h1,h2,h3,hE,hg0,hg1,hn0,hn1,hc,Bi,A5,AT,Bj]
    try simp
   ·cases hq:(x.args[0]'hlt0).names <;> rw [hq] at hn0
    ·refine Ab Cw Av (of_decide_eq_true rfl) ?_
     simp (disch:=omega) only [BT,go_sem,Aa,h0,h1,h2,h3,hE,hg0,hg1,hn0,hn1,hc,Bi,A5,AT,Bj]
     try simp
    ·refine Ab Cw Av (of_decide_eq_true rfl) ?_
     simp (disch:=omega) only [BT,go_sem,Aa,h0,h1,h2,h3,hE,hg0,hg1,hn0,hn1,hc,Bi,A5,AT,Bj]
     try simp
  ·refine Ab Cw Av (of_decide_eq_true rfl) ?_
   simp (disch:=omega) only [BT,go_sem,Aa,h0,h1,h2,h3,hE,Bi,A5,AT,Bj]
   rw [show (x.args.length == 2)=false by simpa using hc]
   try simp
theorem Tm.Pr {x:Tm} (h:x.expr=true):x.small=true:=by
 unfold Tm.expr Tm.atom Tm.valid at h
 cases hs:x.small with
 | true=>rfl
 | false =>
  rw [hs] at h
  split at h <;> simp at h
theorem Tm.FY {x:Tm} (h:x.expr=true):x.nodes≤30:=by
 have:=Tm.Pr h
 unfold Tm.small at this
 rw [zA,decide_eq_true_eq] at this
 exact this.1
theorem Tm.TY {x:Tm} (h:x.eqn=true):BY x.name=false:=by
 unfold Tm.eqn at h
 rw [Aj.1 h]
 kernel_rfl
theorem Tm.Ps {x:Tm} (h:x.expr=true):x.names=true∨(x.eqn=true∧Tm.Eb x.args=true):=by
 unfold Tm.expr Tm.valid at h
 cases hn:x.names with
 | true=>exact .inl rfl
 | false =>
  rw [hn,z6,yT] at h
  unfold Tm.atom at h
  split at h
  ·rename_i he
   rw [zA] at h
   exact .inr ⟨he,h.2⟩
  ·unfold Tm.valid at h; rw [hn,z6,z6] at h; cases h
theorem Tm.Sx {x:Tm} (h:x.expr=true) {y:Tm} (hy:y∈x.args):y.names=true:=by
 rcases Tm.Ps h with h1 | ⟨h1,h2⟩
 ·exact Tm.Eu h1 hy
 ·rw [Tm.Et,zZ] at h2; exact h2 y hy
theorem M3 {s:ByteArray} (h:BY s=true):s.size≤6:=by
 unfold BY inB at h
 simp at h
 omega
theorem Jr {s:ByteArray} (h:Dn s=true):s.size≤6:=by
 unfold Dn inB at h
 simp at h
 omega
theorem Tm.HV:∀ xs:List Tm,(∀ x∈xs,x.bulk+1≤8*x.nodes)→xs.length+Tm.sumB xs≤8*Tm.A3 xs
 | [],_=>by simp [Tm.A3,Tm.sumB]
 | x :: xs,h=>by
  have h1:=h x (by simp)
  have h2:=Tm.HV xs fun y hy=>h y (by simp [hy])
  rw [Tm.A3,Tm.sumB]; simp only [zP]; omega
theorem Tm.Lb (x:Tm) (h:x.names=true):x.bulk+1≤8*x.nodes:=by
 have h1:=Tm.HV x.args fun y hy=>Tm.Lb y (Tm.Eu h hy)
 have h2:x.name.size≤6:=by
  rw [Tm.EB] at h
  split at h
  ·rename_i hv; exact M3 hv
  ·rw [zA,zA] at h; exact Jr h.1.1
 rw [Tm.At,Tm.bulk_eq]
 omega
termination_by SizeOf.sizeOf x
decreasing_by exact Tm.AC hy
theorem M4 (c:List UInt8):∀ xs:List (List UInt8),Lib.join xs c=Dq c xs
 | []=>rfl
 | [x]=>by rw [Lib.join_one]; rfl
 | x :: y :: r=>by
  have h:=M4 c (y :: r)
  rw [Dq,← h,Lib.join_cons,Lib.join_cons]
  simp only [Lib.joinTail,zD,List.flatten_cons,zM]
def Ow:List (List UInt8)→Nat
 | []=>0
 | x :: r=>x.length+1+Ow r
theorem M5 (c:UInt8):∀ xs:List (List UInt8),(Dq [c] xs).length≤Ow xs
 | []=>by simp [Dq,Ow]
 | [x]=>by simp [Dq,Ow]
 | x :: y :: r=>by
  have h:=M5 c (y :: r)
  rw [Dq,Ow]
  simp only [z7,zP,zX]
  omega
theorem Tm.M6:∀ xs:List Tm,(∀ x∈xs,x.fmt.length+1≤10*x.nodes)→Ow (Tm.Fl xs)≤10*Tm.A3 xs
 | [],_=>by simp [Tm.Fl,Ow]
 | x :: xs,h=>by
  have h1:=h x (by simp)
  have h2:=Tm.M6 xs fun y hy=>h y (by simp [hy])
  rw [Tm.Fl,Ow,Tm.A3]; omega
theorem Tm.Eo (x:Tm) (hx:x.names=true):x.fmt.length+1≤10*x.nodes:=by
 have h:=Tm.M6 x.args fun y hy=>Tm.Eo y (Tm.Eu hx hy)
 have h2:x.name.size≤6:=by
  rw [Tm.EB] at hx
  split at hx
  ·rename_i hv; exact M3 hv
  ·rw [zA,zA] at hx; exact Jr hx.1.1
 have h3:=M5 44 (Tm.Fl x.args)
 rw [Tm.GB,Tm.At,z7,An]
 split
 ·simp only [zX]; omega
 ·simp only [z7,zP,zX]; omega
termination_by SizeOf.sizeOf x
decreasing_by exact Tm.AC hy
def Tm.txt (x:Tm):ByteArray:=⟨x.fmt.toArray⟩
theorem Tm.txt_toList (x:Tm):x.txt.toList=x.fmt:=by
 rw [ByteArray.toList_eq]; unfold Tm.txt; simp
theorem Tm.Ox (x:Tm):x.txt.size=x.fmt.length:=by rw [←An,Tm.txt_toList]
theorem C5 (a b:ByteArray):(a++b).toList=a.toList++b.toList:=by
 rw [ByteArray.toList_eq,ByteArray.toList_eq,ByteArray.toList_eq]
 simp
theorem Tm.Sy {x:Tm} (h:x.args=[]):x.txt=x.name:=by
 refine AL ?_
 rw [Tm.txt_toList,Tm.GB,h]
 simp
theorem Tm.Sz (xs:List Tm):Gi (xs.map Tm.txt) ⟨#[44]⟩=⟨(Dq [44] (Tm.Fl xs)).toArray⟩:=by
 unfold Gi
 rw [M4,yM,Tm.KZ]
 have e:((fun x:ByteArray=>x.data.toList) ∘ Tm.txt)=Tm.fmt:=by
  funext x
  show x.txt.data.toList=x.fmt
  rw [←ByteArray.toList_eq,Tm.txt_toList]
 rw [e]
theorem Bv (l:List UInt8):(⟨l.toArray⟩:ByteArray).toList=l:=by rw [ByteArray.toList_eq]
theorem Tm.S1 {x:Tm} (h:x.args.length≠0):x.name++⟨#[40]⟩++Gi (x.args.map Tm.txt) ⟨#[44]⟩++⟨#[41]⟩=x.txt:=by
 refine AL ?_
 rw [Tm.txt_toList,Tm.GB,if_neg h,C5,C5,C5,Tm.Sz,Bv (Dq [44] (Tm.Fl x.args))]
 have e1:(⟨#[40]⟩:ByteArray).toList=[40]:=by rw [ByteArray.toList_eq]
 have e2:(⟨#[41]⟩:ByteArray).toList=[41]:=by rw [ByteArray.toList_eq]
 rw [e1,e2]
 simp only [zM]
theorem Tm.Js {x:Tm} (h:x.names=true):x.eqn=false:=by
 cases he:x.eqn with
 | false=>rfl
 | true =>
  have hv:=Tm.TY he
  rw [Tm.EB,if_neg (by rw [hv]; simp),zA,zA] at h
  unfold Tm.eqn at he
  rw [Aj.1 he] at h
  have:Dn ⟨#[61]⟩=false:=by kernel_rfl
  rw [this] at h
  simp at h
def wdN (n:ByteArray):Prop:=n.toList≠[]∧∀ c∈n.toList,BX (c.toNat:Int)=true
theorem M7 {c:Int} (h:L5 c=true):BX c=true:=by
 unfold L5 at h
 rw [zA,decide_eq_true_eq,decide_eq_true_eq] at h
 unfold BX
 rw [AJ h.1,AJ h.2]; rfl
theorem QM {c:Int} (h:KR c=true):BX c=true:=by
 unfold KR at h
 rw [zA,decide_eq_true_eq,decide_eq_true_eq] at h
 unfold BX
 rw [AJ h.1,AJ h.2]; simp
theorem M8 {c:Int} (h:Q6 c=true):BX c=true:=by
 unfold Q6 at h
 rw [zA,decide_eq_true_eq,decide_eq_true_eq] at h
 unfold BX
 rw [AJ h.1,AJ h.2]; simp
theorem S2:BX 95=true:=by unfold BX; rw [AJ (rfl:(95:Int)=95)]; simp
theorem S3 {n:ByteArray} {p:Nat→Int→Bool} (h1:Dm p n n.size=true) (h2:1≤n.size) (h3:∀ j c,p j c=true→BX c=true):wdN n:=by
 refine ⟨fun e=>?_,fun c hc=>?_⟩
 ·have:=An n
  rw [e] at this
  simp at this; omega
 ·obtain ⟨j,hj,rfl⟩:=List.getElem_of_mem hc
  have hj':j<n.size:=by rw [←An]; exact hj
  unfold Dm at h1
  rw [zZ] at h1
  have h:=h3 j _ (h1 j (List.mem_range.2 hj'))
  unfold Gg at h
  rw [yH,zL hj,yU] at h
  exact h
theorem TZ {n:ByteArray} (h:BY n=true):wdN n:=by
 unfold BY inB at h
 rw [zA,zA,decide_eq_true_eq,decide_eq_true_eq] at h
 refine S3 h.1 (by omega) fun j c hc=>?_
 unfold Gh E9 at hc
 rw [zA,yA,yA,yA] at hc
 rcases hc.2 with h2 | h2 | h2
 ·have hj:j=0:=by simpa using h2
  subst hj
  rcases hc.1 with h1 | h1
  ·simp at h1
  ·exact QM h1
 ·exact M7 h2
 ·exact M8 h2
theorem Ua {n:ByteArray} (h:Dn n=true):wdN n:=by
 unfold Dn inB at h
 rw [zA,zA,zA,decide_eq_true_eq,decide_eq_true_eq] at h
 refine S3 h.1.1 (by omega) fun j c hc=>?_
 unfold G9 E9 at hc
 rw [zA,yA,yA,yA] at hc
 rcases hc.2 with (h2 | h2) | h2
 ·exact M7 h2
 ·exact M8 h2
 ·have:c=95:=by simpa using h2
  subst this
  exact S2
theorem Tm.wd {x:Tm} (h:x.names=true):wdN x.name:=by
 rw [Tm.EB] at h
 split at h
 ·rename_i hv; exact TZ hv
 ·rw [zA,zA] at h; exact Ua h.1.1
theorem DC {s:ByteArray} {a b:Nat} (k:b≤s.size):(seg s a b).length=b-a:=by
 unfold seg
 rw [yN,yV,An]; omega
theorem CH {s:ByteArray} {i e:Nat} {A B:List UInt8} (h:seg s i e=A++B) (he:e≤s.size) (hi:i≤e):i+A.length≤e∧seg s i (i+A.length)=A∧seg s (i+A.length) e=B:=by
 have hl:=congrArg yO h
 rw [DC he,z7] at hl
 have hk:i+A.length≤e:=by omega
 refine ⟨hk,?_⟩
 rw [EU (show i≤i+A.length by omega) hk] at h
 have:=List.append_inj h (by rw [DC (by omega)]; omega)
 exact this
theorem CV {s:ByteArray} {i e:Nat} {c:UInt8} {B:List UInt8} (h:seg s i e=c :: B) (he:e≤s.size):i<e∧A1 s i=(c.toNat:Int)∧seg s (i+1) e=B:=by
 have hl:=congrArg yO h
 rw [DC he,zP] at hl
 have hi:i<e:=by omega
 obtain ⟨h1,h2,h3⟩:=CH (A:=[c]) (B:=B) h he (by omega)
 refine ⟨hi,?_,h3⟩
 have hlt:i<s.size:=by omega
 have hl2:i<s.toList.length:=by rw [An]; exact hlt
 have h2:seg s i (i+1)=[c]:=h2
 unfold seg at h2
 rw [zC hl2,show i+1-i=1 by omega,yI,yR] at h2
 rw [CT hlt]
 simp only [yG,and_true] at h2
 rw [h2]
def S4 (s:ByteArray) (e:Nat):Prop:=e=s.size∨(e<s.size∧BX (A1 s e)=false∧¬ A1 s e=40)
theorem Lc {s:ByteArray}:∀ (l:List UInt8) (i w:Nat),seg s i w=l→i≤w→w≤s.size→(∀ c∈l,BX (c.toNat:Int)=true)→¬ (w<s.size∧BX (A1 s w)=true)→Ax s i=w
 | [],i,w,h,hi,hw,_,hs=>by
  have hl:=congrArg yO h
  rw [DC hw] at hl
  obtain rfl:i=w:=by simp at hl; omega
  exact FA hs
 | c :: l,i,w,h,hi,hw,ha,hs=>by
  obtain ⟨h1,h2,h3⟩:=CV h hw
  rw [Jq (by omega) (by rw [h2]; exact ha c (by simp))]
  exact Lc l (i+1) w h3 (by omega) hw (fun c hc=>ha c (by simp [hc])) hs
theorem GE {c:Int} (h:c=40∨c=41∨c=44∨c=32):BX c=false:=by
 unfold BX
 have a1:¬ 97≤c:=by omega
 have a2:¬ 65≤c:=by omega
 have a3:¬ 48≤c:=by omega
 have a4:¬ c=95:=by omega
 rw [AN a1,AN a2,AN a3,AN a4]; rfl
theorem Oy {s:ByteArray} {n:Nat}:∀ (ts:List Tm) (m i e:Nat),ts≠[]→(∀ t∈ts,∀ i e,e≤s.size→i≤e→seg s i e=t.fmt→S4 s e→s.size-i<n→rd s n i=some (t,e))→e≤s.size→i≤e→seg s i e=Dq [44] (Tm.Fl ts)++[41]→s.size-i<m→s.size-i<n→rdL (rd s n) s m i=some (ts,e)
 | [],_,_,_,h,_,_,_,_,_,_=>absurd rfl h
 | [t],m,i,e,_,ih,he,hi,h,hm,hn=>by
  obtain ⟨m,rfl⟩:∃ m',m=m'+1:=⟨m-1,by omega⟩
  have h:seg s i e=t.fmt++[41]:=h
  obtain ⟨h1,h2,h3⟩:=CH h he hi
  obtain ⟨g1,g2,g3⟩:=CV h3 he
  have hl:=congrArg yO g3
  rw [DC he] at hl
  have hl:e-(i+t.fmt.length+1)=0:=hl
  have ht:=ih t (by simp) i (i+t.fmt.length) (by omega) (by omega) h2 (.inr ⟨by omega,GE (.inr (.inl g2)),by rw [g2]; decide⟩) hn
  rw [rdL,ht]
  have a1:BK s (i+t.fmt.length) 44=false:=by
   cases hq:BK s (i+t.fmt.length) 44 with
   | false=>rfl
   | true=>have:=(AZ.1 hq).2; rw [g2] at this; exact absurd this (by decide)
  have a2:BK s (i+t.fmt.length) 41=true:=AZ.2 ⟨by omega,g2⟩
  simp only [a1,a2,cond_false,cond_true]
  have:i+t.fmt.length+1=e:=by omega
  rw [this]
 | t :: t2 :: r,m,i,e,_,ih,he,hi,h,hm,hn=>by
  obtain ⟨m,rfl⟩:∃ m',m=m'+1:=⟨m-1,by omega⟩
  have h:seg s i e=t.fmt++[44]++Dq [44] (Tm.Fl (t2 :: r))++[41]:=h
  rw [zM,zM] at h
  obtain ⟨h1,h2,h3⟩:=CH h he hi
  obtain ⟨g1,g2,g3⟩:=CV h3 he
  have ht:=ih t (by simp) i (i+t.fmt.length) (by omega) (by omega) h2 (.inr ⟨by omega,GE (.inr (.inr (.inl g2))),by rw [g2]; decide⟩) hn
  have hr:=Oy (t2 :: r) m (i+t.fmt.length+1) e (by simp) (fun t ht=>ih t (by simp [ht])) he (by omega) g3 (by omega) (by omega)
  rw [rdL,ht]
  have a1:BK s (i+t.fmt.length) 44=true:=AZ.2 ⟨by omega,g2⟩
  simp only [a1,cond_true,hr]
theorem EY {s:ByteArray} (t:Tm) (ht:t.names=true) (n i e:Nat) (he:e≤s.size) (hi:i≤e) (h:seg s i e=t.fmt) (hs:S4 s e) (hn:s.size-i<n):rd s n i=some (t,e):=by
 obtain ⟨n,rfl⟩:∃ n',n=n'+1:=⟨n-1,by omega⟩
 obtain ⟨w1,w2⟩:=Tm.wd ht
 rw [Tm.GB] at h
 obtain ⟨h1,h2,h3⟩:=CH h he hi
 have hex:s.extract i (i+t.name.toList.length)=t.name:=AL (by rw [toList_extract,h2])
 have hpos:0<t.name.toList.length:=List.length_pos_iff.2 w1
 rcases yJ t.args.length with h0 | h0
 ·rw [if_pos h0] at h3
  have hl:=congrArg yO h3
  rw [DC he] at hl
  have hl:e-(i+t.name.toList.length)=0:=hl
  have hw:Ax s i=i+t.name.toList.length:=Lc t.name.toList i _ h2 (by omega) (by omega) w2 fun ⟨k1,k2⟩=>by
   have e1:i+t.name.toList.length=e:=by omega
   rw [e1] at k1 k2
   rcases hs with hs | ⟨_,hs,_⟩
   ·omega
   ·rw [hs] at k2; cases k2
  have e1:i+t.name.toList.length=e:=by omega
  have hc:BK s (i+t.name.toList.length) 40=false:=by
   cases hq:BK s (i+t.name.toList.length) 40 with
   | false=>rfl
   | true =>
    obtain ⟨k1,k2⟩:=AZ.1 hq
    rw [e1] at k1 k2
    rcases hs with hs | ⟨_,_,hs⟩
    ·omega
    ·exact absurd k2 hs
  have hargs:t.args=[]:=zQ h0
  rw [rd,hw,AN (by omega),cond_false,hc,cond_false,hex,e1]
  obtain ⟨nm,us⟩:=t
  have hargs:us=[]:=hargs
  subst hargs
  rfl
 ·rw [if_neg (by omega),zM] at h3
  obtain ⟨g1,g2,g3⟩:=CV h3 he
  have hw:Ax s i=i+t.name.toList.length:=Lc t.name.toList i _ h2 (by omega) (by omega) w2 fun ⟨_,k2⟩=>by
   rw [GE (.inl g2)] at k2; cases k2
  have hc:BK s (i+t.name.toList.length) 40=true:=AZ.2 ⟨by omega,g2⟩
  have hne:t.args≠[]:=fun h=>by rw [h] at h0; simp at h0
  have hr:=Oy (s:=s) (n:=n) t.args n (i+t.name.toList.length+1) e hne (fun y hy i e a b c d f=>EY y (Tm.Eu ht hy) n i e a b c d f) he (by omega) g3 (by omega) (by omega)
  rw [rd,hw,AN (by omega),cond_false,hc,cond_true,hr,hex]
  obtain ⟨nm,us⟩:=t
  rfl
termination_by SizeOf.sizeOf t
decreasing_by exact Tm.AC hy
def C6:SC:=(.seq (.reg [⟨some 2,none,.mv (.c (.bool false))⟩]) (.seq (.reg [⟨some 3,none,.mv (.t 0)⟩,⟨some 4,none,.bin .geq false (.t 3) (.c (.int .u8 65))⟩,⟨some 5,none,.mv (.t 4)⟩,⟨(some 6),(some (5,true)),(.mv (.t 0))⟩,⟨(some 7),(some (5,true)),(.bin .leq false (.t 6) (.c (.int .u8 90)))⟩,⟨some 8,none,.pick (.t 5) (.t 7) (.c (.bool false))⟩,⟨some 2,none,.mv (.t 8)⟩]) .ret))
theorem Du:Ai Tryz.prog 85=some ⟨9,C6,[(.tmp 2)]⟩:=by kernel_rfl
theorem B6:modes 85=⟨[],.asis,none,false⟩:=by unfold modes; rfl
def EE:SC:=(.seq (.reg [⟨some 2,none,.mv (.c (.bool false))⟩]) (.seq (.reg [⟨some 3,none,.mv (.t 0)⟩,⟨some 4,none,.bin .geq false (.t 3) (.c (.int .u8 97))⟩,⟨some 5,none,.mv (.t 4)⟩,⟨(some 6),(some (5,true)),(.mv (.t 0))⟩,⟨(some 7),(some (5,true)),(.bin .leq false (.t 6) (.c (.int .u8 122)))⟩,⟨some 8,none,.pick (.t 5) (.t 7) (.c (.bool false))⟩,⟨some 2,none,.mv (.t 8)⟩]) .ret))
theorem GF:Ai Tryz.prog 84=some ⟨9,EE,[(.tmp 2)]⟩:=by kernel_rfl
theorem C7:modes 84=⟨[],.asis,none,false⟩:=by unfold modes; rfl
def EF:SC:=(.seq (.reg [⟨some 2,none,.mv (.c (.bool false))⟩]) (.seq (.reg [⟨some 3,none,.mv (.t 0)⟩,⟨some 4,none,.bin .geq false (.t 3) (.c (.int .u8 48))⟩,⟨some 5,none,.mv (.t 4)⟩,⟨(some 6),(some (5,true)),(.mv (.t 0))⟩,⟨(some 7),(some (5,true)),(.bin .leq false (.t 6) (.c (.int .u8 57)))⟩,⟨some 8,none,.pick (.t 5) (.t 7) (.c (.bool false))⟩,⟨some 2,none,.mv (.t 8)⟩]) .ret))
theorem GG:Ai Tryz.prog 86=some ⟨9,EF,[(.tmp 2)]⟩:=by kernel_rfl
theorem C8:modes 86=⟨[],.asis,none,false⟩:=by unfold modes; rfl
def H9:SC:=(.seq (.reg [⟨some 2,none,.mv (.c (.bool false))⟩]) (.seq (.reg [⟨some 3,none,.mv (.t 0)⟩,⟨some 4,none,.call 76 [(.t 3)]⟩,⟨some 5,none,.mv (.t 4)⟩,⟨(some 6),(some (5,false)),(.mv (.t 0))⟩,⟨(some 7),(some (5,false)),(.bin .geq false (.t 6) (.c (.int .u8 65)))⟩,⟨(some 8),(some (5,false)),(.mv (.t 7))⟩,⟨(some 9),(some (8,true)),(.mv (.t 0))⟩,⟨(some 10),(some (8,true)),(.bin .leq false (.t 9) (.c (.int .u8 90)))⟩,⟨(some 11),(some (5,false)),(.pick (.t 8) (.t 10) (.c (.bool false)))⟩,⟨some 12,none,.pick (.t 5) (.c (.bool true)) (.t 11)⟩,⟨some 13,none,.mv (.t 12)⟩,⟨(some 14),(some (13,false)),(.mv (.t 0))⟩,⟨(some 15),(some (13,false)),(.bin .eql false (.t 14) (.c (.int .u8 95)))⟩,⟨some 16,none,.pick (.t 13) (.c (.bool true)) (.t 15)⟩,⟨some 2,none,.mv (.t 16)⟩]) .ret))
theorem LC:Ai Tryz.prog 71=some ⟨17,H9,[(.tmp 2)]⟩:=by kernel_rfl
theorem BU:modes 71=⟨[],.asis,none,false⟩:=by unfold modes; rfl
def GH:SC:=(.seq (.reg [⟨some 2,none,.mv (.c (.bool false))⟩]) (.seq (.reg [⟨some 3,none,.mv (.t 0)⟩,⟨some 4,none,.bin .geq false (.t 3) (.c (.int .u8 97))⟩,⟨some 5,none,.mv (.t 4)⟩,⟨(some 6),(some (5,true)),(.mv (.t 0))⟩,⟨(some 7),(some (5,true)),(.bin .leq false (.t 6) (.c (.int .u8 122)))⟩,⟨some 8,none,.pick (.t 5) (.t 7) (.c (.bool false))⟩,⟨some 9,none,.mv (.t 8)⟩,⟨(some 10),(some (9,false)),(.mv (.t 0))⟩,⟨(some 11),(some (9,false)),(.bin .geq false (.t 10) (.c (.int .u8 48)))⟩,⟨(some 12),(some (9,false)),(.mv (.t 11))⟩,⟨(some 13),(some (12,true)),(.mv (.t 0))⟩,⟨(some 14),(some (12,true)),(.bin .leq false (.t 13) (.c (.int .u8 57)))⟩,⟨(some 15),(some (9,false)),(.pick (.t 12) (.t 14) (.c (.bool false)))⟩,⟨some 16,none,.pick (.t 9) (.c (.bool true)) (.t 15)⟩,⟨some 2,none,.mv (.t 16)⟩]) .ret))
theorem Ld:Ai Tryz.prog 76=some ⟨17,GH,[(.tmp 2)]⟩:=by kernel_rfl
theorem GI:modes 76=⟨[],.asis,none,false⟩:=by unfold modes; rfl
def Ec:SC:=(.seq (.reg [⟨some 4,none,.mv (.c (.bool false))⟩]) (.seq (.reg [⟨some 5,none,.mv (.t 0)⟩,⟨some 6,none,.mv (.t 1)⟩,⟨some 7,none,.call 102 [(.t 5),(.t 6)]⟩,⟨some 4,none,.mv (.t 7)⟩]) .ret))
theorem Ht:Ai Tryz.prog 83=some ⟨8,Ec,[(.tmp 4)]⟩:=by kernel_rfl
theorem Ed:modes 83=⟨[],.asis,none,false⟩:=by unfold modes; rfl
def Bl:SC:=(.seq (.reg [⟨some 4,none,.mv (.c (.bool false))⟩]) (.seq (.reg [⟨some 5,none,.mv (.t 0)⟩,⟨some 6,none,.len true (.t 5)⟩,⟨some 7,none,.mv (.t 1)⟩,⟨some 8,none,.len true (.t 7)⟩,⟨some 9,none,.bin .geq false (.t 6) (.t 8)⟩,⟨some 10,none,.mv (.t 9)⟩,⟨(some 11),(some (10,true)),(.mv (.t 0))⟩,⟨(some 12),(some (10,true)),(.mv (.t 1))⟩,⟨(some 13),(some (10,true)),(.len true (.t 12))⟩,⟨(some 14),(some (10,true)),(.slice true 0 (.t 11) none (some (.t 13)))⟩,⟨(some 15),(some (10,true)),(.mv (.t 1))⟩,⟨(some 16),(some (10,true)),(.bin .eql false (.t 14) (.t 15))⟩,⟨some 17,none,.pick (.t 10) (.t 16) (.c (.bool false))⟩,⟨some 4,none,.mv (.t 17)⟩]) .ret))
theorem BL:Ai Tryz.prog 102=some ⟨18,Bl,[(.tmp 4)]⟩:=by kernel_rfl
theorem Bm:modes 102=⟨[],.asis,none,false⟩:=by unfold modes; rfl
def Dv:SC:=(.seq (.reg [⟨some 4,none,.mv (.c (.bool false))⟩]) (.seq (.dreg [[],[0],[1,0],[2,1,0],[3,2,1,0],[4,3,2,1,0],[5,4,3,2,1,0],[6,5,4,3,2,1,0],[7,6,5,4,3,2,1,0],[8,7,6,5,4,3,2,1,0],[5,4,3,2,1,0],[10,5,4,3,2,1,0],[11,10,5,4,3,2,1,0],[12,11,10,5,4,3,2,1,0],[9,8,7,6,5,4,3,2,1,0,13,12,11,10],[5,4,3,2,1,0],[14,9,8,7,6,5,4,3,2,1,0,13,12,11,10,15],[5,4,3,2,1,0,16,14,9,8,7,6,13,12,11,10,15],[17,5,4,3,2,1,0,16,14,9,8,7,6,13,12,11,10,15]] [⟨some 5,none,.mv (.t 0)⟩,⟨some 6,none,.nilchk (.t 5)⟩,⟨some 7,none,.faddr 2 (.t 6)⟩,⟨some 8,none,.load false 1 (.t 7)⟩,⟨some 9,none,.un .not (.t 8)⟩,⟨some 10,none,.mv (.t 9)⟩,⟨(some 11),(some (10,true)),(.mv (.t 0))⟩,⟨(some 12),(some (10,true)),(.nilchk (.t 11))⟩,⟨(some 13),(some (10,true)),(.faddr 0 (.t 12))⟩,⟨(some 14),(some (10,true)),(.load false 1 (.t 13))⟩,⟨(some 15),(some (10,true)),(.mv (.t 0))⟩,⟨(some 16),(some (10,true)),(.nilchk (.t 15))⟩,⟨(some 17),(some (10,true)),(.faddr 1 (.t 16))⟩,⟨(some 18),(some (10,true)),(.load false 1 (.t 17))⟩,⟨(some 19),(some (10,true)),(.slice true 0 (.t 14) (some (.t 18)) none)⟩,⟨(some 20),(some (10,true)),(.mv (.t 1))⟩,⟨(some 21),(some (10,true)),(.call 83 [(.t 19),(.t 20)])⟩,⟨some 22,none,.pick (.t 10) (.t 21) (.c (.bool false))⟩,⟨some 4,none,.mv (.t 22)⟩]) .ret))
theorem EZ:Ai Tryz.prog 58=some ⟨23,Dv,[(.tmp 4)]⟩:=by kernel_rfl
theorem BM:modes 58=⟨[],.asis,none,false⟩:=by unfold modes; rfl
def Cj:SC:=(.seq (.reg [⟨some 4,none,.mv (.c (.bool false))⟩]) (.seq (.reg [⟨some 6,none,.mv (.t 0)⟩,⟨some 7,none,.mv (.t 1)⟩,⟨some 8,none,.call 58 [(.t 6),(.t 7)]⟩,⟨some 5,none,.mv (.t 8)⟩]) (.seq (.seq (.reg [⟨some 9,none,.mv (.t 5)⟩]) (.cond (.t 9) (.reg [⟨some 10,none,.mv (.t 0)⟩,⟨some 11,none,.nilchk (.t 10)⟩,⟨some 12,none,.faddr 1 (.t 11)⟩,⟨some 13,none,.load false 1 (.t 12)⟩,⟨some 14,none,.mv (.t 1)⟩,⟨some 15,none,.len true (.t 14)⟩,⟨some 16,none,.bin .add false (.t 13) (.t 15)⟩,⟨some 17,none,.nilchk (.t 10)⟩,⟨some 18,none,.faddr 1 (.t 17)⟩,⟨none,none,(.store 1 (.t 18) (.t 16))⟩]) .skip)) (.seq (.reg [⟨some 19,none,.mv (.t 5)⟩,⟨some 4,none,.mv (.t 19)⟩]) .ret))))
theorem Dh:Ai Tryz.prog 37=some ⟨20,Cj,[(.tmp 4)]⟩:=by kernel_rfl
theorem Af:modes 37=⟨[],.asis,none,false⟩:=by unfold modes; rfl
def Ck:SC:=(.seq (.reg [⟨some 4,none,.mv (.t 0)⟩,⟨some 5,none,.mv (.t 1)⟩,⟨some 6,none,.call 37 [(.t 4),(.t 5)]⟩,⟨some 7,none,.un .not (.t 6)⟩]) (.cond (.t 7) (.reg [⟨some 8,none,.mv (.t 0)⟩,⟨some 9,none,.nilchk (.t 8)⟩,⟨some 10,none,.faddr 2 (.t 9)⟩,⟨none,none,(.store 1 (.t 10) (.c (.bool true)))⟩]) .skip))
theorem Di:Ai Tryz.prog 60=some ⟨11,Ck,[]⟩:=by kernel_rfl
theorem AA:modes 60=⟨[],.asis,none,false⟩:=by unfold modes; rfl
def CM:SC:=(.seq (.reg [⟨some 2,none,.mv (.c (.bool false))⟩]) (.seq (.dreg [[],[0],[1,0],[2,1,0],[3,2,1,0],[4,3,2,1,0],[5,4,3,2,1,0],[6,5,4,3,2,1,0],[7,6,5,4,3,2,1,0],[8,7,6,5,4,3,2,1,0],[5,4,3,2,1,0],[10,5,4,3,2,1,0],[11,10,5,4,3,2,1,0],[12,11,10,5,4,3,2,1,0],[13,12,11,10,5,4,3,2,1,0],[9,8,7,6,5,4,3,2,1,0,14,13,12,11,10],[5,4,3,2,1,0,15,9,8,7,6,14,13,12,11,10],[16,5,4,3,2,1,0,15,9,8,7,6,14,13,12,11,10]] [⟨some 3,none,.mv (.t 0)⟩,⟨some 4,none,.nilchk (.t 3)⟩,⟨some 5,none,.faddr 2 (.t 4)⟩,⟨some 6,none,.load false 1 (.t 5)⟩,⟨some 7,none,.un .not (.t 6)⟩,⟨some 8,none,.mv (.t 7)⟩,⟨(some 9),(some (8,true)),(.mv (.t 0))⟩,⟨(some 10),(some (8,true)),(.nilchk (.t 9))⟩,⟨(some 11),(some (8,true)),(.faddr 1 (.t 10))⟩,⟨(some 12),(some (8,true)),(.load false 1 (.t 11))⟩,⟨(some 13),(some (8,true)),(.mv (.t 0))⟩,⟨(some 14),(some (8,true)),(.nilchk (.t 13))⟩,⟨(some 15),(some (8,true)),(.faddr 0 (.t 14))⟩,⟨(some 16),(some (8,true)),(.load false 1 (.t 15))⟩,⟨(some 17),(some (8,true)),(.len true (.t 16))⟩,⟨(some 18),(some (8,true)),(.bin .eql false (.t 12) (.t 17))⟩,⟨some 19,none,.pick (.t 8) (.t 18) (.c (.bool false))⟩,⟨some 2,none,.mv (.t 19)⟩]) .ret))
theorem Ee:Ai Tryz.prog 21=some ⟨20,CM,[(.tmp 2)]⟩:=by kernel_rfl
theorem AU:modes 21=⟨[],.asis,none,false⟩:=by unfold modes; rfl
def EG:SC:=(.seq (.reg [⟨(some 2),none,(.mv (.c (.str ⟨#[]⟩)))⟩]) (.seq (.reg [⟨some 4,none,.mv (.t 0)⟩,⟨some 5,none,.nilchk (.t 4)⟩,⟨some 6,none,.faddr 1 (.t 5)⟩,⟨some 7,none,.load false 1 (.t 6)⟩,⟨some 3,none,.mv (.t 7)⟩]) (.seq (.block 0 (.loop [1,0,0,1,0,0,0,0,0,0,0,0,0,0,0,0,0,0,0,0,0,0,0,0,0,0,0,0,0,0,0,0,0,0,0,0,0,0,0,0,0,0,0,0,0,0,0,0,0,0,0,0,0,0,0,0,0,0,0,0,0,0,0,0,0,0,0,0,0,0,0,0,0,0,0,0,0,0,0,0,0,0,0,0,0,0,0,0,0,0,0,0,0,0,0,0,0,0] (.seq (.seq (.dreg [[],[0],[1,0],[2,1,0],[],[4],[5,4],[6,5,4],[7,6,5,4],[3,2,1,0,8,7,6,5,4],[9,3,2,1,0,8,7,6,5,4],[10,9,3,2,1,0,8,7,6,5,4],[11,10,9,3,2,1,0,8,7,6,5,4],[12,11,10,9,3,2,1,0,8,7,6,5,4],[13,12,11,10,9,3,2,1,0,8,7,6,5,4],[10,9,3,2,1,0,8,7,6,5,4],[15,10,9,3,2,1,0,8,7,6,5,4],[16,15,10,9,3,2,1,0,8,7,6,5,4],[17,16,15,10,9,3,2,1,0,8,7,6,5,4],[14,13,12,11,10,9,3,2,1,0,8,7,6,5,4,18,17,16,15],[19,14,13,12,11,10,9,3,2,1,0,8,7,6,5,4,18,17,16,15],[20,19,14,13,12,11,10,9,3,2,1,0,8,7,6,5,4,18,17,16,15],[21,20,19,14,13,12,11,10,9,3,2,1,0,8,7,6,5,4,18,17,16,15],[22,21,20,19,14,13,12,11,10,9,3,2,1,0,8,7,6,5,4,18,17,16,15],[23,22,21,20,19,14,13,12,11,10,9,3,2,1,0,8,7,6,5,4,18,17,16,15],[24,23,22,21,20,19,14,13,12,11,10,9,3,2,1,0,8,7,6,5,4,18,17,16,15],[21,20,19,14,13,12,11,10,9,3,2,1,0,8,7,6,5,4,18,17,16,15],[26,21,20,19,14,13,12,11,10,9,3,2,1,0,8,7,6,5,4,18,17,16,15],[27,26,21,20,19,14,13,12,11,10,9,3,2,1,0,8,7,6,5,4,18,17,16,15],[28,27,26,21,20,19,14,13,12,11,10,9,3,2,1,0,8,7,6,5,4,18,17,16,15],[25,24,23,22,21,20,19,14,13,12,11,10,9,3,2,1,0,8,7,6,5,4,18,17,16,15,29,28,27,26],[30,25,24,23,22,21,20,19,14,13,12,11,10,9,3,2,1,0,8,7,6,5,4,18,17,16,15,29,28,27,26],[21,20,19,14,13,12,11,10,9,3,2,1,0,8,7,6,5,4,18,17,16,15,31,30,25,24,23,22,29,28,27,26],[32,21,20,19,14,13,12,11,10,9,3,2,1,0,8,7,6,5,4,18,17,16,15,31,30,25,24,23,22,29,28,27,26],[33,32,21,20,19,14,13,12,11,10,9,3,2,1,0,8,7,6,5,4,18,17,16,15,31,30,25,24,23,22,29,28,27,26],[34,33,32,21,20,19,14,13,12,11,10,9,3,2,1,0,8,7,6,5,4,18,17,16,15,31,30,25,24,23,22,29,28,27,26],[35,34,33,32,21,20,19,14,13,12,11,10,9,3,2,1,0,8,7,6,5,4,18,17,16,15,31,30,25,24,23,22,29,28,27,26],[36,35,34,33,32,21,20,19,14,13,12,11,10,9,3,2,1,0,8,7,6,5,4,18,17,16,15,31,30,25,24,23,22,29,28,27,26],[33,32,21,20,19,14,13,12,11,10,9,3,2,1,0,8,7,6,5,4,18,17,16,15,31,30,25,24,23,22,29,28,27,26],[38,33,32,21,20,19,14,13,12,11,10,9,3,2,1,0,8,7,6,5,4,18,17,16,15,31,30,25,24,23,22,29,28,27,26],[39,38,33,32,21,20,19,14,13,12,11,10,9,3,2,1,0,8,7,6,5,4,18,17,16,15,31,30,25,24,23,22,29,28,27,26],[40,39,38,33,32,21,20,19,14,13,12,11,10,9,3,2,1,0,8,7,6,5,4,18,17,16,15,31,30,25,24,23,22,29,28,27,26],[37,36,35,34,33,32,21,20,19,14,13,12,11,10,9,3,2,1,0,8,7,6,5,4,18,17,16,15,31,30,25,24,23,22,29,28,27,26,41,40,39,38],[42,37,36,35,34,33,32,21,20,19,14,13,12,11,10,9,3,2,1,0,8,7,6,5,4,18,17,16,15,31,30,25,24,23,22,29,28,27,26,41,40,39,38],[33,32,21,20,19,14,13,12,11,10,9,3,2,1,0,8,7,6,5,4,18,17,16,15,31,30,25,24,23,22,29,28,27,26,43,42,37,36,35,34,41,40,39,38],[44,33,32,21,20,19,14,13,12,11,10,9,3,2,1,0,8,7,6,5,4,18,17,16,15,31,30,25,24,23,22,29,28,27,26,43,42,37,36,35,34,41,40,39,38],[45,44,33,32,21,20,19,14,13,12,11,10,9,3,2,1,0,8,7,6,5,4,18,17,16,15,31,30,25,24,23,22,29,28,27,26,43,42,37,36,35,34,41,40,39,38],[46,45,44,33,32,21,20,19,14,13,12,11,10,9,3,2,1,0,8,7,6,5,4,18,17,16,15,31,30,25,24,23,22,29,28,27,26,43,42,37,36,35,34,41,40,39,38],[47,46,45,44,33,32,21,20,19,14,13,12,11,10,9,3,2,1,0,8,7,6,5,4,18,17,16,15,31,30,25,24,23,22,29,28,27,26,43,42,37,36,35,34,41,40,39,38],[48,47,46,45,44,33,32,21,20,19,14,13,12,11,10,9,3,2,1,0,8,7,6,5,4,18,17,16,15,31,30,25,24,23,22,29,28,27,26,43,42,37,36,35,34,41,40,39,38],[45,44,33,32,21,20,19,14,13,12,11,10,9,3,2,1,0,8,7,6,5,4,18,17,16,15,31,30,25,24,23,22,29,28,27,26,43,42,37,36,35,34,41,40,39,38],[50,45,44,33,32,21,20,19,14,13,12,11,10,9,3,2,1,0,8,7,6,5,4,18,17,16,15,31,30,25,24,23,22,29,28,27,26,43,42,37,36,35,34,41,40,39,38],[51,50,45,44,33,32,21,20,19,14,13,12,11,10,9,3,2,1,0,8,7,6,5,4,18,17,16,15,31,30,25,24,23,22,29,28,27,26,43,42,37,36,35,34,41,40,39,38],[52,51,50,45,44,33,32,21,20,19,14,13,12,11,10,9,3,2,1,0,8,7,6,5,4,18,17,16,15,31,30,25,24,23,22,29,28,27,26,43,42,37,36,35,34,41,40,39,38],[49,48,47,46,45,44,33,32,21,20,19,14,13,12,11,10,9,3,2,1,0,8,7,6,5,4,18,17,16,15,31,30,25,24,23,22,29,28,27,26,43,42,37,36,35,34,41,40,39,38,53,52,51,50],[54,49,48,47,46,45,44,33,32,21,20,19,14,13,12,11,10,9,3,2,1,0,8,7,6,5,4,18,17,16,15,31,30,25,24,23,22,29,28,27,26,43,42,37,36,35,34,41,40,39,38,53,52,51,50],[45,44,33,32,21,20,19,14,13,12,11,10,9,3,2,1,0,8,7,6,5,4,18,17,16,15,31,30,25,24,23,22,29,28,27,26,43,42,37,36,35,34,41,40,39,38,55,54,49,48,47,46,53,52,51,50],[10,9,3,2,1,0,8,7,6,5,4,56,45,44,33,32,21,20,19,14,13,12,11,18,17,16,15,31,30,25,24,23,22,29,28,27,26,43,42,37,36,35,34,41,40,39,38,55,54,49,48,47,46,53,52,51,50]] [⟨some 8,none,.mv (.t 0)⟩,⟨some 9,none,.nilchk (.t 8)⟩,⟨some 10,none,.faddr 1 (.t 9)⟩,⟨some 11,none,.load false 1 (.t 10)⟩,⟨some 12,none,.mv (.t 0)⟩,⟨some 13,none,.nilchk (.t 12)⟩,⟨some 14,none,.faddr 0 (.t 13)⟩,⟨some 15,none,.load false 1 (.t 14)⟩,⟨some 16,none,.len true (.t 15)⟩,⟨some 17,none,.bin .lss false (.t 11) (.t 16)⟩,⟨some 18,none,.mv (.t 17)⟩,⟨(some 19),(some (18,true)),(.mv (.t 0))⟩,⟨(some 20),(some (18,true)),(.nilchk (.t 19))⟩,⟨(some 21),(some (18,true)),(.faddr 0 (.t 20))⟩,⟨(some 22),(some (18,true)),(.load false 1 (.t 21))⟩,⟨(some 23),(some (18,true)),(.mv (.t 0))⟩,⟨(some 24),(some (18,true)),(.nilchk (.t 23))⟩,⟨(some 25),(some (18,true)),(.faddr 1 (.t 24))⟩,⟨(some 26),(some (18,true)),(.load false 1 (.t 25))⟩,⟨(some 27),(some (18,true)),(.idx (.t 22) (.t 26))⟩,⟨(some 28),(some (18,true)),(.call 84 [(.t 27)])⟩,⟨(some 29),(some (18,true)),(.mv (.t 28))⟩,⟨(some 30),(some (29,false)),(.mv (.t 0))⟩,⟨(some 31),(some (29,false)),(.nilchk (.t 30))⟩,⟨(some 32),(some (29,false)),(.faddr 0 (.t 31))⟩,⟨(some 33),(some (29,false)),(.load false 1 (.t 32))⟩,⟨(some 34),(some (29,false)),(.mv (.t 0))⟩,⟨(some 35),(some (29,false)),(.nilchk (.t 34))⟩,⟨(some 36),(some (29,false)),(.faddr 1 (.t 35))⟩,⟨(some 37),(some (29,false)),(.load false 1 (.t 36))⟩,⟨(some 38),(some (29,false)),(.idx (.t 33) (.t 37))⟩,⟨(some 39),(some (29,false)),(.call 85 [(.t 38)])⟩,⟨(some 40),(some (18,true)),(.pick (.t 29) (.c (.bool true)) (.t 39))⟩,⟨(some 41),(some (18,true)),(.mv (.t 40))⟩,⟨(some 42),(some (41,false)),(.mv (.t 0))⟩,⟨(some 43),(some (41,false)),(.nilchk (.t 42))⟩,⟨(some 44),(some (41,false)),(.faddr 0 (.t 43))⟩,⟨(some 45),(some (41,false)),(.load false 1 (.t 44))⟩,⟨(some 46),(some (41,false)),(.mv (.t 0))⟩,⟨(some 47),(some (41,false)),(.nilchk (.t 46))⟩,⟨(some 48),(some (41,false)),(.faddr 1 (.t 47))⟩,⟨(some 49),(some (41,false)),(.load false 1 (.t 48))⟩,⟨(some 50),(some (41,false)),(.idx (.t 45) (.t 49))⟩,⟨(some 51),(some (41,false)),(.call 86 [(.t 50)])⟩,⟨(some 52),(some (18,true)),(.pick (.t 41) (.c (.bool true)) (.t 51))⟩,⟨(some 53),(some (18,true)),(.mv (.t 52))⟩,⟨(some 54),(some (53,false)),(.mv (.t 0))⟩,⟨(some 55),(some (53,false)),(.nilchk (.t 54))⟩,⟨(some 56),(some (53,false)),(.faddr 0 (.t 55))⟩,⟨(some 57),(some (53,false)),(.load false 1 (.t 56))⟩,⟨(some 58),(some (53,false)),(.mv (.t 0))⟩,⟨(some 59),(some (53,false)),(.nilchk (.t 58))⟩,⟨(some 60),(some (53,false)),(.faddr 1 (.t 59))⟩,⟨(some 61),(some (53,false)),(.load false 1 (.t 60))⟩,⟨(some 62),(some (53,false)),(.idx (.t 57) (.t 61))⟩,⟨(some 63),(some (53,false)),(.bin .eql false (.t 62) (.c (.int .u8 95)))⟩,⟨(some 64),(some (18,true)),(.pick (.t 53) (.c (.bool true)) (.t 63))⟩,⟨some 65,none,.pick (.t 18) (.t 64) (.c (.bool false))⟩]) (.cond (.t 65) .skip (.exit 0))) (.block 1 (.reg [⟨some 66,none,.mv (.t 0)⟩,⟨some 67,none,.nilchk (.t 66)⟩,⟨some 68,none,.faddr 1 (.t 67)⟩,⟨some 69,none,.load false 1 (.t 68)⟩,⟨some 70,none,.bin .add false (.t 69) (.c (.int .i64 1))⟩,⟨some 71,none,.nilchk (.t 66)⟩,⟨some 72,none,.faddr 1 (.t 71)⟩,⟨none,none,(.store 1 (.t 72) (.t 70))⟩]))))) (.seq (.seq (.reg [⟨some 73,none,.mv (.t 0)⟩,⟨some 74,none,.nilchk (.t 73)⟩,⟨some 75,none,.faddr 2 (.t 74)⟩,⟨some 76,none,.load false 1 (.t 75)⟩,⟨some 77,none,.mv (.t 76)⟩,⟨(some 78),(some (77,false)),(.mv (.t 3))⟩,⟨(some 79),(some (77,false)),(.mv (.t 0))⟩,⟨(some 80),(some (77,false)),(.nilchk (.t 79))⟩,⟨(some 81),(some (77,false)),(.faddr 1 (.t 80))⟩,⟨(some 82),(some (77,false)),(.load false 1 (.t 81))⟩,⟨(some 83),(some (77,false)),(.bin .eql false (.t 78) (.t 82))⟩,⟨some 84,none,.pick (.t 77) (.c (.bool true)) (.t 83)⟩]) (.cond (.t 84) (.seq (.reg [⟨some 85,none,.mv (.t 0)⟩,⟨some 86,none,.nilchk (.t 85)⟩,⟨some 87,none,.faddr 2 (.t 86)⟩,⟨none,none,(.store 1 (.t 87) (.c (.bool true)))⟩]) (.seq (.reg [⟨(some 2),none,(.mv (.c (.str ⟨#[]⟩)))⟩]) .ret)) .skip)) (.seq (.dreg [[],[0],[1,0],[2,1,0],[],[],[5],[6,5],[7,6,5],[3,2,1,0,4,8,7,6,5],[9,3,2,1,0,4,8,7,6,5]] [⟨some 88,none,.mv (.t 0)⟩,⟨some 89,none,.nilchk (.t 88)⟩,⟨some 90,none,.faddr 0 (.t 89)⟩,⟨some 91,none,.load false 1 (.t 90)⟩,⟨some 92,none,.mv (.t 3)⟩,⟨some 93,none,.mv (.t 0)⟩,⟨some 94,none,.nilchk (.t 93)⟩,⟨some 95,none,.faddr 1 (.t 94)⟩,⟨some 96,none,.load false 1 (.t 95)⟩,⟨some 97,none,.slice true 0 (.t 91) (some (.t 92)) (some (.t 96))⟩,⟨some 2,none,.mv (.t 97)⟩]) .ret)))))
theorem HW:Ai Tryz.prog 59=some ⟨98,EG,[(.tmp 2)]⟩:=by kernel_rfl
theorem AR:modes 59=⟨[],.asis,none,false⟩:=by unfold modes; rfl
theorem S5 (n:Int):E 84 [.int .u8 n] []=some (.bool (dec (97≤n)&&dec (n≤122)),[]):=by
 cases h1:dec (97≤n)
 ·refine Ab GF C7 (of_decide_eq_true rfl) ?_
  simp (disch:=omega) only [EE,go_sem,Aa,h1]
 ·refine Ab GF C7 (of_decide_eq_true rfl) ?_
  simp (disch:=omega) only [EE,go_sem,Aa,h1]
theorem S6 (n:Int):E 85 [.int .u8 n] []=some (.bool (dec (65≤n)&&dec (n≤90)),[]):=by
 cases h1:dec (65≤n)
 ·refine Ab Du B6 (of_decide_eq_true rfl) ?_
  simp (disch:=omega) only [C6,go_sem,Aa,h1]
 ·refine Ab Du B6 (of_decide_eq_true rfl) ?_
  simp (disch:=omega) only [C6,go_sem,Aa,h1]
theorem S7 (n:Int):E 86 [.int .u8 n] []=some (.bool (dec (48≤n)&&dec (n≤57)),[]):=by
 cases h1:dec (48≤n)
 ·refine Ab GG C8 (of_decide_eq_true rfl) ?_
  simp (disch:=omega) only [EF,go_sem,Aa,h1]
 ·refine Ab GG C8 (of_decide_eq_true rfl) ?_
  simp (disch:=omega) only [EF,go_sem,Aa,h1]
noncomputable def preB (a b:ByteArray):Bool:=dec (b.size≤a.size)&&dec (a.extract 0 b.size=b)
theorem Nm (a b:ByteArray):E 102 [.str a,.str b] []=some (.bool (preB a b),[]):=by
 unfold preB
 by_cases h:b.size≤a.size
 ·have h1:((b.size:Int)≤(a.size:Int))=True:=eq_true (by omega)
  rw [AJ h,yB]
  refine Ab BL Bm (of_decide_eq_true rfl) ?_
  simp (disch:=omega) only [Bl,go_sem,Aa,h1,yC]
 ·have h1:((b.size:Int)≤(a.size:Int))=False:=eq_false (by omega)
  rw [AN h,zS]
  refine Ab BL Bm (of_decide_eq_true rfl) ?_
  simp (disch:=omega) only [Bl,go_sem,Aa,h1]
theorem Oz (a b:ByteArray):E 83 [.str a,.str b] []=some (.bool (preB a b),[]):=by
 have h:=Nm a b
 refine Ab Ht Ed (of_decide_eq_true rfl) ?_
 simp (disch:=omega) only [Ec,go_sem,Aa,h,Bm]
noncomputable def hasB (s:ByteArray) (i:Nat) (x:ByteArray):Bool:=preB (s.extract i s.size) x
theorem Ub {s:ByteArray} {a b:Nat} (h:a≤b) (k:b≤s.size):(seg s a b).length=b-a:=by
 unfold seg
 rw [yN,yV,An]; omega
theorem BD {s:ByteArray} {a b:Nat} (h:a≤b) (k:b≤s.size):(s.extract a b).size=b-a:=by
 rw [←An,toList_extract,Ub h k]
theorem S8 {a b:ByteArray}:preB a b=true ↔ b.toList=a.toList.take b.size∧b.size≤a.size:=by
 unfold preB
 rw [zA,Aj,Aj]
 constructor
 ·rintro ⟨h1,h2⟩
  refine ⟨?_,h1⟩
  rw [←h2,toList_extract]
  unfold seg
  rw [zN,yW,h2]
 ·rintro ⟨h1,h2⟩
  refine ⟨h2,AL ?_⟩
  rw [toList_extract,h1]
  unfold seg
  rw [zN,yW]
theorem Cc {s:ByteArray} {i:Nat} {x:ByteArray} (hi:i≤s.size):hasB s i x=true ↔ i+x.size≤s.size∧seg s i (i+x.size)=x.toList:=by
 unfold hasB
 rw [S8,toList_extract,BD hi (zH _)]
 have hs:seg s i s.size=s.toList.drop i:=by
  unfold seg
  rw [List.take_of_length_le (by rw [yV,An]; exact zH _)]
 rw [hs]
 unfold seg
 rw [show i+x.size-i=x.size by omega]
 constructor
 ·rintro ⟨h1,h2⟩; exact ⟨by omega,h1.symm⟩
 ·rintro ⟨h1,h2⟩; exact ⟨h2.symm,by omega⟩
theorem I8 {s:ByteArray} {i:Nat} (hi:i≤s.size) (c:UInt8):hasB s i ⟨#[c]⟩=BK s i c.toNat:=by
 cases h:BK s i c.toNat with
 | true =>
  obtain ⟨h1,h2⟩:=AZ.1 h
  refine (Cc hi).2 ⟨h1,?_⟩
  show seg s i (i+1)=_
  rw [Kg h1 h2,ByteArray.toList_eq]
 | false =>
  cases k:hasB s i ⟨#[c]⟩ with
  | false=>rfl
  | true =>
   obtain ⟨k1,k2⟩:=(Cc hi).1 k
   have k1:i+1≤s.size:=k1
   have k2:seg s i (i+1)=[c]:=by rw [ByteArray.toList_eq] at k2; exact k2
   have hl:i<s.toList.length:=by rw [An]; exact k1
   unfold seg at k2
   rw [zC hl,show i+1-i=1 by omega,yI,yR] at k2
   have:BK s i c.toNat=true:=AZ.2 ⟨k1,by rw [CT k1]; simp only [yG,and_true] at k2; rw [k2]⟩
   rw [this] at h; cases h
abbrev psr (s:ByteArray) (i:Nat) (f:Bool):Ob:=.box 46 [.str s,.int .i64 (i:Int),.bool f]
theorem VF (s:ByteArray) (i:Nat) (x:ByteArray):E 58 [.ptr 0 0,.str x] [psr s i true]=some (.bool false,[psr s i true]):=by
 refine Ab EZ BM (of_decide_eq_true rfl) ?_
 simp (disch:=omega) only [Dv,go_sem,Aa]
theorem Uv (s:ByteArray) (i:Nat) (x:ByteArray) (hi:i≤s.size):E 58 [.ptr 0 0,.str x] [psr s i false]=some (.bool (hasB s i x),[psr s i false]):=by
 have h:=Oz (s.extract i s.size) x
 unfold hasB
 refine Ab EZ BM (of_decide_eq_true rfl) ?_
 simp (disch:=omega) only [Dv,go_sem,Aa,h,Ed]
theorem Jt (s:ByteArray) (i:Nat) (x:ByteArray):E 37 [.ptr 0 0,.str x] [psr s i true]=some (.bool false,[psr s i true]):=by
 have h:=VF s i x
 refine Ab Dh Af (of_decide_eq_true rfl) ?_
 simp (disch:=omega) only [Cj,go_sem,Aa,h,BM]
theorem Ho (s:ByteArray) (i:Nat) (x:ByteArray) (hi:i≤s.size) (hh:hasB s i x=false):E 37 [.ptr 0 0,.str x] [psr s i false]=some (.bool false,[psr s i false]):=by
 have h:=Uv s i x hi
 rw [hh] at h
 refine Ab Dh Af (of_decide_eq_true rfl) ?_
 simp (disch:=omega) only [Cj,go_sem,Aa,h,BM]
theorem FB (s:ByteArray) (i:Nat) (x:ByteArray) (hi:i+x.size≤1099511627776) (hi2:i≤s.size) (hh:hasB s i x=true):E 37 [.ptr 0 0,.str x] [psr s i false]=some (.bool true,[psr s (i+x.size) false]):=by
 have h:=Uv s i x hi2
 rw [hh] at h
 refine Ab Dh Af (of_decide_eq_true rfl) ?_
 simp (disch:=omega) only [Cj,go_sem,Aa,h,BM]
 simp only [psr,yQ]
theorem Vs (s:ByteArray) (i:Nat) (x:ByteArray):E 60 [.ptr 0 0,.str x] [psr s i true]=some (.tup [],[psr s i true]):=by
 have h:=Jt s i x
 refine Ab Di AA (of_decide_eq_true rfl) ?_
 simp (disch:=omega) only [Ck,go_sem,Aa,h,Af]
theorem Uc (s:ByteArray) (i:Nat) (x:ByteArray) (hi:i≤s.size) (hh:hasB s i x=false):E 60 [.ptr 0 0,.str x] [psr s i false]=some (.tup [],[psr s i true]):=by
 have h:=Ho s i x hi hh
 refine Ab Di AA (of_decide_eq_true rfl) ?_
 simp (disch:=omega) only [Ck,go_sem,Aa,h,Af]
theorem S9 (s:ByteArray) (i:Nat) (x:ByteArray) (hi:i+x.size≤1099511627776) (hi2:i≤s.size) (hh:hasB s i x=true):E 60 [.ptr 0 0,.str x] [psr s i false]=some (.tup [],[psr s (i+x.size) false]):=by
 have h:=FB s i x hi hi2 hh
 refine Ab Di AA (of_decide_eq_true rfl) ?_
 simp (disch:=omega) only [Ck,go_sem,Aa,h,Af]
theorem Ud (s:ByteArray) (i:Nat):E 21 [.ptr 0 0] [psr s i true]=some (.bool false,[psr s i true]):=by
 refine Ab Ee AU (of_decide_eq_true rfl) ?_
 simp (disch:=omega) only [CM,go_sem,Aa]
theorem Ue (s:ByteArray) (i:Nat):E 21 [.ptr 0 0] [psr s i false]=some (.bool (dec (i=s.size)),[psr s i false]):=by
 have e:dec (i=s.size)=dec ((i:Int)=(s.size:Int)):=by
  by_cases h:i=s.size
  ·rw [AJ h,AJ (by omega)]
  ·rw [AN h,AN (by omega)]
 rw [e]
 refine Ab Ee AU (of_decide_eq_true rfl) ?_
 simp (disch:=omega) only [CM,go_sem,Aa]
theorem Vt (s:ByteArray) (i:Nat) (hi:i≤s.size) (hs:s.size≤1048576):E 59 [.ptr 0 0] [psr s i false]=some (.str (bif dec (Ax s i=i) then ⟨#[]⟩ else s.extract i (Ax s i)),[psr s (Ax s i) (dec (Ax s i=i))]):=by
 refine Ab HW AR (of_decide_eq_true rfl) ?_
 simp (disch:=omega) only [EG,go_sem,Aa]
 refine go_loop (α:=Nat) (fun j=>⟨slots 98 0 [(0,.ptr 0 0),(3,.int .i64 (i:Int))],[psr s j false]⟩) (fun j=>i≤j∧j≤s.size∧Ax s j=Ax s i) (fun j=>s.size-j) i ⟨zH _,hi,rfl⟩ (by simp (disch:=omega) only [go_sem,Aa]) ?_
 rintro j ⟨h1,h2,h3⟩
 have hj:((j:Nat):Int).toNat=j:=zW j
 rcases zF j s.size with hlt | hge
 ·have hw:=@Jq s j hlt
  have hx:BX (A1 s j)=false→Ax s j=j:=fun h=>FA (fun k=>by rw [h] at k; exact absurd k.2 (by simp))
  have a1:=S5 (A1 s j)
  have a2:=S6 (A1 s j)
  have a3:=S7 (A1 s j)
  unfold BX at hw hx
  generalize hg1:(dec (97≤A1 s j)&&dec (A1 s j≤122))=q1 at *
  generalize hg2:(dec (65≤A1 s j)&&dec (A1 s j≤90))=q2 at *
  generalize hg3:(dec (48≤A1 s j)&&dec (A1 s j≤57))=q3 at *
  generalize hg4:dec (A1 s j=95)=q4 at *
  cases q1 <;> cases q2 <;> cases q3 <;> cases q4
  all_goals
   simp only [Bool.or_true,y3,Bool.true_or,yT,true_implies,Bool.true_eq_false,yE,false_implies] at hw hx
  case false.false.false.false =>
   have e:Ax s i=j:=by rw [←h3,hx]
   rw [e]
   by_cases h0:j=i
   ·subst h0
    simp (disch:=omega) only [go_sem,Aa,hj,a1,a2,a3,hg4,C7,B6,C8,Cb]
   ·have h0':((i:Int)=(j:Int))=False:=eq_false (by omega)
    rw [AN h0]
    simp (disch:=omega) only [go_sem,Aa,hj,a1,a2,a3,hg4,h0',C7,B6,C8]
  all_goals
   simp (disch:=omega) only [go_sem,Aa,hj,a1,a2,a3,hg4,C7,B6,C8]
   exact ⟨j+1,⟨by omega,by omega,by omega⟩,by omega,by first | trivial | (simp only [psr,yQ,yZ]) | rfl⟩
 ·have e:Ax s i=j:=by rw [←h3]; exact FA (by omega)
  rw [e]
  by_cases h0:j=i
  ·subst h0
   simp (disch:=omega) only [go_sem,Aa,hj,Cb]
  ·have h0':((i:Int)=(j:Int))=False:=eq_false (by omega)
   rw [AN h0]
   simp (disch:=omega) only [go_sem,Aa,hj,h0']
def Cm:SC:=(.seq (.reg [⟨(some 2),none,(.alloc 34 [(.str ⟨#[]⟩),.nil])⟩]) (.seq (.reg [⟨some 4,none,.mv (.t 0)⟩,⟨some 5,none,.call 59 [(.t 4)]⟩,⟨(some 6),none,(.build [(.str ⟨#[]⟩),.nil] [(0,(1,(.t 5)))])⟩,⟨(some 3),none,(.alloc 34 [(.str ⟨#[]⟩),.nil])⟩,⟨none,none,(.store 2 (.t 3) (.t 6))⟩]) (.seq (.seq (.reg [⟨some 7,none,.mv (.t 0)⟩,⟨(some 8),none,(.call 37 [(.t 7),(.c (.str ⟨#[40]⟩))])⟩]) (.cond (.t 8) (.seq (.dreg [[],[0],[],[2],[3,2],[1,0,4,3,2],[0,1,2,3,4,5],[6,0,1,2,3,4,5]] [⟨some 9,none,.faddr 1 (.t 3)⟩,⟨some 10,none,.load false 1 (.t 9)⟩,⟨some 11,none,.mv (.t 0)⟩,⟨some 12,none,.call 39 [(.t 11)]⟩,⟨(some 13),none,(.mkrow 34 2 [(.str ⟨#[]⟩),.nil] 1 [(0,(.t 12))])⟩,⟨(some 14),none,(.append 34 2 40 [(.str ⟨#[]⟩),.nil] (.t 10) (.t 13))⟩,⟨some 15,none,.faddr 1 (.t 3)⟩,⟨none,none,(.store 1 (.t 15) (.t 14))⟩]) (.seq (.block 0 (.loop [1,0,1,1,0,0,0,0,0,0,0,0,0,0,0,0,0,0,0,0,0,0,0,0,0,0,0,0] (.seq (.seq (.reg [⟨some 16,none,.mv (.t 0)⟩,⟨(some 17),none,(.call 37 [(.t 16),(.c (.str ⟨#[44]⟩))])⟩]) (.cond (.t 17) .skip (.exit 0))) (.block 1 (.dreg [[],[0],[],[2],[3,2],[1,0,4,3,2],[0,1,2,3,4,5],[6,0,1,2,3,4,5]] [⟨some 18,none,.faddr 1 (.t 3)⟩,⟨some 19,none,.load false 1 (.t 18)⟩,⟨some 20,none,.mv (.t 0)⟩,⟨some 21,none,.call 39 [(.t 20)]⟩,⟨(some 22),none,(.mkrow 34 2 [(.str ⟨#[]⟩),.nil] 1 [(0,(.t 21))])⟩,⟨(some 23),none,(.append 34 2 40 [(.str ⟨#[]⟩),.nil] (.t 19) (.t 22))⟩,⟨some 24,none,.faddr 1 (.t 3)⟩,⟨none,none,(.store 1 (.t 24) (.t 23))⟩]))))) (.reg [⟨some 25,none,.mv (.t 0)⟩,⟨(some 26),none,(.call 60 [(.t 25),(.c (.str ⟨#[41]⟩))])⟩]))) .skip)) (.seq (.reg [⟨some 27,none,.load true 2 (.t 3)⟩,⟨none,none,(.store 2 (.t 2) (.t 27))⟩]) .ret))))
theorem HX:Ai Tryz.prog 39=some ⟨28,Cm,[(.cell 2 true 2)]⟩:=by kernel_rfl
theorem A2:modes 39=⟨[],.own [none,some (34,2)],none,false⟩:=by unfold modes; rfl
theorem O0 (s:ByteArray) (i:Nat) (c:UInt8) (hi:i≤s.size) (hh:BK s i c.toNat=false):E 37 [.ptr 0 0,.str ⟨#[c]⟩] [psr s i false]=some (.bool false,[psr s i false]) :=
 Ho s i _ hi (by rw [I8 hi]; exact hh)
theorem M9 (s:ByteArray) (i:Nat) (c:UInt8) (hs:s.size≤1048576) (hi:i≤s.size) (hh:BK s i c.toNat=true):E 37 [.ptr 0 0,.str ⟨#[c]⟩] [psr s i false]=some (.bool true,[psr s (i+1) false]) :=
 FB s i ⟨#[c]⟩ (by show i+1≤_; omega) hi (by rw [I8 hi]; exact hh)
theorem SA (s:ByteArray) (i:Nat) (c:UInt8) (hi:i≤s.size) (hh:BK s i c.toNat=false):E 60 [.ptr 0 0,.str ⟨#[c]⟩] [psr s i false]=some (.tup [],[psr s i true]) :=
 Uc s i _ hi (by rw [I8 hi]; exact hh)
theorem QN (s:ByteArray) (i:Nat) (c:UInt8) (hs:s.size≤1048576) (hi:i≤s.size) (hh:BK s i c.toNat=true):E 60 [.ptr 0 0,.str ⟨#[c]⟩] [psr s i false]=some (.tup [],[psr s (i+1) false]) :=
 S9 s i ⟨#[c]⟩ (by show i+1≤_; omega) hi (by rw [I8 hi]; exact hh)
noncomputable def I9 (r:Nat→Option (Tm × Nat)) (s:ByteArray) (m:Nat) (acc:List Tm) (e:Nat):Option (List Tm × Nat) :=
 bif BK s e 44 then (match rdL r s m (e+1) with
  | none=>none
  | some (ts,e')=>some (acc++ts,e')) else bif BK s e 41 then some (acc,e+1) else none
theorem MA (r:Nat→Option (Tm × Nat)) (s:ByteArray) (m i:Nat):rdL r s (m+1) i=match r i with
  | none=>none
  | some (t,e)=>I9 r s m [t] e:=by
 rw [rdL]
 cases r i with
 | none=>rfl
 | some p=>rfl
theorem Pt {r:Nat→Option (Tm × Nat)} {s:ByteArray} {m:Nat} {acc:List Tm} {e:Nat} (h:BK s e 44=true):I9 r s (m+1) acc e=match r (e+1) with
  | none=>none
  | some (t,e2)=>I9 r s m (acc++[t]) e2:=by
 unfold I9
 rw [h,cond_true,MA]
 cases r (e+1) with
 | none=>rfl
 | some p =>
  obtain ⟨t,e2⟩:=p
  simp only
  unfold I9
  cases BK s e2 44 with
  | true =>
   simp only [cond_true]
   cases rdL r s m (e2+1) with
   | none=>rfl
   | some q=>simp only [zM]
  | false =>
   simp only [cond_false]
   cases BK s e2 41 with
   | true=>rfl
   | false=>rfl
theorem QO {r:Nat→Option (Tm × Nat)} {s:ByteArray} {m:Nat} {acc:List Tm} {e:Nat} (h:BK s e 44=false):I9 r s m acc e=bif BK s e 41 then some (acc,e+1) else none:=by
 unfold I9
 rw [h,cond_false]
def Qb (s:ByteArray) (i:Nat) (r:Option (Tm × Nat)) (out:SV × List Ob):Prop :=
 ∃ (t:Tm) (j:Nat) (f:Bool),out=(.agg [.str t.name,.ref 1],[psr s j f,.row 34 2 (t.args.map Tm.o)])∧i≤j∧j≤s.size∧(match r with
  | some (t0,e)=>t=t0∧j=e∧f=false
  | none=>f=true)
theorem Uf (s:ByteArray) (hs:s.size≤1048576) (n:Nat) (ih:∀ i,i≤s.size→s.size-i<n→∃ out,E 39 [.ptr 0 0] [psr s i false]=some out∧Qb s i (rd s n i) out) (i:Nat) (hi:i≤s.size) (hn:s.size-i<n+1):∃ out,E 39 [.ptr 0 0] [psr s i false]=some out∧Qb s i (rd s (n+1) i) out:=by
 have hw:=Vt s i hi hs
 have w1:=I1 s i
 have w2:=Hm s i hi
 rw [rd]
 refine Iz HX A2 (of_decide_eq_true rfl) ?_
 by_cases h0:Ax s i=i
 ·rw [AJ h0] at hw ⊢
  rw [cond_true] at hw ⊢
  have ht:=Jt s (Ax s i) ⟨#[40]⟩
  simp (disch:=omega) only [Cm,go_sem,Aa,hw,ht,AR,Af,AA]
  exact ⟨_,rfl,.mk ⟨#[]⟩ [],Ax s i,true,rfl,w1,w2,rfl⟩
 ·rw [AN h0] at hw ⊢
  rw [cond_false] at hw ⊢
  cases hc:BK s (Ax s i) 40 with
  | false =>
   have ht:=O0 s (Ax s i) 40 w2 hc
   simp only [cond_false]
   simp (disch:=omega) only [Cm,go_sem,Aa,hw,ht,AR,Af,AA]
   exact ⟨_,rfl,.mk (s.extract i (Ax s i)) [],Ax s i,false,rfl,w1,w2,rfl,rfl,rfl⟩
  | true =>
   obtain ⟨c1,c2⟩:=AZ.1 hc
   have ht:=M9 s (Ax s i) 40 hs w2 hc
   obtain ⟨m,rfl⟩:∃ m,n=m+1:=⟨n-1,by omega⟩
   obtain ⟨total,htot⟩:∃ total,total=rdL (rd s (m+1)) s (m+1) (Ax s i+1):=⟨_,rfl⟩
   rw [←htot]
   simp only [cond_true]
   rw [MA] at htot
   obtain ⟨out1,hc1,t1,j1,f1,rfl,g1,g2,g3⟩:=ih (Ax s i+1) (by omega) (by omega)
   have start:i≤j1∧j1≤s.size∧[t1].length≤j1∧(f1=true→total=none)∧(f1=false→∃ q,s.size-j1≤q∧total=I9 (rd s (m+1)) s q [t1] j1):=by
    refine ⟨by omega,g2,by simp only [zP,zX]; omega,?_,?_⟩
    ·rintro rfl
     cases hr:rd s (m+1) (Ax s i+1) with
     | none=>rw [hr] at htot; exact htot
     | some p=>rw [hr] at g3; exact absurd g3.2.2 (by simp)
    ·rintro rfl
     cases hr:rd s (m+1) (Ax s i+1) with
     | none=>rw [hr] at g3; cases g3
     | some p =>
      obtain ⟨t0,e0⟩:=p
      rw [hr] at g3 htot
      obtain ⟨rfl,rfl,_⟩:=g3
      exact ⟨m,by omega,htot⟩
   simp (disch:=omega) only [Cm,go_sem,Aa,hw,ht,hc1,AR,Af,AA,A2]
   refine go_loop (α:=List Tm × Nat × Bool) (fun a=>⟨slots 28 0 [(0,.ptr 0 0),(2,.ptr 1 0),(3,.ptr 2 0)],[psr s a.2.1 a.2.2,.box 34 [.str ⟨#[]⟩,.nil],.box 34 [.str (s.extract i (Ax s i)),.ref 3],.row 34 2 (a.1.map Tm.o)]⟩) (fun a=>i≤a.2.1∧a.2.1≤s.size∧a.1.length≤a.2.1∧(a.2.2=true→total=none)∧(a.2.2=false→∃ q,s.size-a.2.1≤q∧total=I9 (rd s (m+1)) s q a.1 a.2.1)) (fun a=>if a.2.2 then 0 else s.size-a.2.1+1) ([t1],j1,f1) start (by simp (disch:=omega) only [go_sem,Aa,zD,yD,Tm.o_eq]) ?_
   rintro ⟨acc,j,fl⟩ ⟨hij,hj,hal,hR1,hR2⟩
   dsimp only at hij hj hal hR1 hR2
   cases fl with
   | true =>
    have htk:=Jt s j ⟨#[44]⟩
    have hmu:=Vs s j ⟨#[41]⟩
    rw [hR1 rfl]
    simp (disch:=omega) only [go_sem,Aa,htk,hmu,AR,Af,AA]
    exact ⟨_,rfl,.mk (s.extract i (Ax s i)) acc,j,true,rfl,by omega,hj,rfl⟩
   | false =>
    obtain ⟨q,hq,hR⟩:=hR2 rfl
    cases hcm:BK s j 44 with
    | false =>
     rw [QO hcm] at hR
     have htk:=O0 s j 44 hj hcm
     cases hcl:BK s j 41 with
     | false =>
      have hmu:=SA s j 41 hj hcl
      rw [hcl,cond_false] at hR
      rw [hR]
      simp (disch:=omega) only [go_sem,Aa,htk,hmu,AR,Af,AA]
      exact ⟨_,rfl,.mk (s.extract i (Ax s i)) acc,j,true,rfl,by omega,hj,rfl⟩
     | true =>
      obtain ⟨d1,d2⟩:=AZ.1 hcl
      have hmu:=QN s j 41 hs hj hcl
      rw [hcl,cond_true] at hR
      rw [hR]
      simp (disch:=omega) only [go_sem,Aa,htk,hmu,AR,Af,AA]
      exact ⟨_,rfl,.mk (s.extract i (Ax s i)) acc,j+1,false,rfl,by omega,by omega,rfl,rfl,rfl⟩
    | true =>
     obtain ⟨d1,d2⟩:=AZ.1 hcm
     have htk:=M9 s j 44 hs hj hcm
     obtain ⟨q,rfl⟩:∃ q',q=q'+1:=⟨q-1,by omega⟩
     rw [Pt hcm] at hR
     obtain ⟨out2,hc2,t2,j2,f2,rfl,k1,k2,k3⟩:=ih (j+1) (by omega) (by omega)
     simp (disch:=omega) only [go_sem,Aa,htk,hc2,AR,Af,AA,A2,zT]
     refine ⟨(acc++[t2],j2,f2),⟨by dsimp only; omega,k2,by simp only [z7,zP,zX]; omega,?_,?_⟩,?_,?_⟩
     ·intro hf
      dsimp only at hf
      subst hf
      cases hr:rd s (m+1) (j+1) with
      | none=>rw [hr] at hR; exact hR
      | some p=>rw [hr] at k3; exact absurd k3.2.2 (by simp)
     ·intro hf
      dsimp only at hf
      subst hf
      cases hr:rd s (m+1) (j+1) with
      | none=>rw [hr] at k3; cases k3
      | some p =>
       obtain ⟨t0,e0⟩:=p
       rw [hr] at k3 hR
       obtain ⟨rfl,rfl,_⟩:=k3
       exact ⟨q,by dsimp only; omega,hR⟩
     ·show (if f2=true then 0 else s.size-j2+1)<s.size-j+1
      split
      ·omega
      ·cases hr:rd s (m+1) (j+1) with
       | none=>rw [hr] at k3; simp only at k3; rename_i h; exact absurd k3 h
       | some p=>omega
     ·exact ⟨rfl,by simp only [yF,zD,yD,Tm.o_eq]⟩
theorem Hp (s:ByteArray) (hs:s.size≤1048576):∀ (n i:Nat),i≤s.size→s.size-i<n→∃ out,E 39 [.ptr 0 0] [psr s i false]=some out∧Qb s i (rd s n i) out
 | 0,i,_,h=>absurd h (by omega)
 | n+1,i,hi,hn=>Uf s hs n (fun i hi hn=>Hp s hs n i hi hn) i hi hn
def HA:SC:=(.seq (.reg [⟨(some 4),none,(.alloc 34 [(.str ⟨#[]⟩),.nil])⟩,⟨some 5,none,.mv (.c (.int .i64 0))⟩]) (.seq (.reg [⟨some 10,none,.mv (.t 1)⟩,⟨some 6,none,.mv (.t 10)⟩]) (.seq (.block 0 (.loop [1,1,0,0,1,0,1,0,0,0,0,0,0,0,0,0,0,0,0,0,0,0,0,0,0,0,0,0,0,0,0,0,0,0,0,0,0,0,0,0,0,0,0,0,0,0,0,0,0,0,0,0,0,0,0,0,0,0,0,0,0,0,0,0,0,0,0,0,0,0,0,0,0,0,0,0,0,0,0,0,0,0,0,0,0,0] (.seq (.seq (.reg [⟨some 11,none,.mv (.t 6)⟩,⟨some 12,none,.mv (.t 0)⟩,⟨some 13,none,.len true (.t 12)⟩,⟨some 14,none,.bin .lss false (.t 11) (.t 13)⟩,⟨some 15,none,.mv (.t 14)⟩,⟨(some 16),(some (15,true)),(.mv (.t 0))⟩,⟨(some 17),(some (15,true)),(.mv (.t 6))⟩,⟨(some 18),(some (15,true)),(.idx (.t 16) (.t 17))⟩,⟨(some 19),(some (15,true)),(.call 71 [(.t 18)])⟩,⟨some 20,none,.pick (.t 15) (.t 19) (.c (.bool false))⟩]) (.cond (.t 20) .skip (.exit 0))) (.block 1 (.reg [⟨some 21,none,.mv (.t 6)⟩,⟨some 22,none,.bin .add false (.t 21) (.c (.int .i64 1))⟩,⟨some 6,none,.mv (.t 22)⟩]))))) (.seq (.reg [⟨some 23,none,.mv (.t 0)⟩,⟨some 24,none,.mv (.t 1)⟩,⟨some 25,none,.mv (.t 6)⟩,⟨some 26,none,.slice true 0 (.t 23) (some (.t 24)) (some (.t 25))⟩,⟨(some 27),none,(.build [(.str ⟨#[]⟩),.nil] [(0,(1,(.t 26)))])⟩,⟨(some 7),none,(.alloc 34 [(.str ⟨#[]⟩),.nil])⟩,⟨none,none,(.store 2 (.t 7) (.t 27))⟩]) (.seq (.seq (.reg [⟨some 28,none,.mv (.t 6)⟩,⟨some 29,none,.mv (.t 1)⟩,⟨some 30,none,.bin .eql false (.t 28) (.t 29)⟩]) (.cond (.t 30) (.seq (.reg [⟨some 31,none,.load true 2 (.t 7)⟩,⟨none,none,(.store 2 (.t 4) (.t 31))⟩,⟨some 5,none,.mv (.c (.int .i64 (-(0+1))))⟩]) .ret) .skip)) (.seq (.seq (.reg [⟨some 32,none,.mv (.t 6)⟩,⟨some 33,none,.mv (.t 0)⟩,⟨some 34,none,.len true (.t 33)⟩,⟨some 35,none,.bin .eql false (.t 32) (.t 34)⟩,⟨some 36,none,.mv (.t 35)⟩,⟨(some 37),(some (36,false)),(.mv (.t 0))⟩,⟨(some 38),(some (36,false)),(.mv (.t 6))⟩,⟨(some 39),(some (36,false)),(.idx (.t 37) (.t 38))⟩,⟨(some 40),(some (36,false)),(.bin .neq false (.t 39) (.c (.int .u8 40)))⟩,⟨some 41,none,.pick (.t 36) (.c (.bool true)) (.t 40)⟩]) (.cond (.t 41) (.seq (.reg [⟨some 42,none,.load true 2 (.t 7)⟩,⟨some 43,none,.mv (.t 6)⟩,⟨none,none,(.store 2 (.t 4) (.t 42))⟩,⟨some 5,none,.mv (.t 43)⟩]) .ret) .skip)) (.block 2 (.loop [1,0,0,0,1,0,1,1,0,0,0,0,0,0,0,0,0,0,0,0,0,0,0,0,0,0,0,0,0,0,0,0,0,0,0,0,0,0,0,0,0,0,0,0,0,0,0,0,0,0,0,0,0,0,0,0,0,0,0,0,0,0,0,0,0,0,0,0,0,0,0,0,0,0,0,0,0,0,0,0,0,0,0,0,0,0] (.block 3 (.seq (.reg [⟨some 45,none,.mv (.t 0)⟩,⟨some 46,none,.mv (.t 6)⟩,⟨some 47,none,.bin .add false (.t 46) (.c (.int .i64 1))⟩,⟨some 48,none,.call 48 [(.t 45),(.t 47)]⟩,⟨some 44,none,.mv (.t 48)⟩,⟨some 49,none,.ext (.t 44) 0⟩,⟨some 50,none,.ext (.t 44) 1⟩,⟨(some 8),none,(.alloc 34 [(.str ⟨#[]⟩),.nil])⟩,⟨none,none,(.store 2 (.t 8) (.t 49))⟩,⟨some 9,none,.mv (.t 50)⟩]) (.seq (.seq (.reg [⟨some 51,none,.mv (.t 9)⟩,⟨some 52,none,.bin .lss false (.t 51) (.c (.int .i64 0))⟩,⟨some 53,none,.mv (.t 52)⟩,⟨(some 54),(some (53,false)),(.mv (.t 9))⟩,⟨(some 55),(some (53,false)),(.mv (.t 0))⟩,⟨(some 56),(some (53,false)),(.len true (.t 55))⟩,⟨(some 57),(some (53,false)),(.bin .eql false (.t 54) (.t 56))⟩,⟨some 58,none,.pick (.t 53) (.c (.bool true)) (.t 57)⟩,⟨some 59,none,.mv (.t 58)⟩,⟨(some 60),(some (59,false)),(.mv (.t 0))⟩,⟨(some 61),(some (59,false)),(.mv (.t 9))⟩,⟨(some 62),(some (59,false)),(.idx (.t 60) (.t 61))⟩,⟨(some 63),(some (59,false)),(.bin .neq false (.t 62) (.c (.int .u8 44)))⟩,⟨(some 64),(some (59,false)),(.mv (.t 63))⟩,⟨(some 65),(some (64,true)),(.mv (.t 0))⟩,⟨(some 66),(some (64,true)),(.mv (.t 9))⟩,⟨(some 67),(some (64,true)),(.idx (.t 65) (.t 66))⟩,⟨(some 68),(some (64,true)),(.bin .neq false (.t 67) (.c (.int .u8 41)))⟩,⟨(some 69),(some (59,false)),(.pick (.t 64) (.t 68) (.c (.bool false)))⟩,⟨some 70,none,.pick (.t 59) (.c (.bool true)) (.t 69)⟩]) (.cond (.t 70) (.seq (.reg [⟨some 71,none,.load true 2 (.t 7)⟩,⟨none,none,(.store 2 (.t 4) (.t 71))⟩,⟨some 5,none,.mv (.c (.int .i64 (-(0+1))))⟩]) .ret) .skip)) (.seq (.reg [⟨some 72,none,.faddr 1 (.t 7)⟩,⟨some 73,none,.load false 1 (.t 72)⟩,⟨some 74,none,.load true 2 (.t 8)⟩,⟨(some 75),none,(.mkrow 34 2 [(.str ⟨#[]⟩),.nil] 1 [(0,(.t 74))])⟩,⟨(some 76),none,(.append 34 2 40 [(.str ⟨#[]⟩),.nil] (.t 73) (.t 75))⟩,⟨some 77,none,.faddr 1 (.t 7)⟩,⟨none,none,(.store 1 (.t 77) (.t 76))⟩]) (.seq (.reg [⟨some 78,none,.mv (.t 9)⟩,⟨some 6,none,.mv (.t 78)⟩]) (.seq (.reg [⟨some 79,none,.mv (.t 0)⟩,⟨some 80,none,.mv (.t 9)⟩,⟨some 81,none,.idx (.t 79) (.t 80)⟩,⟨some 82,none,.bin .eql false (.t 81) (.c (.int .u8 41))⟩]) (.cond (.t 82) (.seq (.reg [⟨some 83,none,.load true 2 (.t 7)⟩,⟨some 84,none,.mv (.t 9)⟩,⟨some 85,none,.bin .add false (.t 84) (.c (.int .i64 1))⟩,⟨none,none,(.store 2 (.t 4) (.t 83))⟩,⟨some 5,none,.mv (.t 85)⟩]) .ret) .skip)))))))))))))))
theorem LE:Ai Tryz.prog 48=some ⟨86,HA,[(.cell 4 true 2),(.tmp 5)]⟩:=by kernel_rfl
theorem AB:modes 48=⟨[],.frz,none,false⟩:=by unfold modes; rfl
theorem QP (n:Int):E 76 [.int .u8 n] []=some (.bool ((dec (97≤n)&&dec (n≤122)) || (dec (48≤n)&&dec (n≤57))),[]):=by
 cases h1:dec (97≤n) <;> cases h2:dec (n≤122) <;> cases h3:dec (48≤n)
 all_goals
  refine Ab Ld GI (of_decide_eq_true rfl) ?_
  simp (disch:=omega) only [GH,go_sem,Aa,h1,h2,h3]
theorem SB (n:Int):E 71 [.int .u8 n] []=some (.bool (BX n),[]):=by
 have h:=QP n
 unfold BX
 generalize (dec (97≤n)&&dec (n≤122))=q1 at *
 generalize (dec (48≤n)&&dec (n≤57))=q3 at *
 cases q1 <;> cases q3 <;> cases h1:dec (65≤n) <;> cases h2:dec (n≤90)
 all_goals
  simp only [Bool.or_true,y3,Bool.true_or,yT,zR,z6,yB,zS] at h ⊢
  refine Ab LC BU (of_decide_eq_true rfl) ?_
  simp (disch:=omega) only [H9,go_sem,Aa,h,h1,h2,GI]
def SD (r:Option (Tm × Nat)) (out:SV × List Ob):Prop :=
 ∃ (t:Tm) (k:Int),out=(.tup [t.sv,.int .i64 k],[])∧(match r with
  | some (t0,e)=>t=t0∧k=(e:Int)
  | none=>k=-1)
theorem QQ (s:ByteArray) (hs:s.size≤1048576) (n:Nat) (ih:∀ i,i≤s.size→s.size-i<n→∃ out,E 48 [.str s,.int .i64 (i:Int)] []=some out∧SD (rd s n i) out) (i:Nat) (hi:i≤s.size) (hn:s.size-i<n+1):∃ out,E 48 [.str s,.int .i64 (i:Int)] []=some out∧SD (rd s (n+1) i) out:=by
 have w1:=I1 s i
 have w2:=Hm s i hi
 rw [rd]
 refine Iz LE AB (of_decide_eq_true rfl) ?_
 simp (disch:=omega) only [HA,go_sem,Aa]
 refine go_loop (α:=Nat) (fun j=>⟨slots 86 0 [(0,.str s),(1,.int .i64 (i:Int)),(4,.ptr 0 0),(6,.int .i64 (j:Int))],[.box 34 [.str ⟨#[]⟩,.nil]]⟩) (fun j=>i≤j∧j≤s.size∧Ax s j=Ax s i) (fun j=>s.size-j) i ⟨zH _,hi,rfl⟩ (by simp (disch:=omega) only [go_sem,Aa]) ?_
 rintro j ⟨h1,h2,h3⟩
 have hj:((j:Nat):Int).toNat=j:=zW j
 have hw:=SB (A1 s j)
 by_cases hgo:j<s.size∧BX (A1 s j)=true
 ·have hlt:=hgo.1
  rw [hgo.2] at hw
  have:=Jq hgo.1 hgo.2
  simp (disch:=omega) only [go_sem,Aa,hj,hw,BU]
  exact ⟨j+1,⟨by omega,by omega,by omega⟩,by omega,by first | trivial | (simp only [yQ,yZ]) | rfl⟩
 have hst:=FA hgo
 obtain rfl:j=Ax s i:=by omega
 have hstop:∀ K1 K2:Unit→Prop,(Iw (.bool (dec ((Ax s i:Int)<(s.size:Int)))) K1 K2)=(Iw (.bool (dec ((Ax s i:Int)<(s.size:Int)))) K1 K2):=fun _ _=>rfl
 rcases zF (Ax s i) s.size with hlt | hge
 ·have hwf:BX (A1 s (Ax s i))=false:=by
   cases h:BX (A1 s (Ax s i)) with
   | false=>rfl
   | true=>exact absurd ⟨hlt,h⟩ hgo
  rw [hwf] at hw
  by_cases h0:Ax s i=i
  ·have h0':((Ax s i:Int)=(i:Int))=True:=eq_true (by omega)
   rw [AJ h0,cond_true]
   simp (disch:=omega) only [go_sem,Aa,hj,hw,h0',BU]
   exact ⟨_,rfl,.mk (s.extract i (Ax s i)) [],-1,rfl,rfl⟩
  ·have h0':((Ax s i:Int)=(i:Int))=False:=eq_false (by omega)
   have h0s:((Ax s i:Int)=(s.size:Int))=False:=eq_false (by omega)
   rw [AN h0,cond_false]
   cases hc:BK s (Ax s i) 40 with
   | false =>
    have hb:(A1 s (Ax s i)=40)=False:=eq_false fun e=>by rw [AZ.2 ⟨hlt,e⟩] at hc; cases hc
    rw [cond_false]
    simp (disch:=omega) only [go_sem,Aa,hj,hw,h0',h0s,hb,BU]
    exact ⟨_,rfl,.mk (s.extract i (Ax s i)) [],(Ax s i:Int),rfl,rfl,rfl⟩
   | true =>
    obtain ⟨c1,c2⟩:=AZ.1 hc
    have hb:(A1 s (Ax s i)=40)=True:=eq_true c2
    rw [cond_true]
    obtain ⟨total,htot⟩:∃ total,total=rdL (rd s n) s n (Ax s i+1):=⟨_,rfl⟩
    rw [←htot]
    have h10:(([]:List Tm)=[])=True:=eq_self _
    simp (disch:=omega) only [go_sem,Aa,hj,hw,h0',h0s,hb,BU]
    refine go_loop (α:=List Tm × Nat) (fun a=>⟨slots 86 0 [(0,.str s),(4,.ptr 0 0),(6,.int .i64 (a.2:Int)),(7,.ptr 1 0)],(if a.1=[] then [.box 34 [.str ⟨#[]⟩,.nil],.box 34 [.str (s.extract i (Ax s i)),.nil]] else [.box 34 [.str ⟨#[]⟩,.nil],.box 34 [.str (s.extract i (Ax s i)),.ref 2],.row 34 2 (a.1.map Tm.osh)])⟩) (fun a=>i≤a.2∧a.2<s.size∧a.1.length≤a.2∧∃ q,s.size-(a.2+1)<q∧total=(match rdL (rd s n) s q (a.2+1) with | none=>none | some (ts,e)=>some (a.1++ts,e))) (fun a=>s.size-a.2) ([],Ax s i) ⟨w1,hlt,by simp,n,by dsimp only; omega,by rw [htot]; dsimp only; split <;> simp_all⟩ (by simp (disch:=omega) only [go_sem,Aa,h10,if_true]) ?_
    rintro ⟨acc,j⟩ ⟨hij,hj2,hal,q,hq,hR⟩
    dsimp only at hij hj2 hal hq hR
    have hjn:((j:Nat):Int).toNat=j:=zW j
    have hj1:((j:Int)+1)=((j+1:Nat):Int):=by simp
    obtain ⟨q,rfl⟩:∃ q',q=q'+1:=⟨q-1,by omega⟩
    rw [rdL] at hR
    obtain ⟨out1,hc1,t1,k1,rfl,g1⟩:=ih (j+1) (by omega) (by omega)
    cases hr:rd s n (j+1) with
    | none =>
     rw [hr] at g1 hR
     have hR:total=none:=hR
     have g1:k1=-1:=g1
     subst g1
     rw [hR]
     rcases z8 acc with ha | ⟨ys,y,ha⟩
     ·subst ha
      simp (disch:=omega) only [go_sem,Aa,hj1,hjn,hc1,if_true,eq_self,AB]
      exact ⟨_,rfl,.mk (s.extract i (Ax s i)) [],-1,rfl,rfl⟩
     ·have hne:(acc=[])=False:=eq_false (by rw [ha]; simp)
      have hfu:=Tm.F9 acc
      have her:=Tm.Jp acc
      simp (disch:=omega) only [go_sem,Aa,hj1,hjn,hc1,hne,if_false,hfu,her,AB]
      exact ⟨_,rfl,.mk (s.extract i (Ax s i)) acc,-1,rfl,rfl⟩
    | some p =>
     obtain ⟨t0,e0⟩:=p
     rw [hr] at g1 hR
     obtain ⟨rfl,rfl⟩:=g1
     obtain ⟨z1,z2,_⟩:=M0 n (j+1) t1 e0 (by omega) hr
     have hen:((e0:Nat):Int).toNat=e0:=zW e0
     simp only at hR
     have xn:((e0:Int)<0)=False:=eq_false (by omega)
     by_cases he:e0=s.size
     ·have x1:((e0:Int)=(s.size:Int))=True:=eq_true (by omega)
      have b1:∀ c,BK s e0 c=false:=fun c=>by
       cases h:BK s e0 c with
       | false=>rfl
       | true=>have:=(AZ.1 h).1; omega
      rw [b1,b1,cond_false,cond_false] at hR
      have hR:total=none:=hR
      rw [hR]
      rcases z8 acc with ha | ⟨ys,y,ha⟩
      ·subst ha
       simp (disch:=omega) only [go_sem,Aa,hj1,hjn,hc1,hen,xn,x1,if_true,eq_self,AB]
       exact ⟨_,rfl,.mk (s.extract i (Ax s i)) [],-1,rfl,rfl⟩
      ·have hne:(acc=[])=False:=eq_false (by rw [ha]; simp)
       have hfu:=Tm.F9 acc
       have her:=Tm.Jp acc
       simp (disch:=omega) only [go_sem,Aa,hj1,hjn,hc1,hen,xn,x1,hne,if_false,hfu,her,AB]
       exact ⟨_,rfl,.mk (s.extract i (Ax s i)) acc,-1,rfl,rfl⟩
     ·have hel:e0<s.size:=by omega
      have x1:((e0:Int)=(s.size:Int))=False:=eq_false (by omega)
      have hfa:=Tm.F9 (acc++[t1])
      have hera:=Tm.Jp (acc++[t1])
      have hma:acc.map Tm.osh++[[OT.str t1.name,.sh (t1.args.map Tm.d)]]=(acc++[t1]).map Tm.osh:=by rw [yF]; rfl
      have hm1:[[OT.str t1.name,.sh (t1.args.map Tm.d)]]=[t1].map Tm.osh:=rfl
      have hnea:(acc++[t1]=[])=False:=eq_false (by simp)
      have hne1:([t1]=[])=False:=eq_false (by simp)
      have hf1:=Tm.F9 [t1]
      have he1:=Tm.Jp [t1]
      by_cases b44:A1 s e0=44
      ·have x44:(A1 s e0=44)=True:=eq_true b44
       have x41:(A1 s e0=41)=False:=eq_false (by omega)
       rw [AZ.2 ⟨hel,b44⟩,cond_true] at hR
       have next:i≤e0∧e0<s.size∧(acc++[t1]).length≤e0∧∃ q,s.size-(e0+1)<q∧total=(match rdL (rd s n) s q (e0+1) with | none=>none | some (ts,e)=>some ((acc++[t1])++ts,e)):=by
        refine ⟨by omega,hel,by rw [z7]; simp only [zP,zX]; omega,q,by omega,?_⟩
        rw [hR]
        cases rdL (rd s n) s q (e0+1) with
        | none=>rfl
        | some p=>simp only [zM,zV,yP]
       rcases z8 acc with ha | ⟨ys,y,ha⟩
       ·subst ha
        simp (disch:=omega) only [go_sem,Aa,hj1,hjn,hc1,hen,xn,x1,x44,x41,if_true,eq_self,AB]
        refine ⟨([t1],e0),next,by dsimp only; omega,?_⟩
        first | trivial | rfl | (simp (disch:=omega) only [go_sem,Aa,hnea,hne1,if_false,hma,hm1])
       ·have hne:(acc=[])=False:=eq_false (by rw [ha]; simp)
        simp (disch:=omega) only [go_sem,Aa,hj1,hjn,hc1,hen,xn,x1,x44,x41,hne,if_false,hfa,hera,hma,AB,zT]
        refine ⟨(acc++[t1],e0),next,by dsimp only; omega,?_⟩
        first | trivial | rfl | (simp (disch:=omega) only [go_sem,Aa,hnea,hne1,if_false,hma,hm1])
      ·have x44:(A1 s e0=44)=False:=eq_false b44
       have b44':BK s e0 44=false:=by
        cases h:BK s e0 44 with
        | false=>rfl
        | true=>exact absurd (AZ.1 h).2 b44
       rw [b44',cond_false] at hR
       by_cases b41:A1 s e0=41
       ·have x41:(A1 s e0=41)=True:=eq_true b41
        rw [AZ.2 ⟨hel,b41⟩,cond_true] at hR
        have hR:total=some (acc++[t1],e0+1):=hR
        rw [hR]
        rcases z8 acc with ha | ⟨ys,y,ha⟩
        ·subst ha
         simp (disch:=omega) only [go_sem,Aa,hj1,hjn,hc1,hen,xn,x1,x44,x41,if_true,eq_self,AB]
         exact ⟨_,rfl,.mk (s.extract i (Ax s i)) [t1],((e0+1:Nat):Int),by first | rfl | (simp only [Tm.sv,Tm.args,Tm.name,zD,yD,Tm.d_eq]; rfl),rfl,rfl⟩
        ·have hne:(acc=[])=False:=eq_false (by rw [ha]; simp)
         simp (disch:=omega) only [go_sem,Aa,hj1,hjn,hc1,hen,xn,x1,x44,x41,hne,if_false,hfa,hera,hma,AB,zT]
         exact ⟨_,rfl,.mk (s.extract i (Ax s i)) (acc++[t1]),((e0+1:Nat):Int),rfl,rfl,rfl⟩
       ·have x41:(A1 s e0=41)=False:=eq_false b41
        have b41':BK s e0 41=false:=by
         cases h:BK s e0 41 with
         | false=>rfl
         | true=>exact absurd (AZ.1 h).2 b41
        rw [b41',cond_false] at hR
        have hR:total=none:=hR
        rw [hR]
        rcases z8 acc with ha | ⟨ys,y,ha⟩
        ·subst ha
         simp (disch:=omega) only [go_sem,Aa,hj1,hjn,hc1,hen,xn,x1,x44,x41,if_true,eq_self,AB]
         exact ⟨_,rfl,.mk (s.extract i (Ax s i)) [],-1,rfl,rfl⟩
        ·have hne:(acc=[])=False:=eq_false (by rw [ha]; simp)
         have hfu:=Tm.F9 acc
         have her:=Tm.Jp acc
         simp (disch:=omega) only [go_sem,Aa,hj1,hjn,hc1,hen,xn,x1,x44,x41,hne,if_false,hfu,her,AB,zT]
         exact ⟨_,rfl,.mk (s.extract i (Ax s i)) acc,-1,rfl,rfl⟩
 ·have hge':((Ax s i:Int)=(s.size:Int))=True:=eq_true (by omega)
  by_cases h0:Ax s i=i
  ·have h0':((Ax s i:Int)=(i:Int))=True:=eq_true (by omega)
   rw [AJ h0,cond_true]
   simp (disch:=omega) only [go_sem,Aa,hj,hw,h0',hge',BU]
   exact ⟨_,rfl,.mk (s.extract i (Ax s i)) [],-1,rfl,rfl⟩
  ·have h0':((Ax s i:Int)=(i:Int))=False:=eq_false (by omega)
   have hc:BK s (Ax s i) 40=false:=by
    cases h:BK s (Ax s i) 40 with
    | false=>rfl
    | true=>have:=(AZ.1 h).1; omega
   rw [AN h0,cond_false,hc,cond_false]
   simp (disch:=omega) only [go_sem,Aa,hj,hw,h0',hge',BU]
   exact ⟨_,rfl,.mk (s.extract i (Ax s i)) [],(Ax s i:Int),rfl,rfl,rfl⟩
theorem GJ:modes 65=⟨[],.asis,some (Gm Mt),false⟩:=by unfold modes; rfl
theorem Vu (xs:List ByteArray) (sep:ByteArray) (h1:xs.length≤1099511627776) (h2:(Gi xs sep).size≤1099511627776):E 65 [.arr (xs.map fun s=>[D.str s]),.str sep] []=some (.str (Gi xs sep),[]):=by
 refine KV (g:=Mt) (congrArg FM.ext GJ) ?_
 have e:(xs.map fun s=>[D.str s]).map KT=xs:=by
  rw [yM]
  have:(KT ∘ fun s=>[D.str s])=id:=rfl
  rw [this,List.map_id]
 simp only [Mt,e]
 rw [AJ ⟨fun e he=>by obtain ⟨s,_,rfl⟩:=List.mem_map.1 he; exact ⟨s,rfl⟩,by simpa using h1,h2⟩,cond_true]
def Cz:SC:=(.seq (.reg [⟨some 1,none,.boxv 34 2 (.t 0)⟩,⟨(some 2),none,(.mv (.c (.str ⟨#[]⟩)))⟩]) (.seq (.seq (.reg [⟨some 6,none,.load true 2 (.t 1)⟩,⟨some 7,none,.call 42 [(.t 6)]⟩]) (.cond (.t 7) (.seq (.dreg [[],[0],[1,0],[2,1,0],[3,2,1,0],[4,3,2,1,0],[],[6],[7,6],[8,7,6],[9,8,7,6,4,3,2,1,0],[5,4,3,2,1,0,10,9,8,7,6],[11,5,4,3,2,1,0,10,9,8,7,6]] [⟨some 8,none,.faddr 1 (.t 1)⟩,⟨some 9,none,.load false 1 (.t 8)⟩,⟨some 10,none,.iaddr 2 (.t 9) (.c (.int .i64 0))⟩,⟨some 11,none,.load true 2 (.t 10)⟩,⟨some 12,none,.call 41 [(.t 11)]⟩,⟨(some 13),none,(.bin .add false (.t 12) (.c (.str ⟨#[32,61,32]⟩)))⟩,⟨some 14,none,.faddr 1 (.t 1)⟩,⟨some 15,none,.load false 1 (.t 14)⟩,⟨some 16,none,.iaddr 2 (.t 15) (.c (.int .i64 1))⟩,⟨some 17,none,.load true 2 (.t 16)⟩,⟨some 18,none,.call 41 [(.t 17)]⟩,⟨some 19,none,.bin .add false (.t 13) (.t 18)⟩,⟨some 2,none,.mv (.t 19)⟩]) .ret) .skip)) (.seq (.seq (.reg [⟨some 20,none,.faddr 1 (.t 1)⟩,⟨some 21,none,.load false 1 (.t 20)⟩,⟨some 22,none,.len false (.t 21)⟩,⟨some 23,none,.bin .eql false (.t 22) (.c (.int .i64 0))⟩]) (.cond (.t 23) (.seq (.reg [⟨some 24,none,.faddr 0 (.t 1)⟩,⟨some 25,none,.load false 1 (.t 24)⟩,⟨some 2,none,.mv (.t 25)⟩]) .ret) .skip)) (.seq (.reg [⟨(some 26),none,(.mkrow 9 1 [(.str ⟨#[]⟩)] 0 [])⟩,⟨some 3,none,.mv (.t 26)⟩]) (.seq (.seq (.reg [⟨some 27,none,.faddr 1 (.t 1)⟩,⟨some 28,none,.load false 1 (.t 27)⟩,⟨some 29,none,.len false (.t 28)⟩,⟨some 30,none,.mv (.c (.int .i64 0))⟩]) (.block 0 (.loop [0,1,0,1,0,0,0,0,0,0,0,0,0,0,0,0,0,0,0,0,0,0,0,0,0,0,0,0,1,1,1,0,0,0,0,0,0,0,0,0,0,0,0,0,0,0,0] (.seq (.reg [⟨some 31,none,.bin .lss false (.t 30) (.t 29)⟩]) (.seq (.cond (.t 31) .skip (.exit 0)) (.seq (.block 1 (.seq (.reg [⟨some 32,none,.iaddr 2 (.t 28) (.t 30)⟩,⟨some 33,none,.load true 2 (.t 32)⟩,⟨(some 5),none,(.alloc 34 [(.str ⟨#[]⟩),.nil])⟩,⟨none,none,(.store 2 (.t 5) (.t 33))⟩]) (.reg [⟨some 34,none,.mv (.t 3)⟩,⟨some 35,none,.load true 2 (.t 5)⟩,⟨some 36,none,.call 41 [(.t 35)]⟩,⟨(some 37),none,(.mkrow 9 1 [(.str ⟨#[]⟩)] 1 [(0,(.t 36))])⟩,⟨(some 38),none,(.append 9 1 16 [(.str ⟨#[]⟩)] (.t 34) (.t 37))⟩,⟨some 3,none,.mv (.t 38)⟩]))) (.reg [⟨some 39,none,.bin .add false (.t 30) (.c (.int .i64 1))⟩,⟨some 30,none,.mv (.t 39)⟩]))))))) (.seq (.dreg [[],[0],[1,0],[],[3],[2,1,0,4,3],[5,2,1,0,4,3],[6,5,2,1,0,4,3]] [⟨some 40,none,.faddr 0 (.t 1)⟩,⟨some 41,none,.load false 1 (.t 40)⟩,⟨(some 42),none,(.bin .add false (.t 41) (.c (.str ⟨#[40]⟩)))⟩,⟨some 43,none,.mv (.t 3)⟩,⟨(some 44),none,(.call 65 [(.t 43),(.c (.str ⟨#[44]⟩))])⟩,⟨some 45,none,.bin .add false (.t 42) (.t 44)⟩,⟨(some 46),none,(.bin .add false (.t 45) (.c (.str ⟨#[41]⟩)))⟩,⟨some 2,none,.mv (.t 46)⟩]) .ret))))))
theorem Dw:Ai Tryz.prog 41=some ⟨47,Cz,[(.tmp 2)]⟩:=by kernel_rfl
theorem AV:modes 41=⟨[],.asis,none,false⟩:=by unfold modes; rfl
theorem QR {α β:Type} (f:α→β) {xs:List α} {k:Nat} (h:k<xs.length):(xs.take k).map f++[f xs[k]]=(xs.take (k+1)).map f:=by
 rw [yL h,yF]; rfl
theorem LF (x:Tm) (hx:x.names=true) (hn:x.nodes≤1048576) (ih:∀ y∈x.args,E 41 [y.sv] []=some (.str y.txt,[])):E 41 [x.sv] []=some (.str x.txt,[]):=by
 have hl:=Tm.length_le x.args
 have hne:=Tm.At x
 have he:=Dt x
 rw [Tm.Js hx] at he
 have hsz:=Tm.Eo x hx
 rw [←Tm.Ox] at hsz
 rcases yJ x.args.length with h0 | h0
 ·have hx0:x.args=[]:=zQ h0
  have hz:((x.args.length:Int)=0)=True:=by rw [hx0]; simp
  rw [Tm.Sy hx0]
  refine Ab Dw AV (of_decide_eq_true rfl) ?_
  simp (disch:=omega) only [Cz,go_sem,Aa,hz,he,Az]
 ·have hz:((x.args.length:Int)=0)=False:=eq_false (by omega)
  have hnode:=Tm.S1 (x:=x) (by omega)
  have hs1:(x.name++(⟨#[40]⟩:ByteArray)).size=x.name.size+1:=by rw [zU]; rfl
  have hs2:x.name.size+1+(Gi (x.args.map Tm.txt) ⟨#[44]⟩).size+1=x.txt.size:=by
   rw [←hnode,zU,zU,zU]; rfl
  have hs3:(x.name++(⟨#[40]⟩:ByteArray)++Gi (x.args.map Tm.txt) ⟨#[44]⟩).size=x.name.size+1+(Gi (x.args.map Tm.txt) ⟨#[44]⟩).size:=by rw [zU,hs1]
  have hs4:(⟨#[40]⟩:ByteArray).size=1:=rfl
  have hs5:(⟨#[41]⟩:ByteArray).size=1:=rfl
  have hj:=Vu (x.args.map Tm.txt) ⟨#[44]⟩ (by simp; omega) (by omega)
  rw [yM] at hj
  have hf:∀ k,OT.AK ((x.args.take k).map fun y=>[OT.str y.txt])=true:=fun k=>by
   have:=Nk ((x.args.take k).map Tm.txt)
   rwa [yM] at this
  have her:∀ k,OT.erss ((x.args.take k).map fun y=>[OT.str y.txt])=(x.args.take k).map fun y=>[D.str y.txt]:=fun k=>by
   have:=PU ((x.args.take k).map Tm.txt)
   rwa [yM,yM] at this
  have htl:x.args.take x.args.length=x.args:=List.take_length
  have hfx:=hf x.args.length
  have herx:=her x.args.length
  rw [htl] at hfx herx
  have hjm:(x.args.map ((fun s=>[D.str s]) ∘ Tm.txt))=x.args.map fun y=>[D.str y.txt]:=rfl
  rw [hjm] at hj
  refine Ab Dw AV (of_decide_eq_true rfl) ?_
  simp (disch:=omega) only [Cz,go_sem,Aa,hz,he,Az]
  refine go_loop (α:=Int) (fun a=>⟨slots 47 0 [(1,.ptr 0 0),(3,.ref 1),(28,.arr (x.args.map Tm.d)),(29,.int .i64 x.args.length),(30,.int .i64 a)],[.box 34 [.str x.name,.arr (x.args.map Tm.d)],.row 9 1 ((x.args.take a.toNat).map fun y=>[OT.str y.txt])]⟩) (fun a=>∃ k:Nat,a=k∧k≤(x.args).length) (fun a=>(x.args).length-(a).toNat) 0 ⟨0,rfl,zE _⟩ (by simp (disch:=omega) only [go_sem,Aa,yC]) ?_
  rintro i ⟨k,hi,hk⟩
  have hni:i.toNat=k:=by omega
  have hni1:(i+1).toNat=k+1:=by omega
  rcases zF k (x.args).length with hlt | hge
  ·have hg:=get_at Tm.d hlt
   rw [Tm.d_eq] at hg
   have hc:=ih x.args[k] (zI hlt)
   have hse:=QR (fun y:Tm=>[OT.str y.txt]) hlt
   have hkl:((x.args.take k).map fun y=>[OT.str y.txt]).length=k:=by rw [zT,yN]; omega
   have hkl2:(x.args.take k).length=k:=by rw [yN]; omega
   simp (disch:=omega) only [go_sem,Aa,hni,hg,hc,hkl,hkl2,hse,AV]
   refine ⟨i+1,⟨k+1,by omega,hlt⟩,by omega,?_⟩
   simp (disch:=omega) only [go_sem,Aa,hni1,hse]
  ·obtain rfl:k=x.args.length:=by omega
   simp (disch:=omega) only [go_sem,Aa,hni,htl,hfx,herx,hj,hs1,hs2,hs3,hs4,hs5,hnode,GJ]
theorem Cn (x:Tm) (hx:x.names=true) (hn:x.nodes≤1048576):E 41 [x.sv] []=some (.str x.txt,[]) :=
 LF x hx hn fun y hy=>Cn y (Tm.Eu hx hy) (by have:=Tm.CG hy; have:=Tm.At x; omega)
termination_by SizeOf.sizeOf x
decreasing_by exact Tm.AC hy
theorem O1 (s:ByteArray) (hs:s.size≤1048576):∀ (n i:Nat),i≤s.size→s.size-i<n→∃ out,E 48 [.str s,.int .i64 (i:Int)] []=some out∧SD (rd s n i) out
 | 0,i,_,h=>absurd h (by omega)
 | n+1,i,hi,hn=>QQ s hs n (fun i hi hn=>O1 s hs n i hi hn) i hi hn
theorem MB {r:Nat→Option (Tm × Nat)} {s:ByteArray} (hr:∀ i t e,r i=some (t,e)→i+t.nodes≤e) :
  ∀ (m i:Nat) (ts:List Tm) (e:Nat),rdL r s m i=some (ts,e)→i+Tm.A3 ts≤e
 | 0,i,ts,e,h=>by cases h
 | m+1,i,ts,e,h=>by
  rw [rdL] at h
  cases hq:r i with
  | none=>rw [hq] at h; cases h
  | some p =>
   obtain ⟨t,e0⟩:=p
   rw [hq] at h
   simp only at h
   have h1:=hr i t e0 hq
   cases hc:BK s e0 44 with
   | true =>
    rw [hc,cond_true] at h
    cases hl:rdL r s m (e0+1) with
    | none=>rw [hl] at h; cases h
    | some q =>
     obtain ⟨us,e1⟩:=q
     rw [hl] at h
     simp only [zB,zG] at h
     obtain ⟨rfl,rfl⟩:=h
     have:=MB hr m (e0+1) us e1 hl
     rw [Tm.A3]; omega
   | false =>
    rw [hc,cond_false] at h
    cases hc2:BK s e0 41 with
    | true =>
     rw [hc2,cond_true] at h
     simp only [zB,zG] at h
     obtain ⟨rfl,rfl⟩:=h
     rw [Tm.A3,Tm.A3]; omega
    | false=>rw [hc2] at h; cases h
theorem EH {s:ByteArray}:∀ (n i:Nat) (t:Tm) (e:Nat),rd s n i=some (t,e)→i+t.nodes≤e
 | 0,i,t,e,h=>by cases h
 | n+1,i,t,e,h=>by
  rw [rd] at h
  have w1:=I1 s i
  by_cases h0:Ax s i=i
  ·rw [AJ h0] at h; cases h
  ·rw [AN h0,cond_false] at h
   cases hc:BK s (Ax s i) 40 with
   | true =>
    rw [hc,cond_true] at h
    cases hl:rdL (rd s n) s n (Ax s i+1) with
    | none=>rw [hl] at h; cases h
    | some q =>
     obtain ⟨us,e1⟩:=q
     rw [hl] at h
     simp only [zB,zG] at h
     obtain ⟨rfl,rfl⟩:=h
     have:=MB (EH n) n _ us e1 hl
     rw [Tm.At]
     show i+(1+Tm.A3 us)≤_
     omega
   | false =>
    rw [hc,cond_false] at h
    simp only [zB,zG] at h
    obtain ⟨rfl,rfl⟩:=h
    rw [Tm.At]
    show i+(1+Tm.A3 [])≤_
    rw [Tm.A3]; omega
noncomputable def Gn (s:ByteArray):Bool:=match rd s (s.size+1) 0 with
 | some (t,e)=>dec (e=s.size)&&t.valid
 | none=>false
noncomputable def Co (s:ByteArray):Tm:=match rd s (s.size+1) 0 with
 | some (t,e)=>bif dec (e=s.size)&&t.valid then t else .mk ⟨#[]⟩ []
 | none=>.mk ⟨#[]⟩ []
theorem VG {s:ByteArray} (h:Gn s=false):Co s=.mk ⟨#[]⟩ []:=by
 unfold Gn at h
 unfold Co
 cases hr:rd s (s.size+1) 0 with
 | none=>rfl
 | some p =>
  obtain ⟨t,e⟩:=p
  rw [hr] at h
  simp only at h ⊢
  rw [h]; rfl
theorem Le {s:ByteArray} (h:Gn s=true):(Co s).valid=true∧(Co s).txt=s:=by
 unfold Gn at h
 unfold Co
 cases hr:rd s (s.size+1) 0 with
 | none=>rw [hr] at h; cases h
 | some p =>
  obtain ⟨t,e⟩:=p
  rw [hr] at h
  simp only at h ⊢
  rw [h,cond_true]
  rw [zA,Aj] at h
  obtain ⟨rfl,hv⟩:=h
  refine ⟨hv,AL ?_⟩
  obtain ⟨_,_,h3⟩:=M0 _ 0 t s.size (zE _) hr
  rw [Tm.txt_toList,← h3,Em]
theorem Ak {t:Tm} (h:t.valid=true):t.names=true:=by
 unfold Tm.valid at h; rw [zA] at h; exact h.2
theorem BN {t:Tm} (h:t.valid=true):t.nodes≤30:=Tm.FY (by unfold Tm.expr; rw [h]; rfl)
theorem DV {t:Tm} (h:t.valid=true):t.txt.size≤4000:=by
 have h1:=Tm.Eo t (Ak h)
 have h2:=BN h
 rw [Tm.Ox]; omega
def C9:SC:=(.seq (.reg [⟨(some 2),none,(.alloc 34 [(.str ⟨#[]⟩),.nil])⟩,⟨some 3,none,.mv (.c (.bool false))⟩]) (.seq (.reg [⟨some 7,none,.mv (.t 0)⟩,⟨some 8,none,.call 48 [(.t 7),(.c (.int .i64 0))]⟩,⟨some 6,none,.mv (.t 8)⟩,⟨some 9,none,.ext (.t 6) 0⟩,⟨some 10,none,.ext (.t 6) 1⟩,⟨(some 4),none,(.alloc 34 [(.str ⟨#[]⟩),.nil])⟩,⟨none,none,(.store 2 (.t 4) (.t 9))⟩,⟨some 5,none,.mv (.t 10)⟩]) (.seq (.seq (.reg [⟨some 11,none,.mv (.t 5)⟩,⟨some 12,none,.mv (.t 0)⟩,⟨some 13,none,.len true (.t 12)⟩,⟨some 14,none,.bin .neq false (.t 11) (.t 13)⟩,⟨some 15,none,.mv (.t 14)⟩,⟨(some 16),(some (15,false)),(.load true 2 (.t 4))⟩,⟨(some 17),(some (15,false)),(.call 49 [(.t 16)])⟩,⟨(some 18),(some (15,false)),(.un .not (.t 17))⟩,⟨some 19,none,.pick (.t 15) (.c (.bool true)) (.t 18)⟩]) (.cond (.t 19) (.seq (.reg [⟨(some 20),none,(.build [(.str ⟨#[]⟩),.nil] [])⟩,⟨none,none,(.store 2 (.t 2) (.t 20))⟩,⟨some 3,none,.mv (.c (.bool false))⟩]) .ret) .skip)) (.seq (.reg [⟨some 21,none,.load true 2 (.t 4)⟩,⟨none,none,(.store 2 (.t 2) (.t 21))⟩,⟨some 3,none,.mv (.c (.bool true))⟩]) .ret))))
theorem Dx:Ai Tryz.prog 30=some ⟨22,C9,[(.cell 2 true 2),(.tmp 3)]⟩:=by kernel_rfl
theorem A6:modes 30=⟨[],.frz,none,false⟩:=by unfold modes; rfl
theorem HY:(Tm.mk ⟨#[]⟩ []).sv=.agg [.str ⟨#[]⟩,.arr []]:=rfl
theorem Hq (s:ByteArray) (hs:s.size≤1048576):E 30 [.str s] []=some (.tup [(Co s).sv,.bool (Gn s)],[]):=by
 obtain ⟨out,h1,t,k,rfl,h2⟩:=O1 s hs (s.size+1) 0 (zE _) (by omega)
 have h1:E 48 [.str s,.int .i64 0] []=some (.tup [t.sv,.int .i64 k],[]):=h1
 unfold Co Gn
 cases hr:rd s (s.size+1) 0 with
 | none =>
  rw [hr] at h2
  have h2:k=-1:=h2
  subst h2
  have hq:((-1:Int)=(s.size:Int))=False:=eq_false (by omega)
  simp only [HY]
  refine Ab Dx A6 (of_decide_eq_true rfl) ?_
  simp (disch:=omega) only [C9,go_sem,Aa,h1,hq,AB]
 | some p =>
  obtain ⟨t0,e⟩:=p
  rw [hr] at h2
  obtain ⟨rfl,rfl⟩:=h2
  have hn:=EH _ _ _ _ hr
  obtain ⟨_,he,_⟩:=M0 _ 0 t e (zE _) hr
  have h3:=Ov t (by omega)
  by_cases h0:e=s.size
  ·have hq:((e:Int)=(s.size:Int))=True:=eq_true (by omega)
   simp only [AJ h0,yB]
   cases hv:t.valid with
   | true =>
    rw [hv] at h3
    simp only [cond_true]
    refine Ab Dx A6 (of_decide_eq_true rfl) ?_
    simp (disch:=omega) only [C9,go_sem,Aa,h1,hq,h3,AB,Bj]
   | false =>
    rw [hv] at h3
    simp only [cond_false,HY]
    refine Ab Dx A6 (of_decide_eq_true rfl) ?_
    simp (disch:=omega) only [C9,go_sem,Aa,h1,hq,h3,AB,Bj]
  ·have hq:((e:Int)=(s.size:Int))=False:=eq_false (by omega)
   simp only [AN h0,zS,cond_false,HY]
   refine Ab Dx A6 (of_decide_eq_true rfl) ?_
   simp (disch:=omega) only [C9,go_sem,Aa,h1,hq,AB]
def eqSign:List UInt8:=[32,61,32]
def neSign:List UInt8:=[32,33,61,32]
def Tm.Uw (g:List UInt8):List Tm→List UInt8
 | [a,b]=>a.fmt++g++b.fmt
 | _=>[]
noncomputable def Tm.fmtA (x:Tm):List UInt8:=bif x.eqn then Tm.Uw eqSign x.args else x.fmt
noncomputable def Tm.txtA (x:Tm):ByteArray:=⟨x.fmtA.toArray⟩
theorem Tm.Cg (x:Tm):x.txtA.toList=x.fmtA:=Bv _
theorem Tm.FZ {x:Tm} (h:x.atom=true):(x.eqn=false∧x.valid=true)∨(∃ a b,x=.mk ⟨#[61]⟩ [a,b]∧x.eqn=true∧a.names=true∧b.names=true∧x.small=true):=by
 have h0:=h
 unfold Tm.atom at h
 split at h
 ·rename_i he
  rw [zA,zA] at h
  right
  have hl:x.args.length=2:=by simpa using h.1.1
  obtain ⟨nm,us⟩:=x
  have hnm:nm=⟨#[61]⟩:=by unfold Tm.eqn at he; exact Aj.1 he
  match us,hl with
  | [a,b],_ =>
   refine ⟨a,b,by rw [hnm],he,?_,?_,h.1.2⟩
   ·have:=h.2
    rw [Tm.Et,zZ] at this
    exact this a (by simp [Tm.args])
   ·have:=h.2
    rw [Tm.Et,zZ] at this
    exact this b (by simp [Tm.args])
 ·rename_i he
  rw [zA] at h
  exact .inl ⟨by simpa using he,h.2⟩
def noB (l:List UInt8):Prop:=∀ c∈l,c≠32
theorem IA {a b:List UInt8} (h:noB a) (k:noB b):noB (a++b):=fun c hc=>(List.mem_append.1 hc).elim (h c) (k c)
theorem O2:∀ {xs:List (List UInt8)},(∀ x∈xs,noB x)→noB (Dq [44] xs)
 | [],_=>fun c hc=>by cases hc
 | [x],h=>h x (by simp)
 | x :: y :: r,h=>by
  rw [Dq]
  exact IA (IA (h x (by simp)) (fun c hc=>by simp at hc; rw [hc]; decide)) (O2 fun z hz=>h z (by simp [hz]))
theorem Tm.IB (x:Tm) (hx:x.names=true):noB x.fmt:=by
 have hw:=Tm.wd hx
 have hn:noB x.name.toList:=fun c hc e=>by
  have:=hw.2 c hc
  rw [e] at this
  have h2:BX ((32:UInt8).toNat:Int)=false:=GE (.inr (.inr (.inr rfl)))
  rw [h2] at this; cases this
 rw [Tm.GB]
 split
 ·rw [yY]; exact hn
 ·refine IA hn (IA (IA (fun c hc=>by simp at hc; rw [hc]; decide) (O2 fun z hz=>?_)) (fun c hc=>by simp at hc; rw [hc]; decide))
  rw [Tm.KZ] at hz
  obtain ⟨y,hy,rfl⟩:=List.mem_map.1 hz
  exact Tm.IB y (Tm.Eu hx hy)
termination_by SizeOf.sizeOf x
decreasing_by exact Tm.AC hy
theorem Nn {a b:Tm} (ha:a.names=true) (hb:b.names=true) (h:a.fmt=b.fmt):a=b:=by
 have hs:a.txt=b.txt:=AL (by rw [Tm.txt_toList,Tm.txt_toList,h])
 have h1:=EY (s:=a.txt) a ha (a.txt.size+1) 0 a.txt.size (zH _) (zE _) (by rw [Em,Tm.txt_toList]) (.inl rfl) (by omega)
 have h2:=EY (s:=a.txt) b hb (a.txt.size+1) 0 a.txt.size (zH _) (zE _) (by rw [Em,Tm.txt_toList,h]) (.inl rfl) (by omega)
 rw [h1] at h2
 simp only [zB,zG] at h2
 exact h2.1
theorem IC {s:ByteArray} {t:Tm} (hv:t.valid=true) (h:s.toList=t.fmt):Gn s=true∧Co s=t:=by
 have h1:=EY (s:=s) t (Ak hv) (s.size+1) 0 s.size (zH _) (zE _) (by rw [Em,h]) (.inl rfl) (by omega)
 unfold Gn Co
 rw [h1]
 simp only [Uu,Cb,hv,zO,cond_true,and_self]
theorem MC:∀ {A A' B B':List UInt8},noB A→noB A'→A++32 :: B=A'++32 :: B'→A=A'∧B=B'
 | [],[],B,B',_,_,h=>by simpa using h
 | [],c :: A',B,B',_,h',h=>by
  simp only [yP,zV,yG] at h
  exact absurd h.1.symm (h' c (by simp))
 | c :: A,[],B,B',h',_,h=>by
  simp only [yP,zV,yG] at h
  exact absurd h.1 (h' c (by simp))
 | c :: A,c' :: A',B,B',h1,h2,h=>by
  simp only [zV,yG] at h
  obtain ⟨h3,h4⟩:=MC (fun x hx=>h1 x (by simp [hx])) (fun x hx=>h2 x (by simp [hx])) h.2
  exact ⟨by rw [h.1,h3],h4⟩
theorem Ga {a b:Tm} {n:ByteArray} (h:(Tm.mk n [a,b]).small=true):a.small=true∧b.small=true:=by
 unfold Tm.small at h ⊢
 rw [zA,decide_eq_true_eq,decide_eq_true_eq,Tm.At,Tm.Kf] at h
 have e1:(Tm.mk n [a,b]).args=[a,b]:=rfl
 rw [e1,Tm.A3,Tm.A3,Tm.A3,Tm.DS,Tm.DS,Tm.DS] at h
 rw [zA,decide_eq_true_eq,decide_eq_true_eq,zA,decide_eq_true_eq,decide_eq_true_eq]
 omega
def LG (g:List UInt8) (s:ByteArray) (t:Tm):Prop:=∃ a b:Tm,t=.mk ⟨#[61]⟩ [a,b]∧a.valid=true∧b.valid=true∧t.atom=true∧s.toList=a.fmt++g++b.fmt
theorem QS {g:List UInt8} {s:ByteArray} {t t':Tm} (h:LG (32 :: g) s t) (h':LG (32 :: g) s t'):t=t':=by
 obtain ⟨a,b,rfl,ha,hb,_,hs⟩:=h
 obtain ⟨a',b',rfl,ha',hb',_,hs'⟩:=h'
 rw [hs,zM,zM,zV,zV] at hs'
 obtain ⟨e1,e2⟩:=MC (Tm.IB a (Ak ha)) (Tm.IB a' (Ak ha')) hs'
 rw [Nn (Ak ha) (Ak ha') e1,Nn (Ak hb) (Ak hb') (List.append_cancel_left e2)]
def Lf (s:ByteArray) (t:Tm):Prop:=t.atom=true∧t.txtA=s
theorem CW {s:ByteArray} {t:Tm}:Lf s t ↔ LG eqSign s t∨(t.eqn=false∧t.atom=true∧t.valid=true∧s.toList=t.fmt):=by
 constructor
 ·rintro ⟨h1,rfl⟩
  rw [Tm.Cg]
  unfold Tm.fmtA
  rcases Tm.FZ h1 with ⟨h2,h3⟩ | ⟨a,b,rfl,h2,h3,h4,h5⟩
  ·right
   refine ⟨h2,h1,h3,by rw [h2]; rfl⟩
  ·left
   obtain ⟨g1,g2⟩:=Ga h5
   refine ⟨a,b,rfl,by unfold Tm.valid; rw [g1,h3]; rfl,by unfold Tm.valid; rw [g2,h4]; rfl,h1,?_⟩
   rw [Tm.Cg]
   unfold Tm.fmtA
   rw [h2]; rfl
 ·rintro (⟨a,b,rfl,h1,h2,h3,h4⟩ | ⟨h1,h2,h3,h4⟩)
  ·refine ⟨h3,AL ?_⟩
   rw [Tm.Cg,h4]
   have he:(Tm.mk ⟨#[61]⟩ [a,b]).eqn=true:=by unfold Tm.eqn; exact AJ rfl
   unfold Tm.fmtA
   rw [he]; rfl
  ·refine ⟨h2,AL ?_⟩
   rw [Tm.Cg,h4]
   unfold Tm.fmtA
   rw [h1]; rfl
theorem Lg {g:List UInt8} {s:ByteArray} {t u:Tm} (h:LG (32 :: g) s t) (hu:u.valid=true) (hs:s.toList=u.fmt):False:=by
 obtain ⟨a,b,_,_,_,_,h4⟩:=h
 have:=Tm.IB u (Ak hu)
 rw [←hs,h4] at this
 exact this 32 (by simp) rfl
theorem QT {s:ByteArray} {t t':Tm} (h:Lf s t) (h':Lf s t'):t=t':=by
 rcases CW.1 h with h1 | ⟨_,_,h2,h3⟩ <;> rcases CW.1 h' with h1' | ⟨_,_,h2',h3'⟩
 ·exact QS h1 h1'
 ·exact (Lg h1 h2' h3').elim
 ·exact (Lg h1' h2 h3).elim
 ·exact Nn (Ak h2) (Ak h2') (h3.symm.trans h3')
noncomputable def Pu (s:ByteArray):Bool:=dec (∃ t,Lf s t)
open Classical in
noncomputable def JR (s:ByteArray):Tm:=if h:∃ t,Lf s t then h.choose else .mk ⟨#[]⟩ []
theorem No {s:ByteArray} {t:Tm} (h:Lf s t):Pu s=true∧JR s=t:=by
 have he:∃ t,Lf s t:=⟨t,h⟩
 refine ⟨AJ he,?_⟩
 unfold JR
 rw [dif_pos he]
 exact QT he.choose_spec h
theorem Ux {s:ByteArray} (h:∀ t,¬ Lf s t):Pu s=false∧JR s=.mk ⟨#[]⟩ []:=by
 have he:¬ ∃ t,Lf s t:=fun ⟨t,ht⟩=>h t ht
 refine ⟨AN he,?_⟩
 unfold JR
 rw [dif_neg he]
noncomputable def JK (g s:ByteArray) (n i:Nat):Option (Tm × Nat):=match rd s n i with
 | none=>none
 | some (a,e)=>bif hasB s e g then (match rd s n (e+g.size) with
  | none=>none
  | some (b,e2)=>some (.mk ⟨#[61]⟩ [a,b],e2)) else some (a,e)
theorem ID {x:Tm} (hx:x.names=true):∃ c r,x.fmt=c :: r∧c≠126:=by
 have hw:=Tm.wd hx
 rw [Tm.GB]
 obtain ⟨c,r,hc⟩:∃ c r,x.name.toList=c :: r:=by
  cases h:x.name.toList with
  | nil=>exact absurd h hw.1
  | cons c r=>exact ⟨c,r,rfl⟩
 refine ⟨c,r++_,by rw [hc,zV],fun e=>?_⟩
 have h1:=hw.2 c (by rw [hc]; simp)
 rw [e] at h1
 have h2:BX ((126:UInt8).toNat:Int)=false:=by
  unfold BX
  have e:((126:UInt8).toNat:Int)=126:=rfl
  rw [e,AN (p:=(126:Int)≤122) (by omega),AN (p:=(126:Int)≤90) (by omega),AN (p:=(126:Int)≤57) (by omega),AN (p:=(126:Int)=95) (by omega)]
  simp
 rw [h2] at h1; cases h1
theorem Ev {s:ByteArray} {c:UInt8} {r:List UInt8} (h:s.toList=c :: r):hasB s 0 ⟨#[126]⟩=dec (c=126):=by
 have h2:(⟨#[126]⟩:ByteArray).toList=[126]:=Bv [126]
 have hz:s.size=r.length+1:=by rw [←An,h]; rfl
 have h3:seg s 0 (0+(⟨#[126]⟩:ByteArray).size)=[c]:=by
  show seg s 0 1=_
  unfold seg
  rw [h]; rfl
 cases hh:hasB s 0 ⟨#[126]⟩ with
 | true =>
  have:=((Cc (zE _)).1 hh).2
  rw [h3,h2] at this
  rw [AJ (by simpa using this)]
 | false =>
  by_cases hc:c=126
  ·have:=(Cc (s:=s) (x:=⟨#[126]⟩) (zE _)).2 ⟨by show 0+1≤_; omega,by rw [h3,h2,hc]⟩
   rw [this] at hh; cases hh
  ·rw [AN hc]
theorem Lh {s g:ByteArray} (hg:0<g.size):hasB s s.size g=false:=by
 cases h:hasB s s.size g with
 | false=>rfl
 | true=>have:=((Cc (zH _)).1 h).1; omega
theorem O3 {gb s:ByteArray} {n i:Nat} {t:Tm} {e:Nat} (h:JK gb s n i=some (t,e)) (hs:∀ i t e,rd s n i=some (t,e)→e≤s.size):t.nodes≤2*s.size+1:=by
 unfold JK at h
 cases h1:rd s n i with
 | none=>rw [h1] at h; cases h
 | some p =>
  obtain ⟨a,e0⟩:=p
  rw [h1] at h
  simp only at h
  have n1:=EH _ _ _ _ h1
  have z1:=hs _ _ _ h1
  cases hh:hasB s e0 gb with
  | false=>rw [hh] at h; simp only [cond_false,zB,zG] at h; obtain ⟨rfl,rfl⟩:=h; omega
  | true =>
   rw [hh] at h
   simp only [cond_true] at h
   cases h2:rd s n (e0+gb.size) with
   | none=>rw [h2] at h; cases h
   | some p =>
    obtain ⟨b,e2⟩:=p
    rw [h2] at h
    simp only [zB,zG] at h
    obtain ⟨rfl,rfl⟩:=h
    have n2:=EH _ _ _ _ h2
    have z2:=hs _ _ _ h2
    rw [Tm.At]
    show 1+Tm.A3 [a,b]≤_
    rw [Tm.A3,Tm.A3,Tm.A3]
    omega
theorem Np {s:ByteArray} (i:Nat) (t:Tm) (e:Nat) (h:rd s (s.size+1) i=some (t,e)):e≤s.size:=by
 rcases zF s.size i with hi | hi
 ·exfalso
  rw [rd] at h
  have hw:Ax s i=i:=FA (by omega)
  rw [hw,Cb] at h; cases h
 ·exact (M0 _ i t e hi h).2.1
theorem Li:(⟨#[32,61,32]⟩:ByteArray).toList=eqSign:=Bv [32,61,32]
theorem QU (x:Tm) (hx:x.atom=true):E 41 [x.sv] []=some (.str x.txtA,[]):=by
 rcases Tm.FZ hx with ⟨h1,h2⟩ | ⟨a,b,rfl,h1,h2,h3,h4⟩
 ·have e:x.txtA=x.txt:=AL (by rw [Tm.Cg,Tm.txt_toList]; unfold Tm.fmtA; rw [h1]; rfl)
  rw [e]
  exact Cn x (Ak h2) (by have:=BN h2; omega)
 ·have he:=Dt (.mk ⟨#[61]⟩ [a,b])
  rw [h1] at he
  obtain ⟨s1,s2⟩:=Ga h4
  have va:a.valid=true:=by unfold Tm.valid; rw [s1,h2]; rfl
  have vb:b.valid=true:=by unfold Tm.valid; rw [s2,h3]; rfl
  have f1:=Cn a h2 (by have:=BN va; omega)
  have f2:=Cn b h3 (by have:=BN vb; omega)
  have z1:=DV va
  have z2:=DV vb
  have hs1:(a.txt++(⟨#[32,61,32]⟩:ByteArray)).size=a.txt.size+3:=by rw [zU]; rfl
  have hs2:(⟨#[32,61,32]⟩:ByteArray).size=3:=rfl
  have ht:a.txt++⟨#[32,61,32]⟩++b.txt=(Tm.mk ⟨#[61]⟩ [a,b]).txtA:=by
   refine AL ?_
   rw [C5,C5,Tm.txt_toList,Tm.txt_toList,Tm.Cg,Li]
   unfold Tm.fmtA
   rw [h1]; rfl
  have g0:([a,b].map Tm.d)[(0:Nat)]?=some [D.str a.name,D.arr (a.args.map Tm.d)]:=by rw [zD,Tm.d_eq]; rfl
  have g1:([a,b].map Tm.d)[(1:Nat)]?=some [D.str b.name,D.arr (b.args.map Tm.d)]:=by rw [zD,zD,Tm.d_eq b]; rfl
  have hsv:(Tm.mk ⟨#[61]⟩ [a,b]).sv=.agg [.str ⟨#[61]⟩,.arr ([a,b].map Tm.d)]:=rfl
  rw [hsv] at he ⊢
  obtain ⟨ds,hds⟩:∃ ds,ds=[a,b].map Tm.d:=⟨_,rfl⟩
  rw [←hds] at he g0 g1 ⊢
  refine Ab Dw AV (of_decide_eq_true rfl) ?_
  simp (disch:=omega) only [Cz,go_sem,Aa,he,g0,g1,f1,f2,hs1,hs2,ht,yC,Int.toNat_one,Az,AV]
def Cp:SC:=(.seq (.reg [⟨(some 2),none,(.alloc 34 [(.str ⟨#[]⟩),.nil])⟩]) (.seq (.reg [⟨some 4,none,.mv (.t 0)⟩,⟨some 5,none,.call 39 [(.t 4)]⟩,⟨(some 3),none,(.alloc 34 [(.str ⟨#[]⟩),.nil])⟩,⟨none,none,(.store 2 (.t 3) (.t 5))⟩]) (.seq (.seq (.reg [⟨some 6,none,.mv (.t 0)⟩,⟨(some 7),none,(.call 37 [(.t 6),(.c (.str ⟨#[32,61,32]⟩))])⟩]) (.cond (.t 7) (.seq (.dreg [[],[],[1],[0,2,1],[3,0,2,1],[4,3,0,2,1]] [⟨some 8,none,.load true 2 (.t 3)⟩,⟨some 9,none,.mv (.t 0)⟩,⟨some 10,none,.call 39 [(.t 9)]⟩,⟨(some 11),none,(.mkrow 34 2 [(.str ⟨#[]⟩),.nil] 2 [(0,(.t 8)),(1,(.t 10))])⟩,⟨(some 12),none,(.build [(.str ⟨#[]⟩),.nil] [(0,(1,(.c (.str ⟨#[61]⟩)))),(1,(1,(.t 11)))])⟩,⟨none,none,(.store 2 (.t 2) (.t 12))⟩]) .ret) .skip)) (.seq (.reg [⟨some 13,none,.load true 2 (.t 3)⟩,⟨none,none,(.store 2 (.t 2) (.t 13))⟩]) .ret))))
theorem HZ:Ai Tryz.prog 38=some ⟨14,Cp,[(.cell 2 true 2)]⟩:=by kernel_rfl
theorem Bw:modes 38=⟨[],.own [none,some (34,2)],none,false⟩:=by unfold modes; rfl
theorem Ug (s:ByteArray) (hs:s.size≤1048576) (i:Nat) (hi:i≤s.size):∃ out,E 38 [.ptr 0 0] [psr s i false]=some out∧Qb s i (JK ⟨#[32,61,32]⟩ s (s.size+1) i) out:=by
 obtain ⟨out1,h1,t,j,f,rfl,g1,g2,g3⟩:=Hp s hs (s.size+1) i hi (by omega)
 refine Iz HZ Bw (of_decide_eq_true rfl) ?_
 unfold JK
 cases hr:rd s (s.size+1) i with
 | none =>
  rw [hr] at g3
  have g3:f=true:=g3
  subst g3
  have ht:=Jt s j ⟨#[32,61,32]⟩
  simp (disch:=omega) only [Cp,go_sem,Aa,h1,ht,A2,Af]
  exact ⟨_,rfl,t,j,true,rfl,g1,g2,rfl⟩
 | some p =>
  obtain ⟨a,e⟩:=p
  rw [hr] at g3
  obtain ⟨rfl,rfl,rfl⟩:=g3
  cases hh:hasB s j ⟨#[32,61,32]⟩ with
  | false =>
   have ht:=Ho s j ⟨#[32,61,32]⟩ g2 hh
   simp only [hh,cond_false]
   simp (disch:=omega) only [Cp,go_sem,Aa,h1,ht,A2,Af]
   exact ⟨_,rfl,t,j,false,rfl,g1,g2,rfl,rfl,rfl⟩
  | true =>
   have ht:E 37 [.ptr 0 0,.str ⟨#[32,61,32]⟩] [psr s j false]=some (.bool true,[psr s (j+3) false]):=FB s j ⟨#[32,61,32]⟩ (by show j+3≤_; omega) g2 hh
   have hj3:j+3≤s.size:=((Cc g2).1 hh).1
   obtain ⟨out2,h2,t2,j2,f2,rfl,k1,k2,k3⟩:=Hp s hs (s.size+1) (j+3) hj3 (by omega)
   simp only [hh,cond_true]
   have e3:rd s (s.size+1) (j+(⟨#[32,61,32]⟩:ByteArray).size)=rd s (s.size+1) (j+3):=rfl
   rw [e3]
   have ho:(Tm.mk ⟨#[61]⟩ [t,t2]).args.map Tm.o=[[OT.str t.name,.ow (t.args.map Tm.o)],[OT.str t2.name,.ow (t2.args.map Tm.o)]]:=by
    show [t,t2].map Tm.o=_
    rw [zD,zD,yD,Tm.o_eq,Tm.o_eq]
   simp (disch:=omega) only [Cp,go_sem,Aa,h1,ht,h2,A2,Af]
   cases hr2:rd s (s.size+1) (j+3) with
   | none =>
    rw [hr2] at k3
    have k3:f2=true:=k3
    subst k3
    exact ⟨_,rfl,.mk ⟨#[61]⟩ [t,t2],j2,true,by rw [ho]; rfl,by omega,k2,rfl⟩
   | some p =>
    obtain ⟨b,e⟩:=p
    rw [hr2] at k3
    obtain ⟨rfl,rfl,rfl⟩:=k3
    exact ⟨_,rfl,.mk ⟨#[61]⟩ [t,t2],j2,false,by rw [ho]; rfl,by omega,k2,rfl,rfl,rfl⟩
def HC:SC:=(.seq (.reg [⟨some 4,none,.mv (.c (.int .i64 0))⟩]) (.seq (.seq (.reg [⟨some 5,none,.mv (.c (.int .i64 0))⟩]) (.block 0 (.loop [1,1,0,0,0,1,0,0,0,0,0,0,0,0,0,0,0,0,0,0,0,0,0,0,0] (.seq (.seq (.reg [⟨some 6,none,.mv (.t 5)⟩,⟨some 7,none,.mv (.t 1)⟩,⟨some 8,none,.len true (.t 7)⟩,⟨some 9,none,.bin .add false (.t 6) (.t 8)⟩,⟨some 10,none,.mv (.t 0)⟩,⟨some 11,none,.len true (.t 10)⟩,⟨some 12,none,.bin .leq false (.t 9) (.t 11)⟩]) (.cond (.t 12) .skip (.exit 0))) (.seq (.block 1 (.seq (.reg [⟨some 15,none,.mv (.t 0)⟩,⟨some 16,none,.mv (.t 5)⟩,⟨some 17,none,.mv (.t 5)⟩,⟨some 18,none,.mv (.t 1)⟩,⟨some 19,none,.len true (.t 18)⟩,⟨some 20,none,.bin .add false (.t 17) (.t 19)⟩,⟨some 21,none,.slice true 0 (.t 15) (some (.t 16)) (some (.t 20))⟩,⟨some 22,none,.mv (.t 1)⟩,⟨some 23,none,.bin .eql false (.t 21) (.t 22)⟩]) (.cond (.t 23) (.seq (.reg [⟨some 24,none,.mv (.t 5)⟩,⟨some 4,none,.mv (.t 24)⟩]) .ret) .skip))) (.reg [⟨some 13,none,.mv (.t 5)⟩,⟨some 14,none,.bin .add false (.t 13) (.c (.int .i64 1))⟩,⟨some 5,none,.mv (.t 14)⟩])))))) (.seq (.reg [⟨some 4,none,.mv (.c (.int .i64 (-(0+1))))⟩]) .ret)))
theorem LH:Ai Tryz.prog 16=some ⟨25,HC,[(.tmp 4)]⟩:=by kernel_rfl
theorem Ar:modes 16=⟨[],.asis,none,false⟩:=by unfold modes; rfl
def B9:SC:=(.seq (.reg [⟨(some 4),none,(.alloc 34 [(.str ⟨#[]⟩),.nil])⟩,⟨some 5,none,.mv (.c (.bool false))⟩]) (.seq (.reg [⟨some 12,none,.mv (.t 0)⟩,⟨some 13,none,.mv (.t 1)⟩,⟨some 14,none,.call 16 [(.t 12),(.t 13)]⟩,⟨some 6,none,.mv (.t 14)⟩]) (.seq (.seq (.reg [⟨some 15,none,.mv (.t 6)⟩,⟨some 16,none,.bin .lss false (.t 15) (.c (.int .i64 0))⟩]) (.cond (.t 16) (.seq (.reg [⟨(some 17),none,(.build [(.str ⟨#[]⟩),.nil] [])⟩,⟨none,none,(.store 2 (.t 4) (.t 17))⟩,⟨some 5,none,.mv (.c (.bool false))⟩]) .ret) .skip)) (.seq (.reg [⟨some 19,none,.mv (.t 0)⟩,⟨some 20,none,.mv (.t 6)⟩,⟨some 21,none,.slice true 0 (.t 19) none (some (.t 20))⟩,⟨some 22,none,.call 30 [(.t 21)]⟩,⟨some 18,none,.mv (.t 22)⟩,⟨some 23,none,.ext (.t 18) 0⟩,⟨some 24,none,.ext (.t 18) 1⟩,⟨(some 7),none,(.alloc 34 [(.str ⟨#[]⟩),.nil])⟩,⟨none,none,(.store 2 (.t 7) (.t 23))⟩,⟨some 8,none,.mv (.t 24)⟩]) (.seq (.reg [⟨some 26,none,.mv (.t 0)⟩,⟨some 27,none,.mv (.t 6)⟩,⟨some 28,none,.mv (.t 1)⟩,⟨some 29,none,.len true (.t 28)⟩,⟨some 30,none,.bin .add false (.t 27) (.t 29)⟩,⟨some 31,none,.slice true 0 (.t 26) (some (.t 30)) none⟩,⟨some 32,none,.call 30 [(.t 31)]⟩,⟨some 25,none,.mv (.t 32)⟩,⟨some 33,none,.ext (.t 25) 0⟩,⟨some 34,none,.ext (.t 25) 1⟩,⟨(some 9),none,(.alloc 34 [(.str ⟨#[]⟩),.nil])⟩,⟨none,none,(.store 2 (.t 9) (.t 33))⟩,⟨some 10,none,.mv (.t 34)⟩]) (.seq (.reg [⟨some 35,none,.load true 2 (.t 7)⟩,⟨some 36,none,.load true 2 (.t 9)⟩,⟨(some 37),none,(.mkrow 34 2 [(.str ⟨#[]⟩),.nil] 2 [(0,(.t 35)),(1,(.t 36))])⟩,⟨(some 38),none,(.build [(.str ⟨#[]⟩),.nil] [(0,(1,(.c (.str ⟨#[61]⟩)))),(1,(1,(.t 37)))])⟩,⟨(some 11),none,(.alloc 34 [(.str ⟨#[]⟩),.nil])⟩,⟨none,none,(.store 2 (.t 11) (.t 38))⟩]) (.seq (.seq (.reg [⟨some 39,none,.mv (.t 8)⟩,⟨some 40,none,.un .not (.t 39)⟩,⟨some 41,none,.mv (.t 40)⟩,⟨(some 42),(some (41,false)),(.mv (.t 10))⟩,⟨(some 43),(some (41,false)),(.un .not (.t 42))⟩,⟨some 44,none,.pick (.t 41) (.c (.bool true)) (.t 43)⟩,⟨some 45,none,.mv (.t 44)⟩,⟨(some 46),(some (45,false)),(.load true 2 (.t 11))⟩,⟨(some 47),(some (45,false)),(.call 31 [(.t 46)])⟩,⟨(some 48),(some (45,false)),(.un .not (.t 47))⟩,⟨some 49,none,.pick (.t 45) (.c (.bool true)) (.t 48)⟩]) (.cond (.t 49) (.seq (.reg [⟨(some 50),none,(.build [(.str ⟨#[]⟩),.nil] [])⟩,⟨none,none,(.store 2 (.t 4) (.t 50))⟩,⟨some 5,none,.mv (.c (.bool false))⟩]) .ret) .skip)) (.seq (.reg [⟨some 51,none,.load true 2 (.t 11)⟩,⟨none,none,(.store 2 (.t 4) (.t 51))⟩,⟨some 5,none,.mv (.c (.bool true))⟩]) .ret))))))))
theorem BO:Ai Tryz.prog 29=some ⟨52,B9,[(.cell 4 true 2),(.tmp 5)]⟩:=by kernel_rfl
theorem Ao:modes 29=⟨[],.frz,none,false⟩:=by unfold modes; rfl
def CX:SC:=(.seq (.reg [⟨(some 2),none,(.alloc 34 [(.str ⟨#[]⟩),.nil])⟩,⟨some 3,none,.mv (.c (.bool false))⟩]) (.seq (.seq (.reg [⟨some 9,none,.mv (.t 0)⟩,⟨(some 10),none,(.call 29 [(.t 9),(.c (.str ⟨#[32,61,32]⟩))])⟩,⟨some 8,none,.mv (.t 10)⟩,⟨some 11,none,.ext (.t 8) 0⟩,⟨some 12,none,.ext (.t 8) 1⟩,⟨(some 4),none,(.alloc 34 [(.str ⟨#[]⟩),.nil])⟩,⟨none,none,(.store 2 (.t 4) (.t 11))⟩,⟨some 5,none,.mv (.t 12)⟩]) (.seq (.reg [⟨some 13,none,.mv (.t 5)⟩]) (.cond (.t 13) (.seq (.reg [⟨some 14,none,.load true 2 (.t 4)⟩,⟨none,none,(.store 2 (.t 2) (.t 14))⟩,⟨some 3,none,.mv (.c (.bool true))⟩]) .ret) .skip))) (.seq (.reg [⟨some 16,none,.mv (.t 0)⟩,⟨some 17,none,.call 30 [(.t 16)]⟩,⟨some 15,none,.mv (.t 17)⟩,⟨some 18,none,.ext (.t 15) 0⟩,⟨some 19,none,.ext (.t 15) 1⟩,⟨(some 6),none,(.alloc 34 [(.str ⟨#[]⟩),.nil])⟩,⟨none,none,(.store 2 (.t 6) (.t 18))⟩,⟨some 7,none,.mv (.t 19)⟩]) (.seq (.seq (.reg [⟨some 20,none,.mv (.t 7)⟩,⟨some 21,none,.un .not (.t 20)⟩,⟨some 22,none,.mv (.t 21)⟩,⟨(some 23),(some (22,false)),(.load true 2 (.t 6))⟩,⟨(some 24),(some (22,false)),(.call 31 [(.t 23)])⟩,⟨(some 25),(some (22,false)),(.un .not (.t 24))⟩,⟨some 26,none,.pick (.t 22) (.c (.bool true)) (.t 25)⟩]) (.cond (.t 26) (.seq (.reg [⟨(some 27),none,(.build [(.str ⟨#[]⟩),.nil] [])⟩,⟨none,none,(.store 2 (.t 2) (.t 27))⟩,⟨some 3,none,.mv (.c (.bool false))⟩]) .ret) .skip)) (.seq (.reg [⟨some 28,none,.load true 2 (.t 6)⟩,⟨none,none,(.store 2 (.t 2) (.t 28))⟩,⟨some 3,none,.mv (.c (.bool true))⟩]) .ret)))))
theorem DI:Ai Tryz.prog 32=some ⟨29,CX,[(.cell 2 true 2),(.tmp 3)]⟩:=by kernel_rfl
theorem BE:modes 32=⟨[],.frz,none,false⟩:=by unfold modes; rfl
def SE (s g:ByteArray) (k:Int):Prop:=(k=-1∧∀ j,j+g.size≤s.size→¬ s.extract j (j+g.size)=g)∨∃ i:Nat,k=i∧i+g.size≤s.size∧s.extract i (i+g.size)=g∧∀ j,j<i→¬ s.extract j (j+g.size)=g
theorem O4 (s g:ByteArray) (hs:s.size≤1048576) (hg:g.size≤1048576) (hg0:0<g.size):∃ k:Int,E 16 [.str s,.str g] []=some (.int .i64 k,[])∧SE s g k:=by
 suffices h:∃ out,E 16 [.str s,.str g] []=some out∧∃ k:Int,out=(.int .i64 k,[])∧SE s g k by
  obtain ⟨out,h1,k,rfl,h2⟩:=h
  exact ⟨k,h1,h2⟩
 refine Iz LH Ar (of_decide_eq_true rfl) ?_
 simp (disch:=omega) only [HC,go_sem,Aa]
 refine go_loop (α:=Nat) (fun j=>⟨slots 25 0 [(0,.str s),(1,.str g),(5,.int .i64 (j:Int))],[]⟩) (fun j=>j≤s.size∧∀ i,i<j→¬ s.extract i (i+g.size)=g) (fun j=>s.size-j) 0 ⟨zE _,fun i hi=>absurd hi (by omega)⟩ (by simp (disch:=omega) only [go_sem,Aa]; rfl) ?_
 rintro j ⟨h1,h2⟩
 have hj:((j:Nat):Int).toNat=j:=zW j
 have hjg:((j:Int)+(g.size:Int)).toNat=j+g.size:=by omega
 by_cases hle:j+g.size≤s.size
 ·have q1:((j:Int)+(g.size:Int)≤(s.size:Int))=True:=eq_true (by omega)
  by_cases hx:s.extract j (j+g.size)=g
  ·have q2:(s.extract j (j+g.size)=g)=True:=eq_true hx
   simp (disch:=omega) only [go_sem,Aa,hj,hjg,q1,q2]
   exact ⟨_,rfl,(j:Int),rfl,.inr ⟨j,rfl,hle,hx,h2⟩⟩
  ·have q2:(s.extract j (j+g.size)=g)=False:=eq_false hx
   simp (disch:=omega) only [go_sem,Aa,hj,hjg,q1,q2]
   refine ⟨j+1,⟨by omega,fun i hi=>?_⟩,by omega,by first | trivial | (simp only [yQ,yZ]) | rfl⟩
   rcases zF i j with h | h
   ·exact h2 i h
   ·obtain rfl:i=j:=by omega
    exact hx
 ·have q1:((j:Int)+(g.size:Int)≤(s.size:Int))=False:=eq_false (by omega)
  simp (disch:=omega) only [go_sem,Aa,hj,hjg,q1]
  refine ⟨_,rfl,-1,rfl,.inl ⟨rfl,fun i hi=>h2 i (by omega)⟩⟩
theorem Gb (s:ByteArray):(Co s).nodes≤30:=by
 cases h:Gn s with
 | false=>rw [VG h,Tm.At]; show 1+Tm.A3 []≤30; rw [Tm.A3]; omega
 | true=>exact BN (Le h).1
theorem Lj {g:List UInt8} {gb s:ByteArray} {t:Tm} (hg:gb.toList=32 :: g) (h:LG (32 :: g) s t):∃ a b:Tm,t=.mk ⟨#[61]⟩ [a,b]∧a.valid=true∧b.valid=true∧t.atom=true∧a.fmt.length+gb.size≤s.size∧seg s 0 a.fmt.length=a.fmt∧s.extract a.fmt.length (a.fmt.length+gb.size)=gb∧seg s (a.fmt.length+gb.size) s.size=b.fmt∧∀ i,i<a.fmt.length→¬ s.extract i (i+gb.size)=gb:=by
 obtain ⟨a,b,rfl,ha,hb,hat,hs⟩:=h
 have h0:=Em s
 rw [hs,zM] at h0
 obtain ⟨h1,h2,h3⟩:=CH h0 (zH _) (zE _)
 rw [Nat.zero_add] at h1 h2 h3
 obtain ⟨k1,k2,k3⟩:=CH h3 (zH _) h1
 rw [←hg,An] at k1 k2 k3
 refine ⟨a,b,rfl,ha,hb,hat,k1,h2,AL (by rw [toList_extract,k2]),k3,fun i hi e=>?_⟩
 have e1:seg s i (i+gb.size)=32 :: g:=by rw [←toList_extract,e,hg]
 obtain ⟨_,e2,_⟩:=CV e1 (by omega)
 have hin:i<s.toList.length:=by rw [An]; omega
 rw [CT (by omega)] at e2
 have e3:s.toList[i]=32:=UInt8.toNat_inj.1 (by exact_mod_cast e2)
 have e4:s.toList[i]∈seg s 0 a.fmt.length:=by
  unfold seg
  rw [zN,yW]
  exact List.mem_take_iff_getElem.2 ⟨i,by omega,rfl⟩
 rw [h2,e3] at e4
 exact Tm.IB a (Ak ha) 32 e4 rfl
theorem IE (s gb:ByteArray) (g:List UInt8) (hs:s.size≤1048576) (hg:gb.toList=32 :: g) (hgs:gb.size≤1000):∃ (t:Tm) (b:Bool),E 29 [.str s,.str gb] []=some (.tup [t.sv,.bool b],[])∧((b=true∧LG (32 :: g) s t)∨(b=false∧t=.mk ⟨#[]⟩ []∧∀ u,¬ LG (32 :: g) s u)):=by
 have hg0:0<gb.size:=by rw [←An,hg]; simp
 obtain ⟨k,h1,hk⟩:=O4 s gb hs (by omega) hg0
 rcases hk with ⟨rfl,hk⟩ | ⟨i,rfl,hi,hx,hmin⟩
 ·refine ⟨.mk ⟨#[]⟩ [],false,?_,.inr ⟨rfl,rfl,fun u hu=>?_⟩⟩
  ·rw [HY]
   refine Ab BO Ao (of_decide_eq_true rfl) ?_
   simp (disch:=omega) only [B9,go_sem,Aa,h1,Ar]
  ·obtain ⟨a,b,_,_,_,_,k1,_,k3,_⟩:=Lj hg hu
   exact hk _ k1 k3
 ·have hA:=Hq (s.extract 0 i) (by rw [BD (zE _) (by omega)]; omega)
  have hB:=Hq (s.extract (i+gb.size) s.size) (by rw [BD (by omega) (zH _)]; omega)
  have n1:=Gb (s.extract 0 i)
  have n2:=Gb (s.extract (i+gb.size) s.size)
  have hat:=I7 (.mk ⟨#[61]⟩ [Co (s.extract 0 i),Co (s.extract (i+gb.size) s.size)]) (by
   rw [Tm.At]
   show 1+Tm.A3 [_,_]≤_
   rw [Tm.A3,Tm.A3,Tm.A3]; omega)
  have hsv:(Tm.mk ⟨#[61]⟩ [Co (s.extract 0 i),Co (s.extract (i+gb.size) s.size)]).sv=.agg [.str ⟨#[61]⟩,.arr [[D.str (Co (s.extract 0 i)).name,D.arr ((Co (s.extract 0 i)).args.map Tm.d)],[D.str (Co (s.extract (i+gb.size) s.size)).name,D.arr ((Co (s.extract (i+gb.size) s.size)).args.map Tm.d)]]]:=by
   show SV.agg [.str ⟨#[61]⟩,.arr ([_,_].map Tm.d)]=_
   rw [zD,zD,yD,Tm.d_eq,Tm.d_eq]
  rw [hsv] at hat
  have hin:((i:Nat):Int).toNat=i:=zW i
  have hig:((i:Int)+(gb.size:Int)).toNat=i+gb.size:=by omega
  have hneg:((i:Int)<0)=False:=eq_false (by omega)
  have key:∀ u,LG (32 :: g) s u→Gn (s.extract 0 i)=true∧Gn (s.extract (i+gb.size) s.size)=true∧u=.mk ⟨#[61]⟩ [Co (s.extract 0 i),Co (s.extract (i+gb.size) s.size)]∧u.atom=true:=fun u hu=>by
   obtain ⟨a,b,rfl,va,vb,hua,k1,k2,k3,k4,k5⟩:=Lj hg hu
   have e:i=a.fmt.length:=by
    rcases Nat.lt_trichotomy i a.fmt.length with h | h | h
    ·exact absurd hx (k5 i h)
    ·exact h
    ·exact absurd k3 (hmin _ h)
   have p1:=IC (s:=s.extract 0 i) va (by rw [toList_extract,e,k2])
   have p2:=IC (s:=s.extract (i+gb.size) s.size) vb (by rw [toList_extract,e,k4])
   rw [p1.2,p2.2]
   exact ⟨p1.1,p2.1,rfl,hua⟩
  by_cases hall:Gn (s.extract 0 i)=true∧Gn (s.extract (i+gb.size) s.size)=true∧(Tm.mk ⟨#[61]⟩ [Co (s.extract 0 i),Co (s.extract (i+gb.size) s.size)]).atom=true
  ·obtain ⟨o1,o2,o3⟩:=hall
   rw [o1] at hA
   rw [o2] at hB
   rw [o3] at hat
   obtain ⟨v1,x1⟩:=Le o1
   obtain ⟨v2,x2⟩:=Le o2
   refine ⟨.mk ⟨#[61]⟩ [Co (s.extract 0 i),Co (s.extract (i+gb.size) s.size)],true,?_,.inl ⟨rfl,_,_,rfl,v1,v2,o3,?_⟩⟩
   ·rw [hsv]
    refine Ab BO Ao (of_decide_eq_true rfl) ?_
    simp (disch:=omega) only [B9,go_sem,Aa,h1,hA,hB,hat,hin,hig,hneg,yC,Ar,A6,Av]
   ·rw [←Tm.txt_toList,← Tm.txt_toList,x1,x2,toList_extract,toList_extract,← hg,← hx,toList_extract,← EU (zE _) (by omega),hx,← EU (zE _) hi,Em]
  ·refine ⟨.mk ⟨#[]⟩ [],false,?_,.inr ⟨rfl,rfl,fun u hu=>?_⟩⟩
   ·rw [HY]
    cases o1:Gn (s.extract 0 i) with
    | false =>
     rw [o1] at hA
     refine Ab BO Ao (of_decide_eq_true rfl) ?_
     simp (disch:=omega) only [B9,go_sem,Aa,h1,hA,hB,hin,hig,hneg,yC,Ar,A6,Av]
    | true =>
     rw [o1] at hA
     cases o2:Gn (s.extract (i+gb.size) s.size) with
     | false =>
      rw [o2] at hB
      refine Ab BO Ao (of_decide_eq_true rfl) ?_
      simp (disch:=omega) only [B9,go_sem,Aa,h1,hA,hB,hin,hig,hneg,yC,Ar,A6,Av]
     | true =>
      rw [o2] at hB
      have o3:(Tm.mk ⟨#[61]⟩ [Co (s.extract 0 i),Co (s.extract (i+gb.size) s.size)]).atom=false:=by
       cases h:(Tm.mk ⟨#[61]⟩ [Co (s.extract 0 i),Co (s.extract (i+gb.size) s.size)]).atom with
       | false=>rfl
       | true=>exact absurd ⟨o1,o2,h⟩ hall
      rw [o3] at hat
      refine Ab BO Ao (of_decide_eq_true rfl) ?_
      simp (disch:=omega) only [B9,go_sem,Aa,h1,hA,hB,hat,hin,hig,hneg,yC,Ar,A6,Av]
   ·obtain ⟨k1,k2,rfl,k4⟩:=key u hu
    exact hall ⟨k1,k2,k4⟩
theorem SF (s:ByteArray) (hs:s.size≤1048576):E 32 [.str s] []=some (.tup [(JR s).sv,.bool (Pu s)],[]):=by
 obtain ⟨t,b,h1,h2⟩:=IE s ⟨#[32,61,32]⟩ [61,32] hs (Bv _) (by show 3≤1000; omega)
 have hw:=Hq s hs
 have n1:=Gb s
 have ha:=I7 (Co s) (by omega)
 rcases h2 with ⟨rfl,h2⟩ | ⟨rfl,rfl,h2⟩
 ·obtain ⟨o1,o2⟩:=No (CW.2 (.inl h2))
  rw [o1,o2]
  refine Ab DI BE (of_decide_eq_true rfl) ?_
  simp (disch:=omega) only [CX,go_sem,Aa,h1,Ao]
 ·cases o1:Gn s with
  | false =>
   obtain ⟨q1,q2⟩:=Ux (s:=s) fun u hu=>by
    rcases CW.1 hu with hu | ⟨_,_,hv,hx⟩
    ·exact h2 u hu
    ·rw [(IC hv hx).1] at o1; cases o1
   rw [o1] at hw
   rw [q1,q2,HY]
   refine Ab DI BE (of_decide_eq_true rfl) ?_
   simp (disch:=omega) only [CX,go_sem,Aa,h1,hw,Ao,A6]
  | true =>
   obtain ⟨v1,x1⟩:=Le o1
   have x2:s.toList=(Co s).fmt:=by rw [←Tm.txt_toList,x1]
   rw [o1] at hw
   cases o2:(Co s).atom with
   | false =>
    obtain ⟨q1,q2⟩:=Ux (s:=s) fun u hu=>by
     rcases CW.1 hu with hu | ⟨_,ha,hv,hx⟩
     ·exact h2 u hu
     ·rw [(IC hv hx).2,ha] at o2; cases o2
    rw [o2] at ha
    rw [q1,q2,HY]
    refine Ab DI BE (of_decide_eq_true rfl) ?_
    simp (disch:=omega) only [CX,go_sem,Aa,h1,hw,ha,Ao,A6,Av]
   | true =>
    obtain ⟨q1,q2⟩:=No (s:=s) (t:=Co s) (CW.2 (.inr ⟨Tm.Js (Ak v1),o2,v1,x2⟩))
    rw [o2] at ha
    rw [q1,q2]
    refine Ab DI BE (of_decide_eq_true rfl) ?_
    simp (disch:=omega) only [CX,go_sem,Aa,h1,hw,ha,Ao,A6,Av]
noncomputable def Nq (s:ByteArray) (n:Nat):Option (Lt × Nat) :=
 bif hasB s 0 ⟨#[126]⟩ then (match JK ⟨#[32,61,32]⟩ s n 1 with
  | none=>none
  | some (t,e)=>some (⟨false,t⟩,e))
 else (match rd s n 0 with
  | none=>none
  | some (a,e)=>bif hasB s e ⟨#[32,33,61,32]⟩ then (match rd s n (e+4) with
    | none=>none
    | some (b,e2)=>some (⟨false,.mk ⟨#[61]⟩ [a,b]⟩,e2))
   else bif hasB s e ⟨#[32,61,32]⟩ then (match rd s n (e+3) with
    | none=>none
    | some (b,e2)=>some (⟨true,.mk ⟨#[61]⟩ [a,b]⟩,e2))
   else some (⟨true,a⟩,e))
noncomputable def Lt.fmt (l:Lt):List UInt8:=bif l.pos then l.atom.fmtA else bif l.atom.eqn then Tm.Uw neSign l.atom.args else 126 :: l.atom.fmt
noncomputable def Lt.txt (l:Lt):ByteArray:=⟨l.fmt.toArray⟩
theorem Lt.txt_toList (l:Lt):l.txt.toList=l.fmt:=Bv _
def JS (s:ByteArray) (l:Lt):Prop:=l.atom.atom=true∧l.txt=s
theorem DW {s:ByteArray} {l:Lt}:JS s l ↔ (l.pos=true∧Lf s l.atom)∨(l.pos=false∧LG neSign s l.atom)∨(l.pos=false∧l.atom.eqn=false∧l.atom.atom=true∧l.atom.valid=true∧s.toList=126 :: l.atom.fmt):=by
 obtain ⟨p,t⟩:=l
 constructor
 ·rintro ⟨h1,rfl⟩
  have h1:t.atom=true:=h1
  cases p with
  | true=>exact .inl ⟨rfl,h1,AL (by rw [Tm.Cg,Lt.txt_toList]; rfl)⟩
  | false =>
   right
   rw [Lt.txt_toList]
   unfold Lt.fmt
   rcases Tm.FZ h1 with ⟨h2,h3⟩ | ⟨a,b,rfl,h2,h3,h4,h5⟩
   ·exact .inr ⟨rfl,h2,h1,h3,by simp only [h2,cond_false]⟩
   ·obtain ⟨g1,g2⟩:=Ga h5
    refine .inl ⟨rfl,a,b,rfl,by unfold Tm.valid; rw [g1,h3]; rfl,by unfold Tm.valid; rw [g2,h4]; rfl,h1,?_⟩
    rw [Lt.txt_toList]
    unfold Lt.fmt
    simp only [h2,cond_false,cond_true]; rfl
 ·rintro (⟨hp,h1,h2⟩ | ⟨hp,a,b,ht,h1,h2,h3,h4⟩ | ⟨hp,h1,h2,h3,h4⟩)
  ·refine ⟨h1,AL ?_⟩
   rw [Lt.txt_toList,← h2,Tm.Cg]
   unfold Lt.fmt
   have hp:p=true:=hp
   rw [hp]; rfl
  ·have hp:p=false:=hp
   have ht:t=.mk ⟨#[61]⟩ [a,b]:=ht
   subst hp; subst ht
   refine ⟨h3,AL ?_⟩
   have he:(Tm.mk ⟨#[61]⟩ [a,b]).eqn=true:=by unfold Tm.eqn; exact AJ rfl
   rw [Lt.txt_toList,h4]
   unfold Lt.fmt
   simp only [he,cond_false,cond_true]; rfl
  ·have hp:p=false:=hp
   subst hp
   refine ⟨h2,AL ?_⟩
   have h1:t.eqn=false:=h1
   rw [Lt.txt_toList,h4]
   unfold Lt.fmt
   simp only [h1,cond_false]
theorem Qc {s:ByteArray} {t:Tm} (h:Lf s t):hasB s 0 ⟨#[126]⟩=false:=by
 rcases CW.1 h with ⟨a,b,rfl,h1,h2,_,h4⟩ | ⟨_,_,h1,h2⟩
 ·obtain ⟨c,r,e,hc⟩:=ID (Ak h1)
  rw [Ev (c:=c) (r:=r++eqSign++b.fmt) (by rw [h4,e]; simp),AN hc]
 ·obtain ⟨c,r,e,hc⟩:=ID (Ak h1)
  rw [Ev (c:=c) (r:=r) (by rw [h2,e]),AN hc]
theorem QV {g:List UInt8} {s:ByteArray} {t:Tm} (h:LG g s t):hasB s 0 ⟨#[126]⟩=false:=by
 obtain ⟨a,b,rfl,h1,h2,_,h4⟩:=h
 obtain ⟨c,r,e,hc⟩:=ID (Ak h1)
 rw [Ev (c:=c) (r:=r++g++b.fmt) (by rw [h4,e]; simp),AN hc]
theorem O5 {g:List UInt8} {gb s:ByteArray} {a b:Tm} (hg:gb.toList=32 :: g) (ha:a.valid=true) (hb:b.valid=true) (hs:s.toList=a.fmt++gb.toList++b.fmt) :
  rd s (s.size+1) 0=some (a,a.fmt.length)∧hasB s a.fmt.length gb=true∧rd s (s.size+1) (a.fmt.length+gb.size)=some (b,s.size):=by
 have h0:=Em s
 rw [hs,zM] at h0
 obtain ⟨h1,h2,h3⟩:=CH h0 (zH _) (zE _)
 rw [Nat.zero_add] at h1 h2 h3
 obtain ⟨k1,k2,k3⟩:=CH h3 (zH _) h1
 rw [An] at k1 k2 k3
 have k2':=k2
 rw [hg] at k2'
 obtain ⟨b1,b2,_⟩:=CV k2' (by omega)
 exact ⟨EY (s:=s) a (Ak ha) (s.size+1) 0 a.fmt.length (by omega) (zE _) h2 (.inr ⟨by omega,GE (.inr (.inr (.inr b2))),by rw [b2]; decide⟩) (by omega),
  (Cc (by omega)).2 ⟨k1,k2⟩,EY (s:=s) b (Ak hb) (s.size+1) (a.fmt.length+gb.size) s.size (zH _) (by omega) k3 (.inl rfl) (by omega)⟩
theorem Pv {s:ByteArray} {i:Nat} (hi:i≤s.size) (h:hasB s i ⟨#[32,61,32]⟩=true):hasB s i ⟨#[32,33,61,32]⟩=false:=by
 cases k:hasB s i ⟨#[32,33,61,32]⟩ with
 | false=>rfl
 | true =>
  obtain ⟨h1,h2⟩:=(Cc hi).1 h
  obtain ⟨k1,k2⟩:=(Cc hi).1 k
  have e1:(⟨#[32,61,32]⟩:ByteArray).toList=[32,61,32]:=Bv [32,61,32]
  have e2:(⟨#[32,33,61,32]⟩:ByteArray).toList=[32,33,61,32]:=Bv [32,33,61,32]
  rw [e1] at h2
  rw [e2] at k2
  have h1:i+3≤s.size:=h1
  have k1:i+4≤s.size:=k1
  obtain ⟨_,_,h3⟩:=CV h2 h1
  obtain ⟨_,h4,_⟩:=CV h3 h1
  obtain ⟨_,_,k3⟩:=CV k2 k1
  obtain ⟨_,k4,_⟩:=CV k3 k1
  rw [h4] at k4
  exact absurd k4 (by decide)
theorem Kh {s:ByteArray} {l:Lt} (h:JS s l):Nq s (s.size+1)=some (l,s.size):=by
 have e1:(⟨#[32,61,32]⟩:ByteArray).toList=[32,61,32]:=Bv [32,61,32]
 have e2:(⟨#[32,33,61,32]⟩:ByteArray).toList=[32,33,61,32]:=Bv [32,33,61,32]
 obtain ⟨p,t⟩:=l
 rcases DW.1 h with ⟨hp,ha⟩ | ⟨hp,ha⟩ | ⟨hp,h1,h2,h3,h4⟩
 ·have hp:p=true:=hp
  subst hp
  have hh:=Qc ha
  unfold Nq
  rw [hh,cond_false]
  rcases CW.1 ha with ⟨a,b,ht,h1,h2,_,h4⟩ | ⟨_,_,h1,h2⟩
  ·have ht:t=.mk ⟨#[61]⟩ [a,b]:=ht
   subst ht
   obtain ⟨r1,r2,r3⟩:=O5 (s:=s) (gb:=⟨#[32,61,32]⟩) e1 h1 h2 (by rw [e1]; exact h4)
   have r4:=Pv (M0 _ _ _ _ (zE _) r1).2.1 r2
   have r3:rd s (s.size+1) (a.fmt.length+3)=some (b,s.size):=r3
   rw [r1]
   simp only [r2,r3,r4,cond_true,cond_false]
  ·have h1:t.valid=true:=h1
   have h2:s.toList=t.fmt:=h2
   have r1:=EY (s:=s) t (Ak h1) (s.size+1) 0 s.size (zH _) (zE _) (by rw [Em,h2]) (.inl rfl) (by omega)
   rw [r1]
   simp only [Lh (s:=s) (g:=⟨#[32,61,32]⟩) (by show 0<3; omega),Lh (s:=s) (g:=⟨#[32,33,61,32]⟩) (by show 0<4; omega),cond_false]
 ·have hp:p=false:=hp
  subst hp
  have hh:=QV ha
  obtain ⟨a,b,ht,h1,h2,_,h4⟩:=ha
  have ht:t=.mk ⟨#[61]⟩ [a,b]:=ht
  subst ht
  unfold Nq
  rw [hh,cond_false]
  obtain ⟨r1,r2,r3⟩:=O5 (s:=s) (gb:=⟨#[32,33,61,32]⟩) e2 h1 h2 (by rw [e2]; exact h4)
  have r3:rd s (s.size+1) (a.fmt.length+4)=some (b,s.size):=r3
  rw [r1]
  simp only [r2,r3,cond_true]
 ·have hp:p=false:=hp
  subst hp
  have h3:t.valid=true:=h3
  have h4:s.toList=126 :: t.fmt:=h4
  have hh:=Ev h4
  rw [AJ rfl] at hh
  have h0:=Em s
  rw [h4,show (126:UInt8) :: t.fmt=[126]++t.fmt from rfl] at h0
  obtain ⟨k1,k2,k3⟩:=CH h0 (zH _) (zE _)
  have k3:seg s 1 s.size=t.fmt:=k3
  have k1:1≤s.size:=k1
  have r1:=EY (s:=s) t (Ak h3) (s.size+1) 1 s.size (zH _) k1 k3 (.inl rfl) (by omega)
  unfold Nq
  rw [hh,cond_true]
  unfold JK
  rw [r1]
  simp only [Lh (s:=s) (g:=⟨#[32,61,32]⟩) (by show 0<3; omega),cond_false]
noncomputable def EM (s:ByteArray):Bool:=dec (∃ l,JS s l)
open Classical in
noncomputable def liTo (s:ByteArray):Lt:=if h:∃ l,JS s l then h.choose else ⟨false,.mk ⟨#[]⟩ []⟩
theorem QW {s:ByteArray} {l l':Lt} (h:JS s l) (h':JS s l'):l=l':=by
 have:=(Kh h).symm.trans (Kh h')
 simp only [zB,zG] at this
 exact this.1
theorem Lk {s:ByteArray} {l:Lt} (h:JS s l):EM s=true∧liTo s=l:=by
 have he:∃ l,JS s l:=⟨l,h⟩
 refine ⟨AJ he,?_⟩
 unfold liTo
 rw [dif_pos he]
 exact QW he.choose_spec h
theorem Qd {s:ByteArray} (h:∀ l,¬ JS s l):EM s=false∧liTo s=⟨false,.mk ⟨#[]⟩ []⟩:=by
 have he:¬ ∃ l,JS s l:=fun ⟨l,hl⟩=>h l hl
 refine ⟨AN he,?_⟩
 unfold liTo
 rw [dif_neg he]
theorem Qe {s:ByteArray} (h:EM s=true):(liTo s).atom.atom=true:=by
 obtain ⟨l,hl⟩:=Aj.1 h
 rw [(Lk hl).2]; exact hl.1
theorem MD {s:ByteArray} {i j e f:Nat} {a b:Tm} (h1:rd s (s.size+1) i=some (a,e)) (h2:rd s (s.size+1) j=some (b,f)):(Tm.mk ⟨#[61]⟩ [a,b]).nodes≤2*s.size+1:=by
 have n1:=EH _ _ _ _ h1
 have z1:=Np _ _ _ h1
 have n2:=EH _ _ _ _ h2
 have z2:=Np _ _ _ h2
 rw [Tm.At]
 show 1+Tm.A3 [a,b]≤_
 rw [Tm.A3,Tm.A3,Tm.A3]
 omega
theorem Pw {s:ByteArray} {l:Lt} {e:Nat} (h:Nq s (s.size+1)=some (l,e)):l.atom.nodes≤2*s.size+1:=by
 unfold Nq at h
 cases h0:hasB s 0 ⟨#[126]⟩ with
 | true =>
  rw [h0,cond_true] at h
  cases h1:JK ⟨#[32,61,32]⟩ s (s.size+1) 1 with
  | none=>rw [h1] at h; cases h
  | some p =>
   obtain ⟨t,e0⟩:=p
   rw [h1] at h
   simp only [zB,zG] at h
   obtain ⟨rfl,rfl⟩:=h
   exact O3 h1 Np
 | false =>
  rw [h0,cond_false] at h
  cases h1:rd s (s.size+1) 0 with
  | none=>rw [h1] at h; cases h
  | some p =>
   obtain ⟨a,e0⟩:=p
   rw [h1] at h
   simp only at h
   have n1:=EH _ _ _ _ h1
   have z1:=Np _ _ _ h1
   cases hn:hasB s e0 ⟨#[32,33,61,32]⟩ with
   | true =>
    rw [hn,cond_true] at h
    cases h2:rd s (s.size+1) (e0+4) with
    | none=>rw [h2] at h; cases h
    | some p =>
     obtain ⟨b,e2⟩:=p
     rw [h2] at h
     simp only [zB,zG] at h
     obtain ⟨rfl,rfl⟩:=h
     exact MD h1 h2
   | false =>
    rw [hn,cond_false] at h
    cases hq:hasB s e0 ⟨#[32,61,32]⟩ with
    | true =>
     rw [hq,cond_true] at h
     cases h2:rd s (s.size+1) (e0+3) with
     | none=>rw [h2] at h; cases h
     | some p =>
      obtain ⟨b,e2⟩:=p
      rw [h2] at h
      simp only [zB,zG] at h
      obtain ⟨rfl,rfl⟩:=h
      exact MD h1 h2
    | false =>
     rw [hq,cond_false] at h
     simp only [zB,zG] at h
     obtain ⟨rfl,rfl⟩:=h
     show a.nodes≤_
     omega
noncomputable def Ia (a b:ByteArray):Int:=bif strLt a b then -1 else bif dec (a=b) then 0 else 1
noncomputable def Ll (a b:Int):Int:=bif dec (a<b) then -1 else bif dec (b<a) then 1 else 0
def orZ (x y:Int):Int:=if x=0 then y else x
mutual
noncomputable def Tm.cmp:Tm→Tm→Int
 | .mk n xs,y=>if BY n&&!BY y.name then -1 else if BY y.name&&!BY n then 1 else orZ (orZ (Ia n y.name) (Ll xs.length y.args.length)) (Tm.Gp xs y.args)
noncomputable def Tm.Gp:List Tm→List Tm→Int
 | [],[]=>0
 | [],_ :: _=>-1
 | _ :: _,[]=>1
 | x :: xs,y :: ys=>orZ (Tm.cmp x y) (Tm.Gp xs ys)
end
theorem Tm.SG (x y:Tm):x.cmp y=if BY x.name&&!BY y.name then -1 else if BY y.name&&!BY x.name then 1 else orZ (orZ (Ia x.name y.name) (Ll x.args.length y.args.length)) (Tm.Gp x.args y.args):=by
 obtain ⟨n,xs⟩:=x
 rw [Tm.cmp]; rfl
def HD (s:ByteArray):Bool:=decide (0<s.size)&&(KR (Gg s 0) == BY s)
mutual
def Tm.cok:Tm→Bool
 | .mk n xs=>HD n&&Tm.Px xs
def Tm.Px:List Tm→Bool
 | []=>true
 | x :: xs=>Tm.cok x&&Tm.Px xs
end
theorem Tm.Nr (x:Tm):x.cok=(HD x.name&&Tm.Px x.args):=by
 obtain ⟨n,xs⟩:=x
 rw [Tm.cok]; rfl
theorem Tm.IF {xs:List Tm} (h:Tm.Px xs=true) {y:Tm} (hy:y∈xs):y.cok=true:=by
 induction xs with
 | nil=>cases hy
 | cons x xs ih =>
  rw [Tm.Px,zA] at h
  rcases zY.1 hy with rfl | hy
  ·exact h.1
  ·exact ih h.2 hy
def JL (b:Bool):Int:=if b then 1 else 0
noncomputable def Lt.cmp (x y:Lt):Int:=orZ (x.atom.cmp y.atom) (Ll (JL x.pos) (JL y.pos))
structure Ord3 {α:Type} (c:α→α→Int) (a b d:α):Prop where
 anti:c b a=- c a b
 zero:c a b=0 ↔ a=b
 trans:c a b<0→c b d<0→c a d<0
theorem ME {xs ys:List Tm} {k:Nat} (h:k<xs.length) (h':k<ys.length):Tm.Gp (xs.drop k) (ys.drop k)=orZ (xs[k].cmp ys[k]) (Tm.Gp (xs.drop (k+1)) (ys.drop (k+1))):=by
 rw [zC h,zC h',Tm.Gp]
theorem Py {xs ys:List Tm} {k:Nat} (h:k<xs.length) (h':ys.length≤k):Tm.Gp (xs.drop k) (ys.drop k)=1:=by
 rw [zC h,zJ h',Tm.Gp]
theorem SH {xs ys:List Tm} {k:Nat} (h:xs.length≤k) (h':k<ys.length):Tm.Gp (xs.drop k) (ys.drop k)=-1:=by
 rw [zC h',zJ h,Tm.Gp]
theorem MG {xs ys:List Tm} {k:Nat} (h:xs.length≤k) (h':ys.length≤k):Tm.Gp (xs.drop k) (ys.drop k)=0:=by
 rw [zJ h',zJ h,Tm.Gp]
theorem Ib {p:Nat→Int→Bool} {s:ByteArray} (h:Dm p s s.size=true) (hs:0<s.size):p 0 (Gg s 0)=true:=by
 unfold Dm at h
 rw [zZ] at h
 exact h 0 (List.mem_range.2 hs)
theorem QX {s:ByteArray} (h:BY s=true):HD s=true:=by
 have h0:=h
 unfold BY inB at h
 rw [zA,zA,decide_eq_true_eq,decide_eq_true_eq] at h
 have hs:0<s.size:=by omega
 have h1:=Ib h.1 hs
 unfold Gh at h1
 unfold HD
 rw [h0]
 simp at h1
 simp [hs,h1]
theorem MH {s:ByteArray} (hs:0<s.size) (h:KR (Gg s 0)=false):HD s=true:=by
 have hv:BY s=false:=by
  rw [Bool.eq_false_iff]
  intro hv
  unfold BY at hv
  rw [zA] at hv
  have h1:=Ib hv.1 hs
  unfold Gh at h1
  rw [h] at h1
  simp at h1
 unfold HD
 rw [hv,h]
 simp [hs]
theorem QY {s:ByteArray} (h:Dn s=true):HD s=true:=by
 unfold Dn inB at h
 rw [zA,zA,zA,decide_eq_true_eq,decide_eq_true_eq] at h
 have hs:0<s.size:=by omega
 refine MH hs ?_
 have h1:=Ib h.1.1 hs
 unfold G9 at h1
 simp at h1
 have h2:=h1.1
 unfold L5 at h2
 unfold KR
 simp at h2 ⊢
 omega
theorem QZ {s:ByteArray} (h:s.toList=[61]):HD s=true:=by
 have hs:s.size=1:=by
  have:=congrArg yO h
  rw [ByteArray.toList_eq] at this
  simpa using this
 refine MH (by omega) ?_
 unfold Gg
 rw [h]
 rfl
mutual
theorem Tm.MJ:∀ x:Tm,x.names=true→x.cok=true
 | .mk n xs,h=>by
  rw [Tm.names] at h
  rw [Tm.cok,zA]
  split at h
  ·rename_i hv
   have:xs=[]:=by
    rw [beq_iff_eq] at h
    exact zQ h
   subst this
   exact ⟨QX hv,rfl⟩
  ·rw [zA,zA] at h
   exact ⟨QY h.1.1,Tm.Ic xs h.2⟩
theorem Tm.Ic:∀ xs:List Tm,Tm.Eb xs=true→Tm.Px xs=true
 | [],_=>rfl
 | x :: xs,h=>by
  rw [Tm.Eb,zA] at h
  rw [Tm.Px,zA]
  exact ⟨Tm.MJ x h.1,Tm.Ic xs h.2⟩
end
theorem Tm.IG {x:Tm} (h:x.atom=true):x.cok=true:=by
 unfold Tm.atom at h
 rcases he:x.eqn with _ | _
 ·rw [he,if_neg (by simp),zA] at h
  unfold Tm.valid at h
  rw [zA] at h
  exact Tm.MJ x h.2.2
 ·rw [he,if_pos rfl,zA,zA] at h
  unfold Tm.eqn at he
  rw [Aj] at he
  rw [Tm.Nr,zA]
  exact ⟨QZ (by rw [he,ByteArray.toList_eq]),Tm.Ic _ h.2⟩
theorem Ra {s:ByteArray} {k:Nat} (h:k<s.size):A1 s k=Gg s k:=by
 rw [←DA h]
 unfold A1
 rw [show s[k]?=some s[k] from getElem?_pos s k h]; rfl
theorem Rb {s:ByteArray} (h:HD s=true):0<s.size∧(dec (65≤A1 s 0)&&dec (A1 s 0≤90))=BY s:=by
 unfold HD at h
 rw [zA,decide_eq_true_eq,beq_iff_eq] at h
 refine ⟨h.1,?_⟩
 rw [←h.2,Ra h.1,Jf,Jf]
 unfold KR
 rfl
theorem Pz (a:ByteArray):strLt a a=false:=by
 unfold strLt
 have key:∀ l:List UInt8,Op.bytesLess l l=false:=by
  intro l
  induction l with
  | nil=>rfl
  | cons x l ih=>simp [Op.bytesLess,ih]
 exact key _
def EI:SC:=(.seq (.reg [⟨some 2,none,.mv (.c (.bool false))⟩]) (.seq (.reg [⟨some 3,none,.mv (.t 0)⟩,⟨some 4,none,.mv (.t 0)⟩,⟨some 5,none,.bin .neq false (.t 3) (.t 4)⟩,⟨some 2,none,.mv (.t 5)⟩]) .ret))
theorem Id:Ai Tryz.prog 98=some ⟨6,EI,[(.tmp 2)]⟩:=by kernel_rfl
theorem Cq:modes 98=⟨[],.asis,none,false⟩:=by unfold modes; rfl
def Gj:SC:=(.seq (.reg [⟨some 2,none,.mv (.c (.bool false))⟩]) (.seq (.reg [⟨some 3,none,.mv (.t 0)⟩,⟨some 4,none,.mv (.t 0)⟩,⟨some 5,none,.bin .neq false (.t 3) (.t 4)⟩,⟨some 2,none,.mv (.t 5)⟩]) .ret))
theorem JT:Ai Tryz.prog 69=some ⟨6,Gj,[(.tmp 2)]⟩:=by kernel_rfl
theorem Dc:modes 69=⟨[],.asis,none,false⟩:=by unfold modes; rfl
def BP:SC:=(.seq (.reg [⟨some 4,none,.mv (.c (.int .i64 0))⟩]) (.seq (.reg [⟨some 7,none,.mv (.t 0)⟩,⟨some 8,none,.call 98 [(.t 7)]⟩,⟨some 5,none,.mv (.t 8)⟩]) (.seq (.reg [⟨some 9,none,.mv (.t 1)⟩,⟨some 10,none,.call 98 [(.t 9)]⟩,⟨some 6,none,.mv (.t 10)⟩]) (.seq (.seq (.reg [⟨some 11,none,.mv (.t 5)⟩]) (.cond (.t 11) (.seq (.seq (.reg [⟨some 12,none,.mv (.t 6)⟩]) (.cond (.t 12) (.seq (.reg [⟨some 4,none,.mv (.c (.int .i64 0))⟩]) .ret) .skip)) (.seq (.reg [⟨some 4,none,.mv (.c (.int .i64 (-(0+1))))⟩]) .ret)) .skip)) (.seq (.seq (.reg [⟨some 13,none,.mv (.t 6)⟩]) (.cond (.t 13) (.seq (.reg [⟨some 4,none,.mv (.c (.int .i64 1))⟩]) .ret) .skip)) (.seq (.seq (.reg [⟨some 14,none,.mv (.t 0)⟩,⟨some 15,none,.mv (.t 1)⟩,⟨some 16,none,.bin .lss false (.t 14) (.t 15)⟩]) (.cond (.t 16) (.seq (.reg [⟨some 4,none,.mv (.c (.int .i64 (-(0+1))))⟩]) .ret) .skip)) (.seq (.seq (.reg [⟨some 17,none,.mv (.t 0)⟩,⟨some 18,none,.mv (.t 1)⟩,⟨some 19,none,.bin .gtr false (.t 17) (.t 18)⟩]) (.cond (.t 19) (.seq (.reg [⟨some 4,none,.mv (.c (.int .i64 1))⟩]) .ret) .skip)) (.seq (.reg [⟨some 4,none,.mv (.c (.int .i64 0))⟩]) .ret))))))))
theorem CA:Ai Tryz.prog 67=some ⟨20,BP,[(.tmp 4)]⟩:=by kernel_rfl
theorem B7:modes 67=⟨[],.asis,none,false⟩:=by unfold modes; rfl
def C0:SC:=(.seq (.reg [⟨some 4,none,.mv (.c (.int .i64 0))⟩]) (.seq (.reg [⟨some 7,none,.mv (.t 0)⟩,⟨some 8,none,.call 69 [(.t 7)]⟩,⟨some 5,none,.mv (.t 8)⟩]) (.seq (.reg [⟨some 9,none,.mv (.t 1)⟩,⟨some 10,none,.call 69 [(.t 9)]⟩,⟨some 6,none,.mv (.t 10)⟩]) (.seq (.seq (.reg [⟨some 11,none,.mv (.t 5)⟩]) (.cond (.t 11) (.seq (.seq (.reg [⟨some 12,none,.mv (.t 6)⟩]) (.cond (.t 12) (.seq (.reg [⟨some 4,none,.mv (.c (.int .i64 0))⟩]) .ret) .skip)) (.seq (.reg [⟨some 4,none,.mv (.c (.int .i64 (-(0+1))))⟩]) .ret)) .skip)) (.seq (.seq (.reg [⟨some 13,none,.mv (.t 6)⟩]) (.cond (.t 13) (.seq (.reg [⟨some 4,none,.mv (.c (.int .i64 1))⟩]) .ret) .skip)) (.seq (.seq (.reg [⟨some 14,none,.mv (.t 0)⟩,⟨some 15,none,.mv (.t 1)⟩,⟨some 16,none,.bin .lss false (.t 14) (.t 15)⟩]) (.cond (.t 16) (.seq (.reg [⟨some 4,none,.mv (.c (.int .i64 (-(0+1))))⟩]) .ret) .skip)) (.seq (.seq (.reg [⟨some 17,none,.mv (.t 0)⟩,⟨some 18,none,.mv (.t 1)⟩,⟨some 19,none,.bin .gtr false (.t 17) (.t 18)⟩]) (.cond (.t 19) (.seq (.reg [⟨some 4,none,.mv (.c (.int .i64 1))⟩]) .ret) .skip)) (.seq (.reg [⟨some 4,none,.mv (.c (.int .i64 0))⟩]) .ret))))))))
theorem Dy:Ai Tryz.prog 45=some ⟨20,C0,[(.tmp 4)]⟩:=by kernel_rfl
theorem BA:modes 45=⟨[],.asis,none,false⟩:=by unfold modes; rfl
def IH:SC:=(.seq (.reg [⟨some 2,none,.mv (.c (.int .i64 0))⟩]) (.seq (.reg [⟨some 3,none,.mv (.c (.int .i64 0))⟩]) (.seq (.seq (.reg [⟨some 6,none,.mv (.t 0)⟩,⟨some 7,none,.len false (.t 6)⟩,⟨some 8,none,.mv (.c (.int .i64 0))⟩]) (.block 0 (.loop [0,0,0,1,0,0,1,1,1,0,0,0,0,0,0,0,0,0] (.seq (.reg [⟨some 9,none,.bin .lss false (.t 8) (.t 7)⟩]) (.seq (.cond (.t 9) .skip (.exit 0)) (.seq (.block 1 (.seq (.reg [⟨some 10,none,.iaddr 1 (.t 6) (.t 8)⟩,⟨some 11,none,.load false 1 (.t 10)⟩,⟨some 5,none,.mv (.t 11)⟩]) (.seq (.reg [⟨some 12,none,.mv (.t 5)⟩,⟨some 13,none,.mv (.t 3)⟩,⟨some 14,none,.bin .neq false (.t 12) (.t 13)⟩]) (.cond (.t 14) (.seq (.reg [⟨some 15,none,.mv (.t 5)⟩,⟨some 2,none,.mv (.t 15)⟩]) .ret) .skip)))) (.reg [⟨some 16,none,.bin .add false (.t 8) (.c (.int .i64 1))⟩,⟨some 8,none,.mv (.t 16)⟩]))))))) (.seq (.reg [⟨some 17,none,.mv (.t 3)⟩,⟨some 2,none,.mv (.t 17)⟩]) .ret))))
theorem Ns:Ai Tryz.prog 43=some ⟨18,IH,[(.tmp 2)]⟩:=by kernel_rfl
theorem Ep:modes 43=⟨[],.asis,none,false⟩:=by unfold modes; rfl
theorem O6 (a:ByteArray):E 98 [.str a] []=some (.bool false,[]):=by
 refine Ab Id Cq (of_decide_eq_true rfl) ?_
 simp (disch:=omega) only [EI,go_sem,Aa]
theorem O7 (a:Int):E 69 [.int .i64 a] []=some (.bool false,[]):=by
 refine Ab JT Dc (of_decide_eq_true rfl) ?_
 simp (disch:=omega) only [Gj,go_sem,Aa]
theorem P0 (a b:ByteArray):E 67 [.str a,.str b] []=some (.int .i64 (Ia a b),[]):=by
 have h1:=O6 a
 have h2:=O6 b
 unfold Ia
 cases h3:strLt a b
 ·cases h4:dec (a=b)
  ·refine Ab CA B7 (of_decide_eq_true rfl) ?_
   simp (disch:=omega) only [BP,go_sem,Aa,h1,h2,h3,h4,Cq]
  ·refine Ab CA B7 (of_decide_eq_true rfl) ?_
   simp (disch:=omega) only [BP,go_sem,Aa,h1,h2,h3,h4,Cq]
 ·refine Ab CA B7 (of_decide_eq_true rfl) ?_
  simp (disch:=omega) only [BP,go_sem,Aa,h1,h2,h3,Cq]
theorem Lm (a b:Int):E 45 [.int .i64 a,.int .i64 b] []=some (.int .i64 (Ll a b),[]):=by
 have h1:=O7 a
 have h2:=O7 b
 unfold Ll
 cases h3:dec (a<b)
 ·cases h4:dec (b<a)
  ·refine Ab Dy BA (of_decide_eq_true rfl) ?_
   simp (disch:=omega) only [C0,go_sem,Aa,h1,h2,h3,h4,Dc]
  ·refine Ab Dy BA (of_decide_eq_true rfl) ?_
   simp (disch:=omega) only [C0,go_sem,Aa,h1,h2,h3,h4,Dc]
 ·refine Ab Dy BA (of_decide_eq_true rfl) ?_
  simp (disch:=omega) only [C0,go_sem,Aa,h1,h2,h3,Dc]
def orL:List Int→Int
 | []=>0
 | x :: xs=>if x=0 then orL xs else x
theorem VI (xs:List Int) (hl:xs.length≤1099511627776):E 43 [.arr (xs.map fun n=>[D.int n])] []=some (.int .i64 (orL xs),[]):=by
 refine Ab Ns Ep (of_decide_eq_true rfl) ?_
 simp (disch:=omega) only [IH,go_sem,Aa]
 refine go_loop (α:=Int) (fun a=>⟨slots 18 0 [(3,.int .i64 0),(6,.arr (xs.map fun n=>[D.int n])),(7,.int .i64 xs.length),(8,.int .i64 a)],[]⟩) (fun a=>∃ k:Nat,a=k∧k≤(xs).length∧orL (xs.drop k)=orL xs) (fun a=>(xs).length-(a).toNat) 0 ⟨0,rfl,zE _,by rw [zN]⟩ (by simp (disch:=omega) only [go_sem,Aa]) ?_
 rintro i ⟨k,hi,hk,hR⟩
 have hni:i.toNat=k:=by omega
 have hni1:(i+1).toNat=k+1:=by omega
 rcases zF k (xs).length with hlt | hge
 ·have hg:=get_at (fun n=>[D.int n]) hlt
  rw [zC hlt,orL] at hR
  by_cases h0:xs[k]=0
  ·rw [if_pos h0] at hR
   simp (disch:=omega) only [go_sem,Aa,hni,hg,h0]
   exact ⟨i+1,⟨k+1,by omega,hlt,hR⟩,by omega,by first | trivial | rfl⟩
  ·rw [if_neg h0] at hR
   simp (disch:=omega) only [go_sem,Aa,hni,hg,h0]
   exact hR
 ·rw [zJ hge,orL] at hR
  simp (disch:=omega) only [go_sem,Aa,hni]
  exact hR
theorem Uy (a b:Int):E 43 [.arr [[.int a],[.int b]]] []=some (.int .i64 (orZ a b),[]):=by
 have h:=VI [a,b] (by simp)
 have e:orL [a,b]=orZ a b:=by
  simp only [orL,orZ]
  split
  ·split <;> omega
  ·rfl
 rw [e] at h
 exact h
def II:SC:=(.seq (.reg [⟨some 1,none,.boxv 34 2 (.t 0)⟩,⟨some 2,none,.mv (.c (.bool false))⟩]) (.seq (.reg [⟨some 3,none,.faddr 0 (.t 1)⟩,⟨some 4,none,.load false 1 (.t 3)⟩,⟨some 5,none,.idx (.t 4) (.c (.int .i64 0))⟩,⟨some 6,none,.call 85 [(.t 5)]⟩,⟨some 2,none,.mv (.t 6)⟩]) .ret))
theorem Nt:Ai Tryz.prog 66=some ⟨7,II,[(.tmp 2)]⟩:=by kernel_rfl
theorem Gc:modes 66=⟨[],.asis,none,false⟩:=by unfold modes; rfl
theorem Rc (n:Int):E 85 [.int .u8 n] []=some (.bool (dec (65≤n)&&dec (n≤90)),[]):=by
 cases h1:dec (65≤n)
 ·refine Ab Du B6 (of_decide_eq_true rfl) ?_
  simp (disch:=omega) only [C6,go_sem,Aa,h1]
 ·refine Ab Du B6 (of_decide_eq_true rfl) ?_
  simp (disch:=omega) only [C6,go_sem,Aa,h1]
theorem Qf (x:Tm) (h:x.cok=true):E 66 [x.sv] []=some (.bool (BY x.name),[]):=by
 rw [Tm.Nr,zA] at h
 obtain ⟨h1,h2⟩:=Rb h.1
 have h3:=Rc (A1 x.name 0)
 rw [h2] at h3
 refine Ab Nt Gc (of_decide_eq_true rfl) ?_
 simp (disch:=omega) only [II,go_sem,Aa,h3,B6]
def AE:SC:=(.seq (.reg [⟨some 6,none,.mv (.c (.int .i64 0))⟩]) (.seq (.seq (.reg [⟨some 11,none,.mv (.t 0)⟩,⟨some 12,none,.len false (.t 11)⟩,⟨some 13,none,.mv (.c (.int .i64 0))⟩]) (.block 0 (.loop [1,1,1,0,0,0,0,0,0,0,0,1,1,1,0,0,0,0,0,0,0,0,0,0,0,0,0,0,0,0,0,0,0,0,0,0,0,0,0] (.seq (.reg [⟨some 14,none,.bin .lss false (.t 13) (.t 12)⟩]) (.seq (.cond (.t 14) .skip (.exit 0)) (.seq (.block 1 (.seq (.reg [⟨some 15,none,.mv (.t 13)⟩,⟨some 16,none,.iaddr 2 (.t 11) (.t 13)⟩,⟨some 17,none,.load true 2 (.t 16)⟩,⟨(some 8),none,(.alloc 34 [(.str ⟨#[]⟩),.nil])⟩,⟨some 7,none,.mv (.t 15)⟩,⟨none,none,(.store 2 (.t 8) (.t 17))⟩]) (.seq (.seq (.reg [⟨some 18,none,.mv (.t 7)⟩,⟨some 19,none,.mv (.t 1)⟩,⟨some 20,none,.len false (.t 19)⟩,⟨some 21,none,.bin .geq false (.t 18) (.t 20)⟩]) (.cond (.t 21) (.seq (.reg [⟨some 6,none,.mv (.c (.int .i64 1))⟩]) .ret) .skip)) (.seq (.reg [⟨some 22,none,.mv (.t 1)⟩,⟨some 23,none,.mv (.t 7)⟩,⟨some 24,none,.iaddr 2 (.t 22) (.t 23)⟩,⟨some 25,none,.load true 2 (.t 24)⟩,⟨(some 9),none,(.alloc 34 [(.str ⟨#[]⟩),.nil])⟩,⟨none,none,(.store 2 (.t 9) (.t 25))⟩]) (.seq (.reg [⟨some 26,none,.mv (.t 2)⟩,⟨some 27,none,.load true 2 (.t 8)⟩,⟨some 28,none,.load true 2 (.t 9)⟩,⟨some 29,none,.callv (.t 26) [(.t 27),(.t 28)]⟩,⟨some 10,none,.mv (.t 29)⟩]) (.seq (.reg [⟨some 30,none,.mv (.t 10)⟩,⟨some 31,none,.bin .neq false (.t 30) (.c (.int .i64 0))⟩]) (.cond (.t 31) (.seq (.reg [⟨some 32,none,.mv (.t 10)⟩,⟨some 6,none,.mv (.t 32)⟩]) .ret) .skip))))))) (.reg [⟨some 33,none,.bin .add false (.t 13) (.c (.int .i64 1))⟩,⟨some 13,none,.mv (.t 33)⟩]))))))) (.seq (.seq (.reg [⟨some 34,none,.mv (.t 0)⟩,⟨some 35,none,.len false (.t 34)⟩,⟨some 36,none,.mv (.t 1)⟩,⟨some 37,none,.len false (.t 36)⟩,⟨some 38,none,.bin .lss false (.t 35) (.t 37)⟩]) (.cond (.t 38) (.seq (.reg [⟨some 6,none,.mv (.c (.int .i64 (-(0+1))))⟩]) .ret) .skip)) (.seq (.reg [⟨some 6,none,.mv (.c (.int .i64 0))⟩]) .ret))))
theorem Bt:Ai Tryz.prog 68=some ⟨39,AE,[(.tmp 6)]⟩:=by kernel_rfl
theorem AF:modes 68=⟨[],.asis,none,false⟩:=by unfold modes; rfl
def CN:SC:=(.seq (.reg [⟨some 2,none,.boxv 34 2 (.t 0)⟩,⟨some 3,none,.boxv 34 2 (.t 1)⟩,⟨some 4,none,.mv (.c (.int .i64 0))⟩]) (.seq (.dreg [[],[0],[],[2,1,0],[1,0,3,2],[3,2,1,0,4]] [⟨some 8,none,.load true 2 (.t 2)⟩,⟨some 9,none,.call 66 [(.t 8)]⟩,⟨some 10,none,.load true 2 (.t 3)⟩,⟨some 11,none,.call 66 [(.t 10)]⟩,⟨some 5,none,.mv (.t 9)⟩,⟨some 6,none,.mv (.t 11)⟩]) (.seq (.block 0 (.seq (.reg [⟨some 13,none,.mv (.t 5)⟩,⟨some 14,none,.mv (.t 13)⟩,⟨(some 15),(some (14,true)),(.mv (.t 6))⟩,⟨(some 16),(some (14,true)),(.un .not (.t 15))⟩,⟨some 17,none,.pick (.t 14) (.t 16) (.c (.bool false))⟩,⟨some 12,none,.mv (.t 17)⟩]) (.cond (.t 12) (.seq (.reg [⟨some 4,none,.mv (.c (.int .i64 (-(0+1))))⟩]) .ret) (.seq (.reg [⟨some 19,none,.mv (.t 6)⟩,⟨some 20,none,.mv (.t 19)⟩,⟨(some 21),(some (20,true)),(.mv (.t 5))⟩,⟨(some 22),(some (20,true)),(.un .not (.t 21))⟩,⟨some 23,none,.pick (.t 20) (.t 22) (.c (.bool false))⟩,⟨some 18,none,.mv (.t 23)⟩]) (.cond (.t 18) (.seq (.reg [⟨some 4,none,.mv (.c (.int .i64 1))⟩]) .ret) .skip))))) (.seq (.seq (.dreg [[],[0],[],[2],[1,0,3,2],[],[5],[6,5],[],[8],[9,8],[7,6,5,10,9,8,4,1,0,3,2],[4,1,0,3,2,11,7,6,5,10,9,8],[12,4,1,0,3,2,11,7,6,5,10,9,8],[13,12,4,1,0,3,2,11,7,6,5,10,9,8]] [⟨some 24,none,.faddr 0 (.t 2)⟩,⟨some 25,none,.load false 1 (.t 24)⟩,⟨some 26,none,.faddr 0 (.t 3)⟩,⟨some 27,none,.load false 1 (.t 26)⟩,⟨some 28,none,.call 67 [(.t 25),(.t 27)]⟩,⟨some 29,none,.faddr 1 (.t 2)⟩,⟨some 30,none,.load false 1 (.t 29)⟩,⟨some 31,none,.len false (.t 30)⟩,⟨some 32,none,.faddr 1 (.t 3)⟩,⟨some 33,none,.load false 1 (.t 32)⟩,⟨some 34,none,.len false (.t 33)⟩,⟨some 35,none,.call 45 [(.t 31),(.t 34)]⟩,⟨some 36,none,.mkrow 3 1 [(.int .i64 0)] 2 [(0,(.t 28)),(1,(.t 35))]⟩,⟨some 37,none,.call 43 [(.t 36)]⟩,⟨some 7,none,.mv (.t 37)⟩]) (.seq (.reg [⟨some 38,none,.mv (.t 7)⟩,⟨some 39,none,.bin .neq false (.t 38) (.c (.int .i64 0))⟩]) (.cond (.t 39) (.seq (.reg [⟨some 40,none,.mv (.t 7)⟩,⟨some 4,none,.mv (.t 40)⟩]) .ret) .skip))) (.seq (.reg [⟨some 41,none,.faddr 1 (.t 2)⟩,⟨some 42,none,.load false 1 (.t 41)⟩,⟨some 43,none,.faddr 1 (.t 3)⟩,⟨some 44,none,.load false 1 (.t 43)⟩,⟨some 45,none,.call 68 [(.t 42),(.t 44),(.c (.fn 44 []))]⟩,⟨some 4,none,.mv (.t 45)⟩]) .ret)))))
theorem Ef:Ai Tryz.prog 44=some ⟨46,CN,[(.tmp 4)]⟩:=by kernel_rfl
theorem BZ:modes 44=⟨[],.asis,none,false⟩:=by unfold modes; rfl
theorem Hu:Kn Tryz.prog 44=true:=by kernel_rfl
theorem LI (fid:Nat) (xs ys:List Tm) (hl:xs.length≤1099511627776) (hl':ys.length≤1099511627776) (hg:Kn Tryz.prog fid=true) (hm:(modes fid).hand=[]) (hE:∀ x∈xs,∀ y∈ys,E fid [x.sv,y.sv] []=some (.int .i64 (x.cmp y),[])):E 68 [.arr (xs.map Tm.d),.arr (ys.map Tm.d),.fn fid []] []=some (.int .i64 (Tm.Gp xs ys),[]):=by
 refine Ab Bt AF (of_decide_eq_true rfl) ?_
 simp (disch:=omega) only [AE,go_sem,Aa]
 refine go_loop (α:=Int) (fun a=>⟨slots 39 0 [(0,.arr (xs.map Tm.d)),(1,.arr (ys.map Tm.d)),(2,.fn fid []),(11,.arr (xs.map Tm.d)),(12,.int .i64 xs.length),(13,.int .i64 a)],[]⟩) (fun a=>∃ k:Nat,a=k∧k≤(xs).length∧k≤ys.length∧Tm.Gp (xs.drop k) (ys.drop k)=Tm.Gp xs ys) (fun a=>(xs).length-(a).toNat) 0 ⟨0,rfl,zE _,zE _,by rw [zN,zN]⟩ (by simp (disch:=omega) only [go_sem,Aa]) ?_
 rintro i ⟨k,hi,hk,hR⟩
 have hni:i.toNat=k:=by omega
 have hni1:(i+1).toNat=k+1:=by omega
 rcases zF k (xs).length with hlt | hge
 ·obtain ⟨hk',hR⟩:=hR
  have hgx:=get_at Tm.d hlt
  rw [Tm.d_eq] at hgx
  rcases zF k ys.length with hlt' | hge'
  ·have hgy:=get_at Tm.d hlt'
   rw [Tm.d_eq] at hgy
   have hc:=hE xs[k] (zI hlt) ys[k] (zI hlt')
   rw [ME hlt hlt'] at hR
   by_cases h0:xs[k].cmp ys[k]=0
   ·rw [orZ,if_pos h0] at hR
    rw [h0] at hc
    simp (disch:=omega) only [go_sem,Aa,hni,hgx,hgy,hc,hg,hm]
    exact ⟨i+1,⟨k+1,by omega,hlt,hlt',hR⟩,by omega,by first | trivial | rfl⟩
   ·rw [orZ,if_neg h0] at hR
    simp (disch:=omega) only [go_sem,Aa,hni,hgx,hgy,hc,hg,hm,h0]
    exact hR
  ·rw [Py hlt hge'] at hR
   simp (disch:=omega) only [go_sem,Aa,hni,hgx]
   exact hR
 ·obtain ⟨hk',hR⟩:=hR
  obtain rfl:k=xs.length:=by omega
  rcases zF xs.length ys.length with hlt' | hge'
  ·rw [SH (zH _) hlt'] at hR
   simp (disch:=omega) only [go_sem,Aa,hni]
   exact hR
  ·rw [MG (zH _) hge'] at hR
   simp (disch:=omega) only [go_sem,Aa,hni]
   exact hR
abbrev Rd (f:FuncId) (x y:Tm):Prop:=x.cok=true→y.cok=true→x.nodes≤1099511627776→y.nodes≤1099511627776→E f [x.sv,y.sv] []=some (.int .i64 (x.cmp y),[])
theorem JU (x:Tm) (ih:∀ x'∈x.args,∀ y,Rd 44 x' y) (y:Tm):Rd 44 x y:=by
 intro hx hy hnx hny
 have lx:=Tm.length_le x.args
 have ly:=Tm.length_le y.args
 have nx:=Tm.At x
 have ny:=Tm.At y
 have h1:=Qf x hx
 have h2:=Qf y hy
 have h3:=P0 x.name y.name
 have h4:=Lm x.args.length y.args.length
 have h5:=Uy (Ia x.name y.name) (Ll x.args.length y.args.length)
 rw [Tm.Nr,zA] at hx hy
 have h6:=LI 44 x.args y.args (by omega) (by omega) Hu (by rw [BZ]) fun x' hx' y' hy'=>ih x' hx' y' (Tm.IF hx.2 hx') (Tm.IF hy.2 hy') (by have:=Tm.CG hx'; omega) (by have:=Tm.CG hy'; omega)
 rw [Tm.SG]
 cases vx:BY x.name <;> rw [vx] at h1 <;> cases vy:BY y.name <;> rw [vy] at h2
 all_goals
  simp only [y4,y0,zR,z6,yB,zS,if_true,if_false,yE]
  by_cases h0:orZ (Ia x.name y.name) (Ll x.args.length y.args.length)=0
  ·rw [h0] at h5
   try rw [h0]
   refine Ab Ef BZ (of_decide_eq_true rfl) ?_
   simp (disch:=omega) only [CN,go_sem,Aa,h1,h2,h3,h4,h5,h6,Gc,B7,BA,Ep,AF]
   try rfl
  ·try rw [orZ.eq_1 (orZ _ _) _,if_neg h0]
   refine Ab Ef BZ (of_decide_eq_true rfl) ?_
   simp (disch:=omega) only [CN,go_sem,Aa,h0,h1,h2,h3,h4,h5,Gc,B7,BA,Ep]
theorem GK (x y:Tm):Rd 44 x y:=JU x (fun x' hx' y'=>GK x' y') y
termination_by SizeOf.sizeOf x
decreasing_by exact Tm.AC hx'
def DJ:SC:=(.seq (.reg [⟨some 4,none,.mv (.c (.int .i64 0))⟩]) (.seq (.block 0 (.seq (.reg [⟨some 6,none,.mv (.t 0)⟩,⟨some 7,none,.mv (.t 1)⟩,⟨some 8,none,.bin .lss false (.t 6) (.t 7)⟩,⟨some 5,none,.mv (.t 8)⟩]) (.cond (.t 5) (.seq (.reg [⟨some 4,none,.mv (.c (.int .i64 (-(0+1))))⟩]) .ret) (.seq (.reg [⟨some 10,none,.mv (.t 0)⟩,⟨some 11,none,.mv (.t 1)⟩,⟨some 12,none,.bin .gtr false (.t 10) (.t 11)⟩,⟨some 9,none,.mv (.t 12)⟩]) (.cond (.t 9) (.seq (.reg [⟨some 4,none,.mv (.c (.int .i64 1))⟩]) .ret) .skip))))) (.seq (.reg [⟨some 4,none,.mv (.c (.int .i64 0))⟩]) .ret)))
theorem Fp:Ai Tryz.prog 77=some ⟨13,DJ,[(.tmp 4)]⟩:=by kernel_rfl
theorem DK:modes 77=⟨[],.asis,none,false⟩:=by unfold modes; rfl
def Bx:SC:=(.seq (.reg [⟨some 2,none,.boxv 34 2 (.t 0)⟩,⟨some 3,none,.boxv 34 2 (.t 1)⟩,⟨some 4,none,.mv (.c (.int .i64 0))⟩]) (.seq (.dreg [[],[0],[1,0],[],[3],[4,3,2,1,0],[2,1,0,5,4,3],[5,4,3,2,1,0,6]] [⟨some 9,none,.faddr 0 (.t 2)⟩,⟨some 10,none,.load false 1 (.t 9)⟩,⟨some 11,none,.call 74 [(.t 10)]⟩,⟨some 12,none,.faddr 0 (.t 3)⟩,⟨some 13,none,.load false 1 (.t 12)⟩,⟨some 14,none,.call 74 [(.t 13)]⟩,⟨some 5,none,.mv (.t 11)⟩,⟨some 6,none,.mv (.t 14)⟩]) (.seq (.block 0 (.seq (.reg [⟨some 16,none,.mv (.t 5)⟩,⟨some 17,none,.mv (.t 16)⟩,⟨(some 18),(some (17,true)),(.mv (.t 6))⟩,⟨(some 19),(some (17,true)),(.un .not (.t 18))⟩,⟨some 20,none,.pick (.t 17) (.t 19) (.c (.bool false))⟩,⟨some 15,none,.mv (.t 20)⟩]) (.cond (.t 15) (.seq (.reg [⟨some 4,none,.mv (.c (.int .i64 (-(0+1))))⟩]) .ret) (.seq (.reg [⟨some 22,none,.mv (.t 5)⟩,⟨some 23,none,.un .not (.t 22)⟩,⟨some 24,none,.mv (.t 23)⟩,⟨(some 25),(some (24,true)),(.mv (.t 6))⟩,⟨some 26,none,.pick (.t 24) (.t 25) (.c (.bool false))⟩,⟨some 21,none,.mv (.t 26)⟩]) (.cond (.t 21) (.seq (.reg [⟨some 4,none,.mv (.c (.int .i64 1))⟩]) .ret) (.seq (.reg [⟨some 28,none,.faddr 0 (.t 2)⟩,⟨some 29,none,.load false 1 (.t 28)⟩,⟨some 30,none,.faddr 0 (.t 3)⟩,⟨some 31,none,.load false 1 (.t 30)⟩,⟨some 32,none,.bin .neq false (.t 29) (.t 31)⟩,⟨some 27,none,.mv (.t 32)⟩]) (.cond (.t 27) (.seq (.reg [⟨some 33,none,.faddr 0 (.t 2)⟩,⟨some 34,none,.load false 1 (.t 33)⟩,⟨some 35,none,.faddr 0 (.t 3)⟩,⟨some 36,none,.load false 1 (.t 35)⟩,⟨some 37,none,.call 77 [(.t 34),(.t 36)]⟩,⟨some 4,none,.mv (.t 37)⟩]) .ret) (.seq (.reg [⟨some 39,none,.faddr 1 (.t 2)⟩,⟨some 40,none,.load false 1 (.t 39)⟩,⟨some 41,none,.len false (.t 40)⟩,⟨some 42,none,.faddr 1 (.t 3)⟩,⟨some 43,none,.load false 1 (.t 42)⟩,⟨some 44,none,.len false (.t 43)⟩,⟨some 45,none,.bin .lss false (.t 41) (.t 44)⟩,⟨some 38,none,.mv (.t 45)⟩]) (.cond (.t 38) (.seq (.reg [⟨some 4,none,.mv (.c (.int .i64 (-(0+1))))⟩]) .ret) (.seq (.reg [⟨some 47,none,.faddr 1 (.t 2)⟩,⟨some 48,none,.load false 1 (.t 47)⟩,⟨some 49,none,.len false (.t 48)⟩,⟨some 50,none,.faddr 1 (.t 3)⟩,⟨some 51,none,.load false 1 (.t 50)⟩,⟨some 52,none,.len false (.t 51)⟩,⟨some 53,none,.bin .gtr false (.t 49) (.t 52)⟩,⟨some 46,none,.mv (.t 53)⟩]) (.cond (.t 46) (.seq (.reg [⟨some 4,none,.mv (.c (.int .i64 1))⟩]) .ret) .skip))))))))))) (.seq (.seq (.reg [⟨some 7,none,.mv (.c (.int .i64 0))⟩]) (.block 1 (.loop [0,0,1,1,0,0,0,1,0,0,0,0,0,0,0,0,0,0,0,0,0,0,0,0,0,0,0,0,0,0,0,0,0,0,0,0,0,0,0,0,0,0,0,0,0,0,0,0,0,0,0,0,0,0,0,0,0,0,0,0,0,0,0,0,0,0,0,0,0,0,0,0,0,0,0] (.seq (.seq (.reg [⟨some 54,none,.mv (.t 7)⟩,⟨some 55,none,.faddr 1 (.t 2)⟩,⟨some 56,none,.load false 1 (.t 55)⟩,⟨some 57,none,.len false (.t 56)⟩,⟨some 58,none,.bin .lss false (.t 54) (.t 57)⟩]) (.cond (.t 58) .skip (.exit 1))) (.seq (.block 2 (.seq (.dreg [[],[0],[],[1,0,2],[3,1,0,2],[],[5],[],[6,5,7],[8,6,5,7],[4,3,1,0,2,9,8,6,5,7],[10,4,3,1,0,2,9,8,6,5,7]] [⟨some 61,none,.faddr 1 (.t 2)⟩,⟨some 62,none,.load false 1 (.t 61)⟩,⟨some 63,none,.mv (.t 7)⟩,⟨some 64,none,.iaddr 2 (.t 62) (.t 63)⟩,⟨some 65,none,.load true 2 (.t 64)⟩,⟨some 66,none,.faddr 1 (.t 3)⟩,⟨some 67,none,.load false 1 (.t 66)⟩,⟨some 68,none,.mv (.t 7)⟩,⟨some 69,none,.iaddr 2 (.t 67) (.t 68)⟩,⟨some 70,none,.load true 2 (.t 69)⟩,⟨some 71,none,.call 53 [(.t 65),(.t 70)]⟩,⟨some 8,none,.mv (.t 71)⟩]) (.seq (.reg [⟨some 72,none,.mv (.t 8)⟩,⟨some 73,none,.bin .neq false (.t 72) (.c (.int .i64 0))⟩]) (.cond (.t 73) (.seq (.reg [⟨some 74,none,.mv (.t 8)⟩,⟨some 4,none,.mv (.t 74)⟩]) .ret) .skip)))) (.reg [⟨some 59,none,.mv (.t 7)⟩,⟨some 60,none,.bin .add false (.t 59) (.c (.int .i64 1))⟩,⟨some 7,none,.mv (.t 60)⟩])))))) (.seq (.reg [⟨some 4,none,.mv (.c (.int .i64 0))⟩]) .ret)))))
theorem BF:Ai Tryz.prog 53=some ⟨75,Bx,[(.tmp 4)]⟩:=by kernel_rfl
theorem AM:modes 53=⟨[],.asis,none,false⟩:=by unfold modes; rfl
theorem SI (a b:ByteArray):E 77 [.str a,.str b] []=some (.int .i64 (Ia a b),[]):=by
 unfold Ia
 cases h3:strLt a b
 ·cases h4:dec (a=b)
  ·refine Ab Fp DK (of_decide_eq_true rfl) ?_
   simp (disch:=omega) only [DJ,go_sem,Aa,h3,h4]
  ·refine Ab Fp DK (of_decide_eq_true rfl) ?_
   simp (disch:=omega) only [DJ,go_sem,Aa,h3,h4]
 ·refine Ab Fp DK (of_decide_eq_true rfl) ?_
  simp (disch:=omega) only [DJ,go_sem,Aa,h3]
theorem Uh {a b:ByteArray} (h:¬ a=b):Ia a b≠0:=by
 unfold Ia
 rw [AN h]
 cases strLt a b <;> simp
theorem Ui (a:ByteArray):Ia a a=0:=by
 unfold Ia
 rw [Pz,AJ rfl]; rfl
theorem Nu (x:Tm) (ih:∀ x'∈x.args,∀ y,Rd 53 x' y) (y:Tm):Rd 53 x y:=by
 intro hx hy hnx hny
 have lx:=Tm.length_le x.args
 have ly:=Tm.length_le y.args
 have nx:=Tm.At x
 have ny:=Tm.At y
 have h1:=Nj x.name
 have h2:=Nj y.name
 have h3:=SI x.name y.name
 rw [Tm.Nr,zA] at hx hy
 rw [Tm.SG]
 cases vx:BY x.name <;> rw [vx] at h1 <;> cases vy:BY y.name <;> rw [vy] at h2
 case' false.true =>
           refine Ab BF AM (of_decide_eq_true rfl) ?_
           simp (disch:=omega) only [Bx,go_sem,Aa,h1,h2,Bk]
 case' true.false =>
           refine Ab BF AM (of_decide_eq_true rfl) ?_
           simp (disch:=omega) only [Bx,go_sem,Aa,h1,h2,Bk]
 case' false.false=>skip
 case' true.true=>skip
 all_goals (try trivial)
 all_goals
  simp only [y4,y0,zR,z6,yB,zS,if_true,if_false,yE]
  by_cases h0:x.name=y.name
  ·rw [show Ia x.name y.name=0 by rw [h0]; exact Ui _]
   unfold Ll
   rcases zF x.args.length y.args.length with h4 | h4
   ·rw [AJ (by omega)]
    refine Ab BF AM (of_decide_eq_true rfl) ?_
    simp (disch:=omega) only [Bx,go_sem,Aa,h0,h1,h2,Bk]
    rfl
   ·rcases zF y.args.length x.args.length with h5 | h5
    ·rw [AN (by omega),AJ (by omega)]
     refine Ab BF AM (of_decide_eq_true rfl) ?_
     simp (disch:=omega) only [Bx,go_sem,Aa,h0,h1,h2,Bk]
     rfl
    ·rw [AN (by omega),AN (by omega)]
     refine Ab BF AM (of_decide_eq_true rfl) ?_
     simp (disch:=omega) only [Bx,go_sem,Aa,h0,h1,h2,Bk]
     refine go_loop (α:=Int) (fun a=>⟨slots 75 0 [(2,.ptr 0 0),(3,.ptr 1 0),(7,.int .i64 a)],[.box 34 [.str x.name,.arr (x.args.map Tm.d)],.box 34 [.str y.name,.arr (y.args.map Tm.d)]]⟩) (fun a=>∃ k:Nat,a=k∧k≤(x.args).length∧Tm.Gp (x.args.drop k) (y.args.drop k)=Tm.Gp x.args y.args) (fun a=>(x.args).length-(a).toNat) 0 ⟨0,rfl,zE _,by rw [zN,zN]⟩ (by simp (disch:=omega) only [go_sem,Aa,h0]) ?_
     rintro i ⟨k,hi,hk,hR⟩
     have hni:i.toNat=k:=by omega
     have hni1:(i+1).toNat=k+1:=by omega
     rcases zF k (x.args).length with hlt | hge
     ·have hlt':k<y.args.length:=by omega
      have hgx:=get_at Tm.d hlt
      rw [Tm.d_eq] at hgx
      have hgy:=get_at Tm.d hlt'
      rw [Tm.d_eq] at hgy
      have hc:=ih x.args[k] (zI hlt) y.args[k] (Tm.IF hx.2 (zI hlt)) (Tm.IF hy.2 (zI hlt')) (by have:=Tm.DT x.args k hlt; omega) (by have:=Tm.DT y.args k hlt'; omega)
      rw [ME hlt hlt'] at hR
      by_cases hz:x.args[k].cmp y.args[k]=0
      ·rw [orZ,if_pos hz] at hR
       rw [hz] at hc
       simp (disch:=omega) only [go_sem,Aa,hni,hgx,hgy,hc,AM]
       exact ⟨i+1,⟨k+1,by omega,hlt,hR⟩,by omega,by first | trivial | rfl | simp only [h0,and_self]⟩
      ·rw [orZ,if_neg hz] at hR
       simp (disch:=omega) only [go_sem,Aa,hni,hgx,hgy,hc,hz,AM]
       exact hR
     ·rw [MG hge (by omega)] at hR
      simp (disch:=omega) only [go_sem,Aa,hni]
      exact hR
  ·have h6:=Uh h0
   rw [show orZ (orZ (Ia x.name y.name) (Ll x.args.length y.args.length)) (Tm.Gp x.args y.args)=Ia x.name y.name by unfold orZ; rw [if_neg h6,if_neg h6]]
   refine Ab BF AM (of_decide_eq_true rfl) ?_
   simp (disch:=omega) only [Bx,go_sem,Aa,h0,h1,h2,h3,Bk,DK]
theorem JM (x y:Tm):Rd 53 x y:=Nu x (fun x' hx' y'=>JM x' y') y
termination_by SizeOf.sizeOf x
decreasing_by exact Tm.AC hx'
noncomputable def Re (xs:List Lt) (k:Nat):Bool:=match xs[k]? with
 | none=>true
 | some x=>x.atom.atom&&(match k with
  | 0=>true
  | j+1=>match xs[j]? with
   | none=>true
   | some y=>decide (y.cmp x < 0))
noncomputable def Gq (xs:List Lt):Nat→Bool
 | 0=>true
 | k+1=>Gq xs k&&Re xs k
theorem Rf {xs:List Lt} {k n:Nat} (h:Gq xs k=false) (hn:k≤n):Gq xs n=false:=by
 induction n with
 | zero =>
      obtain rfl:k=0:=by omega
      exact h
 | succ n ih =>
  rcases zF n k with h1 | h1
  ·obtain rfl:k=n+1:=by omega
   exact h
  ·rw [Gq,ih h1]; rfl
theorem FD {xs:List Lt} (h:0<xs.length):Re xs 0=xs[0].atom.atom:=by
 unfold Re
 rw [zL h]
 simp
theorem DD {xs:List Lt} {j:Nat} (h:j+1<xs.length):Re xs (j+1)=(xs[j+1].atom.atom&&decide (xs[j].cmp xs[j+1]<0)):=by
 unfold Re
 rw [zL h]
 simp only [zL (show j<xs.length by omega)]
theorem ML {xs:List Lt} {k j:Nat} (h:Gq xs k=true) (hj:j<k) (hl:j<xs.length):xs[j].atom.atom=true:=by
 induction k with
 | zero=>omega
 | succ k ih =>
  rw [Gq,zA] at h
  rcases zF j k with h1 | h1
  ·exact ih h.1 h1
  ·obtain rfl:j=k:=by omega
   cases j with
   | zero=>rw [←FD hl]; exact h.2
   | succ j =>
    have:=h.2
    rw [DD hl,zA] at this
    exact this.1
noncomputable def Cl.ok (x:Cl):Bool:=decide (x.lits.length≤8)&&Gq x.lits x.lits.length
theorem Cl.Nv {x:Cl} {k:Nat} (h:Gq x.lits k=true) (h':Re x.lits k=false) (hk:k<x.lits.length):x.ok=false:=by
 have:Gq x.lits x.lits.length=false:=Rf (k:=k+1) (by rw [Gq,h,h']; rfl) (by omega)
 unfold Cl.ok
 rw [this,z6]
def Cl.tame (x:Cl):Prop:=x.lits.length≤1099511627776∧∀ y∈x.lits,y.atom.nodes≤1099511627776
theorem Cl.Hr {x:Cl} (h:x.tame) {k:Nat} (hk:k<x.lits.length):x.lits[k].atom.nodes≤1099511627776:=h.2 _ (zI hk)
def GM:SC:=(.seq (.reg [⟨some 2,none,.mv (.c (.int .i64 0))⟩]) (.seq (.seq (.reg [⟨some 3,none,.mv (.t 0)⟩]) (.cond (.t 3) (.seq (.reg [⟨some 2,none,.mv (.c (.int .i64 1))⟩]) .ret) .skip)) (.seq (.reg [⟨some 2,none,.mv (.c (.int .i64 0))⟩]) .ret)))
theorem JN:Ai Tryz.prog 46=some ⟨4,GM,[(.tmp 2)]⟩:=by kernel_rfl
theorem GN:modes 46=⟨[],.asis,none,false⟩:=by unfold modes; rfl
def Dz:SC:=(.seq (.reg [⟨some 2,none,.boxv 36 3 (.t 0)⟩,⟨some 3,none,.boxv 36 3 (.t 1)⟩,⟨some 4,none,.mv (.c (.int .i64 0))⟩]) (.seq (.dreg [[],[0],[],[2],[1,0,3,2],[],[5],[6,5,4,1,0,3,2],[],[8],[9,8,7,6,5,4,1,0,3,2],[7,6,5,4,1,0,3,2,10,9,8],[4,1,0,3,2,11,7,6,5,10,9,8],[12,4,1,0,3,2,11,7,6,5,10,9,8],[13,12,4,1,0,3,2,11,7,6,5,10,9,8]] [⟨some 5,none,.faddr 1 (.t 2)⟩,⟨some 6,none,.load true 2 (.t 5)⟩,⟨some 7,none,.faddr 1 (.t 3)⟩,⟨some 8,none,.load true 2 (.t 7)⟩,⟨some 9,none,.call 44 [(.t 6),(.t 8)]⟩,⟨some 10,none,.faddr 0 (.t 2)⟩,⟨some 11,none,.load false 1 (.t 10)⟩,⟨some 12,none,.call 46 [(.t 11)]⟩,⟨some 13,none,.faddr 0 (.t 3)⟩,⟨some 14,none,.load false 1 (.t 13)⟩,⟨some 15,none,.call 46 [(.t 14)]⟩,⟨some 16,none,.call 45 [(.t 12),(.t 15)]⟩,⟨some 17,none,.mkrow 3 1 [(.int .i64 0)] 2 [(0,(.t 9)),(1,(.t 16))]⟩,⟨some 18,none,.call 43 [(.t 17)]⟩,⟨some 4,none,.mv (.t 18)⟩]) .ret))
theorem Gd:Ai Tryz.prog 24=some ⟨19,Dz,[(.tmp 4)]⟩:=by kernel_rfl
theorem Bo:modes 24=⟨[],.asis,none,false⟩:=by unfold modes; rfl
def D0:SC:=(.seq (.reg [⟨some 2,none,.boxv 36 3 (.t 0)⟩,⟨some 3,none,.boxv 36 3 (.t 1)⟩,⟨some 4,none,.mv (.c (.int .i64 0))⟩]) (.seq (.reg [⟨some 6,none,.faddr 1 (.t 2)⟩,⟨some 7,none,.load true 2 (.t 6)⟩,⟨some 8,none,.faddr 1 (.t 3)⟩,⟨some 9,none,.load true 2 (.t 8)⟩,⟨some 10,none,.call 53 [(.t 7),(.t 9)]⟩,⟨some 5,none,.mv (.t 10)⟩]) (.seq (.block 0 (.seq (.reg [⟨some 12,none,.mv (.t 5)⟩,⟨some 13,none,.bin .neq false (.t 12) (.c (.int .i64 0))⟩,⟨some 11,none,.mv (.t 13)⟩]) (.cond (.t 11) (.seq (.reg [⟨some 14,none,.mv (.t 5)⟩,⟨some 4,none,.mv (.t 14)⟩]) .ret) (.seq (.reg [⟨some 16,none,.faddr 0 (.t 2)⟩,⟨some 17,none,.load false 1 (.t 16)⟩,⟨some 18,none,.un .not (.t 17)⟩,⟨some 19,none,.mv (.t 18)⟩,⟨(some 20),(some (19,true)),(.faddr 0 (.t 3))⟩,⟨(some 21),(some (19,true)),(.load false 1 (.t 20))⟩,⟨some 22,none,.pick (.t 19) (.t 21) (.c (.bool false))⟩,⟨some 15,none,.mv (.t 22)⟩]) (.cond (.t 15) (.seq (.reg [⟨some 4,none,.mv (.c (.int .i64 (-(0+1))))⟩]) .ret) (.seq (.reg [⟨some 24,none,.faddr 0 (.t 2)⟩,⟨some 25,none,.load false 1 (.t 24)⟩,⟨some 26,none,.mv (.t 25)⟩,⟨(some 27),(some (26,true)),(.faddr 0 (.t 3))⟩,⟨(some 28),(some (26,true)),(.load false 1 (.t 27))⟩,⟨(some 29),(some (26,true)),(.un .not (.t 28))⟩,⟨some 30,none,.pick (.t 26) (.t 29) (.c (.bool false))⟩,⟨some 23,none,.mv (.t 30)⟩]) (.cond (.t 23) (.seq (.reg [⟨some 4,none,.mv (.c (.int .i64 1))⟩]) .ret) .skip))))))) (.seq (.reg [⟨some 4,none,.mv (.c (.int .i64 0))⟩]) .ret))))
theorem Fa:Ai Tryz.prog 33=some ⟨31,D0,[(.tmp 4)]⟩:=by kernel_rfl
theorem BB:modes 33=⟨[],.asis,none,false⟩:=by unfold modes; rfl
def D2:SC:=(.seq (.reg [⟨some 1,none,.boxv 36 3 (.t 0)⟩,⟨some 2,none,.mv (.c (.bool false))⟩]) (.seq (.reg [⟨some 3,none,.faddr 1 (.t 1)⟩,⟨some 4,none,.load true 2 (.t 3)⟩,⟨some 5,none,.call 40 [(.t 4)]⟩,⟨some 2,none,.mv (.t 5)⟩]) .ret))
theorem Gr:Ai Tryz.prog 22=some ⟨6,D2,[(.tmp 2)]⟩:=by kernel_rfl
theorem Aw:modes 22=⟨[],.asis,none,false⟩:=by unfold modes; rfl
def DX:SC:=(.seq (.reg [⟨some 1,none,.boxv 24 1 (.t 0)⟩,⟨some 2,none,.mv (.c (.bool false))⟩]) (.seq (.seq (.reg [⟨some 5,none,.faddr 0 (.t 1)⟩,⟨some 6,none,.load false 1 (.t 5)⟩,⟨some 7,none,.len false (.t 6)⟩,⟨some 8,none,.mv (.c (.int .i64 0))⟩]) (.block 0 (.loop [0,1,0,0,0,0,1,1,1,0,0,0,0,0,0,0,0,0,0,0,0,0,0,0,0,0,0,0,0,0,0,0,0,0,0,0] (.seq (.reg [⟨some 9,none,.bin .lss false (.t 8) (.t 7)⟩]) (.seq (.cond (.t 9) .skip (.exit 0)) (.seq (.block 1 (.seq (.reg [⟨some 10,none,.mv (.t 8)⟩,⟨some 11,none,.iaddr 3 (.t 6) (.t 8)⟩,⟨some 12,none,.load true 3 (.t 11)⟩,⟨(some 4),none,(.alloc 36 [(.bool false),(.str ⟨#[]⟩),.nil])⟩,⟨some 3,none,.mv (.t 10)⟩,⟨none,none,(.store 3 (.t 4) (.t 12))⟩]) (.seq (.dreg [[],[0],[1,0],[2,1,0],[3,2,1,0],[4,3,2,1,0],[5,4,3,2,1,0],[6,5,4,3,2,1,0],[7,6,5,4,3,2,1,0],[6,5,4,3,2,1,0],[9,6,5,4,3,2,1,0],[8,7,6,5,4,3,2,1,0,10,9],[11,8,7,6,5,4,3,2,1,0,10,9],[6,5,4,3,2,1,0],[12,11,8,7,6,5,4,3,2,1,0,10,9,13],[14,12,11,8,7,6,5,4,3,2,1,0,10,9,13],[6,5,4,3,2,1,0,15,14,12,11,8,7,10,9,13],[3,2,1,0,16,6,5,4,15,14,12,11,8,7,10,9,13]] [⟨some 13,none,.load true 3 (.t 4)⟩,⟨some 14,none,.call 22 [(.t 13)]⟩,⟨some 15,none,.un .not (.t 14)⟩,⟨some 16,none,.mv (.t 15)⟩,⟨(some 17),(some (16,false)),(.mv (.t 3))⟩,⟨(some 18),(some (16,false)),(.bin .gtr false (.t 17) (.c (.int .i64 0)))⟩,⟨(some 19),(some (16,false)),(.mv (.t 18))⟩,⟨(some 20),(some (19,true)),(.faddr 0 (.t 1))⟩,⟨(some 21),(some (19,true)),(.load false 1 (.t 20))⟩,⟨(some 22),(some (19,true)),(.mv (.t 3))⟩,⟨(some 23),(some (19,true)),(.bin .sub false (.t 22) (.c (.int .i64 1)))⟩,⟨(some 24),(some (19,true)),(.iaddr 3 (.t 21) (.t 23))⟩,⟨(some 25),(some (19,true)),(.load true 3 (.t 24))⟩,⟨(some 26),(some (19,true)),(.load true 3 (.t 4))⟩,⟨(some 27),(some (19,true)),(.call 24 [(.t 25),(.t 26)])⟩,⟨(some 28),(some (19,true)),(.bin .geq false (.t 27) (.c (.int .i64 0)))⟩,⟨(some 29),(some (16,false)),(.pick (.t 19) (.t 28) (.c (.bool false)))⟩,⟨some 30,none,.pick (.t 16) (.c (.bool true)) (.t 29)⟩]) (.cond (.t 30) (.seq (.reg [⟨some 2,none,.mv (.c (.bool false))⟩]) .ret) .skip)))) (.reg [⟨some 31,none,.bin .add false (.t 8) (.c (.int .i64 1))⟩,⟨some 8,none,.mv (.t 31)⟩]))))))) (.seq (.reg [⟨some 32,none,.faddr 0 (.t 1)⟩,⟨some 33,none,.load false 1 (.t 32)⟩,⟨some 34,none,.len false (.t 33)⟩,⟨some 35,none,.bin .leq false (.t 34) (.c (.int .i64 8))⟩,⟨some 2,none,.mv (.t 35)⟩]) .ret)))
theorem GO:Ai Tryz.prog 12=some ⟨36,DX,[(.tmp 2)]⟩:=by kernel_rfl
theorem A7:modes 12=⟨[],.asis,none,false⟩:=by unfold modes; rfl
def Fq:SC:=(.seq (.reg [⟨some 1,none,.boxv 24 1 (.t 0)⟩,⟨some 2,none,.mv (.c (.bool false))⟩]) (.seq (.seq (.reg [⟨some 4,none,.faddr 0 (.t 1)⟩,⟨some 5,none,.load false 1 (.t 4)⟩,⟨some 6,none,.len false (.t 5)⟩,⟨some 7,none,.bin .gtr false (.t 6) (.c (.int .i64 8))⟩]) (.cond (.t 7) (.seq (.reg [⟨some 2,none,.mv (.c (.bool false))⟩]) .ret) .skip)) (.seq (.seq (.reg [⟨some 3,none,.mv (.c (.int .i64 0))⟩]) (.block 0 (.loop [0,1,0,1,0,0,0,0,0,0,0,0,0,0,0,0,0,0,0,0,0,0,0,0,0,0,0,0,0,0,0,0,0,0,0,0,0,0,0,0,0,0] (.seq (.seq (.reg [⟨some 8,none,.mv (.t 3)⟩,⟨some 9,none,.faddr 0 (.t 1)⟩,⟨some 10,none,.load false 1 (.t 9)⟩,⟨some 11,none,.len false (.t 10)⟩,⟨some 12,none,.bin .lss false (.t 8) (.t 11)⟩]) (.cond (.t 12) .skip (.exit 0))) (.seq (.block 1 (.seq (.dreg [[],[0],[],[1,0,2],[3,1,0,2],[4,3,1,0,2],[5,4,3,1,0,2],[6,5,4,3,1,0,2],[7,6,5,4,3,1,0,2],[8,7,6,5,4,3,1,0,2],[9,8,7,6,5,4,3,1,0,2],[10,9,8,7,6,5,4,3,1,0,2],[11,10,9,8,7,6,5,4,3,1,0,2],[12,11,10,9,8,7,6,5,4,3,1,0,2],[11,10,9,8,7,6,5,4,3,1,0,2],[14,11,10,9,8,7,6,5,4,3,1,0,2],[13,12,11,10,9,8,7,6,5,4,3,1,0,2,15,14],[16,13,12,11,10,9,8,7,6,5,4,3,1,0,2,15,14],[11,10,9,8,7,6,5,4,3,1,0,2],[18,11,10,9,8,7,6,5,4,3,1,0,2],[11,10,9,8,7,6,5,4,3,1,0,2],[19,18,11,10,9,8,7,6,5,4,3,1,0,2,20],[21,19,18,11,10,9,8,7,6,5,4,3,1,0,2,20],[17,16,13,12,11,10,9,8,7,6,5,4,3,1,0,2,15,14,22,21,19,18,20],[23,17,16,13,12,11,10,9,8,7,6,5,4,3,1,0,2,15,14,22,21,19,18,20],[11,10,9,8,7,6,5,4,3,1,0,2,24,23,17,16,13,12,15,14,22,21,19,18,20],[8,7,6,5,4,3,1,0,2,25,11,10,9,24,23,17,16,13,12,15,14,22,21,19,18,20]] [⟨some 15,none,.faddr 0 (.t 1)⟩,⟨some 16,none,.load false 1 (.t 15)⟩,⟨some 17,none,.mv (.t 3)⟩,⟨some 18,none,.iaddr 3 (.t 16) (.t 17)⟩,⟨some 19,none,.faddr 1 (.t 18)⟩,⟨some 20,none,.load true 2 (.t 19)⟩,⟨some 21,none,.call 31 [(.t 20)]⟩,⟨some 22,none,.un .not (.t 21)⟩,⟨some 23,none,.mv (.t 22)⟩,⟨(some 24),(some (23,false)),(.mv (.t 3))⟩,⟨(some 25),(some (23,false)),(.bin .gtr false (.t 24) (.c (.int .i64 0)))⟩,⟨(some 26),(some (23,false)),(.mv (.t 25))⟩,⟨(some 27),(some (26,true)),(.faddr 0 (.t 1))⟩,⟨(some 28),(some (26,true)),(.load false 1 (.t 27))⟩,⟨(some 29),(some (26,true)),(.mv (.t 3))⟩,⟨(some 30),(some (26,true)),(.bin .sub false (.t 29) (.c (.int .i64 1)))⟩,⟨(some 31),(some (26,true)),(.iaddr 3 (.t 28) (.t 30))⟩,⟨(some 32),(some (26,true)),(.load true 3 (.t 31))⟩,⟨(some 33),(some (26,true)),(.faddr 0 (.t 1))⟩,⟨(some 34),(some (26,true)),(.load false 1 (.t 33))⟩,⟨(some 35),(some (26,true)),(.mv (.t 3))⟩,⟨(some 36),(some (26,true)),(.iaddr 3 (.t 34) (.t 35))⟩,⟨(some 37),(some (26,true)),(.load true 3 (.t 36))⟩,⟨(some 38),(some (26,true)),(.call 33 [(.t 32),(.t 37)])⟩,⟨(some 39),(some (26,true)),(.bin .geq false (.t 38) (.c (.int .i64 0)))⟩,⟨(some 40),(some (23,false)),(.pick (.t 26) (.t 39) (.c (.bool false)))⟩,⟨some 41,none,.pick (.t 23) (.c (.bool true)) (.t 40)⟩]) (.cond (.t 41) (.seq (.reg [⟨some 2,none,.mv (.c (.bool false))⟩]) .ret) .skip))) (.reg [⟨some 13,none,.mv (.t 3)⟩,⟨some 14,none,.bin .add false (.t 13) (.c (.int .i64 1))⟩,⟨some 3,none,.mv (.t 14)⟩])))))) (.seq (.reg [⟨some 2,none,.mv (.c (.bool true))⟩]) .ret))))
theorem HE:Ai Tryz.prog 18=some ⟨42,Fq,[(.tmp 2)]⟩:=by kernel_rfl
theorem Ay:modes 18=⟨[],.asis,none,false⟩:=by unfold modes; rfl
theorem SJ (b:Bool):E 46 [.bool b] []=some (.int .i64 (JL b),[]):=by
 cases b
 ·refine Ab JN GN (of_decide_eq_true rfl) ?_
  simp (disch:=omega) only [GM,go_sem,Aa]
  rfl
 ·refine Ab JN GN (of_decide_eq_true rfl) ?_
  simp (disch:=omega) only [GM,go_sem,Aa]
  rfl
theorem IJ (x y:Lt) (hx:x.atom.cok=true) (hy:y.atom.cok=true) (hnx:x.atom.nodes≤1099511627776) (hny:y.atom.nodes≤1099511627776):E 24 [x.sv,y.sv] []=some (.int .i64 (x.cmp y),[]):=by
 have h1:=GK x.atom y.atom hx hy hnx hny
 have h2:=SJ x.pos
 have h3:=SJ y.pos
 have h4:=Lm (JL x.pos) (JL y.pos)
 have h5:=Uy (x.atom.cmp y.atom) (Ll (JL x.pos) (JL y.pos))
 unfold Lt.cmp
 refine Ab Gd Bo (of_decide_eq_true rfl) ?_
 simp (disch:=omega) only [Dz,go_sem,Aa,h1,h2,h3,h4,h5,BZ,GN,BA,Ep]
theorem Nw (x y:Lt) (hx:x.atom.cok=true) (hy:y.atom.cok=true) (hnx:x.atom.nodes≤1099511627776) (hny:y.atom.nodes≤1099511627776):E 33 [x.sv,y.sv] []=some (.int .i64 (x.cmp y),[]):=by
 have h1:=JM x.atom y.atom hx hy hnx hny
 unfold Lt.cmp
 by_cases h0:x.atom.cmp y.atom=0
 ·rw [h0] at h1 ⊢
  cases hp:x.pos <;> cases hq:y.pos
  all_goals
   simp only [JL,Ll,orZ,if_true,if_false,yE]
   refine Ab Fa BB (of_decide_eq_true rfl) ?_
   simp (disch:=omega) only [D0,go_sem,Aa,h1,hp,hq,AM]
 ·rw [orZ,if_neg h0]
  refine Ab Fa BB (of_decide_eq_true rfl) ?_
  simp (disch:=omega) only [D0,go_sem,Aa,h1,h0,AM]
theorem FE (x:Lt) (hn:x.atom.nodes≤1099511627776):E 22 [x.sv] []=some (.bool x.atom.atom,[]):=by
 have h:=LB x.atom hn
 refine Ab Gr Aw (of_decide_eq_true rfl) ?_
 simp (disch:=omega) only [D2,go_sem,Aa,h,Bf]
theorem JV (x:Cl) (hn:x.tame):E 12 [x.sv] []=some (.bool x.ok,[]):=by
 have hl:=hn.1
 refine Ab GO A7 (of_decide_eq_true rfl) ?_
 simp (disch:=omega) only [DX,go_sem,Aa]
 refine go_loop (α:=Int) (fun a=>⟨slots 36 0 [(1,.ptr 0 0),(6,.arr (x.lits.map Lt.d)),(7,.int .i64 x.lits.length),(8,.int .i64 a)],[.box 24 [.arr (x.lits.map Lt.d)]]⟩) (fun a=>∃ k:Nat,a=k∧k≤(x.lits).length∧Gq x.lits k=true) (fun a=>(x.lits).length-(a).toNat) 0 ⟨0,rfl,zE _,by rw [Gq]⟩ (by simp (disch:=omega) only [go_sem,Aa]) ?_
 rintro i ⟨k,hi,hk,hR⟩
 have hni:i.toNat=k:=by omega
 have hni1:(i+1).toNat=k+1:=by omega
 rcases zF k (x.lits).length with hlt | hge
 ·have hg:=get_at Lt.d hlt
  rw [Lt.d_eq] at hg
  have hv:=FE x.lits[k] (Cl.Hr hn hlt)
  cases ha:x.lits[k].atom.atom <;> rw [ha] at hv
  ·have e:x.ok=false:=Cl.Nv hR (by cases k with | zero=>rw [FD hlt,ha] | succ j=>rw [DD hlt,ha,zS]) hlt
   rw [e]
   simp (disch:=omega) only [go_sem,Aa,hni,hg,hv,Aw,Bo]
  ·cases k with
   | zero =>
    obtain rfl:i=0:=hi
    simp (disch:=omega) only [go_sem,Aa,hni,hg,hv,Aw,Bo]
    exact ⟨1,⟨1,rfl,hlt,by rw [Gq,hR,FD hlt,ha]; rfl⟩,by omega,by first | trivial | rfl⟩
   | succ j =>
    have hj:j<x.lits.length:=by omega
    have hg2:=get_at Lt.d hj
    rw [Lt.d_eq] at hg2
    have hni2:(i-1).toNat=j:=by omega
    have hc:=IJ x.lits[j] x.lits[j+1] (Tm.IG (ML hR (by omega) (by omega))) (Tm.IG ha) (Cl.Hr hn hj) (Cl.Hr hn hlt)
    rcases yX (x.lits[j].cmp x.lits[j+1]) 0 with hq | hq
    ·simp (disch:=omega) only [go_sem,Aa,hni,hg,hv,Aw,Bo,hni2,hg2,hc]
     exact ⟨i+1,⟨j+1+1,by omega,hlt,by rw [Gq,hR,DD hlt,ha,decide_eq_true hq]; rfl⟩,by omega,by first | trivial | rfl⟩
    ·have e:x.ok=false:=Cl.Nv hR (by rw [DD hlt,ha,decide_eq_false (by omega)]; rfl) hlt
     rw [e]
     simp (disch:=omega) only [go_sem,Aa,hni,hg,hv,Aw,Bo,hni2,hg2,hc]
 ·obtain rfl:k=x.lits.length:=by omega
  simp (disch:=omega) only [go_sem,Aa,hni]
  unfold Cl.ok
  rw [hR,zR,Jf]
  exact decide_eq_decide.2 (by omega)
theorem SK (x:Cl) (hn:x.tame):E 18 [x.sv] []=some (.bool x.ok,[]):=by
 have hl:=hn.1
 rcases zF 8 x.lits.length with h8 | h8
 ·have e:x.ok=false:=by unfold Cl.ok; rw [decide_eq_false (by omega),zS]
  rw [e]
  refine Ab HE Ay (of_decide_eq_true rfl) ?_
  simp (disch:=omega) only [Fq,go_sem,Aa]
 refine Ab HE Ay (of_decide_eq_true rfl) ?_
 simp (disch:=omega) only [Fq,go_sem,Aa]
 refine go_loop (α:=Int) (fun a=>⟨slots 42 0 [(1,.ptr 0 0),(3,.int .i64 a)],[.box 24 [.arr (x.lits.map Lt.d)]]⟩) (fun a=>∃ k:Nat,a=k∧k≤(x.lits).length∧Gq x.lits k=true) (fun a=>(x.lits).length-(a).toNat) 0 ⟨0,rfl,zE _,by rw [Gq]⟩ (by simp (disch:=omega) only [go_sem,Aa]) ?_
 rintro i ⟨k,hi,hk,hR⟩
 have hni:i.toNat=k:=by omega
 have hni1:(i+1).toNat=k+1:=by omega
 rcases zF k (x.lits).length with hlt | hge
 ·have hg:=get_at Lt.d hlt
  rw [Lt.d_eq] at hg
  have hv:=I7 x.lits[k].atom (Cl.Hr hn hlt)
  cases ha:x.lits[k].atom.atom <;> rw [ha] at hv
  ·have e:x.ok=false:=Cl.Nv hR (by cases k with | zero=>rw [FD hlt,ha] | succ j=>rw [DD hlt,ha,zS]) hlt
   rw [e]
   simp (disch:=omega) only [go_sem,Aa,hni,hg,hv,Av,BB]
  ·cases k with
   | zero =>
    obtain rfl:i=0:=hi
    simp (disch:=omega) only [go_sem,Aa,hni,hg,hv,Av,BB]
    exact ⟨1,⟨1,rfl,hlt,by rw [Gq,hR,FD hlt,ha]; rfl⟩,by omega,by first | trivial | rfl⟩
   | succ j =>
    have hj:j<x.lits.length:=by omega
    have hg2:=get_at Lt.d hj
    rw [Lt.d_eq] at hg2
    have hni2:(i-1).toNat=j:=by omega
    have hc:=Nw x.lits[j] x.lits[j+1] (Tm.IG (ML hR (by omega) (by omega))) (Tm.IG ha) (Cl.Hr hn hj) (Cl.Hr hn hlt)
    rcases yX (x.lits[j].cmp x.lits[j+1]) 0 with hq | hq
    ·simp (disch:=omega) only [go_sem,Aa,hni,hg,hv,Av,BB,hni2,hg2,hc]
     exact ⟨i+1,⟨j+1+1,by omega,hlt,by rw [Gq,hR,DD hlt,ha,decide_eq_true hq]; rfl⟩,by omega,by first | trivial | rfl⟩
    ·have e:x.ok=false:=Cl.Nv hR (by rw [DD hlt,ha,decide_eq_false (by omega)]; rfl) hlt
     rw [e]
     simp (disch:=omega) only [go_sem,Aa,hni,hg,hv,Av,BB,hni2,hg2,hc]
 ·obtain rfl:k=x.lits.length:=by omega
  simp (disch:=omega) only [go_sem,Aa,hni]
  unfold Cl.ok
  rw [hR,decide_eq_true h8]; rfl
end Go.Proofs.YtoglfpfdhojaaaaGreatDoor
