/-
  Texts of this claim, one behind the other, each built on those ahead of it. No condition.
-/
import Derived.Test.YtjkpbnbkofnajaaGreatK44b
import Derived.Shelf.Spec.SlicesInsert
import Derived.Shelf.Spec.SlicesInsertGrow
import Derived.Shelf.Sort.Plain
import Derived.Sort.EncStr
import Derived.Shelf.Lays
import Derived.Test.YtjkpbnbkofnajaaGreatChecked
import Derived.Shelf.Slices.In.SortNone
set_option maxHeartbeats 16000000
open Bool renaming and_eq_true → zA, and_self → zF, and_true → zM, or_eq_false_iff → zZ, false_and → z6, and_false → z7, or_eq_true → yK, true_and → yN, false_eq_true → yQ, eq_false_iff → xH, not_false → xS, false_or → xX, not_true → xY
open List renaming drop_eq_getElem_cons → zB, drop_eq_nil_of_le → zD, length_cons → zE, map_cons → zH, drop_zero → zI, getElem_mem → zJ, mem_cons → zK, eq_nil_of_length_eq_zero → zO, getElem?_eq_getElem → zP, all_eq_true → zT, pairwise_cons → zU, getD_eq_getElem?_getD → zV, getElem_of_mem → zW, getElem?_eq_some_iff → zX, getElem_cons_zero → z8, foldl_cons → yC, getElem?_map → yD, getElem?_range → yE, replicate → yF, getElem_cons_succ → yI, map_nil → yM, mem_append → yO, length_append → yR, mem_map → yS, mem_range → yT, set_append_right → yV, map_append → yY, append_nil → yZ, replicate_succ → y2, map_map → y3, range → y4, perm_ext_iff_of_nodup → y9, getElem_append_right → xC, mem_of_find?_eq_some → xD, append_assoc → xG, foldl_append → xJ, getElem_map → xL, length_nil → xP, all_cons → xV, any_cons → xW
open Nat renaming lt_or_ge → zC, zero_le → zL, le_refl → zQ, eq_zero_or_pos → yG, zero_add → yH, lt_of_lt_of_le → yP, min_def → xE, lt_trichotomy → xF, sub_self → xM, min → xU
open Option.some renaming inj → zG, injEq → zN
open Array renaming getD_eq_getD_getElem? → zR, getElem?_eq_some_iff → yA, getElem?_eq_getElem → yB, getElem?_modify → yU, getElem?_setIfInBounds → yX, size_push → xQ
open Prod.mk renaming injEq → zS, inj → yL
open Option renaming getD_some → zY, map_some → xO
open List.cons renaming injEq → yJ
open Int renaming mul_le_mul_of_nonneg_right → yW, add_mul_emod_self_left → y5, emod_lt_of_pos → y6, mul_nonneg → y7, toNat_zero → y8, tmod_eq_emod_of_nonneg → xA, tdiv_eq_ediv_of_nonneg → xB, emod_eq_of_lt → xI, lt_or_le → xN, emod_nonneg → xR, mul_le_mul → xT
open List.Perm renaming eq_of_pairwise → xK
open List.Pairwise renaming nil → xZ
set_option maxRecDepth 100000
set_option linter.unusedSimpArgs false
set_option linter.unusedVariables false
set_option linter.unusedSectionVars false
namespace Go.Proofs.YtjkpbnbkofnajaaGreat
open Go.RowKit
theorem US (b n c:Nat) (f:Nat→ByteArray) (x:ByteArray) (w:World) (hn:n≤9223372036854775807)
  (hc:∀ k,k<n→w.cell? ⟨b,k,none⟩=some (.string (f k))):Calls Tryz.prog 119 #[.slice (some ⟨b,0,none⟩) n c,.string x] w (Same w (.int .i64 (Sp (fun k=>x.toList == (f k).toList) n))):=by
 go_enter Tryz.func119,Tryz.ntmps119
 go_wp2
 go_loopw [8] (fun i wr=>Cnt w n (fun k=>∀ j,j<k→(x.toList == (f j).toList)=false) i wr) (fun i _=>n-(intOf i).toNat)
 case atStart=>exact ⟨0,zL _,rfl,fun j hj=>absurd hj (by omega),rfl⟩
 case round =>
  obtain ⟨k,hk,rfl,hok,rfl⟩:=hrel
  have Hok:=Lib.hid hok
  clear hok
  by_cases hlt:k<n
  ·have hck:=hc k (by omega)
   go_wp2_with fail
   ·go_ret
    exact Same.mk' _ (by rw [Sq hlt Hok.out (by assumption)]; rfl)
   ·go_roundw
    case rel=>exact ⟨_,hlt,by go_num,Sr Hok.out (by assumption),rfl⟩
    case measure=>exact I5 hlt
  ·obtain rfl:k=n:=by omega
   go_wp2_with fail
   go_ret
   exact Same.mk' _ (by rw [Qd Hok.out]; rfl)
theorem PK (b n c:Nat) (f:Nat→ByteArray) (x:ByteArray) (w:World) (hn:n≤9223372036854775807)
  (hc:∀ k,k<n→w.cell? ⟨b,k,none⟩=some (.string (f k))):Calls Tryz.prog 100 #[.slice (some ⟨b,0,none⟩) n c,.string x] w (Same w (.bool (XS (fun k=>x.toList == (f k).toList) n))):=by
 have Hc:=Lib.hid hc
 clear hc
 go_enter Tryz.func100,Tryz.ntmps100
 go_wp2_with (first
  |(go_at_call 119; refine (US _ _ _ f _ _ hn Hc.out).mono ?_; rintro e w' ⟨rfl,rfl⟩))
 go_ret
 exact Same.mk' _ (by rw [←ZY]; rfl)
theorem R6 (w:World):Calls Tryz.prog 101 #[] w fun e w'=>e=.returned (.slice (some ⟨w.heap.size,0,none⟩) 8 8)∧w'=w.alloc (.cells ((words.map fun l=>Value.string ⟨l.toArray⟩).toArray) 9):=by
 go_enter Tryz.func101,Tryz.ntmps101
 go_wp2
 go_ret
 exact ⟨rfl,rfl⟩
theorem Td (w:World):∀ k,k<8→(w.alloc (.cells ((words.map fun l=>Value.string ⟨l.toArray⟩).toArray) 9)).cell? ⟨w.heap.size,k,none⟩=some (.string ⟨(words.getD k []).toArray⟩):=by
 intro k hk
 have hh:(w.alloc (.cells ((words.map fun l=>Value.string ⟨l.toArray⟩).toArray) 9)).heap[w.heap.size]?=some (.cells ((words.map fun l=>Value.string ⟨l.toArray⟩).toArray) 9):=heap_alloc_new w _
 unfold World.cell?
 rw [hh]
 match k,hk with
 | 0,_=>rfl
 | 1,_=>rfl
 | 2,_=>rfl
 | 3,_=>rfl
 | 4,_=>rfl
 | 5,_=>rfl
 | 6,_=>rfl
 | 7,_=>rfl
theorem R7 (s:ByteArray) (w:World) (hs:s.size≤9223372036854775807):Calls Tryz.prog 73 #[.string s] w (Ret w (.bool (CN s))):=by
  go_enter Tryz.func73,Tryz.ntmps73
  go_wp2
  go_loopw [6] (fun i wr=>Cnt w s.size (fun k=>Eo Ib s k=true) i wr) (fun i _=>s.size-(intOf i).toNat)
  case atStart=>exact ⟨0,zL _,rfl,rfl,rfl⟩
  case round =>
    obtain ⟨k,hk,rfl,hok,rfl⟩:=hrel
    have Hok:=Lib.hid hok
    clear hok
    by_cases hlt:k<s.size
    · have Hb:=Lib.hid (EI hlt)
      rcases yG k with rfl | hpos
      all_goals
        go_wp2_with (first
          | (go_at_call 98; refine (Nm _ _).mono ?_; rintro e w' ⟨rfl,rfl⟩)
          | (go_at_call 99; refine (Nn _ _).mono ?_; rintro e w' ⟨rfl,rfl⟩))
        all_goals first
          | (go_ret
             refine Ret.same _ ?_
             unfold CN
             rw [DY hlt (by rw [←Hb.out]; simp_all [Ib,HM] <;> omega)]
             rfl)
          | (go_roundw
             case rel=>exact ⟨_,hlt,by go_num,HN Hok.out (by rw [←Hb.out]; simp_all [Ib,HM] <;> omega),rfl⟩
             case measure=>first | exact I5 hlt | (simp [intOf]; omega))
    · obtain rfl:k=s.size:=by omega
      cases hin:inB s.size 1 6
      · go_wp2_with (first
          | (go_at_call 46; refine (K3 _ _ _ _).mono ?_; rintro e w' ⟨rfl,rfl⟩))
        go_ret
        exact Ret.same _ (by unfold CN; rw [hin]; simp)
      · go_wp2_with (first
          | (go_at_call 46; refine (K3 _ _ _ _).mono ?_; rintro e w' ⟨rfl,rfl⟩)
          | (go_at_call 101; refine (R6 _).mono ?_; rintro e w' ⟨rfl,rfl⟩)
          | (go_at_call 100; refine (PK _ _ _ (fun k=>⟨(words.getD k []).toArray⟩) _ _ (by omega) (Td w)).mono ?_; rintro e w' ⟨rfl,rfl⟩))
        go_ret
        refine Ret.bel ?_ ((Below.refl _ _).alloc (zQ _) _)
        unfold CN Y5
        rw [hin,Hok.out]
        simp
theorem WX (s:ByteArray) (w:World) (hs:s.size≤9223372036854775807):Calls Tryz.prog 62 #[.string s] w (Same w (.bool (AI s))):=by
  cases hin:inB s.size 1 4
  · go_enter Tryz.func62,Tryz.ntmps62
    go_wp2_with (first
      | (go_at_call 15; refine (IL _ _ _ _).mono ?_; rintro e w' ⟨rfl,rfl⟩))
    go_ret
    exact Same.mk' _ (by unfold AI; rw [hin]; simp)
  · have hpos:0<s.size:=by simp [inB] at hin; omega
    have Hb:=Lib.hid (EI hpos)
    go_enter Tryz.func62,Tryz.ntmps62
    go_wp2_with (first
      | (go_at_call 15; refine (IL _ _ _ _).mono ?_; rintro e w' ⟨rfl,rfl⟩))
    all_goals first
      | (go_ret
         refine Same.mk' _ ?_
         unfold AI
         rw [DY hpos (by rw [←Hb.out]; simp [Ic,OC]; omega)]
         rfl)
      | skip
    · go_loopw [3] (fun i wr=>Cnt w s.size (fun k=>1≤k∧Eo Ic s k=true) i wr) (fun i _=>s.size-(intOf i).toNat)
      case atStart=>exact ⟨1,hpos,rfl,⟨zQ _,by rw [FK,← Hb.out]; simp [Eo,Ic,OC]; omega⟩,rfl⟩
      case round =>
        obtain ⟨k,hk,rfl,⟨hk1,hok⟩,rfl⟩:=hrel
        have Hok:=Lib.hid hok
        clear hok
        by_cases hlt:k<s.size
        · have Hbk:=Lib.hid (EI hlt)
          have hk0:k≠0:=by omega
          go_wp2_with (first
            | (go_at_call 86; refine (No _ _).mono ?_; rintro e w' ⟨rfl,rfl⟩))
          all_goals first
            | (go_ret
               refine Same.mk' _ ?_
               unfold AI
               rw [DY hlt (by rw [←Hbk.out]; simp_all [Ic] <;> omega)]
               rfl)
            | (go_roundw
               case rel=>exact ⟨_,hlt,by go_num,⟨by omega,HN Hok.out (by rw [←Hbk.out]; simp_all [Ic] <;> omega)⟩,rfl⟩
               case measure=>first | exact I5 hlt | (simp [intOf]; omega))
        · obtain rfl:k=s.size:=by omega
          go_wp2_with fail
          go_ret
          exact Same.mk' _ (by unfold AI; rw [Hok.out,hin]; rfl)
theorem VZ (s:ByteArray):Y5 s=(s.toList == [116,114,117,101] || s.toList == [102,97,108,115,101] || s.toList == [116,114,117,116,104] || s.toList == [98,111,116,104] || s.toList == [101,105,116,104,101,114] || s.toList == [105,102] || s.toList == [97,108,108] || s.toList == [115,111,109,101]):=by
 unfold Y5 XS words
 simp [y4,List.range.loop,Bool.or_assoc]
theorem R8 (s:ByteArray) (w:World) (hs:s.size≤9223372036854775807):Calls Tryz.prog 83 #[.string s] w (Same w (.bool (CN s))):=by
  cases hin:inB s.size 1 6
  · go_enter Tryz.func83,Tryz.ntmps83
    go_wp2_with (first
      | (go_at_call 15; refine (IL _ _ _ _).mono ?_; rintro e w' ⟨rfl,rfl⟩))
    go_ret
    exact Same.mk' _ (by unfold CN; rw [hin]; simp)
  · have hpos:0<s.size:=by simp [inB] at hin; omega
    have Hb:=Lib.hid (EI hpos)
    cases hres:Y5 s
    case true =>
      have Hres:=Lib.hid hres
      rw [VZ] at hres
      go_enter Tryz.func83,Tryz.ntmps83
      go_wp2_with (first
        | (go_at_call 15; refine (IL _ _ _ _).mono ?_; rintro e w' ⟨rfl,rfl⟩))
      all_goals first
        | (go_ret
           refine Same.mk' _ ?_
           unfold CN
           rw [Hres.out]; simp)
        | (exfalso; simp_all; done)
    have Hres:=Lib.hid hres
    rw [VZ] at hres
    simp only [zZ] at hres
    obtain ⟨⟨⟨⟨⟨⟨⟨e1,e2⟩,e3⟩,e4⟩,e5⟩,e6⟩,e7⟩,e8⟩:=hres
    go_enter Tryz.func83,Tryz.ntmps83
    go_wp2_with (first
      | (go_at_call 15; refine (IL _ _ _ _).mono ?_; rintro e w' ⟨rfl,rfl⟩))
    all_goals first
      | (go_ret
         refine Same.mk' _ ?_
         unfold CN
         rw [DY hpos (by rw [←Hb.out]; simp [Ib,PJ]; omega)]; rfl)
      | skip
    go_loopw [3] (fun i wr=>Cnt w s.size (fun k=>1≤k∧Eo Ib s k=true) i wr) (fun i _=>s.size-(intOf i).toNat)
    case atStart=>exact ⟨1,hpos,rfl,⟨zQ _,by rw [FK,← Hb.out]; simp [Eo,Ib,HM,PJ]; omega⟩,rfl⟩
    case round =>
      obtain ⟨k,hk,rfl,⟨hk1,hok⟩,rfl⟩:=hrel
      have Hok:=Lib.hid hok
      clear hok
      by_cases hlt:k<s.size
      · have Hbk:=Lib.hid (EI hlt)
        have hk0:k≠0:=by omega
        go_wp2_with (first
          | (go_at_call 86; refine (No _ _).mono ?_; rintro e w' ⟨rfl,rfl⟩))
        all_goals first
          | (go_ret
             refine Same.mk' _ ?_
             unfold CN
             rw [DY hlt (by rw [←Hbk.out]; simp_all [Ib] <;> omega)]
             rfl)
          | (go_roundw
             case rel=>exact ⟨_,hlt,by go_num,⟨by omega,HN Hok.out (by rw [←Hbk.out]; simp_all [Ib] <;> omega)⟩,rfl⟩
             case measure=>first | exact I5 hlt | (simp [intOf]; omega))
      · obtain rfl:k=s.size:=by omega
        go_wp2_with fail
        go_ret
        exact Same.mk' _ (by unfold CN; rw [Hok.out,hin,Hres.out]; rfl)
end Go.Proofs.YtjkpbnbkofnajaaGreat
set_option maxRecDepth 100000
set_option linter.unusedSimpArgs false
set_option linter.unusedVariables false
set_option linter.unusedSectionVars false
namespace Go.Proofs.YtjkpbnbkofnajaaGreat
open Go.RowKit Go.Shelf
theorem OE:∃ (i:TypeInfo) (z:Value),Tryz.prog.info? 58=some i∧i.zero=some z∧i.size=4∧z.cells.size=4∧i.bytes=56:=by
 have h:(match Tryz.prog.info? 58 with
  | some i=>match i.zero with
   | some z=>i.size == 4&&z.cells.size == 4&&i.bytes == 56
   | none=>false
  | none=>false)=true:=by kernel_rfl
 split at h
 ·rename_i i hi
  split at h
  ·rename_i z hz
   rw [zA,zA,beq_iff_eq,beq_iff_eq,beq_iff_eq] at h
   exact ⟨i,z,hi,hz,h.1.1,h.1.2,h.2⟩
  ·cases h
 ·cases h
theorem HO {P:Program} (w:World) (dT sT ty elem:TypeId) (k b o dLen dCap:Nat) (a:Addr) (sLen sCap:Nat) (cs:List Value)
  (hu:P.underlying dT=some (.slice elem)) (hs:(P.info? elem).map (·.size)=some k) (hn:cs.length=xU sLen dLen*k)
  (hsrc:∀ j v,cs[j]?=some v→w.cell? (a.add j)=some v) (hc:∀ j,j<cs.length→(w.cell? ⟨b,o+j,none⟩).isSome=true) (hf:∀ j,j<cs.length→w.frozen? ⟨b,o+j,none⟩=false) (h1:∀ v∈cs,v.oneCell'=true) :
  (Builtin.copy_ #[dT,sT] ty #[.slice (some ⟨b,o,none⟩) dLen dCap,.slice (some a) sLen sCap]).run P w=.ok (goInt (xU sLen dLen)) (w.setCells b o cs):=by
 have hl:=run_loadCells_list (P:=P) w a cs hsrc
 have hst:=run_storeCells_cells (P:=P) b o cs 0 w (by simpa using hc) (by simpa using hf) h1
 cases hq:P.info? elem with
 | none=>simp [hq] at hs
 | some i =>
  have hi:i.size=k:=by simpa [hq] using hs
  simp [Builtin.copy_,run_underlying hu,Builtin.lenOf,Builtin.firstCells,sizeOf,typeInfo,hq,hi,← hn,hl,hst]
structure RowX (w:World) (b:Nat) (t:TypeId) (cur:Array Value) (w':World):Prop where
 os:w'.os=w.os
 tape:w'.tape=w.tape
 output:w'.output=w.output
 size:w.heap.size≤w'.heap.size
 block:∀ x,x<w.heap.size→x≠b→w'.heap[x]?=w.heap[x]?
 row:w'.heap[b]?=some (.cells cur t (0,0))
theorem RowX.set {w V:World} {b:Nat} {t:TypeId} {cur:Array Value} (h:RowX w b t cur V) (o:Nat) (v:Value):RowX w b t (cur.setIfInBounds o v) (V.setCell ⟨b,o,none⟩ v):=by
 refine ⟨h.os,h.tape,h.output,by simpa [World.setCell] using h.size,fun x hx hne=>?_,?_⟩
 ·simp only [World.setCell,yU]
  rw [if_neg (fun e=>hne e.symm)]
  exact h.block x hx hne
 ·simp only [World.setCell,yU,if_true,h.row,xO,Option.isSome_none,if_false]
  rfl
theorem RowX.cells {w:World} {b:Nat} {t:TypeId}:∀ (vs:List Value) (o:Nat) {V:World} {cur:Array Value},RowX w b t cur V→o+vs.length≤cur.size→∃ cur',RowX w b t cur' (V.setCells b o vs)∧cur'.size=cur.size∧∀ q,cur'.getD q undef=if o≤q∧q<o+vs.length then vs.getD (q-o) undef else cur.getD q undef
 | [],o,V,cur,h,_=>⟨cur,h,rfl,fun q=>by
  have e:¬ (o≤q∧q<o+([]:List Value).length):=by simp only [xP]; omega
  rw [if_neg e]⟩
 | v :: r,o,V,cur,h,hl=>by
  simp only [zE] at hl
  obtain ⟨cur',h1,h2,h3⟩:=RowX.cells r (o+1) (h.set o v) (by simp; omega)
  refine ⟨cur',h1,by simpa using h2,fun q=>?_⟩
  rw [h3 q]
  simp only [zE]
  by_cases e:q=o
  ·subst e
   rw [if_neg (by omega),if_pos (by omega),xM]
   simp [zR,yX,show q<cur.size by omega]
  ·by_cases h4:o+1≤q∧q<o+1+r.length
   ·rw [if_pos h4,if_pos (by omega),show q-o=(q-(o+1))+1 by omega]; rfl
   ·rw [if_neg h4,if_neg (by omega)]
    simp only [zR,yX]
    rw [if_neg (fun h=>e h.symm)]
theorem JW {w:World} {b:Nat} {cur:Array Value} {t:TypeId} (hb:w.heap[b]?=some (.cells cur t (0,0))) {q:Nat} (hlt:q<cur.size):w.cell? ⟨b,q,none⟩=some (cur.getD q undef):=by
 unfold World.cell?
 simp only [hb,Option.isSome_none,if_false]
 rw [zR,yB hlt]
 rfl
theorem Q7 {w:World} {b:Nat} {cur:Array Value} {t:TypeId} (hb:w.heap[b]?=some (.cells cur t (0,0))) (o:Nat):w.frozen? ⟨b,o,none⟩=false:=by
 unfold World.frozen?
 rw [hb]
 simp
theorem Te (base:Option Addr) (n c:Nat) (vb vc:Nat) (w w':World) (v':Value) (hb:base=none→n=0∧c=0)
  (hap:∀ ty,(Builtin.append_ #[24,24] ty #[.slice base n c,.slice (some ⟨vb,0,none⟩) 1 vc]).run Tryz.prog w=.ok v' w') :
  Calls Tryz.prog 72 #[.slice base n c,.int .i64 (n:Int),.slice (some ⟨vb,0,none⟩) 1 vc] w fun e w2=>e=.returned v'∧w2=w':=by
 have mixed:Tryz.prog.follows .mixedOrders=true:=by kernel_rfl
 go_enter Tryz.func72,Tryz.ntmps72
 go_wp2_with (at_builtin; refine Lib.wpList_append_run _ rfl _ _ _ _ rfl _ _ rfl rfl _ _ (hap _) ?_)
 all_goals (go_ret; exact ⟨rfl,rfl⟩)
end Go.Proofs.YtjkpbnbkofnajaaGreat
set_option maxRecDepth 100000
set_option linter.unusedSimpArgs false
set_option linter.unusedVariables false
set_option linter.unusedSectionVars false
namespace Go.Proofs.YtjkpbnbkofnajaaGreat
open Go.RowKit Go.Shelf
theorem WY (n i c:Nat) (hi:i<n) (hroom:n+1≤c) (hc63:c≤9223372036854775807) (w:World) (b vb vc:Nat) (cur curv:Array Value) (t tv:TypeId) (hb:w.heap[b]?=some (.cells cur t (0,0))) (hsz:cur.size=c*4) (hvb:w.heap[vb]?=some (.cells curv tv (0,0))) (hszv:curv.size=vc*4) (hvc:1≤vc) (hne:vb≠b)
  (hone:∀ q,q<n*4→(cur.getD q undef).oneCell'=true) (honev:∀ q,q<4→(curv.getD q undef).oneCell'=true) :
  Calls Tryz.prog 72 #[.slice (some ⟨b,0,none⟩) n c,.int .i64 (i:Int),.slice (some ⟨vb,0,none⟩) 1 vc] w fun e w'=>e=.returned (.slice (some ⟨b,0,none⟩) (n+1) c) ∧
   ∃ cur',RowX w b t cur' w'∧cur'.size=cur.size∧∀ p,p<n+1→∀ j,j<4→cur'.getD (p*4+j) undef=if p<i then cur.getD (p*4+j) undef else if p=i then curv.getD j undef else cur.getD ((p-1)*4+j) undef:=by
 obtain ⟨i0,z,hi0,hz0,hs0,hzc,hby⟩:=OE
 have hs4:(Tryz.prog.info? 58).map (·.size)=some 4:=by rw [hi0]; simp [hs0]
 obtain ⟨cs,hcs⟩:∃ cs,cs=(y4 ((n-i)*4)).map fun q=>cur.getD (i*4+q) undef:=⟨_,rfl⟩
 obtain ⟨vs,hvs⟩:∃ vs,vs=(y4 4).map fun q=>curv.getD q undef:=⟨_,rfl⟩
 have hcl:cs.length=(n-i)*4:=by rw [hcs]; simp
 have hvl:vs.length=4:=by rw [hvs]; simp
 have hcg:∀ q,q<(n-i)*4→cs[q]?=some (cur.getD (i*4+q) undef):=fun q hq=>by rw [hcs,yD,yE hq]; rfl
 have hvg:∀ q,q<4→vs[q]?=some (curv.getD q undef):=fun q hq=>by rw [hvs,yD,yE hq]; rfl
 have h1c:∀ v∈cs,v.oneCell'=true:=by
  intro u hu
  rw [hcs] at hu
  obtain ⟨q,hq,rfl⟩:=yS.1 hu
  rw [yT] at hq
  exact hone _ (by omega)
 have h1v:∀ v∈vs,v.oneCell'=true:=by
  intro u hu
  rw [hvs] at hu
  obtain ⟨q,hq,rfl⟩:=yS.1 hu
  rw [yT] at hq
  exact honev _ hq
 have hov:∀ (W:World),W.heap[b]?=some (.cells cur t (0,0))→W.heap[vb]?=some (.cells curv tv (0,0))→∀ lb cb,(callFunc 96 #[.slice (some ⟨vb,0,none⟩) 1 vc,.slice (some ⟨b,(i+1)*4,none⟩) lb cb]).run Tryz.prog W=.ok (.value (.bool false)) W:=fun W hb hvb lb cb=>by
  rw [run_callFunc_extern (fn:=Tryz.f96) (by kernel_rfl) (by kernel_rfl) (by kernel_rfl) (by kernel_rfl) (e:=Extern.SlicesOverlaps.overlaps #[24,24] #[4]) (by kernel_rfl),
   Lib.run_overlaps_apart W 24 4 58 Tryz.underlying24 4 (fun w=>by simp [Go.sizeOf,typeInfo,hi0,hs0]) ⟨vb,0,none⟩ ⟨b,(i+1)*4,none⟩ 1 vc lb cb hne tv t curv.size cur.size (by simp [World.shape?,hvb]) (by simp [World.shape?,hb]) (by omega) (Q7 hvb _) (Q7 hvb _)]
  rfl
 have hmA:xU (n-i) (n+1-(i+1))=n-i:=by simp only [xE]; split <;> omega
 have hmA':xU (n+1-i) (n+1-(i+1))=n-i:=by simp only [xE]; split <;> omega
 have hmB:xU 1 (n+1-i)=1:=by simp only [xE]; split <;> omega
 have hcpA:∀ (W:World),W.heap[b]?=some (.cells cur t (0,0))→∀ ty dc sc,(Builtin.copy_ #[24,24] ty #[.slice (some ⟨b,(i+1)*4,none⟩) (n+1-(i+1)) dc,.slice (some ⟨b,i*4,none⟩) (n+1-i) sc]).run Tryz.prog W=.ok (goInt ((n-i:Nat):Int)) (W.setCells b ((i+1)*4) cs):=fun W hW ty dc sc=>by
  have h:=HO (P:=Tryz.prog) W 24 24 ty 58 4 b ((i+1)*4) (n+1-(i+1)) dc ⟨b,i*4,none⟩ (n+1-i) sc cs Tryz.underlying24 hs4 (by rw [hmA',hcl])
   (fun j v hj=>by
    have hq:j<(n-i)*4:=by rw [←hcl]; exact (zX.1 hj).1
    rw [hcg j hq] at hj
    rw [Addr.add_lit,← hj]
    exact JW hW (by omega))
   (fun j hj=>by rw [hcl] at hj; rw [JW hW (by omega)]; rfl) (fun j hj=>Q7 hW _) h1c
  rw [hmA'] at h
  exact h
 obtain ⟨W1,hW1⟩:∃ W1,W1=w.drew.setCells b ((i+1)*4) cs:=⟨_,rfl⟩
 have hr0:RowX w b t cur w.drew:=⟨rfl,rfl,rfl,zQ _,fun _ _ _=>rfl,hb⟩
 obtain ⟨cur1,hr1,hz1,hg1⟩:=hr0.cells cs ((i+1)*4) (by rw [hcl]; omega)
 rw [←hW1] at hr1
 have hvlt:vb<w.heap.size:=(yA.1 hvb).1
 have hvb1:W1.heap[vb]?=some (.cells curv tv (0,0)):=by rw [hr1.block vb hvlt hne]; exact hvb
 have hcpB:∀ (W:World),W.heap[b]?=some (.cells cur1 t (0,0))→W.heap[vb]?=some (.cells curv tv (0,0))→∀ ty dc,(Builtin.copy_ #[24,24] ty #[.slice (some ⟨b,i*4,none⟩) (n+1-i) dc,.slice (some ⟨vb,0,none⟩) 1 vc]).run Tryz.prog W=.ok (goInt 1) (W.setCells b (i*4) vs):=fun W hW hWv ty dc=>by
  have h:=HO (P:=Tryz.prog) W 24 24 ty 58 4 b (i*4) (n+1-i) dc ⟨vb,0,none⟩ 1 vc vs Tryz.underlying24 hs4 (by rw [hmB,hvl])
   (fun j v hj=>by
    have hq:j<4:=by rw [←hvl]; exact (zX.1 hj).1
    rw [hvg j hq] at hj
    rw [Addr.add_lit,← hj]
    have:=JW hWv (q:=0+j) (by omega)
    rw [this,yH])
   (fun j hj=>by rw [hvl] at hj; rw [JW hW (by omega)]; rfl) (fun j hj=>Q7 hW _) h1v
  rw [hmB] at h
  exact h
 obtain ⟨cur2,hr2,hz2,hg2⟩:=hr1.cells vs (i*4) (by rw [hvl]; omega)
 have hA:=hcpA w.drew hb
 rw [←hW1,show n+1-(i+1)=n-i by omega] at hA
 have hO:=hov w hb hvb
 have hfin:Hid (∃ cur',RowX w b t cur' (W1.setCells b (i*4) vs)∧cur'.size=cur.size∧∀ p,p<n+1→∀ j,j<4→cur'.getD (p*4+j) undef=if p<i then cur.getD (p*4+j) undef else if p=i then curv.getD j undef else cur.getD ((p-1)*4+j) undef):=by
  refine ⟨cur2,hr2,by rw [hz2,hz1],fun p hp j hj=>?_⟩
  rw [hg2,hvl]
  by_cases h1:p<i
  ·rw [if_neg (by omega),if_pos h1,hg1,hcl,if_neg (by omega)]
  ·by_cases h2:p=i
   ·subst h2
    rw [if_pos (by omega),if_neg (by omega),if_pos rfl,zV,hvg _ (by omega),zY]
    congr 1
    omega
   ·rw [if_neg (by omega),if_neg h1,if_neg h2,hg1,hcl,if_pos (by omega),zV,hcg _ (by omega),zY]
    congr 1
    omega
 have hB1:=hcpB W1 hr1.row hvb1
 have mixed:Tryz.prog.follows .mixedOrders=true:=by kernel_rfl
 have hz1':¬ ((i:Int)=(n:Int)):=by omega
 have hw1:IntKind.i64.wrap ((i:Int)+1)=(i:Int)+1:=by rw [IntKind.wrap_i64]; omega
 have hb1:(0:Int)≤(i:Int)+1:=by omega
 have hin:i≤n:=by omega
 have htn:((i:Int)+1).toNat=i+1:=by omega
 have hb2:¬ (c=i+1):=by omega
 have hb3:(i:Int)≤(n:Int)+1:=by omega
 have hb4:¬ (c=i):=by omega
 clear hcpA hcpB hov hr0 hr1 hr2 hg1 hg2 hcg hvg hone honev hcs hvs h1c h1v hW1 hz1 hz2 hb hvb hvb1
 go_enter Tryz.func72,Tryz.ntmps72
 go_wp2_with (simp only [hO])
 go_region_law_o (refine step_copy_runI rfl (.tmp 73) (.tmp 76) 24 24 rfl _ _ (by simp [Act.eval,Act.put]) (by simp [Act.eval,Act.put]) (hA _ _ _) ?_)
 go_wp2_with (simp only [hB1])
 go_ret
 exact ⟨rfl,hfin.out⟩
end Go.Proofs.YtjkpbnbkofnajaaGreat
set_option maxRecDepth 100000
set_option linter.unusedSimpArgs false
set_option linter.unusedVariables false
set_option linter.unusedSectionVars false
namespace Go.Proofs.YtjkpbnbkofnajaaGreat
open Go.RowKit Go.Shelf
theorem WZ (n i c:Nat) (hi:i<n) (hnc:n≤c) (hroom:c<n+1) (hbig:n≤1048576) (w:World) (b vb vc:Nat) (cur curv:Array Value) (t tv:TypeId) (hb:w.heap[b]?=some (.cells cur t (0,0))) (hsz:cur.size=c*4) (hvb:w.heap[vb]?=some (.cells curv tv (0,0))) (hszv:curv.size=vc*4) (hvc:1≤vc)
  (hone:∀ q,q<n*4→(cur.getD q undef).oneCell'=true) (honev:∀ q,q<4→(curv.getD q undef).oneCell'=true) :
  Calls Tryz.prog 72 #[.slice (some ⟨b,0,none⟩) n c,.int .i64 (i:Int),.slice (some ⟨vb,0,none⟩) 1 vc] w fun e w'=>∃ (G:Nat) (ROW cur':Array Value),e=.returned (.slice (some ⟨w.heap.size,0,none⟩) (n+1) G) ∧
   RowX (w.drew.alloc (.cells ROW 58)) w.heap.size 58 cur' w'∧cur'.size=G*4∧n+1≤G∧G≤9223372036854775807∧∀ p,p<n+1→∀ j,j<4→cur'.getD (p*4+j) undef=if p<i then cur.getD (p*4+j) undef else if p=i then curv.getD j undef else cur.getD ((p-1)*4+j) undef:=by
 obtain ⟨i0,z,hi0,hz0,hs0,hzc,hby⟩:=OE
 have hs4:(Tryz.prog.info? 58).map (·.size)=some 4:=by rw [hi0]; simp [hs0]
 obtain ⟨hd,hhd⟩:∃ hd,hd=(y4 (i*4)).map fun q=>cur.getD q undef:=⟨_,rfl⟩
 have hhl:hd.length=i*4:=by rw [hhd]; simp
 have hhg:∀ q,q<i*4→hd[q]?=some (cur.getD q undef):=fun q hq=>by rw [hhd,yD,yE hq]; rfl
 have hold:(Builtin.firstCells i0.size i (.slice (some ⟨b,0,none⟩) i c)).run Tryz.prog w.drew=.ok hd.toArray w.drew:=by
  rw [hs0]
  exact run_firstCells_some w.drew 4 i ⟨b,0,none⟩ i c hd (by rw [hhl]) (fun j v hj=>by
   have hq:j<i*4:=by rw [←hhl]; exact (zX.1 hj).1
   rw [hhg j hq] at hj
   rw [Addr.add_lit,← hj]
   have hbd:w.drew.heap[b]?=some (.cells cur t (0,0)):=hb
   have:=JW hbd (q:=0+j) (by omega)
   rw [this,yH])
 have hkk:(n:Int)+1-(i:Int)=((n+1-i:Nat):Int):=by omega
 have hik:i+(n+1-i)=n+1:=by omega
 have hrz:∀ ty,(Builtin.append_ #[24,3] ty #[.slice (some ⟨b,0,none⟩) i c,.int .i64 ((n:Int)+1-(i:Int))]).run Tryz.prog w =
   .ok (.slice (some ⟨w.heap.size,0,none⟩) (n+1) (grownCap w (n+1) c 58)) (w.drew.alloc (.cells (hd.toArray++Builtin.zeroCells z.cells (n+1-i)++Builtin.zeroCells z.cells (grownCap w (n+1) c 58-(n+1))) 58)):=fun ty=>by
  have h:=Lib.run_append_grow_zeros w 24 3 ty 58 i0 z .i64 .i64 Tryz.underlying24 Tryz.underlying3 hi0 hz0 (some ⟨b,0,none⟩) i c hd hold (n+1-i) (by omega) (by omega) (by omega) (by omega) (by rw [hby]; omega) (by rw [hby,hik]; exact growslice_fits hroom (by omega))
  rw [hik] at h
  rw [hkk]
  exact h
 obtain ⟨G,hG⟩:∃ G,G=grownCap w (n+1) c 58:=⟨_,rfl⟩
 obtain ⟨ROW,hROW⟩:∃ ROW:Array Value,ROW=hd.toArray++Builtin.zeroCells z.cells (n+1-i)++Builtin.zeroCells z.cells (G-(n+1)):=⟨_,rfl⟩
 rw [←hG] at hrz
 rw [←hROW] at hrz
 have hGn:n+1≤G:=by rw [hG]; exact grownCap_ge w _ _ _
 have hG63:G≤9223372036854775807:=by
  have:=grownCap_le_maxLen w (n+1) c 58 (by unfold maxLen; omega)
  rw [←hG] at this
  unfold maxLen at this
  omega
 have hRl:ROW.size=G*4:=by
  rw [hROW]
  simp [Builtin.zeroCells,hzc,hhl]
  omega
 have hRg:∀ q,q<i*4→ROW.getD q undef=cur.getD q undef:=fun q hq=>by
  rw [hROW,Array.append_assoc,zR,Array.getElem?_append_left (by simp [hhl]; omega)]
  rw [List.getElem?_toArray,hhg q hq,zY]
 obtain ⟨cs,hcs⟩:∃ cs,cs=(y4 ((n-i)*4)).map fun q=>cur.getD (i*4+q) undef:=⟨_,rfl⟩
 obtain ⟨vs,hvs⟩:∃ vs,vs=(y4 4).map fun q=>curv.getD q undef:=⟨_,rfl⟩
 have hcl:cs.length=(n-i)*4:=by rw [hcs]; simp
 have hvl:vs.length=4:=by rw [hvs]; simp
 have hcg:∀ q,q<(n-i)*4→cs[q]?=some (cur.getD (i*4+q) undef):=fun q hq=>by rw [hcs,yD,yE hq]; rfl
 have hvg:∀ q,q<4→vs[q]?=some (curv.getD q undef):=fun q hq=>by rw [hvs,yD,yE hq]; rfl
 have h1c:∀ v∈cs,v.oneCell'=true:=by
  intro u hu
  rw [hcs] at hu
  obtain ⟨q,hq,rfl⟩:=yS.1 hu
  rw [yT] at hq
  exact hone _ (by omega)
 have h1v:∀ v∈vs,v.oneCell'=true:=by
  intro u hu
  rw [hvs] at hu
  obtain ⟨q,hq,rfl⟩:=yS.1 hu
  rw [yT] at hq
  exact honev _ hq
 obtain ⟨W0,hW0⟩:∃ W0,W0=w.drew.alloc (.cells ROW 58):=⟨_,rfl⟩
 have hnew:W0.heap[w.heap.size]?=some (.cells ROW 58 (0,0)):=by rw [hW0]; exact heap_alloc_new w.drew _
 have hbl0:∀ x,x<w.heap.size→W0.heap[x]?=w.heap[x]?:=fun x hx=>by rw [hW0]; exact Below.heap_alloc w.drew _ x hx
 have hblt:b<w.heap.size:=(yA.1 hb).1
 have hvlt:vb<w.heap.size:=(yA.1 hvb).1
 have hW0s:W0.heap.size=w.heap.size+1:=by rw [hW0]; exact xQ _
 have hr0:RowX W0 w.heap.size 58 ROW W0:=⟨rfl,rfl,rfl,zQ _,fun _ _ _=>rfl,hnew⟩
 obtain ⟨cur1,hr1,hz1,hg1⟩:=hr0.cells vs (i*4) (by rw [hvl]; omega)
 obtain ⟨W1,hW1⟩:∃ W1,W1=W0.setCells w.heap.size (i*4) vs:=⟨_,rfl⟩
 rw [←hW1] at hr1
 have hb1:W1.heap[b]?=some (.cells cur t (0,0)):=by rw [hr1.block b (by omega) (by omega),hbl0 b hblt]; exact hb
 have hvb0:W0.heap[vb]?=some (.cells curv tv (0,0)):=by rw [hbl0 vb hvlt]; exact hvb
 have hr1d:RowX W0 w.heap.size 58 cur1 W1.drew:=⟨hr1.os,hr1.tape,hr1.output,hr1.size,hr1.block,hr1.row⟩
 obtain ⟨cur2,hr2,hz2,hg2⟩:=hr1d.cells cs ((i+1)*4) (by rw [hcl]; omega)
 have hmA:xU 1 (n+1-i)=1:=by simp only [xE]; split <;> omega
 have hmB:xU (n-i) (n-i)=n-i:=by simp only [xE]; split <;> omega
 have hcpA:∀ (W:World),W.heap[w.heap.size]?=some (.cells ROW 58 (0,0))→W.heap[vb]?=some (.cells curv tv (0,0))→∀ ty dc,(Builtin.copy_ #[24,24] ty #[.slice (some ⟨w.heap.size,i*4,none⟩) (n+1-i) dc,.slice (some ⟨vb,0,none⟩) 1 vc]).run Tryz.prog W=.ok (goInt 1) (W.setCells w.heap.size (i*4) vs):=fun W hW hWv ty dc=>by
  have h:=HO (P:=Tryz.prog) W 24 24 ty 58 4 w.heap.size (i*4) (n+1-i) dc ⟨vb,0,none⟩ 1 vc vs Tryz.underlying24 hs4 (by rw [hmA,hvl])
   (fun j v hj=>by
    have hq:j<4:=by rw [←hvl]; exact (zX.1 hj).1
    rw [hvg j hq] at hj
    rw [Addr.add_lit,← hj]
    have:=JW hWv (q:=0+j) (by omega)
    rw [this,yH])
   (fun j hj=>by rw [hvl] at hj; rw [JW hW (by omega)]; rfl) (fun j hj=>Q7 hW _) h1v
  rw [hmA] at h
  exact h
 have hcpB:∀ (W:World),W.heap[w.heap.size]?=some (.cells cur1 58 (0,0))→W.heap[b]?=some (.cells cur t (0,0))→∀ ty dc sc,(Builtin.copy_ #[24,24] ty #[.slice (some ⟨w.heap.size,(i+1)*4,none⟩) (n-i) dc,.slice (some ⟨b,i*4,none⟩) (n-i) sc]).run Tryz.prog W=.ok (goInt ((n-i:Nat):Int)) (W.setCells w.heap.size ((i+1)*4) cs):=fun W hW hWb ty dc sc=>by
  have h:=HO (P:=Tryz.prog) W 24 24 ty 58 4 w.heap.size ((i+1)*4) (n-i) dc ⟨b,i*4,none⟩ (n-i) sc cs Tryz.underlying24 hs4 (by rw [hmB,hcl])
   (fun j v hj=>by
    have hq:j<(n-i)*4:=by rw [←hcl]; exact (zX.1 hj).1
    rw [hcg j hq] at hj
    rw [Addr.add_lit,← hj]
    exact JW hWb (by omega))
   (fun j hj=>by rw [hcl] at hj; rw [JW hW (by omega)]; rfl) (fun j hj=>Q7 hW _) h1c
  rw [hmB] at h
  exact h
 have hfin:Hid (RowX W0 w.heap.size 58 cur2 (W1.drew.setCells w.heap.size ((i+1)*4) cs)∧cur2.size=G*4∧n+1≤G∧G≤9223372036854775807∧∀ p,p<n+1→∀ j,j<4→cur2.getD (p*4+j) undef=if p<i then cur.getD (p*4+j) undef else if p=i then curv.getD j undef else cur.getD ((p-1)*4+j) undef):=by
  refine ⟨hr2,by rw [hz2,hz1,hRl],hGn,hG63,fun p hp j hj=>?_⟩
  rw [hg2,hcl]
  by_cases h1:p<i
  ·rw [if_neg (by omega),if_pos h1,hg1,hvl,if_neg (by omega),hRg _ (by omega)]
  ·by_cases h2:p=i
   ·subst h2
    rw [if_neg (by omega),if_neg (by omega),if_pos rfl,hg1,hvl,if_pos (by omega),zV,hvg _ (by omega),zY]
    congr 1
    omega
   ·rw [if_pos (by omega),if_neg h1,if_neg h2,zV,hcg _ (by omega),zY]
    congr 1
    omega
 rw [←hW0] at hrz
 have hA0:=hcpA W0 hnew hvb0
 rw [←hW1] at hA0
 have hB0:=hcpB W1.drew hr1.row hb1
 have mixed:Tryz.prog.follows .mixedOrders=true:=by kernel_rfl
 have hz1':¬ ((i:Int)=(n:Int)):=by omega
 have hz3:(c:Int)<(n:Int)+1:=by omega
 have hw1:IntKind.i64.wrap ((i:Int)+1)=(i:Int)+1:=by rw [IntKind.wrap_i64]; omega
 have hb1':(0:Int)≤(i:Int)+1:=by omega
 have hin:i≤n:=by omega
 have htn:((i:Int)+1).toNat=i+1:=by omega
 have hb2:¬ (G=i):=by omega
 have hb3:(i:Int)≤(n:Int):=by omega
 have hb4:¬ (c=i):=by omega
 have hb5:¬ (G=i+1):=by omega
 have hb6:n+1-(i+1)=n-i:=by omega
 have hW:Hid (W0=w.drew.alloc (.cells ROW 58)):=hW0
 clear hr1d hW0 hW1 hcpA hcpB hr0 hr1 hr2 hg1 hg2 hcg hvg hhg hone honev hcs hvs h1c h1v hz1 hz2 hb hvb hnew hb1 hvb0 hold hROW hG hRg hbl0 hhd hRl hmA hmB hW0s hkk hik hsz hszv hhl hcl hvl
 go_enter Tryz.func72,Tryz.ntmps72
 go_wp2_with (first
  |(at_builtin; refine Lib.wpList_append_run _ rfl _ _ _ _ rfl _ _ rfl rfl _ _ (hrz _) ?_)
  |(at_builtin; refine wpList_copy_runI _ rfl _ _ 24 24 rfl _ _ rfl rfl (hA0 _ _) ?_))
 go_region_law_o (refine step_copy_runI rfl (.tmp 50) (.tmp 53) 24 24 rfl _ _ (by simp [Act.eval,Act.put]) (by simp [Act.eval,Act.put]) (hB0 _ _ _) ?_)
 go_wp2
 go_ret
 exact ⟨G,ROW,cur2,rfl,by rw [←hW.out]; exact hfin.out.1,hfin.out.2.1,hfin.out.2.2.1,hfin.out.2.2.2.1,hfin.out.2.2.2.2⟩
end Go.Proofs.YtjkpbnbkofnajaaGreat
set_option maxRecDepth 100000
set_option linter.unusedSimpArgs false
set_option linter.unusedVariables false
set_option linter.unusedSectionVars false
namespace Go.Proofs.YtjkpbnbkofnajaaGreat
open Go.RowKit Go.Shelf
theorem Y6 {α:Type} (es:List α) (x:α) (i:Nat) (hi:i≤es.length):(es.take i++x :: es.drop i).length=es.length+1:=by simp; omega
theorem Y7 {α:Type} {es:List α} {x:α} {i:Nat} {p:Nat} (hp:p<(es.take i++x :: es.drop i).length) (h:p<i) (hi:i≤es.length):∃ hq:p<es.length,(es.take i++x :: es.drop i)[p]=es[p]:=by
 have hq:p<es.length:=by omega
 refine ⟨hq,?_⟩
 rw [List.getElem_append_left (by simp; omega),List.getElem_take]
theorem Y8 {α:Type} {es:List α} {x:α} {i:Nat} (hp:i<(es.take i++x :: es.drop i).length) (hi:i≤es.length):(es.take i++x :: es.drop i)[i]=x:=by
 rw [xC (by simp; omega)]
 have e:i-(es.take i).length=0:=by simp; omega
 simp only [e,z8]
theorem Y9 {α:Type} {es:List α} {x:α} {i:Nat} {p:Nat} (hp:p<(es.take i++x :: es.drop i).length) (h:i<p) (hi:i≤es.length):∃ hq:p-1<es.length,(es.take i++x :: es.drop i)[p]=es[p-1]:=by
 have hq:p-1<es.length:=by rw [Y6 es x i hi] at hp; omega
 refine ⟨hq,?_⟩
 rw [xC (by simp; omega)]
 have e:p-(es.take i).length=(p-1-i)+1:=by simp; omega
 simp only [e,yI,List.getElem_drop]
 congr 1
 omega
theorem Tf {w w':World} {I S0 S1 S':Nat→Prop} {es:List (List OT)} {x:List OT} {i b b' G:Nat} (hi:i≤es.length) {cur curv cur':Array Value} {Sub Subv:Nat→Nat→Nat→Prop}
  (g4:∀ i (h:i<es.length),es[i].length=4) (g5:∀ i j x,Sub i j x→S0 x∧x≠b) (g6:∀ i j i' j' x,Sub i j x→Sub i' j' x→i=i'∧j=j') (g7:∀ i j (h:i<es.length) (h':j<es[i].length),ORep w I (Sub i j) (es[i][j]) (cur.getD (i*4+j) undef))
  (a4:x.length=4) (a5:∀ j x,Subv 0 j x→S1 x) (a6:∀ j j' x,Subv 0 j x→Subv 0 j' x→j=j') (a7:∀ j (h':j<x.length),ORep w I (Subv 0 j) (x[j]) (curv.getD j undef))
  (h01:∀ b,S0 b→¬ S1 b) (hsz:w.heap.size≤w'.heap.size) (hk:∀ y,y<w.heap.size→(I y∨(S0 y∧y≠b)∨S1 y)→w'.heap[y]?=w.heap[y]?)
  (hb':w'.heap[b']?=some (.cells cur' 58 (0,0))) (hS':S' b') (hSub:∀ y,(S0 y∧y≠b)∨S1 y→S' y∧y≠b') (hG:es.length+1≤G) (hG63:G≤9223372036854775807) (hcs:cur'.size=G*4)
  (hcell:∀ p,p<es.length+1→∀ j,j<4→cur'.getD (p*4+j) undef=if p<i then cur.getD (p*4+j) undef else if p=i then curv.getD j undef else cur.getD ((p-1)*4+j) undef) :
  RowR w' I S' 58 4 (es.take i++x :: es.drop i) (.slice (some ⟨b',0,none⟩) (es.length+1) G):=by
 have hlen:=Y6 es x i hi
 have hks:KeepS I w w':=⟨hsz,fun y hy hlt=>hk y hlt (.inl hy)⟩
 refine .inr ⟨b',G,cur',fun p j y=>(p<i∧Sub p j y)∨(p=i∧Subv 0 j y)∨(i<p∧Sub (p-1) j y),by rw [hlen],hS',hb',by rw [hlen]; exact hG,hG63,hcs,fun p hp=>?_,fun p j y h=>?_,fun p j p' j' y h h'=>?_,fun p j hp hj=>?_⟩
 ·rcases xF p i with h | h | h
  ·obtain ⟨hq,e⟩:=Y7 hp h hi
   rw [e]; exact g4 _ hq
  ·subst h
   rw [Y8 hp hi]; exact a4
  ·obtain ⟨hq,e⟩:=Y9 hp h hi
   rw [e]; exact g4 _ hq
 ·rcases h with ⟨_,h⟩ | ⟨_,h⟩ | ⟨_,h⟩
  ·exact hSub y (.inl (g5 _ _ _ h))
  ·exact hSub y (.inr (a5 _ _ h))
  ·exact hSub y (.inl (g5 _ _ _ h))
 ·rcases h with ⟨q,h⟩ | ⟨q,h⟩ | ⟨q,h⟩ <;> rcases h' with ⟨q',h'⟩ | ⟨q',h'⟩ | ⟨q',h'⟩
  ·exact g6 _ _ _ _ _ h h'
  ·exact (h01 _ (g5 _ _ _ h).1 (a5 _ _ h')).elim
  ·obtain ⟨k1,k2⟩:=g6 _ _ _ _ _ h h'
   exact ⟨by omega,k2⟩
  ·exact (h01 _ (g5 _ _ _ h').1 (a5 _ _ h)).elim
  ·exact ⟨by omega,a6 _ _ _ h h'⟩
  ·exact (h01 _ (g5 _ _ _ h').1 (a5 _ _ h)).elim
  ·obtain ⟨k1,k2⟩:=g6 _ _ _ _ _ h h'
   exact ⟨by omega,k2⟩
  ·exact (h01 _ (g5 _ _ _ h).1 (a5 _ _ h')).elim
  ·obtain ⟨k1,k2⟩:=g6 _ _ _ _ _ h h'
   exact ⟨by omega,k2⟩
 ·have hp':p<es.length+1:=by omega
  rcases xF p i with h | h | h
  ·obtain ⟨hq,e⟩:=Y7 hp h hi
   have hj':j<es[p].length:=by rw [←e]; exact hj
   have h7:=(g7 p j hq hj').keep (w':=w') hks (fun _ h=>h) fun y hy hlt=>hk y hlt (.inr (.inl (g5 _ _ _ hy)))
   rw [hcell p hp' j (by rw [g4 _ hq] at hj'; exact hj'),if_pos h]
   have h8:=h7.up (S':=fun y=>(p<i∧Sub p j y)∨(p=i∧Subv 0 j y)∨(i<p∧Sub (p-1) j y)) fun y hy=>.inl ⟨h,hy⟩
   simp only [e]
   exact h8
  ·subst h
   have e:=Y8 hp hi
   have hj':j<x.length:=by rw [←e]; exact hj
   have h7:=(a7 j hj').keep (w':=w') hks (fun _ h=>h) fun y hy hlt=>hk y hlt (.inr (.inr (a5 _ _ hy)))
   rw [hcell p hp' j (by rw [a4] at hj'; exact hj'),if_neg (by omega),if_pos rfl]
   have h8:=h7.up (S':=fun y=>(p<p∧Sub p j y)∨(p=p∧Subv 0 j y)∨(p<p∧Sub (p-1) j y)) fun y hy=>.inr (.inl ⟨rfl,hy⟩)
   have h9:∀ (l:List OT) (hl:(es.take p++x :: es.drop p)[p]=l) (hj:j<(es.take p++x :: es.drop p)[p].length) (hj':j<l.length),((es.take p++x :: es.drop p)[p])[j]=l[j]:=fun l hl hj hj'=>by subst hl; rfl
   rw [h9 x e hj hj']
   exact h8
  ·obtain ⟨hq,e⟩:=Y9 hp h hi
   have hj':j<es[p-1].length:=by rw [←e]; exact hj
   have h7:=(g7 (p-1) j hq hj').keep (w':=w') hks (fun _ h=>h) fun y hy hlt=>hk y hlt (.inr (.inl (g5 _ _ _ hy)))
   rw [hcell p hp' j (by rw [g4 _ hq] at hj'; exact hj'),if_neg (by omega),if_neg (by omega)]
   have h8:=h7.up (S':=fun y=>(p<i∧Sub p j y)∨(p=i∧Subv 0 j y)∨(i<p∧Sub (p-1) j y)) fun y hy=>.inr (.inr ⟨h,hy⟩)
   simp only [e]
   exact h8
theorem Q8 {w:World} {I S0 S1:Nat→Prop} {t1:TypeId} {es:List (List OT)} {x:List OT} {v0 v1:Value} (i:Nat) (hi:i≤es.length) (hbig:es.length≤1048576)
  (h0:RowR w I S0 58 4 es v0) (h1:RowR w I S1 t1 4 [x] v1) (l1:∀ b,S1 b→b<w.heap.size) (l0:∀ b,S0 b→b<w.heap.size) (hI0:∀ b,S0 b→¬ I b) (h01:∀ b,S0 b→¬ S1 b) :
  Calls Tryz.prog 72 #[v0,.int .i64 (i:Int),v1] w fun e w'=>∃ v' S',e=.returned v'∧RowR w' I S' 58 4 (es.take i++x :: es.drop i) v' ∧
   (∀ b,S' b→S0 b∨S1 b∨(w.heap.size≤b∧b<w'.heap.size))∧w'.os=w.os∧TapeOk w w'∧w'.output=w.output∧w.heap.size≤w'.heap.size∧∀ b,b<w.heap.size→¬ S0 b→w'.heap[b]?=w.heap[b]?:=by
 obtain ⟨i0,z,hi0,hz0,hs0,hzc,hby⟩:=OE
 rcases h1 with ⟨he,_⟩ | ⟨vb,vc,curv,Subv,rfl,hsv,hvb,a1,a2,a3,a4,a5,a6,a7⟩
 ·cases he
 have a4':x.length=4:=a4 0 (by simp)
 by_cases hin:i=es.length
 ·subst hin
  obtain ⟨v',w',S',hrun,hrow,hS',o1,o2,o3,o4,o5⟩:=Kq (P:=Tryz.prog) (w:=w) (I:=I) (S:=S0) (T:=S1) (t:=58) (es:=es) (new:=[x]) (tr:=24) (ty:=24) (val:=fun i j=>curv.getD (i*4+j) undef) (Sub':=Subv) (a:=some ⟨vb,0,none⟩) (cp:=vc) (v:=v0) Tryz.underlying24 hi0 hz0 hs0 hzc (by omega)
   hI0 h0 (fun _=>⟨vb,0,rfl,fun i j hi hj=>by
    have hi':i=0:=by simp at hi; omega
    subst hi'
    have hq:0*4+j<curv.size:=by simp at a1; omega
    have:=JW hvb hq
    rw [←this]; try simp⟩) a4 (fun i j x hx=>(a5 i j x hx).1) l1 h01 a6 a7 (by simp; omega) (by rw [hby]; simp; omega)
  have hcon:Calls Tryz.prog 72 #[v0,.int .i64 (es.length:Int),.slice (some ⟨vb,0,none⟩) 1 vc] w fun e w2=>e=.returned v'∧w2=w':=by
   rcases h0 with ⟨he,rfl⟩ | ⟨b,cap,cur,Sub,rfl,hs,hb,g1,g2,g3,g4,g5,g6,g7⟩
   ·subst he
    exact Te none 0 0 vb vc w w' v' (fun _=>⟨rfl,rfl⟩) fun ty=>hrun
   ·exact Te (some ⟨b,0,none⟩) es.length cap vb vc w w' v' (fun h=>by cases h) fun ty=>hrun
  refine hcon.mono ?_
  rintro e w2 ⟨rfl,rfl⟩
  refine ⟨v',S',rfl,?_,hS',o1,o2,o3,o4,o5⟩
  rw [List.take_length,List.drop_length]
  exact hrow
 ·have hi':i<es.length:=by omega
  rcases h0 with ⟨he,rfl⟩ | ⟨b,cap,cur,Sub,rfl,hs,hb,g1,g2,g3,g4,g5,g6,g7⟩
  ·subst he; simp at hi'
  have hne:vb≠b:=fun e=>h01 b hs (e▸hsv)
  have hblt:b<w.heap.size:=l0 b hs
  have hvc:1≤vc:=by simpa using a1
  have hone:∀ q,q<es.length*4→(cur.getD q undef).oneCell'=true:=fun q hq=>by
   have hq1:q / 4<es.length:=by omega
   have:=g7 (q / 4) (q % 4) hq1 (by rw [g4 _ hq1]; omega)
   rw [show q / 4*4+q % 4=q by omega] at this
   exact this.one
  have honev:∀ q,q<4→(curv.getD q undef).oneCell'=true:=fun q hq=>by
   have:=a7 0 q (by simp) (by rw [a4 0 (by simp)]; exact hq)
   rw [show 0*4+q=q by omega] at this
   exact this.one
  have a7':∀ j (h':j<x.length),ORep w I (Subv 0 j) (x[j]) (curv.getD j undef):=fun j h'=>by
   have:=a7 0 j (by simp) h'
   rw [show 0*4+j=j by omega] at this
   exact this
  have a5':∀ j y,Subv 0 j y→S1 y:=fun j y h=>(a5 0 j y h).1
  have a6':∀ j j' y,Subv 0 j y→Subv 0 j' y→j=j':=fun j j' y h h'=>(a6 0 j 0 j' y h h').2
  by_cases hroom:es.length+1≤cap
  ·refine (WY es.length i cap hi' hroom g2 w b vb vc cur curv _ _ hb g3 hvb a3 hvc hne hone honev).mono ?_
   rintro e w' ⟨rfl,cur',hro,hcs,hcell⟩
   refine ⟨_,fun y=>S0 y∨S1 y,rfl,Tf hi g4 g5 g6 g7 a4' a5' a6' a7' h01 hro.size (fun y hy h=>hro.block y hy fun e=>?_) hro.row (.inl hs) (fun y h=>?_) hroom g2 (by rw [hcs]; exact g3) hcell,?_,hro.os,⟨hro.tape,fun h=>False.elim h⟩,hro.output,hro.size,fun y hy hn=>hro.block y hy fun e=>hn (e▸hs)⟩
   ·subst e
    rcases h with h | h | h
    ·exact hI0 _ hs h
    ·exact h.2 rfl
    ·exact h01 _ hs h
   ·rcases h with h | h
    ·exact ⟨.inl h.1,h.2⟩
    ·exact ⟨.inr h,fun e=>h01 b hs (e▸h)⟩
   ·intro y h
    rcases h with h | h
    ·exact .inl h
    ·exact .inr (.inl h)
  ·refine (WZ es.length i cap hi' g1 (by omega) hbig w b vb vc cur curv _ _ hb g3 hvb a3 hvc hone honev).mono ?_
   rintro e w' ⟨G,ROW,cur',rfl,hro,hcs,hGn,hG63,hcell⟩
   have hsz:w.heap.size+1≤w'.heap.size:=by
    have:=hro.size
    rw [show (w.drew.alloc (.cells ROW 58)).heap.size=w.heap.size+1 from xQ _] at this
    exact this
   have hblk:∀ y,y<w.heap.size→w'.heap[y]?=w.heap[y]?:=fun y hy=>by
    rw [hro.block y (by rw [show (w.drew.alloc (.cells ROW 58)).heap.size=w.heap.size+1 from xQ _]; omega) (by omega)]
    exact Below.heap_alloc w.drew _ y hy
   refine ⟨_,fun y=>S0 y∨S1 y∨y=w.heap.size,rfl,Tf hi g4 g5 g6 g7 a4' a5' a6' a7' h01 (by omega) (fun y hy _=>hblk y hy) hro.row (.inr (.inr rfl)) (fun y h=>?_) hGn hG63 hcs hcell,?_,hro.os,⟨hro.tape,fun h=>False.elim h⟩,hro.output,by omega,fun y hy _=>hblk y hy⟩
   ·rcases h with h | h
    ·exact ⟨.inl h.1,fun e=>by have:=l0 y h.1; omega⟩
    ·exact ⟨.inr (.inl h),fun e=>by have:=l1 y h; omega⟩
   ·intro y h
    rcases h with h | h | h
    ·exact .inl h
    ·exact .inr (.inl h)
    ·exact .inr (.inr (by omega))
theorem YA {w w':World} {I:Nat→Prop} {V:Nat→Option Value} {B:Nat→Nat→Prop} {k:Nat} {ob obN:List Ob} {t:TypeId} {sz:Nat} {es':List (List OT)} {v':Value} {S':Nat→Prop} (hwf:Wf w I V B (Ae ob))
  (hlv:∀ g,(Ae obN g).live→g=k) (hob:Ae obN k=.row t sz es') (hfr:∀ g,Ae obN g=.free→k<g) (hfo:∀ g,k≤g→Ae ob g=.free)
  (hos:w'.os=w.os) (htape:TapeOk w w') (hout:w'.output=w.output) (hsz:w.heap.size≤w'.heap.size) (hblk:∀ x,x<w.heap.size→¬ HB B ob x→w'.heap[x]?=w.heap[x]?) (hS:∀ x,S' x→HB B ob x∨(w.heap.size≤x∧x<w'.heap.size)) (hrow:RowR w' I S' t sz es' v') :
  FunPost w I V B ob obN w' I (fun g=>if g=k then some v' else V g) (fun g=>if g=k then S' else B g):=by
 refine ⟨⟨hos,htape,hout,hsz,fun x hx hn=>hblk x hx hn⟩,fun _ h=>h,fun _ h=>.inl h,fun g u hu=>?_,?_,fun g x hl hx=>?_⟩
 ·by_cases e:g=k
  ·rw [e,hwf.fr k (hfo k (zQ _))] at hu; cases hu
  ·simp only [e,if_false]; exact hu
 ·refine ⟨fun x hx=>yP (hwf.ilt x hx) hsz,fun g hl=>?_,fun g x hl hx=>?_,fun g x hl hx=>?_,fun g g' x hl hl' _ _=>by rw [hlv g hl,hlv g' hl'],fun g hf=>?_,hwf.gl.keep ⟨hsz,fun x hx hlt=>hblk x hlt fun ⟨g,h1,h2⟩=>hwf.dI g x h1 h2 hx⟩ fun _ h=>h⟩
  ·have e:=hlv g hl
   subst e
   refine ⟨v',by simp,?_⟩
   rw [hob]
   simp only [if_true]
   exact hrow
  ·have e:=hlv g hl
   subst e
   simp only [if_true] at hx
   rcases hS x hx with ⟨g',h1,h2⟩ | h
   ·exact yP (hwf.lt g' x h1 h2) hsz
   ·exact h.2
  ·have e:=hlv g hl
   subst e
   simp only [if_true] at hx
   rcases hS x hx with ⟨g',h1,h2⟩ | h
   ·exact hwf.dI g' x h1 h2
   ·exact fun hI=>by have:=hwf.ilt x hI; omega
  ·have e:¬ g=k:=by have:=hfr g hf; omega
   simp only [e,if_false]
   exact hwf.fr g (hfo g (by have:=hfr g hf; omega))
 ·have e:=hlv g hl
  subst e
  simp only [if_true] at hx
  rcases hS x hx with h | h
  ·exact .inl h
  ·exact .inr h.1
noncomputable def Tg (xs:List SV) (ob:List Ob):Option (SV × List Ob) :=
 match xs,ob with
 | [.ref 0,.int .i64 i,.ref 1],[.row t sz es,.row _ sz' [x]]=>bif dec (t=58∧sz=4∧sz'=4∧0≤i∧i.toNat≤es.length∧es.length≤1048576) then some (.ref 2,[.gone,.gone,.row 58 4 (es.take i.toNat++x :: es.drop i.toNat)]) else none
 | [.nil,.int .i64 i,.ref 0],[.row _ sz' [x]]=>bif dec (i=0∧sz'=4) then some (.ref 1,[.gone,.row 58 4 [x]]) else none
 | _,_=>none
theorem Xa {xs:List SV} {ob:List Ob} {r:SV} {ob':List Ob} (h:Tg xs ob=some (r,ob')):Fun Tryz.prog 72 xs ob r ob':=by
 unfold Tg at h
 split at h
 ·rename_i i t sz es t' sz' x
  obtain ⟨h1,h2⟩:=Ai h
  obtain ⟨rfl,rfl,rfl,k1,k2,k3⟩:=Af.1 h1
  simp only [zN,zS] at h2
  obtain ⟨rfl,rfl⟩:=h2
  clear h h1
  obtain ⟨m,rfl⟩:∃ m:Nat,i=m:=⟨i.toNat,by omega⟩
  rw [Int.toNat_natCast] at k2 ⊢
  intro w I V B vs hwf hvs
  obtain ⟨v,q,rfl,hv,hvs⟩:=Ck hvs
  obtain ⟨v2,q,rfl,hv2,hvs⟩:=Ck hvs
  obtain ⟨v3,q,rfl,hv3,hvs⟩:=Ck hvs
  obtain rfl:=Ln hvs
  simp only [RepV] at hv hv2 hv3
  subst hv2
  obtain ⟨val,hval,hrow⟩:=hwf.obj 0 trivial
  rw [hv.1] at hval
  obtain rfl:=zG hval
  have hrow:RowR w I (B 0) 58 4 es v:=hrow
  obtain ⟨val,hval,hrow1⟩:=hwf.obj 1 trivial
  rw [hv3.1] at hval
  obtain rfl:=zG hval
  have hrow1:RowR w I (B 1) t' 4 [x] v3:=hrow1
  refine (Q8 m k2 k3 hrow hrow1 (fun b hb=>hwf.lt 1 b trivial hb) (fun b hb=>hwf.lt 0 b trivial hb) (fun b hb=>hwf.dI 0 b trivial hb) (fun b hb hb'=>by have:=hwf.dO 0 1 b trivial trivial hb hb'; omega)).mono ?_
  rintro e w' ⟨v',S',rfl,hr,hS',o1,o2,o3,o4,o5⟩
  have hone:v'.oneCell'=true:=by
   obtain ⟨a,n,e,_⟩:=hr.form
   rw [e]; rfl
  refine ⟨_,I,_,_,rfl,by simp only [RepV]; exact ⟨rfl,hone⟩,YA (k:=2) hwf (fun g hl=>?_) rfl (fun g hf=>?_) (fun g hg=>?_) o1 o2 o3 o4 (fun y hy hn=>o5 y hy fun h=>hn ⟨0,trivial,h⟩) (fun y hy=>?_) hr⟩
  ·match g with
   | 0=>exact hl.elim
   | 1=>exact hl.elim
   | 2=>rfl
   | g+3=>exact hl.elim
  ·match g with
   | 0=>cases hf
   | 1=>cases hf
   | 2=>cases hf
   | g+3=>omega
  ·obtain ⟨g',rfl⟩:∃ g',g=g'+2:=⟨g-2,by omega⟩
   rfl
  ·rcases hS' y hy with h | h | h
   ·exact .inl ⟨0,trivial,h⟩
   ·exact .inl ⟨1,trivial,h⟩
   ·exact .inr h
 ·rename_i i t' sz' x
  obtain ⟨h1,h2⟩:=Ai h
  obtain ⟨rfl,rfl⟩:=Af.1 h1
  simp only [zN,zS] at h2
  obtain ⟨rfl,rfl⟩:=h2
  clear h h1
  intro w I V B vs hwf hvs
  obtain ⟨v,q,rfl,hv,hvs⟩:=Ck hvs
  obtain ⟨v2,q,rfl,hv2,hvs⟩:=Ck hvs
  obtain ⟨v3,q,rfl,hv3,hvs⟩:=Ck hvs
  obtain rfl:=Ln hvs
  simp only [RepV] at hv hv2 hv3
  subst hv hv2
  obtain ⟨val,hval,hrow1⟩:=hwf.obj 0 trivial
  rw [hv3.1] at hval
  obtain rfl:=zG hval
  have hrow1:RowR w I (B 0) t' 4 [x] v3:=hrow1
  refine (Q8 (S0:=fun _=>False) (es:=[]) 0 (zQ _) (by simp) (.inl ⟨rfl,rfl⟩) hrow1 (fun b hb=>hwf.lt 0 b trivial hb) (fun b hb=>hb.elim) (fun b hb=>hb.elim) (fun b hb=>hb.elim)).mono ?_
  rintro e w' ⟨v',S',rfl,hr,hS',o1,o2,o3,o4,o5⟩
  have hone:v'.oneCell'=true:=by
   obtain ⟨a,n,e,_⟩:=hr.form
   rw [e]; rfl
  refine ⟨_,I,_,_,rfl,by simp only [RepV]; exact ⟨rfl,hone⟩,YA (k:=1) hwf (fun g hl=>?_) rfl (fun g hf=>?_) (fun g hg=>?_) o1 o2 o3 o4 (fun y hy hn=>o5 y hy fun h=>h) (fun y hy=>?_) hr⟩
  ·match g with
   | 0=>exact hl.elim
   | 1=>rfl
   | g+2=>exact hl.elim
  ·match g with
   | 0=>cases hf
   | 1=>cases hf
   | g+2=>omega
  ·obtain ⟨g',rfl⟩:∃ g',g=g'+1:=⟨g-1,by omega⟩
   rfl
  ·rcases hS' y hy with h | h | h
   ·exact h.elim
   ·exact .inl ⟨0,trivial,h⟩
   ·exact .inr h
 ·cases h
end Go.Proofs.YtjkpbnbkofnajaaGreat
set_option maxRecDepth 100000
set_option linter.unusedSimpArgs false
set_option linter.unusedVariables false
set_option linter.unusedSectionVars false
namespace Go.Proofs.YtjkpbnbkofnajaaGreat
open Go.RowKit Go.Shelf Go.Lib Go.Sort
theorem QaD {w w':World} {I:Nat→Prop} {V:Nat→Option Value} {B:Nat→Nat→Prop} {t:TypeId} {sz:Nat} {es es':List (List OT)} {b cap:Nat} {cur cur':Array Value} (Sub:Nat→Nat→Nat→Prop)
  (hwf:Wf w I V B (Ae [.row t sz es])) (hv:V 0=some (.slice (some ⟨b,0,none⟩) es.length cap)) (hn:es'.length=es.length) (hs:B 0 b) (hb:w.heap[b]?=some (.cells cur t (0,0)))
  (h1:es.length≤cap) (h2:cap≤9223372036854775807) (h3:cur.size=cap*sz) (h4:∀ i (h:i<es'.length),es'[i].length=sz) (h5:∀ i j x,Sub i j x→B 0 x∧x≠b)
  (h6:∀ i j i' j' x,Sub i j x→Sub i' j' x→i=i'∧j=j')
  (hos:w'.os=w.os) (htape:TapeOk w w') (hout:w'.output=w.output) (hsz:w.heap.size≤w'.heap.size) (hblk:∀ x,x<w.heap.size→x≠b→w'.heap[x]?=w.heap[x]?)
  (hb':w'.heap[b]?=some (.cells cur' t (0,0))) (hcs:cur'.size=cur.size)
  (h7:∀ i j (h:i<es'.length) (h':j<es'[i].length),ORep w' I (Sub i j) (es'[i][j]) (cur'.getD (i*sz+j) undef)) :
  FunPost w I V B [.row t sz es] [.row t sz es'] w' I V B:=by
 have g0:∀ (e:List (List OT)),Ae [Ob.row t sz e] 0=.row t sz e:=fun _=>rfl
 have gS:∀ (e:List (List OT)) (g:Nat),Ae [Ob.row t sz e] (g+1)=.free:=fun _ _=>rfl
 have lv:∀ (e e':List (List OT)) (g:Nat),(Ae [Ob.row t sz e] g).live→(Ae [Ob.row t sz e'] g).live:=fun e e' g h=>by
  cases g with
  | zero=>trivial
  | succ g=>rw [gS] at h; exact h.elim
 have hbS:∀ x,B 0 x→HB B [Ob.row t sz es] x:=fun x hx=>⟨0,trivial,hx⟩
 refine ⟨⟨hos,htape,hout,hsz,fun x hx hn=>hblk x hx fun e=>hn (hbS x (e▸hs))⟩,fun _ h=>h,fun _ h=>.inl h,VLe.refl _,?_,fun g x hl hx=>.inl ⟨g,lv _ _ g hl,hx⟩⟩
 refine ⟨fun x hx=>yP (hwf.ilt x hx) hsz,fun g hl=>?_,fun g x hl hx=>yP (hwf.lt g x (lv _ _ g hl) hx) hsz,fun g x hl hx=>hwf.dI g x (lv _ _ g hl) hx,fun g g' x hl hl' hx hx'=>hwf.dO g g' x (lv _ _ g hl) (lv _ _ g' hl') hx hx',fun g hf=>?_,hwf.gl.keep ⟨hsz,fun x hx hlt=>hblk x hlt fun e=>hwf.dI 0 x trivial (e▸hs) hx⟩ fun _ h=>h⟩
 ·cases g with
  | zero =>
   refine ⟨_,hv,.inr ⟨b,cap,cur',Sub,by rw [hn],hs,hb',by rw [hn]; exact h1,h2,by rw [hcs]; exact h3,h4,h5,h6,h7⟩⟩
  | succ g=>rw [gS] at hl; exact hl.elim
 ·cases g with
  | zero=>cases hf
  | succ g=>exact hwf.fr (g+1) rfl
theorem YB {w:World} {I:Nat→Prop} {V:Nat→Option Value} {B:Nat→Nat→Prop} {ob:List Ob} (hwf:Wf w I V B (Ae ob)):FunPost w I V B ob ob w I V B :=
 ⟨⟨rfl,TapeOk.mk' rfl rfl,rfl,zQ _,fun _ _ _=>rfl⟩,fun _ h=>h,fun _ h=>.inl h,VLe.refl _,hwf,fun g b hl hb=>.inl ⟨g,hl,hb⟩⟩
def UT:List OT→ByteArray
 | .str s :: _=>s
 | _=>⟨#[]⟩
end Go.Proofs.YtjkpbnbkofnajaaGreat
set_option maxRecDepth 100000
namespace Go.Proofs.YtjkpbnbkofnajaaGreat
open Go.Shelf
def so_SortS_ren:Go.Shelf.Ren:=⟨fun | 190=>75 | 125=>103 | 258=>102 | 128=>129 | 129=>130 | 302=>120 | 303=>121 | 304=>122 | 305=>123 | 306=>124 | 307=>125 | 308=>126 | 309=>127 | 310=>128 | 333=>140 | 329=>141 | 330=>142 | 334=>143 | 335=>144 | 336=>117 | 344=>148 | n=>n,fun | 31=>72 | 9=>9 | 3=>3 | 46=>126 | 0=>0 | 51=>152 | 53=>154 | 4=>4 | 183=>145 | 182=>144 | 131=>53 | 5=>5 | 218=>160 | 222=>164 | 228=>169 | 229=>170 | n=>n,fun | n=>n⟩
theorem Th:Go.Proofs.Lays.n190 Tryz.prog so_SortS_ren:={
 mixed:=by kernel_rfl,
 f125:=Tryz.func103.trans (congrArg some (by kernel_rfl)),
 f128:=Tryz.func129.trans (congrArg some (by kernel_rfl)),
 f129:=Tryz.func130.trans (congrArg some (by kernel_rfl)),
 f190:=Tryz.func75.trans (congrArg some (by kernel_rfl)),
 f258:=Tryz.func102.trans (congrArg some (by kernel_rfl)),
 f302:=Tryz.func120.trans (congrArg some (by kernel_rfl)),
 f303:=Tryz.func121.trans (congrArg some (by kernel_rfl)),
 f304:=Tryz.func122.trans (congrArg some (by kernel_rfl)),
 f305:=Tryz.func123.trans (congrArg some (by kernel_rfl)),
 f306:=Tryz.func124.trans (congrArg some (by kernel_rfl)),
 f307:=Tryz.func125.trans (congrArg some (by kernel_rfl)),
 f308:=Tryz.func126.trans (congrArg some (by kernel_rfl)),
 f309:=Tryz.func127.trans (congrArg some (by kernel_rfl)),
 f310:=Tryz.func128.trans (congrArg some (by kernel_rfl)),
 f329:=Tryz.func141.trans (congrArg some (by kernel_rfl)),
 f330:=Tryz.func142.trans (congrArg some (by kernel_rfl)),
 f333:=Tryz.func140.trans (congrArg some (by kernel_rfl)),
 f334:=Tryz.func143.trans (congrArg some (by kernel_rfl)),
 f335:=Tryz.func144.trans (congrArg some (by kernel_rfl)),
 f336:=Tryz.func117.trans (congrArg some (by kernel_rfl)),
 f344:=Tryz.func148.trans (congrArg some (by kernel_rfl)),
 t0:=Tryz.underlying0,
 a0:=Tryz.isAgg0,
 z0:=Tryz.sizeOf0,
 v0:=Tryz.zeroValue0,
 t3:=Tryz.underlying3,
 a3:=Tryz.isAgg3,
 z3:=Tryz.sizeOf3,
 v3:=Tryz.zeroValue3,
 t4:=Tryz.underlying4,
 a4:=Tryz.isAgg4,
 z4:=Tryz.sizeOf4,
 v4:=Tryz.zeroValue4,
 t5:=Tryz.underlying5,
 a5:=Tryz.isAgg5,
 z5:=Tryz.sizeOf5,
 v5:=Tryz.zeroValue5,
 t9:=Tryz.underlying9,
 a9:=Tryz.isAgg9,
 z9:=Tryz.sizeOf9,
 v9:=Tryz.zeroValue9,
 t31:=Tryz.underlying72,
 a31:=Tryz.isAgg72,
 z31:=Tryz.sizeOf72,
 v31:=Tryz.zeroValue72,
 t46:=Tryz.underlying126,
 a46:=Tryz.isAgg126,
 z46:=Tryz.sizeOf126,
 v46:=Tryz.zeroValue126,
 t51:=Tryz.underlying152,
 a51:=Tryz.isAgg152,
 z51:=Tryz.sizeOf152,
 v51:=Tryz.zeroValue152,
 t53:=Tryz.underlying154,
 a53:=Tryz.isAgg154,
 z53:=Tryz.sizeOf154,
 v53:=Tryz.zeroValue154,
 t131:=Tryz.underlying53,
 a131:=Tryz.isAgg53,
 z131:=Tryz.sizeOf53,
 v131:=Tryz.zeroValue53,
 t182:=Tryz.underlying144,
 a182:=Tryz.isAgg144,
 z182:=Tryz.sizeOf144,
 v182:=Tryz.zeroValue144,
 t183:=Tryz.underlying145,
 a183:=Tryz.isAgg145,
 z183:=Tryz.sizeOf145,
 v183:=Tryz.zeroValue145,
 t218:=Tryz.underlying160,
 a218:=Tryz.isAgg160,
 z218:=Tryz.sizeOf160,
 v218:=Tryz.zeroValue160,
 t222:=Tryz.underlying164,
 a222:=Tryz.isAgg164,
 z222:=Tryz.sizeOf164,
 v222:=Tryz.zeroValue164,
 t228:=Tryz.underlying169,
 a228:=Tryz.isAgg169,
 z228:=Tryz.sizeOf169,
 v228:=Tryz.zeroValue169,
 t229:=Tryz.underlying170,
 a229:=Tryz.isAgg170,
 z229:=Tryz.sizeOf170,
 v229:=Tryz.zeroValue170 }
end Go.Proofs.YtjkpbnbkofnajaaGreat
set_option maxRecDepth 100000
set_option linter.unusedSimpArgs false
set_option linter.unusedVariables false
set_option linter.unusedSectionVars false
namespace Go.Proofs.YtjkpbnbkofnajaaGreat
open Go.RowKit Go.Shelf Go.Lib Go.Sort
theorem Q9 (w:World) (b m:Nat) (ss:List (List UInt8)) (os:Array Obj) (x:Nat) (hx:x<w.heap.size) :
  (Sort.grow (putRow encStr (Sort.ahead w m) b 0 ss.toArray) os).heap[x]?=if b=x then (w.heap[x]?).map (onCells (putCells encStr 0 ss.toArray)) else w.heap[x]?:=by
 unfold Sort.grow putRow mapBlock Sort.ahead
 have hx':x<(w.heap.modify b (onCells (putCells encStr 0 ss.toArray))).size:=by simpa using hx
 simp only [Array.getElem?_append,Array.size_modify,hx,if_true,yU]
def srt (ss:List (List UInt8)):List (List UInt8):=ss.mergeSort fun x y=>decide (x≤y)
def Wa (l:List UInt8):List OT:=[.str ⟨l.toArray⟩]
noncomputable def sortStr (xs:List SV) (ob:List Ob):Option (SV × List Ob) :=
 match xs,ob with
 | [.ref 0],[.row t sz es]=>bif dec (sz=1∧(∀ e∈es,∃ s,e=[.str s])∧es.length≤1099511627776) then some (.tup [],[.row t sz ((srt (es.map fun e=>(UT e).toList)).map Wa)]) else none
 | _,_=>none
theorem ORep.Qdj {w:World} {I S:Nat→Prop} {s:ByteArray} {v:Value} (h:ORep w I S (.str s) v):v=.string s∧s.size≤9223372036854775807:=by
 cases h with
 | str _ _ hz=>exact ⟨rfl,hz⟩
theorem K4 (s:ByteArray):(⟨s.toList.toArray⟩:ByteArray)=s:=Mm (by rw [ByteArray.toList_eq])
theorem R9 {xs:List SV} {ob:List Ob} {r:SV} {ob':List Ob} (h:sortStr xs ob=some (r,ob')):Fun Tryz.prog 75 xs ob r ob':=by
 unfold sortStr at h
 split at h
 ·rename_i t sz es
  obtain ⟨h1,h2⟩:=Ai h
  obtain ⟨rfl,hk1,hk3⟩:=Af.1 h1
  simp only [zN,zS] at h2
  obtain ⟨rfl,rfl⟩:=h2
  intro w I V B vs hwf hvs
  obtain ⟨v,q,rfl,hv,hvs⟩:=Ck hvs
  obtain rfl:=Ln hvs
  simp only [RepV] at hv
  obtain ⟨val,hval,hrow⟩:=hwf.obj 0 trivial
  rw [hv.1] at hval
  obtain rfl:=zG hval
  have hv0:=hv.1
  have hrow:RowR w I (B 0) t 1 es v:=hrow
  rcases yG es.length with h0 | h0
  ·have he:es=[]:=zO h0
   subst he
   obtain ⟨a,c,rfl,_⟩:=hrow.form
   have hcon:=Any.slices_Sort_string_none Th a c w
   change Calls Tryz.prog 75 _ _ _ at hcon
   refine hcon.mono ?_
   rintro e w' ⟨rfl,rfl⟩
   have e0:(srt ([].map fun e:List OT=>(UT e).toList)).map Wa=[]:=by simp [srt]
   rw [e0]
   exact ⟨_,I,V,B,rfl,by simp only [RepV,RepVs]; exact ⟨[],rfl,rfl⟩,YB hwf⟩
  ·rcases hrow with ⟨he,_⟩ | ⟨b,cap,cur,Sub,rfl,hs,hb,g1,g2,g3,g4,g5,g6,g7⟩
   ·subst he; simp at h0
   have hblt:=(yA.1 hb).1
   obtain ⟨ss,hss⟩:∃ ss,ss=es.map fun e=>(UT e).toList:=⟨_,rfl⟩
   have hsl:ss.length=es.length:=by rw [hss]; simp
   rw [←hss]
   have cellv:∀ i (hi:i<es.length),cur[i]?=some (.string (UT es[i]))∧(UT es[i]).size≤9223372036854775807:=fun i hi=>by
    obtain ⟨s,he⟩:=hk1 es[i] (zJ hi)
    have hlt:i<cur.size:=by rw [g3]; omega
    have l0:=g7 i 0 hi (by rw [g4 i hi]; omega)
    simp only [he,z8,Nat.mul_one,Nat.add_zero,zR,yB hlt,zY] at l0
    rw [yB hlt,he]
    obtain ⟨z1,z2⟩:=ORep.Qdj l0
    exact ⟨by rw [z1]; rfl,z2⟩
   have hH:Holds encStr w b 0 ss.toArray:=by
    intro j hj
    have hj1:j<ss.length:=by simpa using hj
    have hj':j<es.length:=by rw [←hsl]; exact hj1
    refine ⟨?_,?_⟩
    ·rw [yH,cell_of_row w b _ _ _ _ hb,(cellv j hj').1,getElem!_pos ss.toArray j hj]
     simp only [List.getElem_toArray,hss,xL,encStr,K4]
    ·unfold World.frozen?
     rw [hb]
     simp
   have hcon:=Any.slices_Sort_string Th b 0 cap ss w hH hblt (by rw [hsl]; omega)
   change Calls Tryz.prog 75 _ _ _ at hcon
   rw [hsl] at hcon
   refine hcon.mono ?_
   rintro e w' ⟨rfl,m,os,rfl⟩
   refine ⟨_,I,V,B,rfl,by simp only [RepV,RepVs]; exact ⟨[],rfl,rfl⟩,?_⟩
   have hper:(srt ss).Perm ss:=List.mergeSort_perm _ _
   have hsl2:(srt ss).length=es.length:=by rw [hper.length_eq,hsl]
   have hgrow:∀ x,x<w.heap.size→x≠b→(Sort.grow (putRow encStr (Sort.ahead w m) b 0 (srt ss).toArray) os).heap[x]?=w.heap[x]?:=fun x hx hne=>by
    rw [Q9 w b m _ os x hx,if_neg (fun e=>hne e.symm)]
   have hbl:(Sort.grow (putRow encStr (Sort.ahead w m) b 0 (srt ss).toArray) os).heap[b]?=some (.cells (putCells encStr 0 (srt ss).toArray cur) t (0,0)):=by
    rw [Q9 w b m _ os b hblt,if_pos rfl,hb]; rfl
   have hsz:w.heap.size≤(Sort.grow (putRow encStr (Sort.ahead w m) b 0 (srt ss).toArray) os).heap.size:=by
    unfold Sort.grow
    simp [putRow,mapBlock,Sort.ahead]
   have hmem:∀ l∈ss,∃ e∈es,(UT e).toList=l:=by
    rw [hss]
    intro l h
    exact yS.1 h
   have hstr:∀ i (hi:i<(srt ss).length),(⟨(srt ss)[i].toArray⟩:ByteArray).size≤9223372036854775807:=fun i hi=>by
    obtain ⟨e,he,heq⟩:=hmem _ (hper.mem_iff.1 (zJ hi))
    obtain ⟨k,hk,rfl⟩:=zW he
    have:=(cellv k hk).2
    rw [←heq,K4]
    exact this
   refine QaD (fun _ _ _=>False) hwf hv0 (by rw [List.length_map,hsl2]) hs hb g1 g2 g3 (fun i hi=>by rw [xL]; rfl) (fun i j x h=>h.elim) (fun i j i' j' x h h'=>h.elim) rfl ⟨rfl,fun h=>False.elim h⟩ rfl hsz hgrow hbl (by simp [putCells]) (fun i j hi hj=>?_)
   have hi':i<(srt ss).length:=by simpa using hi
   have hj':j<1:=by simpa [Wa] using hj
   obtain rfl:j=0:=by omega
   have hlt:i<cur.size:=by rw [g3]; omega
   have hc:(putCells encStr 0 (srt ss).toArray cur).getD (i*1+0) undef=.string ⟨(srt ss)[i].toArray⟩:=by
    simp only [Nat.mul_one,Nat.add_zero,putCells,zR,Array.getElem?_mapIdx,yB hlt,xO,zY,zL,true_and,yH,List.size_toArray,hi',if_true,Nat.sub_zero]
    rw [getElem!_pos (srt ss).toArray i (by simpa using hi')]
    rfl
   rw [hc]
   simp only [xL,Wa,z8]
   exact .str _ _ (hstr i hi')
 ·cases h
end Go.Proofs.YtjkpbnbkofnajaaGreat
set_option maxRecDepth 100000
set_option linter.unusedSimpArgs false
set_option linter.unusedVariables false
set_option linter.unusedSectionVars false
namespace Go.Proofs.YtjkpbnbkofnajaaGreat
open Go.RowKit
abbrev Tm.sv (x:Tm):SV:=.agg [.str x.name,.arr (x.args.map Tm.d)]
mutual
def Tm.o:Tm→List OT
 | .mk name args=>[.str name,.ow (Tm.os args)]
def Tm.os:List Tm→List (List OT)
 | []=>[]
 | x :: xs=>Tm.o x :: Tm.os xs
end
theorem Tm.QbC:∀ xs:List Tm,Tm.os xs=xs.map Tm.o
 | []=>rfl
 | x :: xs=>by rw [Tm.os,Tm.QbC xs]; rfl
theorem Tm.o_eq (x:Tm):Tm.o x=[.str x.name,.ow (x.args.map Tm.o)]:=by
 obtain ⟨name,args⟩:=x
 rw [Tm.o,Tm.QbC]; rfl
theorem Tm.UU:∀ xs:List Tm,(∀ x∈xs,OT.ers (Tm.o x)=Tm.d x)→OT.erss (xs.map Tm.o)=xs.map Tm.d
 | [],_=>rfl
 | x :: xs,h=>by
  simp only [zH,OT.erss]
  rw [h x (by simp),Tm.UU xs fun y hy=>h y (by simp [hy])]
theorem Tm.er (x:Tm):OT.ers (Tm.o x)=Tm.d x:=by
 have h:=Tm.UU x.args fun y hy=>Tm.er y
 rw [Tm.o_eq,Tm.d_eq]
 simp only [OT.ers,OT.er,h]
termination_by SizeOf.sizeOf x
decreasing_by exact Tm.Ar hy
theorem Tm.erss (xs:List Tm):OT.erss (xs.map Tm.o)=xs.map Tm.d:=Tm.UU xs fun x _=>Tm.er x
theorem Tm.UV:∀ xs:List Tm,(∀ x∈xs,OT.DE (Tm.o x)=true)→OT.B7 (xs.map Tm.o)=true
 | [],_=>rfl
 | x :: xs,h=>by
  simp only [zH,OT.B7]
  rw [h x (by simp),Tm.UV xs fun y hy=>h y (by simp [hy])]; rfl
theorem Tm.no (x:Tm):OT.DE (Tm.o x)=true:=by
 have h:=Tm.UV x.args fun y hy=>Tm.no y
 rw [Tm.o_eq]
 simp only [OT.DE,OT.noSh,h,zF,zM]
termination_by SizeOf.sizeOf x
decreasing_by exact Tm.Ar hy
theorem Tm.noss (xs:List Tm):OT.B7 (xs.map Tm.o)=true:=Tm.UV xs fun x _=>Tm.no x
abbrev Tm.osv (x:Tm):SV:=.agg [.str x.name,.ref 0]
abbrev Tm.obs (x:Tm):List Ob:=[.row 69 2 (x.args.map Tm.o)]
abbrev Lt.sv (x:Lt):SV:=.agg [.bool x.pos,.str x.atom.name,.arr (x.atom.args.map Tm.d)]
def Lt.o (x:Lt):List OT:=[.bool x.pos,.str x.atom.name,.ow (x.atom.args.map Tm.o)]
theorem Lt.o_eq (x:Lt):Lt.o x=[.bool x.pos,.str x.atom.name,.ow (x.atom.args.map Tm.o)]:=rfl
theorem Lt.er (x:Lt):OT.ers (Lt.o x)=Lt.d x:=by
 simp only [Lt.o,Lt.d,OT.ers,OT.er,Tm.erss]
theorem Lt.erss:∀ xs:List Lt,OT.erss (xs.map Lt.o)=xs.map Lt.d
 | []=>rfl
 | x :: xs=>by simp only [zH,OT.erss,Lt.er,Lt.erss xs]
theorem Lt.no (x:Lt):OT.DE (Lt.o x)=true:=by
 simp only [Lt.o,OT.DE,OT.noSh,Tm.noss,zF,zM]
theorem Lt.noss:∀ xs:List Lt,OT.B7 (xs.map Lt.o)=true
 | []=>rfl
 | x :: xs=>by simp only [zH,OT.B7,Lt.no,Lt.noss xs,zF]
abbrev Lt.osv (x:Lt):SV:=.agg [.bool x.pos,.str x.atom.name,.ref 0]
abbrev Lt.obs (x:Lt):List Ob:=[.row 69 2 (x.atom.args.map Tm.o)]
abbrev Cl.sv (x:Cl):SV:=.agg [.arr (x.lits.map Lt.d)]
def Cl.o (x:Cl):List OT:=[.ow (x.lits.map Lt.o)]
theorem Cl.o_eq (x:Cl):Cl.o x=[.ow (x.lits.map Lt.o)]:=rfl
theorem Cl.er (x:Cl):OT.ers (Cl.o x)=Cl.d x:=by
 simp only [Cl.o,Cl.d,OT.ers,OT.er,Lt.erss]
theorem Cl.erss:∀ xs:List Cl,OT.erss (xs.map Cl.o)=xs.map Cl.d
 | []=>rfl
 | x :: xs=>by simp only [zH,OT.erss,Cl.er,Cl.erss xs]
theorem Cl.no (x:Cl):OT.DE (Cl.o x)=true:=by
 simp only [Cl.o,OT.DE,OT.noSh,Lt.noss,zF,zM]
theorem Cl.noss:∀ xs:List Cl,OT.B7 (xs.map Cl.o)=true
 | []=>rfl
 | x :: xs=>by simp only [zH,OT.B7,Cl.no,Cl.noss xs,zF]
abbrev Cl.osv (x:Cl):SV:=.agg [.ref 0]
abbrev Cl.obs (x:Cl):List Ob:=[.row 71 3 (x.lits.map Lt.o)]
def Ag.o (x:Ag):List OT:=[.str x.var,.int x.elem]
theorem Ag.er (x:Ag):OT.ers (Ag.o x)=Ag.d x:=by
 simp only [Ag.o,Ag.d,OT.ers,OT.er]
theorem Ag.erss:∀ xs:List Ag,OT.erss (xs.map Ag.o)=xs.map Ag.d
 | []=>rfl
 | x :: xs=>by simp only [zH,OT.erss,Ag.er,Ag.erss xs]
theorem Ag.no (x:Ag):OT.DE (Ag.o x)=true:=by
 simp only [Ag.o,OT.DE,OT.noSh,zF,zM]
theorem Ag.noss:∀ xs:List Ag,OT.B7 (xs.map Ag.o)=true
 | []=>rfl
 | x :: xs=>by simp only [zH,OT.B7,Ag.no,Ag.noss xs,zF]
abbrev Tl.sv (x:Tl):SV:=.agg [.str x.name,.int .i64 x.arity,.bool x.pred,.arr (x.vals.map fun n=>[D.int n])]
def Tl.o (x:Tl):List OT:=[.str x.name,.int x.arity,.bool x.pred,.ow (x.vals.map fun n=>[OT.int n])]
theorem Tl.o_eq (x:Tl):Tl.o x=[.str x.name,.int x.arity,.bool x.pred,.ow (x.vals.map fun n=>[OT.int n])]:=rfl
theorem Tl.er (x:Tl):OT.ers (Tl.o x)=Tl.d x:=by
 simp only [Tl.o,Tl.d,OT.ers,OT.er,VX]
theorem Tl.erss:∀ xs:List Tl,OT.erss (xs.map Tl.o)=xs.map Tl.d
 | []=>rfl
 | x :: xs=>by simp only [zH,OT.erss,Tl.er,Tl.erss xs]
theorem Tl.no (x:Tl):OT.DE (Tl.o x)=true:=by
 simp only [Tl.o,OT.DE,OT.noSh,VY,zF,zM]
theorem Tl.noss:∀ xs:List Tl,OT.B7 (xs.map Tl.o)=true
 | []=>rfl
 | x :: xs=>by simp only [zH,OT.B7,Tl.no,Tl.noss xs,zF]
abbrev Tl.osv (x:Tl):SV:=.agg [.str x.name,.int .i64 x.arity,.bool x.pred,.ref 0]
abbrev Tl.obs (x:Tl):List Ob:=[.row 3 1 (x.vals.map fun n=>[OT.int n])]
abbrev Ip.sv (x:Ip):SV:=.agg [.int .i64 x.size,.arr (x.tables.map Tl.d)]
def Ip.o (x:Ip):List OT:=[.int x.size,.ow (x.tables.map Tl.o)]
theorem Ip.er (x:Ip):OT.ers (Ip.o x)=Ip.d x:=by
 simp only [Ip.o,Ip.d,OT.ers,OT.er,Tl.erss]
theorem Ip.erss:∀ xs:List Ip,OT.erss (xs.map Ip.o)=xs.map Ip.d
 | []=>rfl
 | x :: xs=>by simp only [zH,OT.erss,Ip.er,Ip.erss xs]
theorem Ip.no (x:Ip):OT.DE (Ip.o x)=true:=by
 simp only [Ip.o,OT.DE,OT.noSh,Tl.noss,zF,zM]
theorem Ip.noss:∀ xs:List Ip,OT.B7 (xs.map Ip.o)=true
 | []=>rfl
 | x :: xs=>by simp only [zH,OT.B7,Ip.no,Ip.noss xs,zF]
abbrev Ip.osv (x:Ip):SV:=.agg [.int .i64 x.size,.ref 0]
abbrev Ip.obs (x:Ip):List Ob:=[.row 58 4 (x.tables.map Tl.o)]
noncomputable def DZ (r:Int):List Int→List Int × Bool
 | []=>([],true)
 | d :: ds=>bif (DZ r ds).2 then (bif dec (d+1 < r) then ((d+1) :: (DZ r ds).1,false) else (0 :: (DZ r ds).1,true)) else (d :: (DZ r ds).1,false)
noncomputable def C1 (sz:Int):List Tl→List Tl × Bool
 | []=>([],true)
 | t :: ts=>bif (C1 sz ts).2 then (⟨t.name,t.arity,t.pred,(DZ (if t.pred then 2 else sz) t.vals).1⟩ :: (C1 sz ts).1,(DZ (if t.pred then 2 else sz) t.vals).2) else (t :: (C1 sz ts).1,false)
theorem IM (sz:Int):∀ ts:List Tl,(C1 sz ts).1.length=ts.length
 | []=>rfl
 | t :: ts=>by
  have ih:=IM sz ts
  rw [C1]
  cases (C1 sz ts).2 <;> simp [ih]
theorem Ti:∀ xs ys:List Int,(xs.map fun n=>[OT.int n])=(ys.map fun n=>[OT.int n])→xs=ys
 | [],[],_=>rfl
 | [],y :: ys,h=>by simp at h
 | x :: xs,[],h=>by simp at h
 | x :: xs,y :: ys,h=>by
  simp only [zH,yJ,OT.int.injEq,and_true] at h
  rw [h.1,Ti xs ys h.2]
theorem Tl.QcQ (x y:Tl) (h:Tl.o x=Tl.o y):x=y:=by
 obtain ⟨a,b,c,d⟩:=x
 obtain ⟨a',b',c',d'⟩:=y
 simp only [Tl.o,yJ,OT.str.injEq,OT.int.injEq,OT.bool.injEq,OT.ow.injEq,and_true] at h
 obtain ⟨h1,h2,h3,h4⟩:=h
 rw [h1,h2,h3,Ti d d' h4]
theorem Tl.YC:∀ xs ys:List Tl,xs.map Tl.o=ys.map Tl.o→xs=ys
 | [],[],_=>rfl
 | [],y :: ys,h=>by simp at h
 | x :: xs,[],h=>by simp at h
 | x :: xs,y :: ys,h=>by
  simp only [zH,yJ] at h
  rw [Tl.QcQ x y h.1,Tl.YC xs ys h.2]
def QaE (sz:Int) (ts:List Tl):Prop:=Fun Tryz.prog 29 [.agg [.int .i64 sz,.ref 0]] [.row 58 4 (ts.map Tl.o)] (.tup []) [.row 58 4 ((C1 sz ts).1.map Tl.o)]
noncomputable def UW (xs:List SV) (ob:List Ob):Option (SV × List Ob) :=
 open Classical in if h:∃ p:Int × List Tl,xs=[.agg [.int .i64 p.1,.ref 0]]∧ob=[.row 58 4 (p.2.map Tl.o)]∧QaE p.1 p.2 then some (.tup [],[.row 58 4 ((C1 h.choose.1 h.choose.2).1.map Tl.o)]) else none
theorem QaF (sz:Int) (ts:List Tl) (h:QaE sz ts):UW [.agg [.int .i64 sz,.ref 0]] [.row 58 4 (ts.map Tl.o)]=some (.tup [],[.row 58 4 ((C1 sz ts).1.map Tl.o)]):=by
 have h0:∃ p:Int × List Tl,[SV.agg [.int .i64 sz,.ref 0]]=[.agg [.int .i64 p.1,.ref 0]]∧[Ob.row 58 4 (ts.map Tl.o)]=[.row 58 4 (p.2.map Tl.o)]∧QaE p.1 p.2:=⟨(sz,ts),rfl,rfl,h⟩
 have e:(sz,ts)=h0.choose:=by
  have hs:=h0.choose_spec
  generalize h0.choose=q at hs ⊢
  obtain ⟨h1,h2,_⟩:=hs
  simp only [yJ,SV.agg.injEq,SV.int.injEq,true_and,and_true] at h1
  simp only [yJ,Ob.row.injEq,true_and,and_true] at h2
  exact Prod.ext h1 (Tl.YC ts q.2 h2)
 unfold UW
 rw [dif_pos h0,← e]
theorem Xb {xs:List SV} {ob:List Ob} {r:SV} {ob':List Ob} (h:UW xs ob=some (r,ob')):Fun Tryz.prog 29 xs ob r ob':=by
 unfold UW at h
 split at h
 ·rename_i h0
  have hs:=h0.choose_spec
  generalize h0.choose=y at hs h
  obtain ⟨h1,h2,h3⟩:=hs
  simp only [zN,zS] at h
  obtain ⟨rfl,rfl⟩:=h
  rw [h1,h2]
  exact h3
 ·cases h
def Wb:List (Nat × FM)→Nat→FM
 | [],_=>⟨[],.asis,none,false⟩
 | (f,m) :: r,g=>bif f == g then m else Wb r g
theorem Xc {l:List (Nat × FM)} {f:Nat} {g:List SV→List Ob→Option (SV × List Ob)} (h:(Wb l f).ext=some g):∃ m,(f,m)∈l∧m.ext=some g:=by
 induction l with
 | nil=>cases h
 | cons x r ih =>
  obtain ⟨f',m⟩:=x
  simp only [Wb] at h
  cases e:f' == f with
  | true =>
   rw [e] at h
   obtain rfl:f'=f:=by simpa using e
   exact ⟨m,by simp,h⟩
  | false =>
   rw [e] at h
   obtain ⟨m',h1,h2⟩:=ih h
   exact ⟨m',by simp [h1],h2⟩
noncomputable def QA:List SV→Option SV
 | [.int .i64 k]=>bif dec (1≤k)&&dec (k≤1099511627776) then some (.str (Fq k)) else none
 | _=>none
theorem UX {xs:List SV} {r:SV} (h:QA xs=some r):Fun Tryz.prog 55 xs [] r []:=by
 unfold QA at h
 split at h
 ·rename_i k
  obtain ⟨h1,h2⟩:=Ai h
  rw [zA,Af,Af] at h1
  obtain rfl:=zG h2
  obtain ⟨n,rfl⟩:∃ n:Nat,k=n:=⟨k.toNat,by omega⟩
  refine Fun.UP (rv:=.string (Fq n)) (fun w I V=>by simp only [RepV,true_and]; exact UQ (by omega) (by omega)) fun w I V vs h=>?_
  obtain ⟨v,r,rfl,h3,h⟩:=Ck h
  obtain rfl:=Ln h
  obtain rfl:=Qa9 h3
  exact R5 n w (by omega) (by omega)
 ·cases h
def YD:List SV→Option SV
 | [.str s]=>some (.bool (AI s))
 | _=>none
theorem Xd {xs:List SV} {r:SV} (h:YD xs=some r):Fun Tryz.prog 136 xs [] r []:=by
 unfold YD at h
 split at h
 ·rename_i s
  obtain rfl:=zG h
  refine Fun.of_same (rv:=.bool (AI s)) (fun w I V=>by simp only [RepV]) fun w I V vs h=>?_
  obtain ⟨v,r,rfl,h3,h⟩:=Ck h
  obtain rfl:=Ln h
  obtain ⟨rfl,h4⟩:=NR h3
  exact OD s w h4
 ·cases h
def YE:List SV→Option SV
 | [.str s]=>some (.bool (AI s))
 | _=>none
theorem Xe {xs:List SV} {r:SV} (h:YE xs=some r):Fun Tryz.prog 62 xs [] r []:=by
 unfold YE at h
 split at h
 ·rename_i s
  obtain rfl:=zG h
  refine Fun.of_same (rv:=.bool (AI s)) (fun w I V=>by simp only [RepV]) fun w I V vs h=>?_
  obtain ⟨v,r,rfl,h3,h⟩:=Ck h
  obtain rfl:=Ln h
  obtain ⟨rfl,h4⟩:=NR h3
  exact WX s w h4
 ·cases h
def YF:List SV→Option SV
 | [.str s]=>some (.bool (CN s))
 | _=>none
theorem Xf {xs:List SV} {r:SV} (h:YF xs=some r):Fun Tryz.prog 73 xs [] r []:=by
 unfold YF at h
 split at h
 ·rename_i s
  obtain rfl:=zG h
  refine Fun.UP (rv:=.bool (CN s)) (fun w I V=>by simp only [RepV]) fun w I V vs h=>?_
  obtain ⟨v,r,rfl,h3,h⟩:=Ck h
  obtain rfl:=Ln h
  obtain ⟨rfl,h4⟩:=NR h3
  exact R7 s w h4
 ·cases h
def YG:List SV→Option SV
 | [.str s]=>some (.bool (CN s))
 | _=>none
theorem Xg {xs:List SV} {r:SV} (h:YG xs=some r):Fun Tryz.prog 83 xs [] r []:=by
 unfold YG at h
 split at h
 ·rename_i s
  obtain rfl:=zG h
  refine Fun.of_same (rv:=.bool (CN s)) (fun w I V=>by simp only [RepV]) fun w I V vs h=>?_
  obtain ⟨v,r,rfl,h3,h⟩:=Ck h
  obtain rfl:=Ln h
  obtain ⟨rfl,h4⟩:=NR h3
  exact R8 s w h4
 ·cases h
noncomputable def modes:FuncId→FM:=Wb [(55,⟨[],.asis,some (Lm QA),false⟩),(136,⟨[],.asis,some (Lm YD),false⟩),(62,⟨[],.asis,some (Lm YE),false⟩),(73,⟨[],.asis,some (Lm YF),false⟩),(83,⟨[],.asis,some (Lm YG),false⟩),(75,⟨[true],.asis,some sortStr,false⟩),(72,⟨[true,false,true],.asis,some Tg,false⟩),(29,⟨[true],.asis,some UW,false⟩),(56,⟨[true],.asis,none,true⟩),(32,⟨[true],.asis,none,true⟩),(10,⟨[true],.asis,none,true⟩),(33,⟨[true],.asis,none,true⟩),(11,⟨[true],.asis,none,false⟩),(57,⟨[true],.asis,none,true⟩),(87,⟨[],.frz,none,false⟩),(74,⟨[true],.asis,none,false⟩),(28,⟨[],.own [some (75,2),none,none],none,false⟩),(19,⟨[],.frz,none,false⟩),(39,⟨[],.frz,none,false⟩),(7,⟨[],.tr [none,some (58,4),none,none],none,false⟩),(5,⟨[],.frz,none,false⟩),(18,⟨[],.frz,none,false⟩),(21,⟨[],.own [some (58,4),none],none,false⟩),(37,⟨[],.frl [7],none,false⟩),(14,⟨[],.frl [11],none,false⟩)]
theorem noExt {l:List (Nat × FM)} (h:(l.all fun p=>p.2.ext.isNone)=true) {f:Nat} {m:FM} {g:List SV→List Ob→Option (SV × List Ob)} (h1:(f,m)∈l) (h2:m.ext=some g):False:=by
 have h3:=zT.1 h _ h1
 rw [h2] at h3
 cases h3
theorem OF:NQ Tryz.prog modes:=by
 intro f g xs ob r ob' hg hx
 obtain ⟨m,h1,h2⟩:=Xc hg
 rcases zK.1 h1 with h1 | h1
 ·obtain ⟨rfl,rfl⟩:=yL h1
  obtain rfl:=zG h2
  exact Hg UX hx
 rcases zK.1 h1 with h1 | h1
 ·obtain ⟨rfl,rfl⟩:=yL h1
  obtain rfl:=zG h2
  exact Hg Xd hx
 rcases zK.1 h1 with h1 | h1
 ·obtain ⟨rfl,rfl⟩:=yL h1
  obtain rfl:=zG h2
  exact Hg Xe hx
 rcases zK.1 h1 with h1 | h1
 ·obtain ⟨rfl,rfl⟩:=yL h1
  obtain rfl:=zG h2
  exact Hg Xf hx
 rcases zK.1 h1 with h1 | h1
 ·obtain ⟨rfl,rfl⟩:=yL h1
  obtain rfl:=zG h2
  exact Hg Xg hx
 rcases zK.1 h1 with h1 | h1
 ·obtain ⟨rfl,rfl⟩:=yL h1
  obtain rfl:=zG h2
  exact R9 hx
 rcases zK.1 h1 with h1 | h1
 ·obtain ⟨rfl,rfl⟩:=yL h1
  obtain rfl:=zG h2
  exact Xa hx
 rcases zK.1 h1 with h1 | h1
 ·obtain ⟨rfl,rfl⟩:=yL h1
  obtain rfl:=zG h2
  exact Xb hx
 exact (noExt rfl h1 h2).elim
noncomputable def E:FEnv:=ev Tryz.prog modes
noncomputable def calls:CallF:=CI modes E
theorem QbY {f:FuncId} {xs:List SV} {ob:List Ob} {r:SV} {ob':List Ob} (h:E f xs ob=some (r,ob')):Fun Tryz.prog f xs ob r ob':=Qa8 Ot OF f xs ob r ob' h
noncomputable def run (n0:Nat):SC→St→Option (X × St):=fr Tryz.prog calls (K0 n0)
def go (n0:Nat) (sc:SC) (st:St) (K:X→St→Prop):Prop:=∃ x st',run n0 sc st=some (x,st')∧K x st'
def QaG (n0:Nat) (b:SC) (K:X→St→Prop):X→St→Prop
 | .normal,st=>go n0 b st K
 | .exit i,st=>K (.exit i) st
 | .ret,st=>K .ret st
def blk (id:Nat) (K:X→St→Prop):X→St→Prop
 | .normal,st=>K .normal st
 | .exit i,st=>if i=id then K .normal st else K (.exit i) st
 | .ret,st=>K .ret st
def YH (r:Option St) (k:X→St→Prop):Prop :=
 match r with
 | some st=>k .normal st
 | none=>False
def YI (anc:List (List Nat)) (r:Option (List Ent × St)) (k:X→St→Prop):Prop :=
 match r with
 | some (es,st)=>obB anc [] (JJ es) 0=true∧k .normal st
 | none=>False
def OG (v:SV) (a b:Unit→Prop):Prop :=
 match v with
 | .bool true=>a ()
 | .bool false=>b ()
 | _=>False
noncomputable def UY (ops:List SOper) (st:St):Option St:=Ov Tryz.prog calls ops st
noncomputable def UZ (ops:List SOper) (acc:List Ent) (st:St):Option (List Ent × St):=Ha Tryz.prog calls ops acc st
section
variable {n0:Nat} {st:St} {K:X→St→Prop}
theorem go_skip:go n0 .skip st K=K .normal st:=by
 refine propext ⟨fun ⟨x,st',h,k⟩=>?_,fun k=>⟨_,_,rfl,k⟩⟩
 obtain ⟨rfl,rfl⟩:X.normal=x∧st=st':=by simpa [run,fr] using h
 exact k
theorem QaH {i:Nat}:go n0 (.exit i) st K=K (.exit i) st:=by
 refine propext ⟨fun ⟨x,st',h,k⟩=>?_,fun k=>⟨_,_,rfl,k⟩⟩
 obtain ⟨rfl,rfl⟩:X.exit i=x∧st=st':=by simpa [run,fr] using h
 exact k
theorem go_ret:go n0 .ret st K=K .ret st:=by
 refine propext ⟨fun ⟨x,st',h,k⟩=>?_,fun k=>⟨_,_,rfl,k⟩⟩
 obtain ⟨rfl,rfl⟩:X.ret=x∧st=st':=by simpa [run,fr] using h
 exact k
theorem QbZ {ops:List SOper}:go n0 (.reg ops) st K=YH (UY ops st) K:=by
 unfold YH UY
 refine propext ⟨fun ⟨x,st',h,k⟩=>?_,fun k=>?_⟩
 ·simp only [run,fr] at h
  split at h
  ·rename_i s hs
   simp only [zN,zS] at h
   obtain ⟨rfl,rfl⟩:=h
   first | exact k | (simp only [hs]; exact k)
  ·cases h
 ·split at k
  ·rename_i s hs
   exact ⟨.normal,s,by simp only [run,fr,hs],k⟩
  ·exact k.elim
theorem QaI {anc:List (List Nat)} {ops:List SOper}:go n0 (.dreg anc ops) st K=YI anc (UZ ops [] st) K:=by
 unfold YI UZ
 refine propext ⟨fun ⟨x,st',h,k⟩=>?_,fun k=>?_⟩
 ·simp only [run,fr] at h
  split at h
  ·rename_i es s hs
   obtain ⟨h1,h2⟩:=Ai h
   simp only [zN,zS] at h2
   obtain ⟨rfl,rfl⟩:=h2
   first | exact ⟨h1,k⟩ | (simp only [hs]; exact ⟨h1,k⟩)
  ·cases h
 ·split at k
  ·rename_i es s hs
   exact ⟨.normal,s,by simp only [run,fr,hs,k.1,cond_true],k.2⟩
  ·exact k.elim
theorem Qca {a b:SC}:go n0 (.seq a b) st K=go n0 a st (QaG n0 b K):=by
 refine propext ⟨fun ⟨x,st',h,k⟩=>?_,fun ⟨x,st',h,k⟩=>?_⟩
 ·simp only [run,fr,Cw] at h
  split at h
  ·rename_i s hs
   exact ⟨.normal,s,hs,x,st',h,k⟩
  ·rename_i i s hs
   simp only [zN,zS] at h
   obtain ⟨rfl,rfl⟩:=h
   exact ⟨_,_,hs,k⟩
  ·rename_i s hs
   simp only [zN,zS] at h
   obtain ⟨rfl,rfl⟩:=h
   exact ⟨_,_,hs,k⟩
  ·cases h
 ·simp only [run] at h
  cases x with
  | normal =>
   obtain ⟨x2,st2,h2,k2⟩:=k
   exact ⟨x2,st2,by simp only [run,fr,Cw,h]; exact h2,k2⟩
  | exit i=>exact ⟨_,st',by simp only [run,fr,Cw,h],k⟩
  | ret=>exact ⟨_,st',by simp only [run,fr,Cw,h],k⟩
theorem YJ {n:Nat} {b:SC}:go n0 (.ghost n b) st K=go n0 b (ST n st) K:=by simp only [go,run,fr]
theorem YK {id:Nat} {b:SC}:go n0 (.block id b) st K=go n0 b st (blk id K):=by
 refine propext ⟨fun ⟨x,st',h,k⟩=>?_,fun ⟨x,st',h,k⟩=>?_⟩
 ·simp only [run,fr,GD] at h
  split at h
  ·rename_i s hs
   simp only [zN,zS] at h
   obtain ⟨rfl,rfl⟩:=h
   exact ⟨.normal,s,hs,k⟩
  ·rename_i i s hs
   refine ⟨.exit i,s,hs,?_⟩
   simp only [blk]
   by_cases hi:i=id
   ·simp only [if_pos hi,zN,zS] at h ⊢
    obtain ⟨rfl,rfl⟩:=h
    exact k
   ·simp only [if_neg hi,zN,zS] at h ⊢
    obtain ⟨rfl,rfl⟩:=h
    exact k
  ·rename_i s hs
   simp only [zN,zS] at h
   obtain ⟨rfl,rfl⟩:=h
   exact ⟨_,s,hs,k⟩
  ·cases h
 ·simp only [run] at h
  cases x with
  | normal=>exact ⟨_,st',by simp only [run,fr,GD,h],k⟩
  | exit i =>
   simp only [blk] at k
   by_cases hi:i=id
   ·simp only [if_pos hi] at k
    exact ⟨.normal,st',by simp only [run,fr,GD,h,if_pos hi],k⟩
   ·simp only [if_neg hi] at k
    exact ⟨.exit i,st',by simp only [run,fr,GD,h,if_neg hi],k⟩
  | ret=>exact ⟨_,st',by simp only [run,fr,GD,h],k⟩
theorem Aa {q:SX} {a b:SC}:go n0 (.cond q a b) st K=OG (An (gets st.sl) q) (fun _=>go n0 a st K) (fun _=>go n0 b st K):=by
 unfold OG
 refine propext ⟨fun ⟨x,st',h,k⟩=>?_,fun k=>?_⟩
 ·simp only [run,fr] at h
  split at h
  ·rename_i t ht
   simp only [ht]
   cases t with
   | true=>exact ⟨x,st',h,k⟩
   | false=>exact ⟨x,st',h,k⟩
  ·cases h
 ·split at k
  ·rename_i ht
   obtain ⟨x,st',h,k⟩:=k
   exact ⟨x,st',by simp only [run,fr,ht,cond_true]; exact h,k⟩
  ·rename_i ht
   obtain ⟨x,st',h,k⟩:=k
   exact ⟨x,st',by simp only [run,fr,ht,cond_false]; exact h,k⟩
  ·exact k.elim
theorem QaJ {a b:Unit→Prop}:OG (.bool true) a b=a ():=rfl
theorem QaK {a b:Unit→Prop}:OG (.bool false) a b=b ():=rfl
theorem QaL {t:Bool} {a b:Unit→Prop}:OG (.bool (!t)) a b=OG (.bool t) b a:=by cases t <;> rfl
theorem YL {q:SX} {a b:SC} (h:An (gets st.sl) q=.bool true) (k:go n0 a st K):go n0 (.cond q a b) st K:=by rw [Aa,h]; exact k
theorem YM {q:SX} {a b:SC} (h:An (gets st.sl) q=.bool false) (k:go n0 b st K):go n0 (.cond q a b) st K:=by rw [Aa,h]; exact k
theorem Ci {t:Bool} {a b:Unit→Prop} (h1:t=true→a ()) (h2:t=false→b ()):OG (.bool t) a b:=by
 cases t with
 | true=>exact h1 rfl
 | false=>exact h2 rfl
theorem Qcb {b:SC}:QaG n0 b K .normal st=go n0 b st K:=rfl
theorem Qcc {b:SC} {i:Nat}:QaG n0 b K (.exit i) st=K (.exit i) st:=rfl
theorem Qcd {b:SC}:QaG n0 b K .ret st=K .ret st:=rfl
theorem QcR {id:Nat}:blk id K .normal st=K .normal st:=rfl
theorem QcS {id i:Nat}:blk id K (.exit i) st=if i=id then K .normal st else K (.exit i) st:=rfl
theorem QcT {id:Nat}:blk id K .ret st=K .ret st:=rfl
theorem QaM:YH (some st) K=K .normal st:=rfl
def quiet:List Ent→Bool
 | []=>true
 | ⟨_,_,[],_⟩ :: r=>quiet r
 | ⟨_,_,_ :: _,_⟩ :: _=>false
theorem OH {anc:List (List Nat)} {rd:List Nat} {j:Nat}:∀ {l:List Ent} {i:Nat},quiet l=true→Uy anc rd [] j (JJ l) i=true
 | [],i,_=>rfl
 | ⟨_,_,[],rdi⟩ :: r,i,h=>by
  have:=OH (anc:=anc) (rd:=rd) (j:=j) (l:=r) (i:=i+1) h
  simp only [JJ,zH,yM] at this ⊢
  simp only [Uy,this,zM]
  have e1:meets [] (rd++[])=false:=rfl
  have e2:meets rdi []=false:=by cases rdi <;> simp [meets]
  rw [e1,e2]; rfl
theorem Xh {l l':List Ent} (h:quiet l=true) (h':quiet l'=true):quiet (l++l')=true:=by
 induction l with
 | nil=>exact h'
 | cons x r ih =>
  obtain ⟨a,b,c,d⟩:=x
  cases c with
  | nil=>exact ih h
  | cons _ _=>cases h
theorem QB {anc:List (List Nat)}:∀ {l pre:List Ent} {j:Nat},quiet pre=true→quiet l=true→obB anc (JJ pre) (JJ l) j=true
 | [],pre,j,_,_=>rfl
 | ⟨a,b,[],rd⟩ :: r,pre,j,hp,h=>by
  have e:=QB (anc:=anc) (l:=r) (pre:=pre++[⟨a,b,[],rd⟩]) (j:=j+1) (Xh hp rfl) h
  have e2:=OH (anc:=anc) (rd:=rd) (j:=j) (i:=0) hp
  simp only [JJ,yY,zH,yM] at e e2 ⊢
  simp only [obB,e2,e,zF]
theorem QaN {anc:List (List Nat)} {es:List Ent}:YI anc (some (es,st)) K=match quiet es with
  | true=>K .normal st
  | false=>obB anc [] (JJ es) 0=true∧K .normal st:=by
 show (obB anc [] (JJ es) 0=true∧K .normal st)=_
 cases h:quiet es with
 | true=>exact propext ⟨fun h=>h.2,fun h'=>⟨QB (pre:=[]) rfl h,h'⟩⟩
 | false=>rfl
noncomputable def Qce (r:List SOper) (e:Option (Ent × St)):Option St :=
 match e with
 | some (_,st)=>UY r st
 | none=>none
noncomputable def Qcf (r:List SOper) (acc:List Ent) (e:Option (Ent × St)):Option (List Ent × St) :=
 match e with
 | some (x,st)=>UZ r (acc++[x]) st
 | none=>none
noncomputable def opF (so:SOp) (sl:List SV) (ob:List Ob):Option R3:=fOp Tryz.prog calls so sl ob
theorem YN:UY [] st=some st:=rfl
theorem Xi {d:Option Tmp} {so:SOp} {r:List SOper} {sl:List SV} {ob:List Ob}:UY (⟨d,none,so⟩ :: r) ⟨sl,ob⟩=Qce r (JK d ⟨sl,ob⟩ (opF so sl ob)):=rfl
noncomputable def gdF (d:Option Tmp) (so:SOp) (want:Bool) (sl:List SV) (ob:List Ob) (v:SV):Option (Ent × St) :=
 match v with
 | .bool b=>bif UA b want then JK d ⟨sl,ob⟩ (opF so sl ob) else some (⟨false,.tup [],[],[]⟩,⟨F8 sl d (.tup []),ob⟩)
 | .tup []=>some (⟨false,.tup [],[],[]⟩,⟨F8 sl d (.tup []),ob⟩)
 | _=>none
theorem QaO {d:Option Tmp} {k:Nat} {want:Bool} {so:SOp} {r:List SOper} {sl:List SV} {ob:List Ob}:UY (⟨d,some (k,want),so⟩ :: r) ⟨sl,ob⟩=Qce r (gdF d so want sl ob (gets sl k)):=rfl
theorem YO {acc:List Ent}:UZ [] acc st=some (acc,st):=rfl
theorem Xj {d:Option Tmp} {so:SOp} {r:List SOper} {acc:List Ent} {sl:List SV} {ob:List Ob}:UZ (⟨d,none,so⟩ :: r) acc ⟨sl,ob⟩=Qcf r acc (JK d ⟨sl,ob⟩ (opF so sl ob)):=rfl
theorem QaP {d:Option Tmp} {k:Nat} {want:Bool} {so:SOp} {r:List SOper} {acc:List Ent} {sl:List SV} {ob:List Ob}:UZ (⟨d,some (k,want),so⟩ :: r) acc ⟨sl,ob⟩=Qcf r acc (gdF d so want sl ob (gets sl k)):=rfl
theorem Qcg {r:List SOper} {e:Ent}:Qce r (some (e,st))=UY r st:=rfl
theorem Qch {r:List SOper} {acc:List Ent} {e:Ent}:Qcf r acc (some (e,st))=UZ r (acc++[e]) st:=rfl
theorem QcU {d:Option Tmp} {so:SOp} {sl:List SV} {ob:List Ob}:gdF d so true sl ob (.bool true)=JK d ⟨sl,ob⟩ (opF so sl ob):=rfl
theorem Qci {d:Option Tmp} {so:SOp} {sl:List SV} {ob:List Ob}:gdF d so false sl ob (.bool false)=JK d ⟨sl,ob⟩ (opF so sl ob):=rfl
theorem Qcj {d:Option Tmp} {so:SOp} {sl:List SV} {ob:List Ob}:gdF d so true sl ob (.bool false)=some (⟨false,.tup [],[],[]⟩,⟨F8 sl d (.tup []),ob⟩):=rfl
theorem Qck {d:Option Tmp} {so:SOp} {sl:List SV} {ob:List Ob}:gdF d so false sl ob (.bool true)=some (⟨false,.tup [],[],[]⟩,⟨F8 sl d (.tup []),ob⟩):=rfl
theorem QcV {d:Option Tmp} {so:SOp} {want:Bool} {sl:List SV} {ob:List Ob}:gdF d so want sl ob (.tup [])=some (⟨false,.tup [],[],[]⟩,⟨F8 sl d (.tup []),ob⟩):=rfl
theorem Qcl {d:Option Tmp} {x:SV} {rd:List Nat}:JK d st (some (x,[],rd))=some (⟨true,x,[],rd⟩,⟨F8 st.sl d x,st.ob⟩):=rfl
theorem Qcm {d:Option Tmp} {x:SV} {q:Nat × Ob} {u:List (Nat × Ob)} {rd:List Nat}:JK d st (some (x,q :: u,rd))=bif WN (Dp st.ob (q :: u)).length (q :: u) then some (⟨true,x,q :: u,rd⟩,⟨F8 st.sl d x,Dp st.ob (q :: u)⟩) else none:=rfl
def Tj (ob:List Ob) (xs:List SV) (sel:List Nat) (r:Option (SV × List Ob)) (n:Nat):Option R3 :=
 match r with
 | some (r,fob')=>bif decide (n≤fob'.length) then some (Gl sel (Bb sel xs) ob.length r fob') else none
 | none=>none
def Qcn (hd:List Bool) (f:FuncId) (xs:List SV) (ob:List Ob) (sel:List Nat) (e:List SV→List Ob→Option (SV × List Ob)) (b:Option (List Ob)):Option R3 :=
 match b with
 | some fob=>bif GC sel&&Kx ob.length sel&&HH fob.length fob then Tj ob xs sel (e (Gk hd (Ae ob) sel xs) fob) fob.length else none
 | none=>none
def YP (hd:List Bool) (f:FuncId) (xs:List SV) (ob:List Ob) (sel:List Nat) (e:List SV→List Ob→Option (SV × List Ob)):Option R3:=Qcn hd f xs ob sel e (Fy sel ob sel)
theorem YQ {f:FuncId} {xs:List SV} {ob:List Ob}:calls f xs ob=FD (modes f).res (YP (modes f).hand f xs ob (reach ob 64 (Hf (modes f).hand xs) []) (E f)):=rfl
theorem Qco {r:Option R3}:FD .asis r=r:=rfl
theorem Qcp {r:Option R3}:FD .frz r=r:=rfl
theorem Qcq {l:List (Option (Nat × Nat))} {r:Option R3}:FD (.own l) r=r:=rfl
theorem Qcr {l:List (Option (Nat × Nat))} {r:Option R3}:FD (.half l) r=r:=rfl
theorem Qcs {l:List (Option (Nat × Nat))} {r:Option R3}:FD (.tr l) r=r:=rfl
theorem Qct {d n:Nat} {r:Option R3}:FD (.frzg d n) r=r:=rfl
theorem Qcu {d n:Nat} {l:List (Option (Nat × Nat))} {r:Option R3}:FD (.halfg d n l) r=r:=rfl
theorem Qcv {l:List Nat} {r:Option R3}:FD (.frl l) r=r:=rfl
theorem Qcw {r:R3}:FD .late (some r)=SN r:=rfl
theorem K6:∀ u:List (Nat × Ob),DA [] u=u
 | []=>rfl
 | (g,o) :: u=>by rw [DA,K6 u]; rfl
theorem Qcx {m:RM} {b:Bool} {u:List (Nat × Ob)} {rd:List Nat}:FD m (some (.bool b,u,rd))=some (.bool b,u,rd):=by
 cases m <;> first | rfl | (show some (SV.bool b,DA [] u,rd)=_; rw [K6])
theorem Qcy {m:RM} {k:IntKind} {n:Int} {u:List (Nat × Ob)} {rd:List Nat}:FD m (some (.int k n,u,rd))=some (.int k n,u,rd):=by
 cases m <;> first | rfl | (show some (SV.int k n,DA [] u,rd)=_; rw [K6])
theorem Xk {hd:List Bool} {f:FuncId} {xs:List SV} {ob:List Ob} {e:List SV→List Ob→Option (SV × List Ob)}:YP hd f xs ob [] e=Tj ob xs [] (e (Gk hd (Ae ob) [] xs) []) 0:=rfl
theorem Va {hd:List Bool} {f:FuncId} {xs:List SV} {ob:List Ob} {g:Nat} {r:List Nat} {e:List SV→List Ob→Option (SV × List Ob)}:YP hd f xs ob (g :: r) e=Qcn hd f xs ob (g :: r) e (Fy (g :: r) ob (g :: r)):=rfl
theorem QaQ {ob:List Ob} {xs:List SV} {r:SV} {fob':List Ob}:Tj ob xs [] (some (r,fob')) 0=some (Gl [] (Bb [] xs) ob.length r fob'):=rfl
theorem QaR {ob:List Ob} {xs:List SV} {sel:List Nat} {r:SV} {fob':List Ob} {n:Nat}:Tj ob xs sel (some (r,fob')) n=bif decide (n≤fob'.length) then some (Gl sel (Bb sel xs) ob.length r fob') else none:=rfl
theorem Qcz {hd:List Bool} {f:FuncId} {xs:List SV} {ob:List Ob} {sel:List Nat} {fob:List Ob} {e:List SV→List Ob→Option (SV × List Ob)}:Qcn hd f xs ob sel e (some fob)=bif GC sel&&Kx ob.length sel&&HH fob.length fob then Tj ob xs sel (e (Gk hd (Ae ob) sel xs) fob) fob.length else none:=rfl
theorem Xl {p:Nat} {r:SV}:Gl [] [] p r []=(r.ren (sgp [] p),[],[]):=rfl
def RA {α:Type} (n0:Nat) (keep:List Nat) (H:α→St) (R:α→Prop) (μ:α→Nat) (a:α) (K:X→St→Prop):X→St→Prop
 | .normal,st'=>∃ y,R y∧μ y < μ a∧canon n0 keep st'=H y
 | .exit i,st'=>K (.exit i) st'
 | .ret,st'=>K .ret st'
theorem YR {α:Type} {keep:List Nat} {H:α→St} {R:α→Prop} {μ:α→Nat} {a:α} {st':St}:RA n0 keep H R μ a K .normal st'=∃ y,R y∧μ y < μ a∧canon n0 keep st'=H y:=rfl
theorem YS {α:Type} {keep:List Nat} {H:α→St} {R:α→Prop} {μ:α→Nat} {a:α} {i:Nat} {st':St}:RA n0 keep H R μ a K (.exit i) st'=K (.exit i) st':=rfl
theorem YT {α:Type} {keep:List Nat} {H:α→St} {R:α→Prop} {μ:α→Nat} {a:α} {st':St}:RA n0 keep H R μ a K .ret st'=K .ret st':=rfl
theorem go_loop {α:Type} {keep:List Nat} {b:SC} (H:α→St) (R:α→Prop) (μ:α→Nat) (a0:α) (hR:R a0) (h0:canon n0 keep st=H a0) (round:∀ a,R a→go n0 b (H a) (RA n0 keep H R μ a K)):go n0 (.loop keep b) st K:=by
 have key:∀ (n:Nat) (a:α) (st:St),μ a≤n→R a→canon n0 keep st=H a→∃ x st',Q2 n0 keep (run n0 b) st=some (x,st')∧K x st':=by
  intro n
  induction n with
  | zero =>
   intro a st hn hR hc
   obtain ⟨x,st',h,k⟩:=round a hR
   cases x with
   | normal =>
    obtain ⟨y,_,h2,_⟩:=k
    omega
   | exit i=>exact ⟨_,st',by rw [IK,hc,h]; rfl,k⟩
   | ret=>exact ⟨_,st',by rw [IK,hc,h]; rfl,k⟩
  | succ n ih =>
   intro a st hn hR hc
   obtain ⟨x,st',h,k⟩:=round a hR
   cases x with
   | normal =>
    obtain ⟨y,h1,h2,h3⟩:=k
    obtain ⟨x2,st2,h4,k2⟩:=ih y st' (by omega) h1 h3
    exact ⟨x2,st2,by rw [IK,hc,h]; exact h4,k2⟩
   | exit i=>exact ⟨_,st',by rw [IK,hc,h]; rfl,k⟩
   | ret=>exact ⟨_,st',by rw [IK,hc,h]; rfl,k⟩
 exact key (μ a0) a0 st (zQ _) hR h0
def RB (n0:Nat) (keep keepO:List Nat) (H:EL→St) (F:X × St) (p:EL):X→St→Prop
 | .normal,st'=>canon n0 keep st'=H p
 | .exit i,st'=>F=(.exit i,canon n0 keepO st')
 | .ret,st'=>F=(.ret,canon n0 keepO st')
def QbD (n0:Nat) (keepO:List Nat) (F:X × St):X→St→Prop
 | .normal,_=>False
 | .exit i,st'=>F=(.exit i,canon n0 keepO st')
 | .ret,st'=>F=(.ret,canon n0 keepO st')
theorem Xm {keep keepO:List Nat} {H:EL→St} {F:X × St} {p:EL} {st':St}:RB n0 keep keepO H F p .normal st'=(canon n0 keep st'=H p):=rfl
theorem Xn {keep keepO:List Nat} {H:EL→St} {F:X × St} {p:EL} {i:Nat} {st':St}:RB n0 keep keepO H F p (.exit i) st'=(F=(.exit i,canon n0 keepO st')):=rfl
theorem Xo {keep keepO:List Nat} {H:EL→St} {F:X × St} {p:EL} {st':St}:RB n0 keep keepO H F p .ret st'=(F=(.ret,canon n0 keepO st')):=rfl
theorem QaS {keepO:List Nat} {F:X × St} {i:Nat} {st':St}:QbD n0 keepO F (.exit i) st'=(F=(.exit i,canon n0 keepO st')):=rfl
theorem QaT {keepO:List Nat} {F:X × St} {st':St}:QbD n0 keepO F .ret st'=(F=(.ret,canon n0 keepO st')):=rfl
end
def slots:Nat→Nat→List (Nat × SV)→List SV
 | 0,_,_=>[]
 | n+1,k,[]=>.any :: slots n (k+1) []
 | n+1,k,(j,x) :: r=>bif j == k then x :: slots n (k+1) r else .any :: slots n (k+1) ((j,x) :: r)
def QaU (res:RM) (n0:Nat) (rs:List RX) (out:SV × List Ob) (x:X) (st:St):Prop:=fin res n0 rs x st=some out
def Qc0 (res:RM) (n0:Nat) (r:Option (SV × List Ob)):Option (SV × List Ob) :=
 match r with
 | some (r,ob)=>order res n0 r ob
 | none=>none
def Tk (res:RM) (n0:Nat) (ob:List Ob) (r:Option SV):Option (SV × List Ob) :=
 match r with
 | some r0=>Qc0 res n0 (gc n0 r0 ob)
 | none=>none
theorem Qc1 {res:RM} {n0:Nat} {rs:List RX} {out:SV × List Ob} {sl:List SV} {ob:List Ob}:QaU res n0 rs out .ret ⟨sl,ob⟩=(Tk res n0 ob (PF ⟨sl,ob⟩ rs)=some out):=rfl
theorem Qc2 {res:RM} {n0:Nat} {rs:List RX} {out:SV × List Ob} {sl:List SV} {ob:List Ob}:QaU res n0 rs out .normal ⟨sl,ob⟩=(Tk res n0 ob (PF ⟨sl,ob⟩ rs)=some out):=rfl
theorem QaV {res:RM} {n0:Nat} {ob:List Ob} {r:SV}:Tk res n0 ob (some r)=Qc0 res n0 (gc n0 r ob):=rfl
theorem Qc3 {n0:Nat} {r:SV} {ob:List Ob} {res:RM}:Qc0 res n0 (some (r,ob))=order res n0 r ob:=rfl
theorem Ab {f:FuncId} {fc:FC} {hand:List Bool} {res:RM} {tr:Bool} {xs:List SV} {ob:List Ob} {out:SV × List Ob} (hc:Ad Tryz.prog f=some fc) (hr:modes f=⟨hand,res,none,tr⟩) (hn:xs.length≤fc.nt) (h:go ob.length (FH res fc.sc) ⟨xs++Iy (fc.nt-xs.length),entry tr ob⟩ (QaU res ob.length fc.rs out)):E f xs ob=some out:=by
 obtain ⟨x,st',h1,h2⟩:=h
 unfold E
 rw [QbA]
 unfold Gn
 rw [hc,hr]
 simp only
 rw [decide_eq_true hn,cond_true]
 have h1:fr Tryz.prog (CI modes (ev Tryz.prog modes)) (K0 ob.length) (FH res fc.sc) ⟨xs++Iy (fc.nt-xs.length),entry tr ob⟩=some (x,st'):=h1
 rw [h1]
 exact h2
theorem OI {f:FuncId} {g:List SV→List Ob→Option (SV × List Ob)} {xs:List SV} {ob:List Ob} (hg:(modes f).ext=some g):E f xs ob=g xs ob:=by
 unfold E
 rw [QbA]
 unfold Gn
 rw [hg]
theorem Tn {f:FuncId} {g:List SV→Option SV} {xs:List SV} {r:SV} (hg:(modes f).ext=some (Lm g)) (h:g xs=some r):E f xs []=some (r,[]):=by
 rw [OI hg]
 simp only [Lm,h]
theorem CS:modes 55=⟨[],.asis,some (Lm QA),false⟩:=by unfold modes; rfl
theorem HP {k:Int} (h1:1≤k) (h2:k≤1099511627776):E 55 [.int .i64 k] []=some (.str (Fq k),[]):=by
 refine Tn (g:=QA) (by unfold modes; rfl) ?_
 simp only [QA,Ay h1,Ay h2,zF,cond_true]
theorem Cx:modes 136=⟨[],.asis,some (Lm YD),false⟩:=by unfold modes; rfl
theorem Lp (s:ByteArray):E 136 [.str s] []=some (.bool (AI s),[]):=Tn (g:=YD) (congrArg FM.ext Cx) rfl
theorem Ao:modes 62=⟨[],.asis,some (Lm YE),false⟩:=by unfold modes; rfl
theorem Gp (s:ByteArray):E 62 [.str s] []=some (.bool (AI s),[]):=Tn (g:=YE) (congrArg FM.ext Ao) rfl
theorem A6:modes 73=⟨[],.asis,some (Lm YF),false⟩:=by unfold modes; rfl
theorem K7 (s:ByteArray):E 73 [.str s] []=some (.bool (CN s),[]):=Tn (g:=YF) (congrArg FM.ext A6) rfl
theorem Bj:modes 83=⟨[],.asis,some (Lm YG),false⟩:=by unfold modes; rfl
theorem OJ (s:ByteArray):E 83 [.str s] []=some (.bool (CN s),[]):=Tn (g:=YG) (congrArg FM.ext Bj) rfl
theorem QaW {n:Int} (h1:-9223372036854775808≤n) (h2:n≤9223372036854775807):dec (inK .i64 n)=true:=Ay (Qas.2 ⟨h1,h2⟩)
theorem get_at {α β:Type} (f:α→β) {xs:List α} {k:Nat} (h:k<xs.length):(xs.map f)[k]?=some (f xs[k]):=by rw [yD,zP h]; rfl
theorem AT (left:Int) (n:Nat):((n:Int)≤left∧szR left n=left-n)∨(left<n∧szR left n=-1):=by
 unfold szR; split <;> omega
mutual
def D.fit:D→Prop
 | .int _=>True
 | .byte _=>True
 | .nl=>True
 | .bool _=>True
 | .str s=>s.size≤9223372036854775807
 | .arr es=>es.length≤9223372036854775807∧D.To es
def D.fits:List D→Prop
 | []=>True
 | x :: r=>D.fit x∧D.fits r
def D.To:List (List D)→Prop
 | []=>True
 | x :: r=>D.fits x∧D.To r
end
theorem D.Wc:∀ {l:List D},(∀ (j:Nat) (h:j<l.length),D.fit l[j])→D.fits l
 | [],_=>trivial
 | x :: r,h=>⟨h 0 (by simp),D.Wc fun j hj=>h (j+1) (by simpa using hj)⟩
theorem D.Tp:∀ {es:List (List D)},(∀ (i:Nat) (h:i<es.length),D.fits es[i])→D.To es
 | [],_=>trivial
 | x :: r,h=>⟨h 0 (by simp),D.Tp fun j hj=>h (j+1) (by simpa using hj)⟩
theorem D.J5 {α:Type} {f:α→List D}:∀ {xs:List α},D.To (xs.map f)→∀ x∈xs,D.fits (f x)
 | [],_,x,h=>by cases h
 | y :: r,h,x,hx=>by
  simp only [zH,D.To] at h
  rcases zK.1 hx with rfl | hx
  ·exact h.1
  ·exact D.J5 h.2 x hx
theorem DRep.fit {own:Bool} {w:World} {S:Nat→Prop} {d:D} {v:Value} (h:DRep own w S d v):D.fit d:=by
 induction h with
 | int=>trivial
 | byte=>trivial
 | nl=>trivial
 | bool=>trivial
 | str S s h=>exact h
 | arr S sz es a cap f Sub h1 h2 h3 h4 h5 h6 h7 ih=>exact ⟨Nat.le_trans h1 h2,D.Tp fun i hi=>D.Wc fun j hj=>ih i j hi hj⟩
theorem QcW:dec True=true:=Ay trivial
theorem QcX:dec False=false:=Aw fun h=>h
attribute [go_sem] Qa6 Qa5 Qcu Qct YJ ST SC.D0 Y2 pfx E7 JV OT.HJ OT.SR OT.half Qcr Qa3 Gk SE SV.isNil Ob.idsB SV.idsB SV.Nd List.getElem?_cons_zero List.getElem?_cons_succ OT.A2 OT.CQ OT.full entry toTree VU SS VT Fa He EB Ys Qh Yy OT.erss OT.ers OT.er OT.B7 OT.DE OT.noSh quiet obB Uy JJ meets I6 go_skip QaH go_ret QbZ QaI Qca YK QaJ QaK QaL Qcb Qcc Qcd QcR QcS QcT QaM QaN YN Xi QaO YO Xj QaP Qcg Qch QcU Qci Qcj Qck QcV Qcl Qcm YQ Qco Qcp Qcq Qcs Qcv Qcw Qcx Qcy SN SM DA seen Xk Va QaQ QaR Qcz Xl Gl YR YS YT Qc1 Qc2 QaV Qc3 order opF fOp EZ VO Qat VM VN Yr ID eqK An gets Ae Lc F8 Dp Ld Om A5 WN SV.cellsN SV.one JR splice DD Sv JQ La Dz B6 BT Bm GR HZ U0 eOp.mkEs eOp.addS D.sv OT.sv D.ot GY GC reach SV.refs SV.Qr SV.ptrs SV.Qs Ob.refs Ob.liveB Hf Fy SV.back SV.Ng Ob.back GW Ia Ct Bb Ba Kx HH SV.ren SV.Kt Ob.ren mkU sgp gc Nk names VR Lk Qaw Qax Qay O2 Yz Qaz Qa0 Qa1 Qa2 Qa4 Qa7 SC.mark Qw FE slots PF U8 rxV Iy SL SV.noSh SV.Na Ob.noSh SV.own SV.R1 Fl cond_true cond_false zE xP zH yM List.drop_succ_cons zI List.drop_nil List.take_succ_cons List.take_zero List.take_nil yZ List.nil_append List.cons_append xV List.all_nil List.getD_cons_zero List.getD_cons_succ xW List.any_nil List.contains_cons List.contains_nil List.isEmpty_nil List.isEmpty_cons List.flatten_cons List.flatten_nil y2 List.replicate_zero List.set_cons_zero List.set_cons_succ Nat.add_zero yH zQ zL zM yN zF Bool.or_false xX Bool.true_or Bool.or_true xY xS z6 z7 decide_true decide_false beq_self_eq_true if_true if_false xO Option.map_none zN zY Option.getD_none Int.toNat_natCast true_and and_true and_self eq_self_iff_true List.length_map yQ Bool.true_eq_false zS SV.int.injEq SV.bool.injEq SV.str.injEq SV.agg.injEq SV.tup.injEq SV.arr.injEq yJ St.mk.injEq Int.zero_add QcW QcX QaW Ay Aw QcK svK svD XV svM MV.sv VA Yt SI Yu GB St.app SW MK.sv Xm Xn Xo QaS QaT
attribute [go_sem_proc] Nat.reduceAdd Nat.reduceSub Nat.reduceLT Nat.reduceLeDiff Nat.reduceEqDiff Nat.reduceBEq Nat.reduceBneDiff Nat.reduceMul Int.reduceToNat Int.reduceNeg Int.reduceAdd reduceCtorEq
attribute [go_sem_proc ↓] reduceIte
theorem Wd:∀ xs:List ByteArray,OT.A2 (xs.map fun s=>[OT.str s])=true
 | []=>rfl
 | x :: xs=>by simp only [zH,OT.A2,OT.CQ,OT.full,Wd xs,zF]
theorem RC:∀ xs:List Int,OT.A2 (xs.map fun n=>[OT.int n])=true
 | []=>rfl
 | x :: xs=>by simp only [zH,OT.A2,OT.CQ,OT.full,RC xs,zF]
theorem Tm.YU:∀ xs:List Tm,(∀ x∈xs,OT.CQ (Tm.o x)=true)→OT.A2 (xs.map Tm.o)=true
 | [],_=>rfl
 | x :: xs,h=>by
  simp only [zH,OT.A2]
  rw [h x (by simp),Tm.YU xs fun y hy=>h y (by simp [hy])]; rfl
theorem Tm.fu (x:Tm):OT.CQ (Tm.o x)=true:=by
 have h:=Tm.YU x.args fun y hy=>Tm.fu y
 rw [Tm.o_eq]
 simp only [OT.CQ,OT.full,h,zF,zM]
termination_by SizeOf.sizeOf x
decreasing_by exact Tm.Ar hy
theorem Tm.fus (xs:List Tm):OT.A2 (xs.map Tm.o)=true:=Tm.YU xs fun x _=>Tm.fu x
theorem Lt.fu (x:Lt):OT.CQ (Lt.o x)=true:=by
 simp only [Lt.o,OT.CQ,OT.full,Tm.fus,zF,zM]
theorem Lt.fus:∀ xs:List Lt,OT.A2 (xs.map Lt.o)=true
 | []=>rfl
 | x :: xs=>by simp only [zH,OT.A2,Lt.fu,Lt.fus xs,zF]
theorem Cl.fu (x:Cl):OT.CQ (Cl.o x)=true:=by
 simp only [Cl.o,OT.CQ,OT.full,Lt.fus,zF,zM]
theorem Cl.fus:∀ xs:List Cl,OT.A2 (xs.map Cl.o)=true
 | []=>rfl
 | x :: xs=>by simp only [zH,OT.A2,Cl.fu,Cl.fus xs,zF]
theorem Ag.fu (x:Ag):OT.CQ (Ag.o x)=true:=by
 simp only [Ag.o,OT.CQ,OT.full,zF,zM]
theorem Ag.fus:∀ xs:List Ag,OT.A2 (xs.map Ag.o)=true
 | []=>rfl
 | x :: xs=>by simp only [zH,OT.A2,Ag.fu,Ag.fus xs,zF]
theorem Tl.fu (x:Tl):OT.CQ (Tl.o x)=true:=by
 simp only [Tl.o,OT.CQ,OT.full,RC,zF,zM]
theorem Tl.fus:∀ xs:List Tl,OT.A2 (xs.map Tl.o)=true
 | []=>rfl
 | x :: xs=>by simp only [zH,OT.A2,Tl.fu,Tl.fus xs,zF]
theorem Ip.fu (x:Ip):OT.CQ (Ip.o x)=true:=by
 simp only [Ip.o,OT.CQ,OT.full,Tl.fus,zF,zM]
theorem Ip.fus:∀ xs:List Ip,OT.A2 (xs.map Ip.o)=true
 | []=>rfl
 | x :: xs=>by simp only [zH,OT.A2,Ip.fu,Ip.fus xs,zF]
attribute [go_sem] Wd RC VW VX QaA VY Tm.fus Tm.erss Tm.noss Lt.fus Lt.erss Lt.noss Cl.fus Cl.erss Cl.noss Ag.fus Ag.erss Ag.noss Tl.fus Tl.erss Tl.noss Ip.fus Ip.erss Ip.noss
theorem Ef {α β:Type} (f:α→β) (dn rest:List α) (x y:α) {k:Nat} (h:dn.length=k):((dn++x :: rest).map f).set k (f y)=((dn++[y])++rest).map f:=by
 subst h
 rw [yY,yV _ _ (by simp)]
 simp
theorem C9 {α:Type} (a:α):dec (a=a)=true:=Ay rfl
def Gq {α β:Type} (f:α→β) (z:β) (xs:List α) (k:Nat):List β:=(xs.take k).map f++yF (xs.length-k) z
section
variable {α β:Type} (f:α→β) (z:β) {xs:List α} {k:Nat}
theorem K8:Gq f z xs 0=yF xs.length z:=by simp [Gq]
theorem Mt:(Gq f z xs k).length=xs.length:=by simp [Gq]; omega
theorem Mu:Gq f z xs xs.length=xs.map f:=by simp [Gq]
theorem Mv (h:k<xs.length):(Gq f z xs k)[k]?=some z:=by
 have hl:((xs.take k).map f).length=k:=by simp; omega
 unfold Gq
 rw [List.getElem?_append_right (by omega),hl,xM,List.getElem?_replicate]
 simp; omega
theorem Mw (h:k<xs.length):(Gq f z xs k).set k (f xs[k])=Gq f z xs (k+1):=by
 have hl:((xs.take k).map f).length=k:=by simp; omega
 have e:List.take (k+1) xs=List.take k xs++[xs[k]]:=List.take_succ_eq_append_getElem h
 unfold Gq
 rw [yV _ _ (by omega),hl,xM,e,yY,xG]
 congr 1
 rw [show xs.length-k=(xs.length-(k+1))+1 by omega,y2,List.set_cons_zero]
 rfl
end
theorem QaX (a b:Int):(bif dec (a<b) then b else a)=max a b:=by
 by_cases h:a<b
 ·rw [Ay h,cond_true,Int.max_eq_right (by omega)]
 ·rw [Aw h,cond_false,Int.max_eq_left (by omega)]
def Cy {α:Type} (p:α→Bool):List α→Int→Int
 | [],_=>-1
 | x :: xs,i=>if p x then i else Cy p xs (i+1)
theorem Lq {α:Type} (p:α→Bool):∀ (xs:List α),dec (0≤Cy p xs 0)=xs.any p:=by
 have key:∀ (xs:List α) (i:Int),0≤i→(0≤Cy p xs i ↔ xs.any p=true):=by
  intro xs
  induction xs with
  | nil=>intro i h; simp [Cy]
  | cons x xs ih =>
   intro i h
   simp only [Cy,xW,yK]
   by_cases hp:p x=true
   ·simp [hp,h]
   ·rw [if_neg hp,ih (i+1) (by omega)]; simp [hp]
 intro xs
 cases h:xs.any p with
 | true=>exact Ay ((key xs 0 (by omega)).2 h)
 | false=>exact Aw fun h'=>by rw [(key xs 0 (by omega)).1 h'] at h; cases h
mutual
def Tm.nodes:Tm→Nat
 | .mk _ args=>1+Tm.AE args
def Tm.AE:List Tm→Nat
 | []=>0
 | x :: xs=>Tm.nodes x+Tm.AE xs
end
mutual
def Tm.deep:Tm→Nat
 | .mk _ args=>Tm.Gr args+1
def Tm.Gr:List Tm→Nat
 | []=>0
 | x :: xs=>max (Tm.deep x) (Tm.Gr xs)
end
mutual
def Tm.names:Tm→Bool
 | .mk name args=>if AI name then args.length == 0 else CN name&&decide (args.length≤4)&&Tm.Fs args
def Tm.Fs:List Tm→Bool
 | []=>true
 | x :: xs=>Tm.names x&&Tm.Fs xs
end
def Tm.small (x:Tm):Bool:=decide (x.nodes≤30)&&decide (x.deep≤8)
def Tm.valid (x:Tm):Bool:=x.small&&x.names
noncomputable def Tm.eqn (x:Tm):Bool:=dec (x.name=⟨#[61]⟩)
noncomputable def Tm.atom (x:Tm):Bool:=if x.eqn then x.args.length == 2&&x.small&&Tm.Fs x.args else CN x.name&&x.valid
noncomputable def Tm.expr (x:Tm):Bool:=x.valid || x.atom
theorem Tm.A3 (x:Tm):x.nodes=1+Tm.AE x.args:=by
 obtain ⟨name,args⟩:=x
 rw [Tm.nodes]; rfl
theorem Tm.Xp (x:Tm):1≤x.nodes:=by rw [Tm.A3]; omega
theorem Tm.DH:∀ (xs:List Tm) (k:Nat) (h:k<xs.length),xs[k].nodes≤Tm.AE xs
 | [],k,h=>absurd h (by simp)
 | x :: xs,0,_=>by rw [Tm.AE]; simp
 | x :: xs,k+1,h=>by
  have:=Tm.DH xs k (by simpa using h)
  rw [Tm.AE]; simp only [yI]; omega
theorem Tm.RD (x:Tm):x.deep=Tm.Gr x.args+1:=by
 obtain ⟨name,args⟩:=x
 rw [Tm.deep]; rfl
theorem Tm.IN:∀ xs:List Tm,(∀ y∈xs,y.deep≤y.nodes)→Tm.Gr xs≤Tm.AE xs
 | [],_=>by simp [Tm.Gr]
 | x :: xs,h=>by
  have h1:=h x (by simp)
  have h2:=Tm.IN xs fun y hy=>h y (by simp [hy])
  rw [Tm.Gr,Tm.AE]; omega
theorem Tm.GE (x:Tm):x.deep≤x.nodes:=by
 rw [Tm.RD,Tm.A3]
 have:=Tm.IN x.args fun y hy=>Tm.GE y
 omega
termination_by SizeOf.sizeOf x
decreasing_by exact Tm.Ar hy
theorem Tm.FL (x:Tm):x.names=if AI x.name then x.args.length == 0 else CN x.name&&decide (x.args.length≤4)&&Tm.Fs x.args:=by
 obtain ⟨name,args⟩:=x
 rw [Tm.names]; rfl
theorem Tm.Hj:∀ xs:List Tm,Tm.Fs xs=xs.all Tm.names
 | []=>rfl
 | x :: xs=>by rw [Tm.Fs,Tm.Hj xs]; rfl
theorem Tm.length_le:∀ xs:List Tm,xs.length≤Tm.AE xs
 | []=>zQ _
 | x :: xs=>by
  have:=Tm.length_le xs
  have:=Tm.Xp x
  rw [Tm.AE]; simp only [zE]; omega
theorem Tm.Cv {xs:List Tm} {y:Tm} (h:y∈xs):y.nodes≤Tm.AE xs:=by
 obtain ⟨k,hk,rfl⟩:=zW h
 exact Tm.DH xs k hk
theorem QC {xs:List Tm} (h:xs.length=2):Tm.Fs xs=((xs[0]'(by omega)).names&&(xs[1]'(by omega)).names):=by
 match xs,h with
 | [a,b],_=>simp [Tm.Fs]
mutual
def Tm.cap:Tm→Int
 | .mk _ xs=>Tm.My xs 1
def Tm.My:List Tm→Int→Int
 | [],n=>n
 | x :: xs,n=>if 30 < n then n else Tm.My xs (n+Tm.cap x)
end
theorem Tm.YV (x:Tm):x.cap=Tm.My x.args 1:=by
 obtain ⟨n,xs⟩:=x
 rw [Tm.cap]; rfl
theorem Tm.QD:∀ (xs:List Tm) (n:Int),(∀ x∈xs,1≤x.cap∧x.cap≤x.nodes∧(x.cap≤30→x.cap=x.nodes))→1≤n→n≤Tm.My xs n∧Tm.My xs n≤n+Tm.AE xs∧(Tm.My xs n≤30→Tm.My xs n=n+Tm.AE xs)
 | [],n,_,h=>by simp [Tm.My,Tm.AE]
 | x :: xs,n,hx,h=>by
  rw [Tm.My,Tm.AE]
  have h1:=hx x (by simp)
  split
  ·omega
  ·have:=Tm.QD xs (n+x.cap) (fun y hy=>hx y (by simp [hy])) (by omega)
   omega
theorem Tm.Lr (x:Tm):1≤x.cap∧x.cap≤x.nodes∧(x.cap≤30→x.cap=x.nodes):=by
 rw [Tm.YV,Tm.A3]
 have:=Tm.QD x.args 1 (fun y hy=>Tm.Lr y) (by omega)
 omega
termination_by SizeOf.sizeOf x
decreasing_by exact Tm.Ar hy
mutual
def Tm.many:Tm→Int→Int
 | .mk _ xs,m=>Tm.Hk xs m 1
def Tm.Hk:List Tm→Int→Int→Int
 | [],_,n=>n
 | x :: xs,m,n=>if n≤m then Tm.Hk xs m (n+Tm.many x (m-n)) else n
end
theorem Tm.We (x:Tm) (m:Int):x.many m=Tm.Hk x.args m 1:=by
 obtain ⟨n,xs⟩:=x
 rw [Tm.many]; rfl
theorem Tm.OK (m:Int):∀ (xs:List Tm) (n:Int),(∀ x∈xs,∀ m,0≤m→1≤x.many m∧x.many m≤x.nodes∧(x.many m≤m→x.many m=x.nodes))→1≤n→n≤Tm.Hk xs m n∧Tm.Hk xs m n≤n+Tm.AE xs∧(Tm.Hk xs m n≤m→Tm.Hk xs m n=n+Tm.AE xs)
 | [],n,_,h=>by simp [Tm.Hk,Tm.AE]
 | x :: xs,n,hx,h=>by
  rw [Tm.Hk,Tm.AE]
  split
  ·have h1:=hx x (by simp) (m-n) (by omega)
   have:=Tm.OK m xs (n+x.many (m-n)) (fun y hy=>hx y (by simp [hy])) (by omega)
   omega
  ·omega
theorem Tm.J6 (x:Tm) (m:Int):1≤x.many m∧x.many m≤x.nodes∧(x.many m≤m→x.many m=x.nodes):=by
 rw [Tm.We,Tm.A3]
 have:=Tm.OK m x.args 1 (fun y hy m _=>Tm.J6 y m) (by omega)
 omega
termination_by SizeOf.sizeOf x
decreasing_by exact Tm.Ar hy
theorem Tm.Mz {x:Tm} (h:x.names=true) (hv:AI x.name=true):x.args=[]:=by
 rw [Tm.FL,if_pos hv] at h
 exact zO (by simpa using h)
theorem Tm.Eg {x:Tm} (h:x.names=true) {y:Tm} (hy:y∈x.args):y.names=true:=by
 rw [Tm.FL] at h
 split at h
 ·have:x.args=[]:=zO (by simpa using h)
  rw [this] at hy; cases hy
 ·rw [zA,Tm.Hj,zT] at h
  exact h.2 y hy
def Np:SC:=(.seq (.reg [⟨some 1,none,.boxv 69 2 (.t 0)⟩,⟨some 2,none,.mv (.c (.int .i64 0))⟩]) (.seq (.reg [⟨some 3,none,.mv (.c (.int .i64 1))⟩]) (.seq (.seq (.reg [⟨some 6,none,.faddr 1 (.t 1)⟩,⟨some 7,none,.load false 1 (.t 6)⟩,⟨some 8,none,.len false (.t 7)⟩,⟨some 9,none,.mv (.c (.int .i64 0))⟩]) (.block 0 (.loop [0,0,0,1,0,0,0,1,1,1,0,0,0,0,0,0,0,0,0,0,0,0] (.seq (.reg [⟨some 10,none,.bin .lss false (.t 9) (.t 8)⟩]) (.seq (.cond (.t 10) .skip (.exit 0)) (.seq (.block 1 (.seq (.reg [⟨some 11,none,.iaddr 2 (.t 7) (.t 9)⟩,⟨some 12,none,.load true 2 (.t 11)⟩,⟨(some 5),none,(.alloc 69 [(.str ⟨#[]⟩),.nil])⟩,⟨none,none,(.store 2 (.t 5) (.t 12))⟩]) (.seq (.seq (.reg [⟨some 13,none,.mv (.t 3)⟩,⟨some 14,none,.bin .gtr false (.t 13) (.c (.int .i64 30))⟩]) (.cond (.t 14) (.seq (.reg [⟨some 15,none,.mv (.t 3)⟩,⟨some 2,none,.mv (.t 15)⟩]) .ret) .skip)) (.reg [⟨some 16,none,.mv (.t 3)⟩,⟨some 17,none,.load true 2 (.t 5)⟩,⟨some 18,none,.call 134 [(.t 17)]⟩,⟨some 19,none,.bin .add false (.t 16) (.t 18)⟩,⟨some 3,none,.mv (.t 19)⟩])))) (.reg [⟨some 20,none,.bin .add false (.t 9) (.c (.int .i64 1))⟩,⟨some 9,none,.mv (.t 20)⟩]))))))) (.seq (.reg [⟨some 21,none,.mv (.t 3)⟩,⟨some 2,none,.mv (.t 21)⟩]) .ret))))
theorem Tq:Ad Tryz.prog 134=some ⟨22,Np,[(.tmp 2)]⟩:=by kernel_rfl
theorem Fb:modes 134=⟨[],.asis,none,false⟩:=by unfold modes; rfl
theorem QaY (x:Tm) (hn:x.nodes≤1099511627776) (ih:∀ y∈x.args,E 134 [y.sv] []=some (.int .i64 y.cap,[])):E 134 [x.sv] []=some (.int .i64 x.cap,[]):=by
 have hl:=Tm.length_le x.args
 have hx:=Tm.A3 x
 rw [Tm.YV]
 refine Ab Tq Fb (of_decide_eq_true rfl) ?_
 simp (disch:=omega) only [Np,go_sem,Aa]
 refine go_loop (α:=Int × Int) (fun a=>⟨slots 22 0 [(3,.int .i64 a.2),(7,.arr (x.args.map Tm.d)),(8,.int .i64 x.args.length),(9,.int .i64 a.1)],[]⟩) (fun a=>∃ k:Nat,a.1=k∧k≤x.args.length∧1≤a.2∧a.2+Tm.AE (x.args.drop k)≤x.nodes∧Tm.My (x.args.drop k) a.2=Tm.My x.args 1) (fun a=>x.args.length-a.1.toNat) (0,1) ⟨0,rfl,zL _,by dsimp only; omega,by rw [zI]; dsimp only; omega,rfl⟩ (by simp (disch:=omega) only [go_sem,Aa]) ?_
 rintro ⟨i,n⟩ ⟨k,hi,hk,hn0,hn1,hs⟩
 dsimp only at hi hn0 hn1 hs
 have hni:i.toNat=k:=by omega
 rcases zC k x.args.length with hlt | hge
 ·have hg:=get_at Tm.d hlt
  rw [Tm.d_eq] at hg
  have hd:x.args.drop k=x.args[k] :: x.args.drop (k+1):=zB hlt
  have hc:=ih x.args[k] (zJ hlt)
  have hp:=Tm.Lr x.args[k]
  rw [hd,Tm.My] at hs
  rw [hd,Tm.AE] at hn1
  rcases xN 30 n with h30 | h30
  ·rw [if_pos h30] at hs
   simp (disch:=omega) only [go_sem,Aa,hni,hg,hc,Fb]
   exact hs
  ·rw [if_neg (by omega)] at hs
   simp (disch:=omega) only [go_sem,Aa,hni,hg,hc,Fb]
   refine ⟨(i+1,n+x.args[k].cap),⟨k+1,by dsimp only; omega,hlt,by dsimp only; omega,by dsimp only; omega,hs⟩,by dsimp only; omega,?_⟩
   simp only [and_self]
 ·have hd:x.args.drop k=[]:=zD hge
  rw [hd,Tm.My] at hs
  simp (disch:=omega) only [go_sem,Aa,hni]
  exact hs
theorem YW (x:Tm) (hn:x.nodes≤1099511627776):E 134 [x.sv] []=some (.int .i64 x.cap,[]) :=
 QaY x hn fun y hy=>YW y (by have:=Tm.Cv hy; have:=Tm.A3 x; omega)
termination_by SizeOf.sizeOf x
decreasing_by exact Tm.Ar hy
def JX:SC:=(.seq (.reg [⟨some 2,none,.boxv 69 2 (.t 0)⟩,⟨some 4,none,.mv (.c (.int .i64 0))⟩]) (.seq (.reg [⟨some 5,none,.mv (.c (.int .i64 1))⟩]) (.seq (.seq (.reg [⟨some 6,none,.mv (.c (.int .i64 0))⟩]) (.block 0 (.loop [0,1,1,0,0,1,1,0,0,0,0,0,0,0,0,0,0,0,0,0,0,0,0,0,0,0,0,0,0,0,0] (.seq (.seq (.reg [⟨some 7,none,.mv (.t 6)⟩,⟨some 8,none,.faddr 1 (.t 2)⟩,⟨some 9,none,.load false 1 (.t 8)⟩,⟨some 10,none,.len false (.t 9)⟩,⟨some 11,none,.bin .lss false (.t 7) (.t 10)⟩,⟨some 12,none,.mv (.t 11)⟩,⟨(some 13),(some (12,true)),(.mv (.t 5))⟩,⟨(some 14),(some (12,true)),(.mv (.t 1))⟩,⟨(some 15),(some (12,true)),(.bin .leq false (.t 13) (.t 14))⟩,⟨some 16,none,.pick (.t 12) (.t 15) (.c (.bool false))⟩]) (.cond (.t 16) .skip (.exit 0))) (.seq (.block 1 (.reg [⟨some 19,none,.mv (.t 5)⟩,⟨some 20,none,.faddr 1 (.t 2)⟩,⟨some 21,none,.load false 1 (.t 20)⟩,⟨some 22,none,.mv (.t 6)⟩,⟨some 23,none,.iaddr 2 (.t 21) (.t 22)⟩,⟨some 24,none,.load true 2 (.t 23)⟩,⟨some 25,none,.mv (.t 1)⟩,⟨some 26,none,.mv (.t 5)⟩,⟨some 27,none,.bin .sub false (.t 25) (.t 26)⟩,⟨some 28,none,.call 108 [(.t 24),(.t 27)]⟩,⟨some 29,none,.bin .add false (.t 19) (.t 28)⟩,⟨some 5,none,.mv (.t 29)⟩])) (.reg [⟨some 17,none,.mv (.t 6)⟩,⟨some 18,none,.bin .add false (.t 17) (.c (.int .i64 1))⟩,⟨some 6,none,.mv (.t 18)⟩])))))) (.seq (.reg [⟨some 30,none,.mv (.t 5)⟩,⟨some 4,none,.mv (.t 30)⟩]) .ret))))
theorem PL:Ad Tryz.prog 108=some ⟨31,JX,[(.tmp 4)]⟩:=by kernel_rfl
theorem DI:modes 108=⟨[],.asis,none,false⟩:=by unfold modes; rfl
theorem QaZ (x:Tm) (m:Int) (hm:0≤m) (hm1:m≤1099511627776) (hn:x.nodes≤1099511627776) (ih:∀ y∈x.args,∀ m:Int,0≤m→m≤1099511627776→E 108 [y.sv,.int .i64 m] []=some (.int .i64 (y.many m),[])):E 108 [x.sv,.int .i64 m] []=some (.int .i64 (x.many m),[]):=by
 have hl:=Tm.length_le x.args
 have hx:=Tm.A3 x
 rw [Tm.We]
 refine Ab PL DI (of_decide_eq_true rfl) ?_
 simp (disch:=omega) only [JX,go_sem,Aa]
 refine go_loop (α:=Int × Int) (fun a=>⟨slots 31 0 [(1,.int .i64 m),(2,.ptr 0 0),(5,.int .i64 a.2),(6,.int .i64 a.1)],[.box 69 [.str x.name,.arr (x.args.map Tm.d)]]⟩) (fun a=>∃ k:Nat,a.1=k∧k≤x.args.length∧1≤a.2∧a.2+Tm.AE (x.args.drop k)≤x.nodes∧Tm.Hk (x.args.drop k) m a.2=Tm.Hk x.args m 1) (fun a=>x.args.length-a.1.toNat) (0,1) ⟨0,rfl,zL _,by dsimp only; omega,by rw [zI]; dsimp only; omega,rfl⟩ (by simp (disch:=omega) only [go_sem,Aa]) ?_
 rintro ⟨i,n⟩ ⟨k,hi,hk,hn0,hn1,hs⟩
 dsimp only at hi hn0 hn1 hs
 have hni:i.toNat=k:=by omega
 rcases zC k x.args.length with hlt | hge
 ·have hg:=get_at Tm.d hlt
  rw [Tm.d_eq] at hg
  have hd:x.args.drop k=x.args[k] :: x.args.drop (k+1):=zB hlt
  rw [hd,Tm.Hk] at hs
  rw [hd,Tm.AE] at hn1
  rcases xN m n with h30 | h30
  ·rw [if_neg (by omega)] at hs
   simp (disch:=omega) only [go_sem,Aa,hni,hg,DI]
   exact hs
  ·rw [if_pos h30] at hs
   have hc:=ih x.args[k] (zJ hlt) (m-n) (by omega) (by omega)
   have hp:=Tm.J6 x.args[k] (m-n)
   simp (disch:=omega) only [go_sem,Aa,hni,hg,hc,DI]
   refine ⟨(i+1,n+x.args[k].many (m-n)),⟨k+1,by dsimp only; omega,hlt,by dsimp only; omega,by dsimp only; omega,hs⟩,by dsimp only; omega,?_⟩
   simp only [and_self]
 ·have hd:x.args.drop k=[]:=zD hge
  rw [hd,Tm.Hk] at hs
  simp (disch:=omega) only [go_sem,Aa,hni]
  exact hs
theorem YX (x:Tm) (m:Int) (hm:0≤m) (hm1:m≤1099511627776) (hn:x.nodes≤1099511627776):E 108 [x.sv,.int .i64 m] []=some (.int .i64 (x.many m),[]) :=
 QaZ x m hm hm1 hn fun y hy m hm hm1=>YX y m hm hm1 (by have:=Tm.Cv hy; have:=Tm.A3 x; omega)
termination_by SizeOf.sizeOf x
decreasing_by exact Tm.Ar hy
def Ls:SC:=(.seq (.reg [⟨some 1,none,.boxv 69 2 (.t 0)⟩,⟨some 2,none,.mv (.c (.int .i64 0))⟩]) (.seq (.reg [⟨some 3,none,.mv (.c (.int .i64 0))⟩]) (.seq (.seq (.reg [⟨some 6,none,.faddr 1 (.t 1)⟩,⟨some 7,none,.load false 1 (.t 6)⟩,⟨some 8,none,.len false (.t 7)⟩,⟨some 9,none,.mv (.c (.int .i64 0))⟩]) (.block 0 (.loop [0,0,0,1,0,0,0,1,1,1,0,0,0,0,0,0,0,0,0,0] (.seq (.reg [⟨some 10,none,.bin .lss false (.t 9) (.t 8)⟩]) (.seq (.cond (.t 10) .skip (.exit 0)) (.seq (.block 1 (.seq (.reg [⟨some 11,none,.iaddr 2 (.t 7) (.t 9)⟩,⟨some 12,none,.load true 2 (.t 11)⟩,⟨(some 5),none,(.alloc 69 [(.str ⟨#[]⟩),.nil])⟩,⟨none,none,(.store 2 (.t 5) (.t 12))⟩]) (.reg [⟨some 13,none,.mv (.t 3)⟩,⟨some 14,none,.load true 2 (.t 5)⟩,⟨some 15,none,.call 135 [(.t 14)]⟩,⟨some 16,none,.minmax true (.t 13) (.t 15)⟩,⟨some 3,none,.mv (.t 16)⟩]))) (.reg [⟨some 17,none,.bin .add false (.t 9) (.c (.int .i64 1))⟩,⟨some 9,none,.mv (.t 17)⟩]))))))) (.seq (.reg [⟨some 18,none,.mv (.t 3)⟩,⟨some 19,none,.bin .add false (.t 18) (.c (.int .i64 1))⟩,⟨some 2,none,.mv (.t 19)⟩]) .ret))))
theorem RE:Ad Tryz.prog 135=some ⟨20,Ls,[(.tmp 2)]⟩:=by kernel_rfl
theorem Fz:modes 135=⟨[],.asis,none,false⟩:=by unfold modes; rfl
def JY:SC:=(.seq (.reg [⟨some 4,none,.mv (.c (.int .i64 0))⟩]) (.seq (.seq (.reg [⟨some 5,none,.mv (.t 0)⟩,⟨some 6,none,.mv (.t 1)⟩,⟨some 7,none,.bin .gtr false (.t 5) (.t 6)⟩]) (.cond (.t 7) (.seq (.reg [⟨some 8,none,.mv (.t 0)⟩,⟨some 4,none,.mv (.t 8)⟩]) .ret) .skip)) (.seq (.reg [⟨some 9,none,.mv (.t 1)⟩,⟨some 4,none,.mv (.t 9)⟩]) .ret)))
theorem PM:Ad Tryz.prog 133=some ⟨10,JY,[(.tmp 4)]⟩:=by kernel_rfl
theorem JZ:modes 133=⟨[],.asis,none,false⟩:=by unfold modes; rfl
def IO:SC:=(.seq (.reg [⟨some 1,none,.boxv 69 2 (.t 0)⟩,⟨some 2,none,.mv (.c (.int .i64 0))⟩]) (.seq (.reg [⟨some 3,none,.mv (.c (.int .i64 0))⟩]) (.seq (.seq (.reg [⟨some 4,none,.mv (.c (.int .i64 0))⟩]) (.block 0 (.loop [0,1,0,1,1,0,0,0,0,0,0,0,0,0,0,0,0,0,0,0,0,0] (.seq (.seq (.reg [⟨some 5,none,.mv (.t 4)⟩,⟨some 6,none,.faddr 1 (.t 1)⟩,⟨some 7,none,.load false 1 (.t 6)⟩,⟨some 8,none,.len false (.t 7)⟩,⟨some 9,none,.bin .lss false (.t 5) (.t 8)⟩]) (.cond (.t 9) .skip (.exit 0))) (.seq (.block 1 (.reg [⟨some 12,none,.mv (.t 3)⟩,⟨some 13,none,.faddr 1 (.t 1)⟩,⟨some 14,none,.load false 1 (.t 13)⟩,⟨some 15,none,.mv (.t 4)⟩,⟨some 16,none,.iaddr 2 (.t 14) (.t 15)⟩,⟨some 17,none,.load true 2 (.t 16)⟩,⟨some 18,none,.call 109 [(.t 17)]⟩,⟨some 19,none,.call 133 [(.t 12),(.t 18)]⟩,⟨some 3,none,.mv (.t 19)⟩])) (.reg [⟨some 10,none,.mv (.t 4)⟩,⟨some 11,none,.bin .add false (.t 10) (.c (.int .i64 1))⟩,⟨some 4,none,.mv (.t 11)⟩])))))) (.seq (.reg [⟨some 20,none,.mv (.t 3)⟩,⟨some 21,none,.bin .add false (.t 20) (.c (.int .i64 1))⟩,⟨some 2,none,.mv (.t 21)⟩]) .ret))))
theorem OL:Ad Tryz.prog 109=some ⟨22,IO,[(.tmp 2)]⟩:=by kernel_rfl
theorem Ep:modes 109=⟨[],.asis,none,false⟩:=by unfold modes; rfl
theorem YY (a b:Int):E 133 [.int .i64 a,.int .i64 b] []=some (.int .i64 (max a b),[]):=by
 refine Ab PM JZ (of_decide_eq_true rfl) ?_
 simp (disch:=omega) only [JY,go_sem,Aa]
 repeat' (refine Ci (fun hq=>?_) (fun hq=>?_) <;> (first | replace hq:=Af.1 hq | replace hq:=Be.1 hq) <;> (try simp (disch:=omega) only [go_sem,Aa]))
 all_goals omega
theorem YZ (x:Tm) (hn:x.nodes≤1099511627776) (ih:∀ y∈x.args,E 135 [y.sv] []=some (.int .i64 y.deep,[])):E 135 [x.sv] []=some (.int .i64 x.deep,[]):=by
 have hl:=Tm.length_le x.args
 have hx:=Tm.A3 x
 have hd1:=Tm.RD x
 have hd2:=Tm.GE x
 refine Ab RE Fz (of_decide_eq_true rfl) ?_
 simp (disch:=omega) only [Ls,go_sem,Aa]
 refine go_loop (α:=Int × (Int)) (fun a=>⟨slots 20 0 [(3,.int .i64 (a.2)),(7,.arr (x.args.map Tm.d)),(8,.int .i64 x.args.length),(9,.int .i64 (a.1))],[]⟩) (fun a=>∃ k:Nat,a.1=k∧k≤(x.args).length∧0≤(a.2)∧max (a.2) (Tm.Gr (x.args.drop k):Nat)=(Tm.Gr x.args:Nat)) (fun a=>(x.args).length-(a.1).toNat) (0,0) ⟨0,rfl,zL _,by dsimp only; omega,by rw [zI]; dsimp only; omega⟩ (by simp (disch:=omega) only [go_sem,Aa]) ?_
 rintro ⟨i,n⟩ ⟨k,hi,hk,hR⟩
 dsimp only at hi hR
 have hni:i.toNat=k:=by omega
 have hni1:(i+1).toNat=k+1:=by omega
 rcases zC k (x.args).length with hlt | hge
 ·have hg:=get_at Tm.d hlt
  rw [Tm.d_eq] at hg
  have hc:=ih x.args[k] (zJ hlt)
  rw [zB hlt,Tm.Gr] at hR
  simp (disch:=omega) only [go_sem,Aa,hni,hg,hc,Fz,QaX]
  refine ⟨(i+1,max n (x.args[k].deep:Int)),⟨k+1,by dsimp only; omega,hlt,by dsimp only; omega⟩,by dsimp only; omega,?_⟩
  simp only [and_self]
 ·rw [zD hge,Tm.Gr] at hR
  simp (disch:=omega) only [go_sem,Aa,hni]
  omega
theorem Wg (x:Tm) (hn:x.nodes≤1099511627776):E 135 [x.sv] []=some (.int .i64 x.deep,[]) :=
 YZ x hn fun y hy=>Wg y (by have:=Tm.Cv hy; have:=Tm.A3 x; omega)
termination_by SizeOf.sizeOf x
decreasing_by exact Tm.Ar hy
theorem Vb (x:Tm) (hn:x.nodes≤1099511627776) (ih:∀ y∈x.args,E 109 [y.sv] []=some (.int .i64 y.deep,[])):E 109 [x.sv] []=some (.int .i64 x.deep,[]):=by
 have hl:=Tm.length_le x.args
 have hx:=Tm.A3 x
 have hd1:=Tm.RD x
 have hd2:=Tm.GE x
 refine Ab OL Ep (of_decide_eq_true rfl) ?_
 simp (disch:=omega) only [IO,go_sem,Aa]
 refine go_loop (α:=Int × (Int)) (fun a=>⟨slots 22 0 [(1,.ptr 0 0),(3,.int .i64 (a.2)),(4,.int .i64 (a.1))],[.box 69 [.str x.name,.arr (x.args.map Tm.d)]]⟩) (fun a=>∃ k:Nat,a.1=k∧k≤(x.args).length∧0≤(a.2)∧max (a.2) (Tm.Gr (x.args.drop k):Nat)=(Tm.Gr x.args:Nat)) (fun a=>(x.args).length-(a.1).toNat) (0,0) ⟨0,rfl,zL _,by dsimp only; omega,by rw [zI]; dsimp only; omega⟩ (by simp (disch:=omega) only [go_sem,Aa]) ?_
 rintro ⟨i,n⟩ ⟨k,hi,hk,hR⟩
 dsimp only at hi hR
 have hni:i.toNat=k:=by omega
 have hni1:(i+1).toNat=k+1:=by omega
 rcases zC k (x.args).length with hlt | hge
 ·have hg:=get_at Tm.d hlt
  rw [Tm.d_eq] at hg
  have hc:=ih x.args[k] (zJ hlt)
  rw [zB hlt,Tm.Gr] at hR
  simp (disch:=omega) only [go_sem,Aa,hni,hg,hc,Ep,YY,JZ]
  refine ⟨(i+1,max n (x.args[k].deep:Int)),⟨k+1,by dsimp only; omega,hlt,by dsimp only; omega⟩,by dsimp only; omega,?_⟩
  simp only [and_self]
 ·rw [zD hge,Tm.Gr] at hR
  simp (disch:=omega) only [go_sem,Aa,hni]
  omega
theorem QE (x:Tm) (hn:x.nodes≤1099511627776):E 109 [x.sv] []=some (.int .i64 x.deep,[]) :=
 Vb x hn fun y hy=>QE y (by have:=Tm.Cv hy; have:=Tm.A3 x; omega)
termination_by SizeOf.sizeOf x
decreasing_by exact Tm.Ar hy
def BU:SC:=(.seq (.reg [⟨some 4,none,.mv (.c (.int .i64 0))⟩]) (.seq (.seq (.reg [⟨some 6,none,.mv (.t 0)⟩,⟨some 7,none,.len false (.t 6)⟩,⟨some 8,none,.mv (.c (.int .i64 0))⟩]) (.block 0 (.loop [1,1,0,0,0,0,0,1,1,0,0,0,0,0,0,0,0,0,0] (.seq (.reg [⟨some 9,none,.bin .lss false (.t 8) (.t 7)⟩]) (.seq (.cond (.t 9) .skip (.exit 0)) (.seq (.block 1 (.seq (.reg [⟨some 10,none,.mv (.t 8)⟩,⟨some 5,none,.mv (.t 10)⟩]) (.seq (.reg [⟨some 11,none,.mv (.t 1)⟩,⟨some 12,none,.mv (.t 0)⟩,⟨some 13,none,.mv (.t 5)⟩,⟨some 14,none,.iaddr 2 (.t 12) (.t 13)⟩,⟨some 15,none,.load true 2 (.t 14)⟩,⟨some 16,none,.callv (.t 11) [(.t 15)]⟩]) (.cond (.t 16) (.seq (.reg [⟨some 17,none,.mv (.t 5)⟩,⟨some 4,none,.mv (.t 17)⟩]) .ret) .skip)))) (.reg [⟨some 18,none,.bin .add false (.t 8) (.c (.int .i64 1))⟩,⟨some 8,none,.mv (.t 18)⟩]))))))) (.seq (.reg [⟨some 4,none,.mv (.c (.int .i64 (-(0+1))))⟩]) .ret)))
theorem Dq:Ad Tryz.prog 147=some ⟨19,BU,[(.tmp 4)]⟩:=by kernel_rfl
theorem BV:modes 147=⟨[],.asis,none,false⟩:=by unfold modes; rfl
def BF:SC:=(.seq (.reg [⟨some 4,none,.mv (.c (.bool false))⟩]) (.seq (.reg [⟨some 5,none,.mv (.t 0)⟩,⟨some 6,none,.mv (.t 1)⟩,⟨some 7,none,.call 147 [(.t 5),(.t 6)]⟩,⟨some 8,none,.bin .geq false (.t 7) (.c (.int .i64 0))⟩,⟨some 4,none,.mv (.t 8)⟩]) .ret))
theorem CT:Ad Tryz.prog 137=some ⟨9,BF,[(.tmp 4)]⟩:=by kernel_rfl
theorem BG:modes 137=⟨[],.asis,none,false⟩:=by unfold modes; rfl
theorem N0 (fid:Nat) (p:Tm→Bool) (xs:List Tm) (hl:xs.length≤1099511627776) (hg:GQ Tryz.prog fid=true) (hm:(modes fid).hand=[]) (hE:∀ x∈xs,E fid [x.sv] []=some (.bool (p x),[])):E 147 [.arr (xs.map Tm.d),.fn fid []] []=some (.int .i64 (Cy p xs 0),[]):=by
 refine Ab Dq BV (of_decide_eq_true rfl) ?_
 simp (disch:=omega) only [BU,go_sem,Aa]
 refine go_loop (α:=Int) (fun a=>⟨slots 19 0 [(0,.arr (xs.map Tm.d)),(1,.fn fid []),(7,.int .i64 xs.length),(8,.int .i64 a)],[]⟩) (fun a=>∃ k:Nat,a=k∧k≤(xs).length∧Cy p (xs.drop k) a=Cy p xs 0) (fun a=>(xs).length-(a).toNat) 0 ⟨0,rfl,zL _,by rw [zI]⟩ (by simp (disch:=omega) only [go_sem,Aa]) ?_
 rintro i ⟨k,hi,hk,hR⟩
 have hni:i.toNat=k:=by omega
 have hni1:(i+1).toNat=k+1:=by omega
 rcases zC k (xs).length with hlt | hge
 ·have hg':=get_at Tm.d hlt
  rw [Tm.d_eq] at hg'
  have hc:=hE xs[k] (zJ hlt)
  rw [zB hlt,Cy] at hR
  cases hp:p xs[k] with
  | true =>
   rw [hp] at hc hR
   simp (disch:=omega) only [go_sem,Aa,hni,hg',hc,hg,hm]
   simpa using hR
  | false =>
   rw [hp] at hc hR
   simp (disch:=omega) only [go_sem,Aa,hni,hg',hc,hg,hm]
   exact ⟨i+1,⟨k+1,by omega,hlt,by simpa using hR⟩,by omega,by first | trivial | rfl⟩
 ·rw [zD hge,Cy] at hR
  simp (disch:=omega) only [go_sem,Aa,hni]
  exact hR
theorem K9 (fid:Nat) (p:Tm→Bool) (xs:List Tm) (hl:xs.length≤1099511627776) (hg:GQ Tryz.prog fid=true) (hm:(modes fid).hand=[]) (hE:∀ x∈xs,E fid [x.sv] []=some (.bool (p x),[])):E 137 [.arr (xs.map Tm.d),.fn fid []] []=some (.bool (xs.any p),[]):=by
 have h:=N0 fid p xs hl hg hm hE
 refine Ab CT BG (of_decide_eq_true rfl) ?_
 simp (disch:=omega) only [BF,go_sem,Aa,h,BV]
 rw [Lq]
def CU:SC:=(.seq (.reg [⟨some 1,none,.boxv 69 2 (.t 0)⟩,⟨some 2,none,.mv (.c (.bool false))⟩]) (.seq (.seq (.reg [⟨some 3,none,.faddr 0 (.t 1)⟩,⟨some 4,none,.load false 1 (.t 3)⟩,⟨some 5,none,.call 136 [(.t 4)]⟩]) (.cond (.t 5) (.seq (.reg [⟨some 6,none,.faddr 1 (.t 1)⟩,⟨some 7,none,.load false 1 (.t 6)⟩,⟨some 8,none,.len false (.t 7)⟩,⟨some 9,none,.bin .eql false (.t 8) (.c (.int .i64 0))⟩,⟨some 2,none,.mv (.t 9)⟩]) .ret) .skip)) (.seq (.reg [⟨some 10,none,.faddr 0 (.t 1)⟩,⟨some 11,none,.load false 1 (.t 10)⟩,⟨some 12,none,.call 73 [(.t 11)]⟩,⟨some 13,none,.mv (.t 12)⟩,⟨(some 14),(some (13,true)),(.faddr 1 (.t 1))⟩,⟨(some 15),(some (13,true)),(.load false 1 (.t 14))⟩,⟨(some 16),(some (13,true)),(.len false (.t 15))⟩,⟨(some 17),(some (13,true)),(.bin .leq false (.t 16) (.c (.int .i64 4)))⟩,⟨some 18,none,.pick (.t 13) (.t 17) (.c (.bool false))⟩,⟨some 19,none,.mv (.t 18)⟩,⟨(some 20),(some (19,true)),(.faddr 1 (.t 1))⟩,⟨(some 21),(some (19,true)),(.load false 1 (.t 20))⟩,⟨(some 22),(some (19,true)),(.call 137 [(.t 21),(.c (.fn 138 []))])⟩,⟨(some 23),(some (19,true)),(.un .not (.t 22))⟩,⟨some 24,none,.pick (.t 19) (.t 23) (.c (.bool false))⟩,⟨some 2,none,.mv (.t 24)⟩]) .ret)))
theorem DR:Ad Tryz.prog 113=some ⟨25,CU,[(.tmp 2)]⟩:=by kernel_rfl
theorem AC:modes 113=⟨[],.asis,none,false⟩:=by unfold modes; rfl
def Gs:SC:=(.seq (.reg [⟨some 1,none,.boxv 69 2 (.t 0)⟩,⟨some 2,none,.mv (.c (.bool false))⟩]) (.seq (.reg [⟨some 3,none,.load true 2 (.t 1)⟩,⟨some 4,none,.call 113 [(.t 3)]⟩,⟨some 5,none,.un .not (.t 4)⟩,⟨some 2,none,.mv (.t 5)⟩]) .ret))
theorem Lu:Ad Tryz.prog 138=some ⟨6,Gs,[(.tmp 2)]⟩:=by kernel_rfl
theorem Gt:modes 138=⟨[],.asis,none,false⟩:=by unfold modes; rfl
theorem Lv:GQ Tryz.prog 138=true:=by kernel_rfl
theorem Tm.Qba (xs:List Tm):(!xs.any fun y=>!y.names)=Tm.Fs xs:=by
 rw [Tm.Hj]
 induction xs with
 | nil=>rfl
 | cons x xs ih=>simp only [xW,xV,Bool.not_or,Bool.not_not,ih]
theorem Tr (x:Tm) (hn:x.nodes≤1099511627776) (ih:∀ y∈x.args,E 113 [y.sv] []=some (.bool y.names,[])):E 113 [x.sv] []=some (.bool x.names,[]):=by
 have hl:=Tm.length_le x.args
 have hx:=Tm.A3 x
 have h1:∀ y∈x.args,E 138 [y.sv] []=some (.bool (!y.names),[]):=fun y hy=>by
  have h:=ih y hy
  refine Ab Lu Gt (of_decide_eq_true rfl) ?_
  simp (disch:=omega) only [Gs,go_sem,Aa,h,AC]
 have h2:=K9 138 (fun y=>!y.names) x.args (by omega) Lv (by rw [Gt]) h1
 rw [Tm.FL,← Tm.Qba]
 cases hv:AI x.name with
 | true =>
  have h3:=Lp x.name
  rw [hv] at h3
  refine Ab DR AC (of_decide_eq_true rfl) ?_
  simp (disch:=omega) only [CU,go_sem,Aa,h3,Cx]
  rw [Kw]; cases x.args <;> simp <;> omega
 | false =>
  have h3:=Lp x.name
  rw [hv] at h3
  have h4:=K7 x.name
  cases hs:CN x.name with
  | false =>
   rw [hs] at h4
   refine Ab DR AC (of_decide_eq_true rfl) ?_
   simp (disch:=omega) only [CU,go_sem,Aa,h2,h3,h4,Cx,A6]
  | true =>
   rw [hs] at h4
   rcases zC 4 x.args.length with h5 | h5
   ·refine Ab DR AC (of_decide_eq_true rfl) ?_
    simp (disch:=omega) only [CU,go_sem,Aa,h2,h3,h4,Cx,A6]
    simp; omega
   ·refine Ab DR AC (of_decide_eq_true rfl) ?_
    simp (disch:=omega) only [CU,go_sem,Aa,h2,h3,h4,Cx,A6,BG]
    simp [h5]
theorem HQ (x:Tm) (hn:x.nodes≤1099511627776):E 113 [x.sv] []=some (.bool x.names,[]) :=
 Tr x hn fun y hy=>HQ y (by have:=Tm.Cv hy; have:=Tm.A3 x; omega)
termination_by SizeOf.sizeOf x
decreasing_by exact Tm.Ar hy
def Dr:SC:=(.seq (.reg [⟨some 1,none,.boxv 69 2 (.t 0)⟩,⟨some 2,none,.mv (.c (.bool false))⟩]) (.seq (.seq (.reg [⟨some 4,none,.faddr 0 (.t 1)⟩,⟨some 5,none,.load false 1 (.t 4)⟩,⟨some 6,none,.call 62 [(.t 5)]⟩]) (.cond (.t 6) (.seq (.reg [⟨some 7,none,.faddr 1 (.t 1)⟩,⟨some 8,none,.load false 1 (.t 7)⟩,⟨some 9,none,.len false (.t 8)⟩,⟨some 10,none,.bin .eql false (.t 9) (.c (.int .i64 0))⟩,⟨some 2,none,.mv (.t 10)⟩]) .ret) .skip)) (.seq (.seq (.reg [⟨some 11,none,.faddr 0 (.t 1)⟩,⟨some 12,none,.load false 1 (.t 11)⟩,⟨some 13,none,.call 83 [(.t 12)]⟩,⟨some 14,none,.un .not (.t 13)⟩,⟨some 15,none,.mv (.t 14)⟩,⟨(some 16),(some (15,false)),(.faddr 1 (.t 1))⟩,⟨(some 17),(some (15,false)),(.load false 1 (.t 16))⟩,⟨(some 18),(some (15,false)),(.len false (.t 17))⟩,⟨(some 19),(some (15,false)),(.bin .gtr false (.t 18) (.c (.int .i64 4)))⟩,⟨some 20,none,.pick (.t 15) (.c (.bool true)) (.t 19)⟩]) (.cond (.t 20) (.seq (.reg [⟨some 2,none,.mv (.c (.bool false))⟩]) .ret) .skip)) (.seq (.seq (.reg [⟨some 3,none,.mv (.c (.int .i64 0))⟩]) (.block 0 (.loop [0,1,0,1,0,0,0,0,0,0,0,0,0,0,0,0,0,0,0,0,0,0,0,0,0,0,0,0,0,0,0,0,0,0,0] (.seq (.seq (.reg [⟨some 21,none,.mv (.t 3)⟩,⟨some 22,none,.faddr 1 (.t 1)⟩,⟨some 23,none,.load false 1 (.t 22)⟩,⟨some 24,none,.len false (.t 23)⟩,⟨some 25,none,.bin .lss false (.t 21) (.t 24)⟩]) (.cond (.t 25) .skip (.exit 0))) (.seq (.block 1 (.seq (.reg [⟨some 28,none,.faddr 1 (.t 1)⟩,⟨some 29,none,.load false 1 (.t 28)⟩,⟨some 30,none,.mv (.t 3)⟩,⟨some 31,none,.iaddr 2 (.t 29) (.t 30)⟩,⟨some 32,none,.load true 2 (.t 31)⟩,⟨some 33,none,.call 82 [(.t 32)]⟩,⟨some 34,none,.un .not (.t 33)⟩]) (.cond (.t 34) (.seq (.reg [⟨some 2,none,.mv (.c (.bool false))⟩]) .ret) .skip))) (.reg [⟨some 26,none,.mv (.t 3)⟩,⟨some 27,none,.bin .add false (.t 26) (.c (.int .i64 1))⟩,⟨some 3,none,.mv (.t 27)⟩])))))) (.seq (.reg [⟨some 2,none,.mv (.c (.bool true))⟩]) .ret)))))
theorem Er:Ad Tryz.prog 82=some ⟨35,Dr,[(.tmp 2)]⟩:=by kernel_rfl
theorem AD:modes 82=⟨[],.asis,none,false⟩:=by unfold modes; rfl
theorem Vd (x:Tm) (hn:x.nodes≤1099511627776) (ih:∀ y∈x.args,E 82 [y.sv] []=some (.bool y.names,[])):E 82 [x.sv] []=some (.bool x.names,[]):=by
 have hl:=Tm.length_le x.args
 have hx:=Tm.A3 x
 have h3:=Gp x.name
 have h4:=OJ x.name
 rw [Tm.FL]
 cases hv:AI x.name with
 | true =>
  rw [hv] at h3
  refine Ab Er AD (of_decide_eq_true rfl) ?_
  simp (disch:=omega) only [Dr,go_sem,Aa,h3,Ao]
  rw [Kw]; cases x.args <;> simp <;> omega
 | false =>
  rw [hv] at h3
  cases hs:CN x.name with
  | false =>
   rw [hs] at h4
   refine Ab Er AD (of_decide_eq_true rfl) ?_
   simp (disch:=omega) only [Dr,go_sem,Aa,h3,h4,Ao,Bj]
  | true =>
   rw [hs] at h4
   rcases zC 4 x.args.length with h5 | h5
   ·refine Ab Er AD (of_decide_eq_true rfl) ?_
    simp (disch:=omega) only [Dr,go_sem,Aa,h3,h4,Ao,Bj]
    simp; omega
   ·refine Ab Er AD (of_decide_eq_true rfl) ?_
    simp (disch:=omega) only [Dr,go_sem,Aa,h3,h4,Ao,Bj]
    refine go_loop (α:=Int) (fun a=>⟨slots 35 0 [(1,.ptr 0 0),(3,.int .i64 a)],[.box 69 [.str x.name,.arr (x.args.map Tm.d)]]⟩) (fun a=>∃ k:Nat,a=k∧k≤(x.args).length∧Tm.Fs (x.args.drop k)=Tm.Fs x.args) (fun a=>(x.args).length-(a).toNat) 0 ⟨0,rfl,zL _,by rw [zI]⟩ (by simp (disch:=omega) only [go_sem,Aa]) ?_
    rintro i ⟨k,hi,hk,hR⟩
    have hni:i.toNat=k:=by omega
    have hni1:(i+1).toNat=k+1:=by omega
    rcases zC k (x.args).length with hlt | hge
    ·have hg:=get_at Tm.d hlt
     rw [Tm.d_eq] at hg
     have hc:=ih x.args[k] (zJ hlt)
     rw [zB hlt,Tm.Fs] at hR
     cases hp:x.args[k].names with
     | true =>
      rw [hp] at hc hR
      simp (disch:=omega) only [go_sem,Aa,hni,hg,hc,AD]
      exact ⟨i+1,⟨k+1,by omega,hlt,by simpa using hR⟩,by omega,by first | trivial | rfl⟩
     | false =>
      rw [hp] at hc hR
      simp (disch:=omega) only [go_sem,Aa,hni,hg,hc,AD]
      simp at hR ⊢; exact fun _=>hR
    ·rw [zD hge,Tm.Fs] at hR
     simp (disch:=omega) only [go_sem,Aa,hni]
     simp [h5,← hR]
theorem J7 (x:Tm) (hn:x.nodes≤1099511627776):E 82 [x.sv] []=some (.bool x.names,[]) :=
 Vd x hn fun y hy=>J7 y (by have:=Tm.Cv hy; have:=Tm.A3 x; omega)
termination_by SizeOf.sizeOf x
decreasing_by exact Tm.Ar hy
def FN:SC:=(.seq (.reg [⟨some 1,none,.boxv 69 2 (.t 0)⟩,⟨some 2,none,.mv (.c (.bool false))⟩]) (.seq (.reg [⟨some 3,none,.load true 2 (.t 1)⟩,⟨some 4,none,.call 134 [(.t 3)]⟩,⟨some 5,none,.bin .leq false (.t 4) (.c (.int .i64 30))⟩,⟨some 6,none,.mv (.t 5)⟩,⟨(some 7),(some (6,true)),(.load true 2 (.t 1))⟩,⟨(some 8),(some (6,true)),(.call 135 [(.t 7)])⟩,⟨(some 9),(some (6,true)),(.bin .leq false (.t 8) (.c (.int .i64 8)))⟩,⟨some 10,none,.pick (.t 6) (.t 9) (.c (.bool false))⟩,⟨some 2,none,.mv (.t 10)⟩]) .ret))
theorem IP:Ad Tryz.prog 112=some ⟨11,FN,[(.tmp 2)]⟩:=by kernel_rfl
theorem Bv:modes 112=⟨[],.asis,none,false⟩:=by unfold modes; rfl
def GF:SC:=(.seq (.reg [⟨some 1,none,.boxv 69 2 (.t 0)⟩,⟨some 2,none,.mv (.c (.bool false))⟩]) (.seq (.reg [⟨some 3,none,.load true 2 (.t 1)⟩,⟨some 4,none,.call 108 [(.t 3),(.c (.int .i64 30))]⟩,⟨some 5,none,.bin .leq false (.t 4) (.c (.int .i64 30))⟩,⟨some 6,none,.mv (.t 5)⟩,⟨(some 7),(some (6,true)),(.load true 2 (.t 1))⟩,⟨(some 8),(some (6,true)),(.call 109 [(.t 7)])⟩,⟨(some 9),(some (6,true)),(.bin .leq false (.t 8) (.c (.int .i64 8)))⟩,⟨some 10,none,.pick (.t 6) (.t 9) (.c (.bool false))⟩,⟨some 2,none,.mv (.t 10)⟩]) .ret))
theorem Ka:Ad Tryz.prog 81=some ⟨11,GF,[(.tmp 2)]⟩:=by kernel_rfl
theorem B9:modes 81=⟨[],.asis,none,false⟩:=by unfold modes; rfl
def Ea:SC:=(.seq (.reg [⟨some 1,none,.boxv 69 2 (.t 0)⟩,⟨some 2,none,.mv (.c (.bool false))⟩]) (.seq (.reg [⟨some 3,none,.load true 2 (.t 1)⟩,⟨some 4,none,.call 112 [(.t 3)]⟩,⟨some 5,none,.mv (.t 4)⟩,⟨(some 6),(some (5,true)),(.load true 2 (.t 1))⟩,⟨(some 7),(some (5,true)),(.call 113 [(.t 6)])⟩,⟨some 8,none,.pick (.t 5) (.t 7) (.c (.bool false))⟩,⟨some 2,none,.mv (.t 8)⟩]) .ret))
theorem FO:Ad Tryz.prog 114=some ⟨9,Ea,[(.tmp 2)]⟩:=by kernel_rfl
theorem Bg:modes 114=⟨[],.asis,none,false⟩:=by unfold modes; rfl
def GG:SC:=(.seq (.reg [⟨some 1,none,.boxv 69 2 (.t 0)⟩,⟨some 2,none,.mv (.c (.bool false))⟩]) (.seq (.reg [⟨some 3,none,.load true 2 (.t 1)⟩,⟨some 4,none,.call 81 [(.t 3)]⟩,⟨some 5,none,.mv (.t 4)⟩,⟨(some 6),(some (5,true)),(.load true 2 (.t 1))⟩,⟨(some 7),(some (5,true)),(.call 82 [(.t 6)])⟩,⟨some 8,none,.pick (.t 5) (.t 7) (.c (.bool false))⟩,⟨some 2,none,.mv (.t 8)⟩]) .ret))
theorem Kb:Ad Tryz.prog 84=some ⟨9,GG,[(.tmp 2)]⟩:=by kernel_rfl
theorem Cj:modes 84=⟨[],.asis,none,false⟩:=by unfold modes; rfl
def Gu:SC:=(.seq (.reg [⟨some 1,none,.boxv 69 2 (.t 0)⟩,⟨some 2,none,.mv (.c (.bool false))⟩]) (.seq (.reg [⟨some 3,none,.faddr 0 (.t 1)⟩,⟨some 4,none,.load false 1 (.t 3)⟩,⟨(some 5),none,(.bin .eql false (.t 4) (.c (.str ⟨#[61]⟩)))⟩,⟨some 2,none,.mv (.t 5)⟩]) .ret))
theorem Lw:Ad Tryz.prog 68=some ⟨6,Gu,[(.tmp 2)]⟩:=by kernel_rfl
theorem Ak:modes 68=⟨[],.asis,none,false⟩:=by unfold modes; rfl
def By:SC:=(.seq (.reg [⟨some 1,none,.boxv 69 2 (.t 0)⟩,⟨some 2,none,.mv (.c (.bool false))⟩]) (.seq (.seq (.reg [⟨some 3,none,.load true 2 (.t 1)⟩,⟨some 4,none,.call 68 [(.t 3)]⟩]) (.cond (.t 4) (.seq (.reg [⟨some 5,none,.faddr 1 (.t 1)⟩,⟨some 6,none,.load false 1 (.t 5)⟩,⟨some 7,none,.len false (.t 6)⟩,⟨some 8,none,.bin .eql false (.t 7) (.c (.int .i64 2))⟩,⟨some 9,none,.mv (.t 8)⟩,⟨(some 10),(some (9,true)),(.load true 2 (.t 1))⟩,⟨(some 11),(some (9,true)),(.call 112 [(.t 10)])⟩,⟨some 12,none,.pick (.t 9) (.t 11) (.c (.bool false))⟩,⟨some 13,none,.mv (.t 12)⟩,⟨(some 14),(some (13,true)),(.faddr 1 (.t 1))⟩,⟨(some 15),(some (13,true)),(.load false 1 (.t 14))⟩,⟨(some 16),(some (13,true)),(.iaddr 2 (.t 15) (.c (.int .i64 0)))⟩,⟨(some 17),(some (13,true)),(.load true 2 (.t 16))⟩,⟨(some 18),(some (13,true)),(.call 113 [(.t 17)])⟩,⟨some 19,none,.pick (.t 13) (.t 18) (.c (.bool false))⟩,⟨some 20,none,.mv (.t 19)⟩,⟨(some 21),(some (20,true)),(.faddr 1 (.t 1))⟩,⟨(some 22),(some (20,true)),(.load false 1 (.t 21))⟩,⟨(some 23),(some (20,true)),(.iaddr 2 (.t 22) (.c (.int .i64 1)))⟩,⟨(some 24),(some (20,true)),(.load true 2 (.t 23))⟩,⟨(some 25),(some (20,true)),(.call 113 [(.t 24)])⟩,⟨some 26,none,.pick (.t 20) (.t 25) (.c (.bool false))⟩,⟨some 2,none,.mv (.t 26)⟩]) .ret) .skip)) (.seq (.reg [⟨some 27,none,.faddr 0 (.t 1)⟩,⟨some 28,none,.load false 1 (.t 27)⟩,⟨some 29,none,.call 73 [(.t 28)]⟩,⟨some 30,none,.mv (.t 29)⟩,⟨(some 31),(some (30,true)),(.load true 2 (.t 1))⟩,⟨(some 32),(some (30,true)),(.call 114 [(.t 31)])⟩,⟨some 33,none,.pick (.t 30) (.t 32) (.c (.bool false))⟩,⟨some 2,none,.mv (.t 33)⟩]) .ret)))
theorem BL:Ad Tryz.prog 89=some ⟨34,By,[(.tmp 2)]⟩:=by kernel_rfl
theorem Bz:modes 89=⟨[],.asis,none,false⟩:=by unfold modes; rfl
def C2:SC:=(.seq (.reg [⟨some 1,none,.boxv 69 2 (.t 0)⟩,⟨some 2,none,.mv (.c (.bool false))⟩]) (.seq (.seq (.reg [⟨some 3,none,.faddr 0 (.t 1)⟩,⟨some 4,none,.load false 1 (.t 3)⟩,⟨(some 5),none,(.bin .eql false (.t 4) (.c (.str ⟨#[61]⟩)))⟩]) (.cond (.t 5) (.seq (.reg [⟨some 6,none,.faddr 1 (.t 1)⟩,⟨some 7,none,.load false 1 (.t 6)⟩,⟨some 8,none,.len false (.t 7)⟩,⟨some 9,none,.bin .eql false (.t 8) (.c (.int .i64 2))⟩,⟨some 10,none,.mv (.t 9)⟩,⟨(some 11),(some (10,true)),(.load true 2 (.t 1))⟩,⟨(some 12),(some (10,true)),(.call 81 [(.t 11)])⟩,⟨some 13,none,.pick (.t 10) (.t 12) (.c (.bool false))⟩,⟨some 14,none,.mv (.t 13)⟩,⟨(some 15),(some (14,true)),(.faddr 1 (.t 1))⟩,⟨(some 16),(some (14,true)),(.load false 1 (.t 15))⟩,⟨(some 17),(some (14,true)),(.iaddr 2 (.t 16) (.c (.int .i64 0)))⟩,⟨(some 18),(some (14,true)),(.load true 2 (.t 17))⟩,⟨(some 19),(some (14,true)),(.call 82 [(.t 18)])⟩,⟨some 20,none,.pick (.t 14) (.t 19) (.c (.bool false))⟩,⟨some 21,none,.mv (.t 20)⟩,⟨(some 22),(some (21,true)),(.faddr 1 (.t 1))⟩,⟨(some 23),(some (21,true)),(.load false 1 (.t 22))⟩,⟨(some 24),(some (21,true)),(.iaddr 2 (.t 23) (.c (.int .i64 1)))⟩,⟨(some 25),(some (21,true)),(.load true 2 (.t 24))⟩,⟨(some 26),(some (21,true)),(.call 82 [(.t 25)])⟩,⟨some 27,none,.pick (.t 21) (.t 26) (.c (.bool false))⟩,⟨some 2,none,.mv (.t 27)⟩]) .ret) .skip)) (.seq (.reg [⟨some 28,none,.faddr 0 (.t 1)⟩,⟨some 29,none,.load false 1 (.t 28)⟩,⟨some 30,none,.call 83 [(.t 29)]⟩,⟨some 31,none,.mv (.t 30)⟩,⟨(some 32),(some (31,true)),(.load true 2 (.t 1))⟩,⟨(some 33),(some (31,true)),(.call 84 [(.t 32)])⟩,⟨some 34,none,.pick (.t 31) (.t 33) (.c (.bool false))⟩,⟨some 2,none,.mv (.t 34)⟩]) .ret)))
theorem CZ:Ad Tryz.prog 60=some ⟨35,C2,[(.tmp 2)]⟩:=by kernel_rfl
theorem BA:modes 60=⟨[],.asis,none,false⟩:=by unfold modes; rfl
theorem QF (x:Tm) (hn:x.nodes≤1099511627776):E 112 [x.sv] []=some (.bool x.small,[]):=by
 have h1:=YW x hn
 have h2:=Wg x hn
 have h3:=Tm.Lr x
 have h4:=Tm.J6 x 30
 unfold Tm.small
 rcases zC 30 x.nodes with h5 | h5
 ·rw [decide_eq_false (by omega),z6]
  refine Ab IP Bv (of_decide_eq_true rfl) ?_
  simp (disch:=omega) only [FN,go_sem,Aa,h1,h2,Fb,Fz]
 ·rw [decide_eq_true h5,yN]
  refine Ab IP Bv (of_decide_eq_true rfl) ?_
  simp (disch:=omega) only [FN,go_sem,Aa,h1,h2,Fb,Fz]
  rcases zC 8 x.deep with h6 | h6
  ·rw [decide_eq_false (by omega),Aw (by omega)]
  ·rw [decide_eq_true h6,Ay (by omega)]
theorem Ts (x:Tm) (hn:x.nodes≤1099511627776):E 81 [x.sv] []=some (.bool x.small,[]):=by
 have h1:=YX x 30 (by omega) (by omega) hn
 have h2:=QE x hn
 have h3:=Tm.Lr x
 have h4:=Tm.J6 x 30
 unfold Tm.small
 rcases zC 30 x.nodes with h5 | h5
 ·rw [decide_eq_false (by omega),z6]
  refine Ab Ka B9 (of_decide_eq_true rfl) ?_
  simp (disch:=omega) only [GF,go_sem,Aa,h1,h2,DI,Ep]
 ·rw [decide_eq_true h5,yN]
  refine Ab Ka B9 (of_decide_eq_true rfl) ?_
  simp (disch:=omega) only [GF,go_sem,Aa,h1,h2,DI,Ep]
  rcases zC 8 x.deep with h6 | h6
  ·rw [decide_eq_false (by omega),Aw (by omega)]
  ·rw [decide_eq_true h6,Ay (by omega)]
theorem PN (x:Tm) (hn:x.nodes≤1099511627776):E 114 [x.sv] []=some (.bool x.valid,[]):=by
 have h1:=QF x hn
 have h2:=HQ x hn
 unfold Tm.valid
 cases h3:x.small <;> rw [h3] at h1
 ·refine Ab FO Bg (of_decide_eq_true rfl) ?_
  simp (disch:=omega) only [Ea,go_sem,Aa,h1,h2,Bv,AC]
 ·refine Ab FO Bg (of_decide_eq_true rfl) ?_
  simp (disch:=omega) only [Ea,go_sem,Aa,h1,h2,Bv,AC]
theorem Za (x:Tm) (hn:x.nodes≤1099511627776):E 84 [x.sv] []=some (.bool x.valid,[]):=by
 have h1:=Ts x hn
 have h2:=J7 x hn
 unfold Tm.valid
 cases h3:x.small <;> rw [h3] at h1
 ·refine Ab Kb Cj (of_decide_eq_true rfl) ?_
  simp (disch:=omega) only [GG,go_sem,Aa,h1,h2,B9,AD]
 ·refine Ab Kb Cj (of_decide_eq_true rfl) ?_
  simp (disch:=omega) only [GG,go_sem,Aa,h1,h2,B9,AD]
theorem Es (x:Tm):E 68 [x.sv] []=some (.bool x.eqn,[]):=by
 unfold Tm.eqn
 refine Ab Lw Ak (of_decide_eq_true rfl) ?_
 simp (disch:=omega) only [Gu,go_sem,Aa]
theorem PO (x:Tm) (hn:x.nodes≤1099511627776):E 89 [x.sv] []=some (.bool x.atom,[]):=by
 have hl:=Tm.length_le x.args
 have hx:=Tm.A3 x
 have h0:=Es x
 have h1:=QF x hn
 have h2:=K7 x.name
 have h3:=PN x hn
 have hE:dec (x.name=⟨#[61]⟩)=x.eqn:=rfl
 unfold Tm.atom
 cases he:x.eqn <;> rw [he] at h0 hE
 ·rw [if_neg (by simp)]
  cases hs:CN x.name <;> rw [hs] at h2
  ·refine Ab BL Bz (of_decide_eq_true rfl) ?_
   simp (disch:=omega) only [By,go_sem,Aa,h0,h1,h2,h3,hE,Bv,AC,A6,Bg,Ak]
  ·refine Ab BL Bz (of_decide_eq_true rfl) ?_
   simp (disch:=omega) only [By,go_sem,Aa,h0,h1,h2,h3,hE,Bv,AC,A6,Bg,Ak]
 ·rw [if_pos rfl]
  by_cases hc:x.args.length=2
  ·have hlt0:0<x.args.length:=by omega
   have hlt1:1<x.args.length:=by omega
   have hg0:=get_at Tm.d hlt0
   have hg1:=get_at Tm.d hlt1
   rw [Tm.d_eq] at hg0 hg1
   have hb0:=Tm.DH x.args 0 hlt0
   have hb1:=Tm.DH x.args 1 hlt1
   have hn0:=HQ x.args[0] (by omega)
   have hn1:=HQ x.args[1] (by omega)
   rw [QC hc,show (x.args.length == 2)=true by simpa using hc]
   cases hs:x.small <;> rw [hs] at h1
   ·refine Ab BL Bz (of_decide_eq_true rfl) ?_
    simp (disch:=omega) only [By,go_sem,Aa,h0,h1,h2,h3,hE,hg0,hg1,hn0,hn1,hc,Bv,AC,A6,Bg,Ak]
    try simp
   ·cases hq:(x.args[0]'hlt0).names <;> rw [hq] at hn0
    ·refine Ab BL Bz (of_decide_eq_true rfl) ?_
     simp (disch:=omega) only [By,go_sem,Aa,h0,h1,h2,h3,hE,hg0,hg1,hn0,hn1,hc,Bv,AC,A6,Bg,Ak]
     try simp
    ·refine Ab BL Bz (of_decide_eq_true rfl) ?_
     simp (disch:=omega) only [By,go_sem,Aa,h0,h1,h2,h3,hE,hg0,hg1,hn0,hn1,hc,Bv,AC,A6,Bg,Ak]
     try simp
  ·refine Ab BL Bz (of_decide_eq_true rfl) ?_
   simp (disch:=omega) only [By,go_sem,Aa,h0,h1,h2,h3,hE,Bv,AC,A6,Bg,Ak]
   rw [show (x.args.length == 2)=false by simpa using hc]
   try simp
theorem Zb (x:Tm) (hn:x.nodes≤1099511627776):E 60 [x.sv] []=some (.bool x.atom,[]):=by
 have hl:=Tm.length_le x.args
 have hx:=Tm.A3 x
 have h0:=Es x
 have h1:=Ts x hn
 have h2:=OJ x.name
 have h3:=Za x hn
 have hE:dec (x.name=⟨#[61]⟩)=x.eqn:=rfl
 unfold Tm.atom
 cases he:x.eqn <;> rw [he] at h0 hE
 ·rw [if_neg (by simp)]
  cases hs:CN x.name <;> rw [hs] at h2
  ·refine Ab CZ BA (of_decide_eq_true rfl) ?_
   simp (disch:=omega) only [C2,go_sem,Aa,h0,h1,h2,h3,hE,B9,AD,Bj,Cj]
  ·refine Ab CZ BA (of_decide_eq_true rfl) ?_
   simp (disch:=omega) only [C2,go_sem,Aa,h0,h1,h2,h3,hE,B9,AD,Bj,Cj]
 ·rw [if_pos rfl]
  by_cases hc:x.args.length=2
  ·have hlt0:0<x.args.length:=by omega
   have hlt1:1<x.args.length:=by omega
   have hg0:=get_at Tm.d hlt0
   have hg1:=get_at Tm.d hlt1
   rw [Tm.d_eq] at hg0 hg1
   have hb0:=Tm.DH x.args 0 hlt0
   have hb1:=Tm.DH x.args 1 hlt1
   have hn0:=J7 x.args[0] (by omega)
   have hn1:=J7 x.args[1] (by omega)
   rw [QC hc,show (x.args.length == 2)=true by simpa using hc]
   cases hs:x.small <;> rw [hs] at h1
   ·refine Ab CZ BA (of_decide_eq_true rfl) ?_
    simp (disch:=omega) only [C2,go_sem,Aa,h0,h1,h2,h3,hE,hg0,hg1,hn0,hn1,hc,B9,AD,Bj,Cj]
    try simp
   ·cases hq:(x.args[0]'hlt0).names <;> rw [hq] at hn0
    ·refine Ab CZ BA (of_decide_eq_true rfl) ?_
     simp (disch:=omega) only [C2,go_sem,Aa,h0,h1,h2,h3,hE,hg0,hg1,hn0,hn1,hc,B9,AD,Bj,Cj]
     try simp
    ·refine Ab CZ BA (of_decide_eq_true rfl) ?_
     simp (disch:=omega) only [C2,go_sem,Aa,h0,h1,h2,h3,hE,hg0,hg1,hn0,hn1,hc,B9,AD,Bj,Cj]
     try simp
  ·refine Ab CZ BA (of_decide_eq_true rfl) ?_
   simp (disch:=omega) only [C2,go_sem,Aa,h0,h1,h2,h3,hE,B9,AD,Bj,Cj]
   rw [show (x.args.length == 2)=false by simpa using hc]
   try simp
theorem Tm.Ve {x:Tm} (h:x.expr=true):x.small=true:=by
 unfold Tm.expr Tm.atom Tm.valid at h
 cases hs:x.small with
 | true=>rfl
 | false =>
  rw [hs] at h
  split at h <;> simp at h
theorem Tm.KA {x:Tm} (h:x.expr=true):x.nodes≤30:=by
 have:=Tm.Ve h
 unfold Tm.small at this
 rw [zA,decide_eq_true_eq] at this
 exact this.1
theorem Tm.Wh {x:Tm} (h:x.eqn=true):AI x.name=false:=by
 unfold Tm.eqn at h
 rw [Af.1 h]
 kernel_rfl
theorem Tm.KB {x:Tm} (h:x.expr=true):x.names=true∨(x.eqn=true∧Tm.Fs x.args=true):=by
 unfold Tm.expr Tm.valid at h
 cases hn:x.names with
 | true=>exact .inl rfl
 | false =>
  rw [hn,z7,xX] at h
  unfold Tm.atom at h
  split at h
  ·rename_i he
   rw [zA] at h
   exact .inr ⟨he,h.2⟩
  ·unfold Tm.valid at h; rw [hn,z7,z7] at h; cases h
theorem Tm.OM {x:Tm} (h:x.expr=true) {y:Tm} (hy:y∈x.args):y.names=true:=by
 rcases Tm.KB h with h1 | ⟨h1,h2⟩
 ·exact Tm.Eg h1 hy
 ·rw [Tm.Hj,zT] at h2; exact h2 y hy
theorem Tm.ON:∀ xs:List Tm,(∀ x∈xs,x.nodes≤1+x.bulk)→Tm.AE xs≤xs.length+Tm.sumB xs
 | [],_=>by simp [Tm.AE]
 | x :: xs,h=>by
  have h1:=h x (by simp)
  have h2:=Tm.ON xs fun y hy=>h y (by simp [hy])
  rw [Tm.AE,Tm.sumB]; simp only [zE]; omega
theorem Tm.OO (x:Tm):x.nodes≤1+x.bulk:=by
 rw [Tm.A3,Tm.bulk_eq]
 have:=Tm.ON x.args fun y hy=>Tm.OO y
 omega
termination_by SizeOf.sizeOf x
decreasing_by exact Tm.Ar hy
theorem Xq {s:ByteArray} (h:AI s=true):s.size≤6:=by
 unfold AI inB at h
 simp at h
 omega
theorem Xr {s:ByteArray} (h:CN s=true):s.size≤6:=by
 unfold CN inB at h
 simp at h
 omega
noncomputable def F0 (a b:ByteArray):Int:=bif strLt a b then -1 else bif dec (a=b) then 0 else 1
noncomputable def Hm (a b:Int):Int:=bif dec (a<b) then -1 else bif dec (b<a) then 1 else 0
def orZ (x y:Int):Int:=if x=0 then y else x
mutual
noncomputable def Tm.cmp:Tm→Tm→Int
 | .mk n xs,y=>if AI n&&!AI y.name then -1 else if AI y.name&&!AI n then 1 else orZ (orZ (F0 n y.name) (Hm xs.length y.args.length)) (Tm.Iz xs y.args)
noncomputable def Tm.Iz:List Tm→List Tm→Int
 | [],[]=>0
 | [],_ :: _=>-1
 | _ :: _,[]=>1
 | x :: xs,y :: ys=>orZ (Tm.cmp x y) (Tm.Iz xs ys)
end
theorem Tm.Zc (x y:Tm):x.cmp y=if AI x.name&&!AI y.name then -1 else if AI y.name&&!AI x.name then 1 else orZ (orZ (F0 x.name y.name) (Hm x.args.length y.args.length)) (Tm.Iz x.args y.args):=by
 obtain ⟨n,xs⟩:=x
 rw [Tm.cmp]; rfl
def Kc (s:ByteArray):Bool:=decide (0<s.size)&&(OC (Hi s 0) == AI s)
mutual
def Tm.cok:Tm→Bool
 | .mk n xs=>Kc n&&Tm.RF xs
def Tm.RF:List Tm→Bool
 | []=>true
 | x :: xs=>Tm.cok x&&Tm.RF xs
end
theorem Tm.M0 (x:Tm):x.cok=(Kc x.name&&Tm.RF x.args):=by
 obtain ⟨n,xs⟩:=x
 rw [Tm.cok]; rfl
theorem Tm.IQ {xs:List Tm} (h:Tm.RF xs=true) {y:Tm} (hy:y∈xs):y.cok=true:=by
 induction xs with
 | nil=>cases hy
 | cons x xs ih =>
  rw [Tm.RF,zA] at h
  rcases zK.1 hy with rfl | hy
  ·exact h.1
  ·exact ih h.2 hy
def Nq (b:Bool):Int:=if b then 1 else 0
noncomputable def Lt.cmp (x y:Lt):Int:=orZ (x.atom.cmp y.atom) (Hm (Nq x.pos) (Nq y.pos))
structure Ord3 {α:Type} (c:α→α→Int) (a b d:α):Prop where
 anti:c b a=- c a b
 zero:c a b=0 ↔ a=b
 trans:c a b<0→c b d<0→c a d<0
def FP:SC:=(.seq (.reg [⟨some 2,none,.mv (.c (.bool false))⟩]) (.seq (.reg [⟨some 3,none,.mv (.t 0)⟩,⟨some 4,none,.bin .geq false (.t 3) (.c (.int .u8 65))⟩,⟨some 5,none,.mv (.t 4)⟩,⟨(some 6),(some (5,true)),(.mv (.t 0))⟩,⟨(some 7),(some (5,true)),(.bin .leq false (.t 6) (.c (.int .u8 90)))⟩,⟨some 8,none,.pick (.t 5) (.t 7) (.c (.bool false))⟩,⟨some 2,none,.mv (.t 8)⟩]) .ret))
theorem IR:Ad Tryz.prog 94=some ⟨9,FP,[(.tmp 2)]⟩:=by kernel_rfl
theorem FQ:modes 94=⟨[],.asis,none,false⟩:=by unfold modes; rfl
theorem QG {xs ys:List Tm} {k:Nat} (h:k<xs.length) (h':k<ys.length):Tm.Iz (xs.drop k) (ys.drop k)=orZ (xs[k].cmp ys[k]) (Tm.Iz (xs.drop (k+1)) (ys.drop (k+1))):=by
 rw [zB h,zB h',Tm.Iz]
theorem Vf {xs ys:List Tm} {k:Nat} (h:k<xs.length) (h':ys.length≤k):Tm.Iz (xs.drop k) (ys.drop k)=1:=by
 rw [zB h,zD h',Tm.Iz]
theorem Zd {xs ys:List Tm} {k:Nat} (h:xs.length≤k) (h':k<ys.length):Tm.Iz (xs.drop k) (ys.drop k)=-1:=by
 rw [zB h',zD h,Tm.Iz]
theorem QH {xs ys:List Tm} {k:Nat} (h:xs.length≤k) (h':ys.length≤k):Tm.Iz (xs.drop k) (ys.drop k)=0:=by
 rw [zD h',zD h,Tm.Iz]
theorem HR {p:Nat→Int→Bool} {s:ByteArray} (h:Eo p s s.size=true) (hs:0<s.size):p 0 (Hi s 0)=true:=by
 unfold Eo at h
 rw [zT] at h
 exact h 0 (yT.2 hs)
theorem Xs {s:ByteArray} (h:AI s=true):Kc s=true:=by
 have h0:=h
 unfold AI inB at h
 rw [zA,zA,decide_eq_true_eq,decide_eq_true_eq] at h
 have hs:0<s.size:=by omega
 have h1:=HR h.1 hs
 unfold Ic at h1
 unfold Kc
 rw [h0]
 simp at h1
 simp [hs,h1]
theorem QI {s:ByteArray} (hs:0<s.size) (h:OC (Hi s 0)=false):Kc s=true:=by
 have hv:AI s=false:=by
  rw [xH]
  intro hv
  unfold AI at hv
  rw [zA] at hv
  have h1:=HR hv.1 hs
  unfold Ic at h1
  rw [h] at h1
  simp at h1
 unfold Kc
 rw [hv,h]
 simp [hs]
theorem Xt {s:ByteArray} (h:CN s=true):Kc s=true:=by
 unfold CN inB at h
 rw [zA,zA,zA,decide_eq_true_eq,decide_eq_true_eq] at h
 have hs:0<s.size:=by omega
 refine QI hs ?_
 have h1:=HR h.1.1 hs
 unfold Ib at h1
 simp at h1
 have h2:=h1.1
 unfold PJ at h2
 unfold OC
 simp at h2 ⊢
 omega
theorem Xu {s:ByteArray} (h:s.toList=[61]):Kc s=true:=by
 have hs:s.size=1:=by
  have:=congrArg List.length h
  rw [ByteArray.toList_eq] at this
  simpa using this
 refine QI (by omega) ?_
 unfold Hi
 rw [h]
 rfl
mutual
theorem Tm.J8:∀ x:Tm,x.names=true→x.cok=true
 | .mk n xs,h=>by
  rw [Tm.names] at h
  rw [Tm.cok,zA]
  split at h
  ·rename_i hv
   have:xs=[]:=by
    rw [beq_iff_eq] at h
    exact zO h
   subst this
   exact ⟨Xs hv,rfl⟩
  ·rw [zA,zA] at h
   exact ⟨Xt h.1.1,Tm.KC xs h.2⟩
theorem Tm.KC:∀ xs:List Tm,Tm.Fs xs=true→Tm.RF xs=true
 | [],_=>rfl
 | x :: xs,h=>by
  rw [Tm.Fs,zA] at h
  rw [Tm.RF,zA]
  exact ⟨Tm.J8 x h.1,Tm.KC xs h.2⟩
end
theorem Tm.Hn {x:Tm} (h:x.atom=true):x.cok=true:=by
 unfold Tm.atom at h
 rcases he:x.eqn with _ | _
 ·rw [he,if_neg (by simp),zA] at h
  unfold Tm.valid at h
  rw [zA] at h
  exact Tm.J8 x h.2.2
 ·rw [he,if_pos rfl,zA,zA] at h
  unfold Tm.eqn at he
  rw [Af] at he
  rw [Tm.M0,zA]
  exact ⟨Xu (by rw [he,ByteArray.toList_eq]),Tm.KC _ h.2⟩
theorem Xv {s:ByteArray} {k:Nat} (h:k<s.size):I8 s k=Hi s k:=by
 rw [←EI h]
 unfold I8
 rw [show s[k]?=some s[k] from getElem?_pos s k h]; rfl
theorem Xw {s:ByteArray} (h:Kc s=true):0<s.size∧(dec (65≤I8 s 0)&&dec (I8 s 0≤90))=AI s:=by
 unfold Kc at h
 rw [zA,decide_eq_true_eq,beq_iff_eq] at h
 refine ⟨h.1,?_⟩
 rw [←h.2,Xv h.1,Kw,Kw]
 unfold OC
 rfl
theorem HS (a:ByteArray):strLt a a=false:=by
 unfold strLt
 have key:∀ l:List UInt8,Op.bytesLess l l=false:=by
  intro l
  induction l with
  | nil=>rfl
  | cons x l ih=>simp [Op.bytesLess,ih]
 exact key _
def FR:SC:=(.seq (.reg [⟨some 2,none,.mv (.c (.bool false))⟩]) (.seq (.reg [⟨some 3,none,.mv (.t 0)⟩,⟨some 4,none,.mv (.t 0)⟩,⟨some 5,none,.bin .neq false (.t 3) (.t 4)⟩,⟨some 2,none,.mv (.t 5)⟩]) .ret))
theorem KD:Ad Tryz.prog 117=some ⟨6,FR,[(.tmp 2)]⟩:=by kernel_rfl
theorem CO:modes 117=⟨[],.asis,none,false⟩:=by unfold modes; rfl
def Id:SC:=(.seq (.reg [⟨some 2,none,.mv (.c (.bool false))⟩]) (.seq (.reg [⟨some 3,none,.mv (.t 0)⟩,⟨some 4,none,.mv (.t 0)⟩,⟨some 5,none,.bin .neq false (.t 3) (.t 4)⟩,⟨some 2,none,.mv (.t 5)⟩]) .ret))
theorem N1:Ad Tryz.prog 116=some ⟨6,Id,[(.tmp 2)]⟩:=by kernel_rfl
theorem DS:modes 116=⟨[],.asis,none,false⟩:=by unfold modes; rfl
def Cz:SC:=(.seq (.reg [⟨some 4,none,.mv (.c (.int .i64 0))⟩]) (.seq (.reg [⟨some 7,none,.mv (.t 0)⟩,⟨some 8,none,.call 117 [(.t 7)]⟩,⟨some 5,none,.mv (.t 8)⟩]) (.seq (.reg [⟨some 9,none,.mv (.t 1)⟩,⟨some 10,none,.call 117 [(.t 9)]⟩,⟨some 6,none,.mv (.t 10)⟩]) (.seq (.seq (.reg [⟨some 11,none,.mv (.t 5)⟩]) (.cond (.t 11) (.seq (.seq (.reg [⟨some 12,none,.mv (.t 6)⟩]) (.cond (.t 12) (.seq (.reg [⟨some 4,none,.mv (.c (.int .i64 0))⟩]) .ret) .skip)) (.seq (.reg [⟨some 4,none,.mv (.c (.int .i64 (-(0+1))))⟩]) .ret)) .skip)) (.seq (.seq (.reg [⟨some 13,none,.mv (.t 6)⟩]) (.cond (.t 13) (.seq (.reg [⟨some 4,none,.mv (.c (.int .i64 1))⟩]) .ret) .skip)) (.seq (.seq (.reg [⟨some 14,none,.mv (.t 0)⟩,⟨some 15,none,.mv (.t 1)⟩,⟨some 16,none,.bin .lss false (.t 14) (.t 15)⟩]) (.cond (.t 16) (.seq (.reg [⟨some 4,none,.mv (.c (.int .i64 (-(0+1))))⟩]) .ret) .skip)) (.seq (.seq (.reg [⟨some 17,none,.mv (.t 0)⟩,⟨some 18,none,.mv (.t 1)⟩,⟨some 19,none,.bin .gtr false (.t 17) (.t 18)⟩]) (.cond (.t 19) (.seq (.reg [⟨some 4,none,.mv (.c (.int .i64 1))⟩]) .ret) .skip)) (.seq (.reg [⟨some 4,none,.mv (.c (.int .i64 0))⟩]) .ret))))))))
theorem Ds:Ad Tryz.prog 95=some ⟨20,Cz,[(.tmp 4)]⟩:=by kernel_rfl
theorem Bh:modes 95=⟨[],.asis,none,false⟩:=by unfold modes; rfl
def Di:SC:=(.seq (.reg [⟨some 4,none,.mv (.c (.int .i64 0))⟩]) (.seq (.reg [⟨some 7,none,.mv (.t 0)⟩,⟨some 8,none,.call 116 [(.t 7)]⟩,⟨some 5,none,.mv (.t 8)⟩]) (.seq (.reg [⟨some 9,none,.mv (.t 1)⟩,⟨some 10,none,.call 116 [(.t 9)]⟩,⟨some 6,none,.mv (.t 10)⟩]) (.seq (.seq (.reg [⟨some 11,none,.mv (.t 5)⟩]) (.cond (.t 11) (.seq (.seq (.reg [⟨some 12,none,.mv (.t 6)⟩]) (.cond (.t 12) (.seq (.reg [⟨some 4,none,.mv (.c (.int .i64 0))⟩]) .ret) .skip)) (.seq (.reg [⟨some 4,none,.mv (.c (.int .i64 (-(0+1))))⟩]) .ret)) .skip)) (.seq (.seq (.reg [⟨some 13,none,.mv (.t 6)⟩]) (.cond (.t 13) (.seq (.reg [⟨some 4,none,.mv (.c (.int .i64 1))⟩]) .ret) .skip)) (.seq (.seq (.reg [⟨some 14,none,.mv (.t 0)⟩,⟨some 15,none,.mv (.t 1)⟩,⟨some 16,none,.bin .lss false (.t 14) (.t 15)⟩]) (.cond (.t 16) (.seq (.reg [⟨some 4,none,.mv (.c (.int .i64 (-(0+1))))⟩]) .ret) .skip)) (.seq (.seq (.reg [⟨some 17,none,.mv (.t 0)⟩,⟨some 18,none,.mv (.t 1)⟩,⟨some 19,none,.bin .gtr false (.t 17) (.t 18)⟩]) (.cond (.t 19) (.seq (.reg [⟨some 4,none,.mv (.c (.int .i64 1))⟩]) .ret) .skip)) (.seq (.reg [⟨some 4,none,.mv (.c (.int .i64 0))⟩]) .ret))))))))
theorem Et:Ad Tryz.prog 92=some ⟨20,Di,[(.tmp 4)]⟩:=by kernel_rfl
theorem Br:modes 92=⟨[],.asis,none,false⟩:=by unfold modes; rfl
def Lx:SC:=(.seq (.reg [⟨some 2,none,.mv (.c (.int .i64 0))⟩]) (.seq (.reg [⟨some 3,none,.mv (.c (.int .i64 0))⟩]) (.seq (.seq (.reg [⟨some 6,none,.mv (.t 0)⟩,⟨some 7,none,.len false (.t 6)⟩,⟨some 8,none,.mv (.c (.int .i64 0))⟩]) (.block 0 (.loop [0,0,0,1,0,0,1,1,1,0,0,0,0,0,0,0,0,0] (.seq (.reg [⟨some 9,none,.bin .lss false (.t 8) (.t 7)⟩]) (.seq (.cond (.t 9) .skip (.exit 0)) (.seq (.block 1 (.seq (.reg [⟨some 10,none,.iaddr 1 (.t 6) (.t 8)⟩,⟨some 11,none,.load false 1 (.t 10)⟩,⟨some 5,none,.mv (.t 11)⟩]) (.seq (.reg [⟨some 12,none,.mv (.t 5)⟩,⟨some 13,none,.mv (.t 3)⟩,⟨some 14,none,.bin .neq false (.t 12) (.t 13)⟩]) (.cond (.t 14) (.seq (.reg [⟨some 15,none,.mv (.t 5)⟩,⟨some 2,none,.mv (.t 15)⟩]) .ret) .skip)))) (.reg [⟨some 16,none,.bin .add false (.t 8) (.c (.int .i64 1))⟩,⟨some 8,none,.mv (.t 16)⟩]))))))) (.seq (.reg [⟨some 17,none,.mv (.t 3)⟩,⟨some 2,none,.mv (.t 17)⟩]) .ret))))
theorem RG:Ad Tryz.prog 90=some ⟨18,Lx,[(.tmp 2)]⟩:=by kernel_rfl
theorem D1:modes 90=⟨[],.asis,none,false⟩:=by unfold modes; rfl
theorem Tt (a:ByteArray):E 117 [.str a] []=some (.bool false,[]):=by
 refine Ab KD CO (of_decide_eq_true rfl) ?_
 simp (disch:=omega) only [FR,go_sem,Aa]
theorem Tu (a:Int):E 116 [.int .i64 a] []=some (.bool false,[]):=by
 refine Ab N1 DS (of_decide_eq_true rfl) ?_
 simp (disch:=omega) only [Id,go_sem,Aa]
theorem KE (a b:ByteArray):E 95 [.str a,.str b] []=some (.int .i64 (F0 a b),[]):=by
 have h1:=Tt a
 have h2:=Tt b
 unfold F0
 cases h3:strLt a b
 ·cases h4:dec (a=b)
  ·refine Ab Ds Bh (of_decide_eq_true rfl) ?_
   simp (disch:=omega) only [Cz,go_sem,Aa,h1,h2,h3,h4,CO]
  ·refine Ab Ds Bh (of_decide_eq_true rfl) ?_
   simp (disch:=omega) only [Cz,go_sem,Aa,h1,h2,h3,h4,CO]
 ·refine Ab Ds Bh (of_decide_eq_true rfl) ?_
  simp (disch:=omega) only [Cz,go_sem,Aa,h1,h2,h3,CO]
theorem HT (a b:Int):E 92 [.int .i64 a,.int .i64 b] []=some (.int .i64 (Hm a b),[]):=by
 have h1:=Tu a
 have h2:=Tu b
 unfold Hm
 cases h3:dec (a<b)
 ·cases h4:dec (b<a)
  ·refine Ab Et Br (of_decide_eq_true rfl) ?_
   simp (disch:=omega) only [Di,go_sem,Aa,h1,h2,h3,h4,DS]
  ·refine Ab Et Br (of_decide_eq_true rfl) ?_
   simp (disch:=omega) only [Di,go_sem,Aa,h1,h2,h3,h4,DS]
 ·refine Ab Et Br (of_decide_eq_true rfl) ?_
  simp (disch:=omega) only [Di,go_sem,Aa,h1,h2,h3,DS]
def orL:List Int→Int
 | []=>0
 | x :: xs=>if x=0 then orL xs else x
theorem Qdk (xs:List Int) (hl:xs.length≤1099511627776):E 90 [.arr (xs.map fun n=>[D.int n])] []=some (.int .i64 (orL xs),[]):=by
 refine Ab RG D1 (of_decide_eq_true rfl) ?_
 simp (disch:=omega) only [Lx,go_sem,Aa]
 refine go_loop (α:=Int) (fun a=>⟨slots 18 0 [(3,.int .i64 0),(6,.arr (xs.map fun n=>[D.int n])),(7,.int .i64 xs.length),(8,.int .i64 a)],[]⟩) (fun a=>∃ k:Nat,a=k∧k≤(xs).length∧orL (xs.drop k)=orL xs) (fun a=>(xs).length-(a).toNat) 0 ⟨0,rfl,zL _,by rw [zI]⟩ (by simp (disch:=omega) only [go_sem,Aa]) ?_
 rintro i ⟨k,hi,hk,hR⟩
 have hni:i.toNat=k:=by omega
 have hni1:(i+1).toNat=k+1:=by omega
 rcases zC k (xs).length with hlt | hge
 ·have hg:=get_at (fun n=>[D.int n]) hlt
  rw [zB hlt,orL] at hR
  by_cases h0:xs[k]=0
  ·rw [if_pos h0] at hR
   simp (disch:=omega) only [go_sem,Aa,hni,hg,h0]
   exact ⟨i+1,⟨k+1,by omega,hlt,hR⟩,by omega,by first | trivial | rfl⟩
  ·rw [if_neg h0] at hR
   simp (disch:=omega) only [go_sem,Aa,hni,hg,h0]
   exact hR
 ·rw [zD hge,orL] at hR
  simp (disch:=omega) only [go_sem,Aa,hni]
  exact hR
theorem Wi (a b:Int):E 90 [.arr [[.int a],[.int b]]] []=some (.int .i64 (orZ a b),[]):=by
 have h:=Qdk [a,b] (by simp)
 have e:orL [a,b]=orZ a b:=by
  simp only [orL,orZ]
  split
  ·split <;> omega
  ·rfl
 rw [e] at h
 exact h
def Ly:SC:=(.seq (.reg [⟨some 1,none,.boxv 69 2 (.t 0)⟩,⟨some 2,none,.mv (.c (.bool false))⟩]) (.seq (.reg [⟨some 3,none,.faddr 0 (.t 1)⟩,⟨some 4,none,.load false 1 (.t 3)⟩,⟨some 5,none,.idx (.t 4) (.c (.int .i64 0))⟩,⟨some 6,none,.call 94 [(.t 5)]⟩,⟨some 2,none,.mv (.t 6)⟩]) .ret))
theorem RH:Ad Tryz.prog 69=some ⟨7,Ly,[(.tmp 2)]⟩:=by kernel_rfl
theorem AK:modes 69=⟨[],.asis,none,false⟩:=by unfold modes; rfl
theorem Xx (n:Int):E 94 [.int .u8 n] []=some (.bool (dec (65≤n)&&dec (n≤90)),[]):=by
 cases h1:dec (65≤n)
 ·refine Ab IR FQ (of_decide_eq_true rfl) ?_
  simp (disch:=omega) only [FP,go_sem,Aa,h1]
 ·refine Ab IR FQ (of_decide_eq_true rfl) ?_
  simp (disch:=omega) only [FP,go_sem,Aa,h1]
theorem J9 (x:Tm) (h:x.cok=true):E 69 [x.sv] []=some (.bool (AI x.name),[]):=by
 rw [Tm.M0,zA] at h
 obtain ⟨h1,h2⟩:=Xw h.1
 have h3:=Xx (I8 x.name 0)
 rw [h2] at h3
 refine Ab RH AK (of_decide_eq_true rfl) ?_
 simp (disch:=omega) only [Ly,go_sem,Aa,h3,FQ]
def FS (p:Nat→Bool):Nat→Bool
 | 0=>true
 | k+1=>FS p k&&p k
theorem Vg {p:Nat→Bool} {k n:Nat} (h:FS p k=false) (hn:k≤n):FS p n=false:=by
 induction n with
 | zero =>
      obtain rfl:k=0:=by omega
      exact h
 | succ n ih =>
  rcases zC n k with h1 | h1
  ·obtain rfl:k=n+1:=by omega
   exact h
  ·rw [FS,ih h1]; rfl
theorem OP {p:Nat→Bool} {k j:Nat} (h:FS p k=true) (hj:j<k):p j=true:=by
 induction k with
 | zero=>omega
 | succ k ih =>
  rw [FS,zA] at h
  rcases zC j k with h1 | h1
  ·exact ih h.1 h1
  ·obtain rfl:j=k:=by omega
   exact h.2
theorem Tv {p:Nat→Bool} {k:Nat} (h:∀ j,j<k→p j=true):FS p k=true:=by
 induction k with
 | zero=>rfl
 | succ k ih=>rw [FS,ih fun j hj=>h j (by omega),h k (by omega)]; rfl
theorem Ze {p:Nat→Bool} {k n:Nat} (h:p k=false) (hk:k<n):FS p n=false:=Vg (k:=k+1) (by rw [FS,h,z7]) (by omega)
noncomputable def inI (x lo hi:Int):Bool:=dec (lo≤x)&&dec (x≤hi)
theorem Eu {x lo hi:Int}:inI x lo hi=true ↔ lo≤x∧x≤hi:=by unfold inI; rw [zA,Af,Af]
def pw (b:Int):Nat→Int
 | 0=>1
 | k+1=>pw b k*b
theorem Lz {b:Int} (h1:1≤b) (h3:b≤3):∀ k:Nat,1≤pw b k∧pw b k≤(3:Int) ^ k
 | 0=>by simp [pw]
 | k+1=>by
  obtain ⟨i1,i2⟩:=Lz h1 h3 k
  rw [pw,Int.pow_succ]
  constructor
  ·have:=xT i1 h1 (by omega) (by omega)
   simpa using this
  ·exact xT i2 h3 (by omega) (by omega)
theorem M1 {k n:Nat} (h:k≤n):(3:Int) ^ k≤3 ^ n:=by
 have:=Nat.pow_le_pow_right (n:=3) (by omega) h
 exact_mod_cast this
theorem DJ {b:Int} (h1:1≤b) (h3:b≤3) {k:Nat} (hk:k≤12):1≤pw b k∧pw b k≤531441:=by
 obtain ⟨i1,i2⟩:=Lz h1 h3 k
 have:=M1 hk
 have e:(3:Int) ^ 12=531441:=by decide
 omega
theorem Vh {b:Int} (h1:1≤b) (h3:b≤3) {k:Nat} (hk:k≤30):1≤pw b k∧pw b k≤205891132094649:=by
 obtain ⟨i1,i2⟩:=Lz h1 h3 k
 have:=M1 hk
 have e:(3:Int) ^ 30=205891132094649:=by decide
 omega
noncomputable def Bi (a b:Tl):Bool:=strLt a.name b.name || (dec (a.name=b.name)&&dec (a.arity<b.arity))
noncomputable def Tw (ts:List Tl) (k:Nat):Bool:=match ts[k]? with
 | none=>true
 | some t=>CN t.name&&(inI t.arity 0 3&&(match k with
  | 0=>true
  | j+1=>match ts[j]? with
   | none=>true
   | some u=>Bi u t))
theorem EJ {ts:List Tl} (h:0<ts.length):Tw ts 0=(CN ts[0].name&&inI ts[0].arity 0 3):=by
 unfold Tw
 rw [zP h]
 simp
theorem D2 {ts:List Tl} {j:Nat} (h:j+1<ts.length):Tw ts (j+1)=(CN ts[j+1].name&&(inI ts[j+1].arity 0 3&&Bi ts[j] ts[j+1])):=by
 unfold Tw
 rw [zP h]
 simp only [zP (show j<ts.length by omega)]
theorem Vi {ts:List Tl} {k:Nat} (h:k<ts.length) (ht:Tw ts k=true):CN ts[k].name=true∧inI ts[k].arity 0 3=true:=by
 cases k with
 | zero=>rw [EJ h,zA] at ht; exact ht
 | succ j=>rw [D2 h,zA,zA] at ht; exact ⟨ht.1,ht.2.1⟩
noncomputable def Dj (ts:List Tl):Bool:=FS (Tw ts) ts.length&&decide (ts.length≤12)
def kinds (sz:Int) (t:Tl):Int:=if t.pred then 2 else sz
noncomputable def tlB (sz:Int) (t:Tl):Bool:=dec ((t.vals.length:Int)=pw sz t.arity.toNat)&&t.vals.all fun v=>inI v 0 (kinds sz t-1)
noncomputable def Ip.ok (m:Ip):Bool:=inI m.size 1 3&&(Dj m.tables&&m.tables.all (tlB m.size))
theorem Ip.DK {m:Ip} (h:m.ok=true):(1≤m.size∧m.size≤3)∧Dj m.tables=true∧m.tables.all (tlB m.size)=true:=by
 unfold Ip.ok at h
 rw [zA,zA,Eu] at h
 exact h
theorem Dt {ts:List Tl} (h:Dj ts=true) {t:Tl} (ht:t∈ts):0≤t.arity∧t.arity≤3:=by
 unfold Dj at h
 rw [zA] at h
 obtain ⟨k,hk,rfl⟩:=zW ht
 exact Eu.1 (Vi hk (OP h.1 hk)).2
def Ip.tame (m:Ip):Prop:=m.tables.length≤1099511627776∧∀ t∈m.tables,t.vals.length≤1099511627776
def B8 (r:Int):Nat→Int→List Int × Int
 | 0,n=>([],n)
 | k+1,n=>(((B8 r k n).2 % r) :: (B8 r k n).1,(B8 r k n).2 / r)
def BE (sz:Int):List Tl→Int→List Tl × Int
 | [],n=>([],n)
 | t :: ts,n=>(⟨t.name,t.arity,t.pred,(B8 (kinds sz t) (pw sz t.arity.toNat).toNat (BE sz ts n).2).1⟩ :: (BE sz ts n).1,(B8 (kinds sz t) (pw sz t.arity.toNat).toNat (BE sz ts n).2).2)
def RI (c:Bool):Int:=if c then 1 else 0
theorem Zf {m r:Int} (hr:1≤r) (hm:0≤m) (h:m % r+1<r):(m+1) % r=m % r+1∧(m+1) / r=m / r:=by
 have e:=Int.emod_add_mul_ediv m r
 have h0:=xR m (show r≠0 by omega)
 have e2:m+1=(m % r+1)+r*(m / r):=by omega
 refine ⟨?_,?_⟩
 ·rw [e2,y5]
  first | rw [xI (by omega) h] | (rw [xI (by omega) h,← e2]; omega)
 ·rw [e2,Int.add_mul_ediv_left _ _ (show r≠0 by omega),Int.ediv_eq_zero_of_lt (by omega) h]
  omega
theorem Zg {m r:Int} (hr:1≤r) (hm:0≤m) (h:¬ m % r+1<r):(m+1) % r=0∧(m+1) / r=m / r+1:=by
 have e:=Int.emod_add_mul_ediv m r
 have h0:=y6 m (show 0<r by omega)
 have hx:r*(m / r+1)=r*(m / r)+r:=by rw [Int.mul_add,Int.mul_one]
 have e2:m+1=0+r*(m / r+1):=by omega
 refine ⟨?_,?_⟩
 ·rw [e2,y5,Int.zero_emod]
 ·rw [e2,Int.add_mul_ediv_left _ _ (show r≠0 by omega),Int.zero_ediv]
  omega
theorem D3 {r:Int} (hr:1≤r):∀ (k:Nat) {n:Int},0≤n→0≤(B8 r k n).2
 | 0,n,h=>h
 | k+1,n,h=>by rw [B8]; exact Int.ediv_nonneg (D3 hr k h) (by omega)
theorem JA (r:Int):∀ (k:Nat) (n:Int),(B8 r k n).1.length=k
 | 0,n=>rfl
 | k+1,n=>by rw [B8,zE,JA r k n]
theorem Tx {r:Int} (hr:1≤r):∀ (k:Nat) (n:Int),∀ v∈(B8 r k n).1,0≤v∧v≤r-1
 | 0,n,v,h=>by cases h
 | k+1,n,v,h=>by
  rw [B8,zK] at h
  rcases h with rfl | h
  ·have h1:=xR (B8 r k n).2 (show r≠0 by omega)
   have h2:=y6 (B8 r k n).2 (show 0<r by omega)
   omega
  ·exact Tx hr k n v h
theorem QJ {r:Int} (hr:1≤r):∀ (k:Nat) {n:Int},0≤n→∃ c,DZ r (B8 r k n).1=((B8 r k (n+1)).1,c)∧(B8 r k (n+1)).2=(B8 r k n).2+RI c
 | 0,n,_=>⟨true,rfl,rfl⟩
 | k+1,n,hn=>by
  obtain ⟨c,h1,h2⟩:=QJ hr k hn
  have hm:=D3 hr k hn
  rw [B8,B8,DZ,h1]
  dsimp only
  cases c with
  | false =>
   rw [show RI false=0 from rfl,Int.add_zero] at h2
   exact ⟨false,by rw [cond_false,h2],by rw [h2]; simp [RI]⟩
  | true =>
   rw [show RI true=1 from rfl] at h2
   rw [cond_true,h2]
   by_cases hd:(B8 r k n).2 % r+1<r
   ·obtain ⟨g1,g2⟩:=Zf hr hm hd
    exact ⟨false,by rw [Ay hd,cond_true,g1],by rw [g2]; simp [RI]⟩
   ·obtain ⟨g1,g2⟩:=Zg hr hm hd
    exact ⟨true,by rw [Aw hd,cond_false,g1],by rw [g2]; rfl⟩
theorem D4 {sz:Int} (h:1≤sz) (t:Tl):1≤kinds sz t:=by unfold kinds; split <;> omega
theorem Gv {sz:Int} (h:1≤sz):∀ (ts:List Tl) {n:Int},0≤n→0≤(BE sz ts n).2
 | [],n,hn=>hn
 | t :: ts,n,hn=>by rw [BE]; exact D3 (D4 h t) _ (Gv h ts hn)
theorem Wj {sz:Int} (h:1≤sz):∀ (ts:List Tl) {n:Int},0≤n→∃ c,C1 sz (BE sz ts n).1=((BE sz ts (n+1)).1,c)∧(BE sz ts (n+1)).2=(BE sz ts n).2+RI c
 | [],n,_=>⟨true,rfl,rfl⟩
 | t :: ts,n,hn=>by
  obtain ⟨c,h1,h2⟩:=Wj h ts hn
  have hm:=Gv h ts hn
  rw [BE,BE,C1,h1]
  dsimp only
  cases c with
  | false =>
   rw [show RI false=0 from rfl,Int.add_zero] at h2
   exact ⟨false,by rw [cond_false,h2],by rw [h2]; simp [RI]⟩
  | true =>
   rw [show RI true=1 from rfl] at h2
   obtain ⟨c2,g1,g2⟩:=QJ (D4 h t) (pw sz t.arity.toNat).toNat hm
   have hk:(if t.pred=true then (2:Int) else sz)=kinds sz t:=rfl
   rw [cond_true,hk,g1,h2]
   exact ⟨c2,rfl,g2⟩
theorem FT (sz:Int):∀ (ts:List Tl) (n:Int),(BE sz ts n).1.length=ts.length
 | [],n=>rfl
 | t :: ts,n=>by rw [BE,zE,zE,FT sz ts n]
theorem IS (sz:Int):∀ (ts:List Tl) (n:Int) (k:Nat) (hk:k<ts.length) (hk':k<(BE sz ts n).1.length),(BE sz ts n).1[k].name=ts[k].name∧(BE sz ts n).1[k].arity=ts[k].arity∧(BE sz ts n).1[k].pred=ts[k].pred
 | [],n,k,hk,_=>absurd hk (by simp)
 | t :: ts,n,0,_,_=>⟨rfl,rfl,rfl⟩
 | t :: ts,n,k+1,hk,hk'=>by
  have:=IS sz ts n k (by simpa using hk) (by rw [FT]; simpa using hk)
  simpa [BE] using this
theorem Ty {sz:Int} (h:1≤sz) (h3:sz≤3):∀ (ts:List Tl) (n:Int),(∀ t∈ts,0≤t.arity∧t.arity≤3)→(BE sz ts n).1.all (tlB sz)=true
 | [],n,_=>rfl
 | t :: ts,n,ha=>by
  have ih:=Ty h h3 ts n fun u hu=>ha u (by simp [hu])
  rw [BE,xV,ih,zM]
  obtain ⟨a1,a2⟩:=ha t (by simp)
  have hp:=DJ h h3 (k:=t.arity.toNat) (by omega)
  unfold tlB
  rw [zA,Af,zT]
  refine ⟨?_,fun v hv=>?_⟩
  ·show ((B8 (kinds sz t) (pw sz t.arity.toNat).toNat (BE sz ts n).2).1.length:Int)=pw sz t.arity.toNat
   rw [JA]
   omega
  ·have hv':v∈(B8 (kinds sz t) (pw sz t.arity.toNat).toNat (BE sz ts n).2).1:=hv
   exact Eu.2 (Tx (D4 h t) _ _ v hv')
theorem OQ {r:Int} (hr:1≤r):∀ k:Nat,B8 r k 0=(yF k 0,0)
 | 0=>rfl
 | k+1=>by
  rw [B8,OQ hr k]
  simp [y2]
def Tl.zrs (sz:Int) (t:Tl):Tl:=⟨t.name,t.arity,t.pred,yF (pw sz t.arity.toNat).toNat 0⟩
theorem QK {sz:Int} (h:1≤sz):∀ ts:List Tl,BE sz ts 0=(ts.map (Tl.zrs sz),0)
 | []=>rfl
 | t :: ts=>by
  rw [BE,QK h ts]
  dsimp only
  rw [OQ (D4 h t)]
  rfl
noncomputable def KF (r:Int):Nat→Int→Option Int
 | 0,n=>some n
 | k+1,n=>bif dec (5000 < n*r) then none else KF r k (n*r)
noncomputable def Ho (sz:Int):List Tl→Int→Option Int
 | [],n=>some n
 | t :: ts,n=>match KF (kinds sz t) (pw sz t.arity.toNat).toNat n with
  | some m=>Ho sz ts m
  | none=>none
theorem Wk {r:Int} (hr:1≤r):∀ (k:Nat) {n m:Int},1≤n∧n≤5000→KF r k n=some m→1≤m∧m≤5000
 | 0,n,m,h,e=>by rw [KF] at e; obtain rfl:=zG e; exact h
 | k+1,n,m,h,e=>by
  rw [KF] at e
  cases hd:dec (5000<n*r) with
  | true=>rw [hd] at e; cases e
  | false =>
   rw [hd,cond_false] at e
   have h1:=Be.1 hd
   have h2:1*1≤n*r:=xT h.1 hr (by omega) (by omega)
   exact Wk hr k ⟨by omega,by omega⟩ e
theorem RJ {sz:Int} (h:1≤sz):∀ (ts:List Tl) {n m:Int},1≤n∧n≤5000→Ho sz ts n=some m→1≤m∧m≤5000
 | [],n,m,hn,e=>by rw [Ho] at e; obtain rfl:=zG e; exact hn
 | t :: ts,n,m,hn,e=>by
  rw [Ho] at e
  cases hc:KF (kinds sz t) (pw sz t.arity.toNat).toNat n with
  | none=>rw [hc] at e; cases e
  | some q=>rw [hc] at e; exact RJ h ts (Wk (D4 h t) _ hn hc) e
theorem OR:∀ x y:List UInt8,Op.bytesLess x y=true→Op.bytesLess y x=false
 | [],[],h=>by simp [Op.bytesLess] at h
 | [],_ :: _,_=>rfl
 | _ :: _,[],h=>by simp [Op.bytesLess] at h
 | a :: x,b :: y,h=>by
  simp only [Op.bytesLess,yK,decide_eq_true_eq,zA,beq_iff_eq] at h
  simp only [Op.bytesLess,zZ,decide_eq_false_iff_not]
  rcases h with h | ⟨rfl,h⟩
  ·have h2:¬ b<a:=by intro h3; exact absurd (UInt8.lt_trans h h3) (UInt8.lt_irrefl _)
   have h3:(b == a)=false:=by
    rw [beq_eq_false_iff_ne]; rintro rfl; exact UInt8.lt_irrefl _ h
   exact ⟨h2,by rw [h3]; rfl⟩
  ·exact ⟨UInt8.lt_irrefl _,by rw [OR x y h]; simp⟩
theorem OS:∀ x y:List UInt8,Op.bytesLess x y=false→Op.bytesLess y x=false→x=y
 | [],[],_,_=>rfl
 | [],_ :: _,h,_=>by simp [Op.bytesLess] at h
 | _ :: _,[],_,h=>by simp [Op.bytesLess] at h
 | a :: x,b :: y,h,k=>by
  simp only [Op.bytesLess,zZ,decide_eq_false_iff_not] at h k
  have hab:a=b:=by
   have h1:=h.1; have h2:=k.1
   rw [UInt8.lt_iff_toNat_lt] at h1 h2
   exact UInt8.toNat_inj.1 (by omega)
  subst hab
  have h1:Op.bytesLess x y=false:=by simpa using h.2
  have h2:Op.bytesLess y x=false:=by simpa using k.2
  rw [OS x y h1 h2]
theorem Tz {a b:ByteArray} (h:strLt a b=true):strLt b a=false:=OR _ _ h
theorem IT {a b:ByteArray} (h:strLt a b=false) (h':strLt b a=false):a=b:=Mm (OS _ _ h h')
theorem OU:∀ x y z:List UInt8,Op.bytesLess x y=true→Op.bytesLess y z=true→Op.bytesLess x z=true
 | _,_,[],_,h=>by simp [Op.bytesLess] at h
 | [],[],_ :: _,h,_=>by simp [Op.bytesLess] at h
 | [],_ :: _,_ :: _,_,_=>rfl
 | _ :: _,[],_ :: _,h,_=>by simp [Op.bytesLess] at h
 | a :: x,b :: y,c :: z,h,k=>by
  simp only [Op.bytesLess,yK,decide_eq_true_eq,zA,beq_iff_eq] at h k ⊢
  rcases h with h | ⟨rfl,h⟩
  ·rcases k with k | ⟨rfl,k⟩
   ·exact .inl (UInt8.lt_trans h k)
   ·exact .inl h
  ·rcases k with k | ⟨rfl,k⟩
   ·exact .inl k
   ·exact .inr ⟨rfl,OU x y z h k⟩
theorem IU {a b c:ByteArray} (h:strLt a b=true) (k:strLt b c=true):strLt a c=true:=OU _ _ _ h k
theorem OV {a b:ByteArray} (h:strLt a b=true):¬ a=b:=by rintro rfl; rw [HS] at h; cases h
theorem wrap_u64 {n:Int} (h0:0≤n) (h1:n≤18446744073709551615):IntKind.u64.wrap n=n:=Sx (by
 have e1:IntKind.u64.min=0:=by decide
 have e2:IntKind.u64.max=18446744073709551615:=by decide
 unfold inK
 rw [e1,e2]
 exact ⟨h0,h1⟩)
abbrev Env:=ByteArray→Option Int
def JL (e:Env):MF
 | .str s=>match e s with
  | some n=>some (false,[.int n])
  | none=>none
 | .int _=>none
theorem L1 (e:Env) (s:ByteArray):JL e (.str s)=match e s with | some n=>some (false,[.int n]) | none=>none:=rfl
noncomputable def Qbb (e:Env) (s:ByteArray) (n:Int):Env:=fun q=>bif dec (q=s) then some n else e q
theorem Zh (e:Env) (s:ByteArray) (n:Int):Ny (JL e) (.str s) (false,[.int n])=JL (Qbb e s n):=by
 funext k
 cases k with
 | int i=>rw [HF (fun h=>by cases h)]; rfl
 | str q =>
  rw [SI,L1,L1]
  unfold Qbb
  cases dec (q=s) <;> rfl
theorem Xy:JL (fun _=>none)=nomap:=by
 funext k
 cases k <;> rfl
def InE (sz:Int) (e:Env):Prop:=∀ s n,e s=some n→0≤n∧n<sz
noncomputable def asg:List Ag→Env
 | [],_=>none
 | x :: r,s=>bif dec (x.var=s) then some x.elem else asg r s
theorem Vj {sz:Int}:∀ {xs:List Ag},(∀ x∈xs,0≤x.elem∧x.elem<sz)→InE sz (asg xs)
 | [],_=>fun s n h=>by rw [asg] at h; cases h
 | x :: r,h=>fun s n hs=>by
  rw [asg] at hs
  by_cases he:x.var=s
  ·rw [Ay he,cond_true] at hs
   obtain rfl:=zG hs
   exact h x (by simp)
  ·rw [Aw he,cond_false] at hs
   exact Vj (fun y hy=>h y (by simp [hy])) s n hs
noncomputable def JM (ts:List Tl) (n:ByteArray) (k:Int) (p:Bool):Option Tl:=ts.find? fun t=>dec (t.name=n)&&(dec (t.arity=k)&&(t.pred == p))
noncomputable def CA (ts:List Tl) (n:ByteArray) (k:Int) (p:Bool) (at_:Option Int):Option Int :=
 match JM ts n k p,at_ with
 | some t,some i=>some (t.vals.getD i.toNat 0)
 | _,_=>none
mutual
noncomputable def Tm.val (m:Ip) (e:Env):Tm→Option Int
 | .mk n args=>bif AI n then e n else CA m.tables n args.length false (Tm.DL m e args 0)
noncomputable def Tm.DL (m:Ip) (e:Env):List Tm→Int→Option Int
 | [],i=>some i
 | x :: xs,i=>match Tm.val m e x with
  | some v=>Tm.DL m e xs (i*m.size+v)
  | none=>none
end
theorem Tm.RK (m:Ip) (e:Env) (x:Tm):x.val m e=bif AI x.name then e x.name else CA m.tables x.name x.args.length false (Tm.DL m e x.args 0):=by
 obtain ⟨n,a⟩:=x
 rw [Tm.val]; rfl
theorem OW {m:Ip} {e:Env} (h1:1≤m.size):∀ {xs:List Tm} {i r:Int},(∀ x∈xs,∀ v,x.val m e=some v→0≤v∧v<m.size)→0≤i→Tm.DL m e xs i=some r→i*pw m.size xs.length≤r∧r<(i+1)*pw m.size xs.length
 | [],i,r,_,h0,h=>by
  rw [Tm.DL] at h
  obtain rfl:=zG h
  simp [pw]
  omega
 | x :: xs,i,r,hx,h0,h=>by
  rw [Tm.DL] at h
  cases hv:x.val m e with
  | none=>rw [hv] at h; cases h
  | some v =>
   rw [hv] at h
   obtain ⟨v0,v1⟩:=hx x (by simp) v hv
   have hn:0≤i*m.size+v:=by
    have:=y7 h0 (show 0≤m.size by omega)
    omega
   obtain ⟨g1,g2⟩:=OW h1 (fun y hy=>hx y (by simp [hy])) hn h
   have hp:0≤pw m.size xs.length:=by
    clear g1 g2 h hx
    induction xs with
    | nil=>simp [pw]
    | cons y ys ih=>rw [zE,pw]; exact y7 ih (by omega)
   rw [zE,pw]
   have e1:i*(pw m.size xs.length*m.size)=(i*m.size)*pw m.size xs.length:=by rw [Int.mul_assoc,Int.mul_comm m.size]
   have e2:(i+1)*(pw m.size xs.length*m.size)=(i*m.size+m.size)*pw m.size xs.length:=by
    rw [Int.mul_comm (pw m.size xs.length),← Int.mul_assoc,Int.add_mul i 1 m.size,Int.one_mul]
   rw [e1,e2]
   have k1:(i*m.size)*pw m.size xs.length≤(i*m.size+v)*pw m.size xs.length:=yW (by omega) hp
   have k2:(i*m.size+v+1)*pw m.size xs.length≤(i*m.size+m.size)*pw m.size xs.length:=yW (by omega) hp
   omega
theorem Hp {ts:List Tl} {n:ByteArray} {k:Int} {p:Bool} {t:Tl} (h:JM ts n k p=some t):t∈ts∧t.name=n∧t.arity=k∧t.pred=p:=by
 unfold JM at h
 have h1:=xD h
 have h2:=List.find?_some h
 rw [zA,zA,Af,Af] at h2
 exact ⟨h1,h2.1,h2.2.1,by simpa using h2.2.2⟩
theorem NS {m:Ip} (hm:m.ok=true) {n:ByteArray} {l:Nat} {p:Bool} {t:Tl} (ht:JM m.tables n l p=some t) {i:Int} (h0:0≤i) (h1:i<pw m.size l):∃ h:i.toNat<t.vals.length,t.vals.getD i.toNat 0=t.vals[i.toNat]∧0≤t.vals[i.toNat]∧t.vals[i.toNat]<kinds m.size t:=by
 obtain ⟨_,_,h3⟩:=Ip.DK hm
 obtain ⟨t1,t2,t3,t4⟩:=Hp ht
 have:=(zT.1 h3) t t1
 unfold tlB at this
 rw [zA,Af,zT,t3] at this
 have e:(l:Int).toNat=l:=by omega
 rw [e] at this
 have hl:i.toNat<t.vals.length:=by omega
 refine ⟨hl,by rw [zV,zP hl]; rfl,?_⟩
 have h5:=Eu.1 (this.2 _ (zJ hl))
 omega
theorem Tm.M2 {m:Ip} (hm:m.ok=true) {e:Env} (he:InE m.size e) (x:Tm):∀ v,x.val m e=some v→0≤v∧v<m.size:=by
 intro v hv
 have ih:∀ y∈x.args,∀ v,y.val m e=some v→0≤v∧v<m.size:=fun y hy=>Tm.M2 hm he y
 obtain ⟨⟨h1,_⟩,_⟩:=Ip.DK hm
 rw [Tm.RK] at hv
 cases hb:AI x.name with
 | true=>rw [hb] at hv; exact he _ _ hv
 | false =>
  rw [hb,cond_false] at hv
  unfold CA at hv
  split at hv
  ·rename_i t i ht hi
   obtain rfl:=zG hv
   obtain ⟨g1,g2⟩:=OW h1 ih (Int.le_refl 0) hi
   rw [Int.zero_mul] at g1
   rw [Int.zero_add,Int.one_mul] at g2
   obtain ⟨h2,h3,h4,h5⟩:=NS hm ht g1 g2
   rw [h3]
   obtain ⟨_,_,_,t4⟩:=Hp ht
   unfold kinds at h5
   rw [t4] at h5
   simp at h5
   exact ⟨h4,h5⟩
  ·cases hv
termination_by SizeOf.sizeOf x
decreasing_by exact Tm.Ar hy
noncomputable def Tm.tru (m:Ip) (e:Env) (x:Tm):Option Int :=
 if x.eqn then match Tm.DL m e x.args 0 with
  | some i=>some (bif dec (i.tmod m.size=i.tdiv m.size) then 1 else 0)
  | none=>none
 else CA m.tables x.name x.args.length true (Tm.DL m e x.args 0)
theorem QL {s:ByteArray} (h:AI s=true):CN s=false:=by
 unfold AI at h
 rw [zA] at h
 have hsz:0<s.size:=by
  have h2:=h.2
  unfold inB at h2
  rw [zA,decide_eq_true_eq,decide_eq_true_eq] at h2
  omega
 have h0:=HR h.1 hsz
 unfold CN
 have h1:Eo Ib s s.size=false:=DY (k:=0) hsz (by
  unfold Ic at h0
  unfold Ib
  rw [zA] at h0
  have hu:OC (Hi s 0)=true:=by simpa using h0.1
  have hlo:PJ (Hi s 0)=false:=by
   unfold OC at hu
   unfold PJ
   rw [zA,decide_eq_true_eq,decide_eq_true_eq] at hu
   rw [decide_eq_false (by omega)]
   rfl
  rw [hlo]
  rfl)
 rw [h1]
 rfl
noncomputable def Fc:List ByteArray→ByteArray→List ByteArray
 | [],n=>[n]
 | x :: xs,n=>bif strLt x n then x :: Fc xs n else bif dec (x=n) then x :: xs else n :: x :: xs
noncomputable def CH:List ByteArray→ByteArray→Nat
 | [],_=>0
 | x :: xs,n=>bif strLt x n then CH xs n+1 else 0
mutual
noncomputable def Tm.vs:Tm→List ByteArray
 | .mk name args=>bif AI name then [name] else Tm.vsL args
noncomputable def Tm.vsL:List Tm→List ByteArray
 | []=>[]
 | x :: xs=>Tm.vs x++Tm.vsL xs
end
noncomputable def E4 (l ns:List ByteArray):List ByteArray:=ns.foldl Fc l
theorem Tm.Hq {x:Tm} (h:x.atom=true):x.expr=true:=by unfold Tm.expr; rw [h,Bool.or_true]
theorem Tm.FU {x:Tm} (h:x.atom=true):x.nodes≤30:=Tm.KA (Tm.Hq h)
theorem Tm.Eh {x:Tm} (h:x.atom=true):(AI x.name=true→x.args=[])∧∀ y∈x.args,y.names=true:=by
 unfold Tm.atom at h
 cases he:x.eqn with
 | true =>
  rw [he,if_pos rfl,zA,zA] at h
  have h2:=h.2
  rw [Tm.Hj,zT] at h2
  refine ⟨fun hv=>?_,h2⟩
  have hn:=Af.1 he
  have hnv0:AI ⟨#[61]⟩=false:=by kernel_rfl
  rw [hn,hnv0] at hv
  cases hv
 | false =>
  rw [he,if_neg (by simp),zA] at h
  have hnm:x.names=true:=by have h3:=h.2; unfold Tm.valid at h3; rw [zA] at h3; exact h3.2
  exact ⟨fun hv=>Tm.Mz hnm hv,fun y hy=>Tm.Eg hnm hy⟩
theorem Tm.T0 (x:Tm):x.vs=bif AI x.name then [x.name] else Tm.vsL x.args:=by
 obtain ⟨n,a⟩:=x
 rw [Tm.vs]; rfl
theorem Tm.Wl:∀ xs:List Tm,(∀ x∈xs,x.vs.length≤x.nodes)→(Tm.vsL xs).length≤Tm.AE xs
 | [],_=>by simp [Tm.vsL]
 | x :: xs,h=>by
  have h1:=h x (by simp)
  have h2:=Tm.Wl xs fun y hy=>h y (by simp [hy])
  rw [Tm.vsL,Tm.AE,yR]; omega
theorem Tm.vs_len (x:Tm):x.vs.length≤x.nodes:=by
 have h:=Tm.Wl x.args fun y hy=>Tm.vs_len y
 rw [Tm.T0,Tm.A3]
 cases AI x.name with
 | true=>simp
 | false=>simp only [cond_false]; omega
termination_by SizeOf.sizeOf x
decreasing_by exact Tm.Ar hy
noncomputable def L2 (l:List ByteArray) (n:ByteArray):List ByteArray:=bif dec (n∈l) then l else l++[n]
theorem Zi (l:List ByteArray) (n:ByteArray):(L2 l n).length≤l.length+1:=by
 unfold L2
 cases dec (n∈l) <;> simp
theorem Zj {l:List ByteArray} {n m:ByteArray}:m∈L2 l n ↔ m∈l∨m=n:=by
 unfold L2
 by_cases h:n∈l
 ·rw [Ay h,cond_true]
  exact ⟨.inl,fun h'=>h'.elim id fun e=>e▸h⟩
 ·rw [Aw h,cond_false]
  simp
theorem Vl {l:List ByteArray} {n:ByteArray} (h:l.Nodup):(L2 l n).Nodup:=by
 unfold L2
 by_cases k:n∈l
 ·rw [Ay k]; exact h
 ·rw [Aw k,cond_false,List.nodup_append]
  exact ⟨h,by simp,fun a ha b hb e=>by simp at hb; subst hb; subst e; exact k ha⟩
noncomputable def Du (l ns:List ByteArray):List ByteArray:=ns.foldl L2 l
theorem L3:∀ (ns l:List ByteArray),(Du l ns).length≤l.length+ns.length
 | [],l=>by simp [Du]
 | n :: ns,l=>by
  have h:=L3 ns (L2 l n)
  have h2:=Zi l n
  simp only [Du,yC,zE] at h ⊢
  omega
theorem T1:∀ {ns l:List ByteArray} {m:ByteArray},m∈Du l ns ↔ m∈l∨m∈ns
 | [],l,m=>by simp [Du]
 | n :: ns,l,m=>by
  have h:=T1 (ns:=ns) (l:=L2 l n) (m:=m)
  simp only [Du,yC] at h ⊢
  rw [h,Zj]
  simp only [zK]
  exact or_assoc
theorem OX:∀ {ns l:List ByteArray},l.Nodup→(Du l ns).Nodup
 | [],l,h=>h
 | n :: ns,l,h=>OX (ns:=ns) (Vl h)
theorem T2 (l a b:List ByteArray):Du l (a++b)=Du (Du l a) b:=xJ
def CV:SC:=(.seq (.reg [⟨some 4,none,.mv (.c (.int .i64 0))⟩]) (.seq (.seq (.reg [⟨some 6,none,.mv (.t 0)⟩,⟨some 7,none,.len false (.t 6)⟩,⟨some 8,none,.mv (.c (.int .i64 0))⟩]) (.block 0 (.loop [1,1,0,0,0,0,0,1,1,0,0,0,0,0,0,0,0,0,0] (.seq (.reg [⟨some 9,none,.bin .lss false (.t 8) (.t 7)⟩]) (.seq (.cond (.t 9) .skip (.exit 0)) (.seq (.block 1 (.seq (.reg [⟨some 10,none,.mv (.t 8)⟩,⟨some 5,none,.mv (.t 10)⟩]) (.seq (.reg [⟨some 11,none,.mv (.t 1)⟩,⟨some 12,none,.mv (.t 0)⟩,⟨some 13,none,.mv (.t 5)⟩,⟨some 14,none,.iaddr 1 (.t 12) (.t 13)⟩,⟨some 15,none,.load false 1 (.t 14)⟩,⟨some 16,none,.bin .eql false (.t 11) (.t 15)⟩]) (.cond (.t 16) (.seq (.reg [⟨some 17,none,.mv (.t 5)⟩,⟨some 4,none,.mv (.t 17)⟩]) .ret) .skip)))) (.reg [⟨some 18,none,.bin .add false (.t 8) (.c (.int .i64 1))⟩,⟨some 8,none,.mv (.t 18)⟩]))))))) (.seq (.reg [⟨some 4,none,.mv (.c (.int .i64 (-(0+1))))⟩]) .ret)))
theorem Fn:Ad Tryz.prog 119=some ⟨19,CV,[(.tmp 4)]⟩:=by kernel_rfl
theorem CW:modes 119=⟨[],.asis,none,false⟩:=by unfold modes; rfl
def C5:SC:=(.seq (.reg [⟨some 4,none,.mv (.c (.bool false))⟩]) (.seq (.reg [⟨some 5,none,.mv (.t 0)⟩,⟨some 6,none,.mv (.t 1)⟩,⟨some 7,none,.call 119 [(.t 5),(.t 6)]⟩,⟨some 8,none,.bin .geq false (.t 7) (.c (.int .i64 0))⟩,⟨some 4,none,.mv (.t 8)⟩]) .ret))
theorem E5:Ad Tryz.prog 100=some ⟨9,C5,[(.tmp 4)]⟩:=by kernel_rfl
theorem BH:modes 100=⟨[],.asis,none,false⟩:=by unfold modes; rfl
theorem Zk (xs:List ByteArray) (n:ByteArray) (hl:xs.length≤1099511627776):E 119 [.arr (xs.map fun s=>[D.str s]),.str n] []=some (.int .i64 (Cy (fun s=>dec (n=s)) xs 0),[]):=by
 refine Ab Fn CW (of_decide_eq_true rfl) ?_
 simp (disch:=omega) only [CV,go_sem,Aa]
 refine go_loop (α:=Int) (fun a=>⟨slots 19 0 [(0,.arr (xs.map fun s=>[D.str s])),(1,.str n),(7,.int .i64 xs.length),(8,.int .i64 a)],[]⟩) (fun a=>∃ k:Nat,a=k∧k≤(xs).length∧Cy (fun s=>dec (n=s)) (xs.drop k) a=Cy (fun s=>dec (n=s)) xs 0) (fun a=>(xs).length-(a).toNat) 0 ⟨0,rfl,zL _,by rw [zI]⟩ (by simp (disch:=omega) only [go_sem,Aa]) ?_
 rintro i ⟨k,hi,hk,hR⟩
 have hni:i.toNat=k:=by omega
 have hni1:(i+1).toNat=k+1:=by omega
 rcases zC k (xs).length with hlt | hge
 ·have hg:=get_at (fun s=>[D.str s]) hlt
  rw [zB hlt,Cy] at hR
  cases hp:dec (n=xs[k]) with
  | true =>
   rw [hp] at hR
   simp (disch:=omega) only [go_sem,Aa,hni,hg,hp]
   simpa using hR
  | false =>
   rw [hp] at hR
   simp (disch:=omega) only [go_sem,Aa,hni,hg,hp]
   exact ⟨i+1,⟨k+1,by omega,hlt,by simpa using hR⟩,by omega,by first | trivial | rfl⟩
 ·rw [zD hge,Cy] at hR
  simp (disch:=omega) only [go_sem,Aa,hni]
  exact hR
theorem T3 (xs:List ByteArray) (n:ByteArray) (hl:xs.length≤1099511627776):E 100 [.arr (xs.map fun s=>[D.str s]),.str n] []=some (.bool (dec (n∈xs)),[]):=by
 have h:=Zk xs n hl
 have e:dec (n∈xs)=dec (0≤Cy (fun s=>dec (n=s)) xs 0):=by
  rw [Lq]
  by_cases hm:n∈xs
  ·rw [Ay hm]
   exact (List.any_eq_true.2 ⟨n,hm,Ay rfl⟩).symm
  ·rw [Aw hm]
   refine Eq.symm (xH.2 fun h=>?_)
   obtain ⟨x,h1,h2⟩:=List.any_eq_true.1 h
   have e:=Af.1 h2
   subst e
   exact hm h1
 rw [e]
 refine Ab E5 BH (of_decide_eq_true rfl) ?_
 simp (disch:=omega) only [C5,go_sem,Aa,h,CW]
theorem QM:∀ (ns l:List ByteArray),l.length≤(Du l ns).length
 | [],l=>by simp [Du]
 | n :: ns,l=>by
  have h:=QM ns (L2 l n)
  have h2:l.length≤(L2 l n).length:=by unfold L2; cases dec (n∈l) <;> simp
  simp only [Du,yC] at h ⊢
  omega
def Dv:SC:=(.seq (.reg [⟨some 3,none,.boxv 69 2 (.t 1)⟩,⟨some 4,none,.mv (.c .nil)⟩]) (.seq (.seq (.reg [⟨some 7,none,.faddr 1 (.t 3)⟩,⟨some 8,none,.load false 1 (.t 7)⟩,⟨some 9,none,.len false (.t 8)⟩,⟨some 10,none,.bin .eql false (.t 9) (.c (.int .i64 0))⟩,⟨some 11,none,.mv (.t 10)⟩,⟨(some 12),(some (11,true)),(.load true 2 (.t 3))⟩,⟨(some 13),(some (11,true)),(.call 69 [(.t 12)])⟩,⟨some 14,none,.pick (.t 11) (.t 13) (.c (.bool false))⟩]) (.cond (.t 14) (.seq (.seq (.reg [⟨some 15,none,.mv (.t 0)⟩,⟨some 16,none,.faddr 0 (.t 3)⟩,⟨some 17,none,.load false 1 (.t 16)⟩,⟨some 18,none,.call 100 [(.t 15),(.t 17)]⟩,⟨some 19,none,.un .not (.t 18)⟩]) (.cond (.t 19) (.reg [⟨some 20,none,.mv (.t 0)⟩,⟨some 21,none,.faddr 0 (.t 3)⟩,⟨some 22,none,.load false 1 (.t 21)⟩,⟨(some 23),none,(.mkrow 9 1 [(.str ⟨#[]⟩)] 1 [(0,(.t 22))])⟩,⟨(some 24),none,(.append 9 1 16 [(.str ⟨#[]⟩)] (.t 20) (.t 23))⟩,⟨some 0,none,.mv (.t 24)⟩]) .skip)) (.seq (.reg [⟨some 25,none,.mv (.t 0)⟩,⟨some 4,none,.mv (.t 25)⟩]) .ret)) .skip)) (.seq (.seq (.reg [⟨some 26,none,.faddr 1 (.t 3)⟩,⟨some 27,none,.load false 1 (.t 26)⟩,⟨some 28,none,.len false (.t 27)⟩,⟨some 29,none,.mv (.c (.int .i64 0))⟩]) (.block 0 (.loop [1,0,0,0,0,0,0,0,0,0,0,0,0,0,0,0,0,0,0,0,0,0,0,0,0,0,0,1,1,1,0,0,0,0,0,0,0,0] (.seq (.reg [⟨some 30,none,.bin .lss false (.t 29) (.t 28)⟩]) (.seq (.cond (.t 30) .skip (.exit 0)) (.seq (.block 1 (.seq (.reg [⟨some 31,none,.iaddr 2 (.t 27) (.t 29)⟩,⟨some 32,none,.load true 2 (.t 31)⟩,⟨(some 6),none,(.alloc 69 [(.str ⟨#[]⟩),.nil])⟩,⟨none,none,(.store 2 (.t 6) (.t 32))⟩]) (.reg [⟨some 33,none,.mv (.t 0)⟩,⟨some 34,none,.load true 2 (.t 6)⟩,⟨some 35,none,.call 74 [(.t 33),(.t 34)]⟩,⟨some 0,none,.mv (.t 35)⟩]))) (.reg [⟨some 36,none,.bin .add false (.t 29) (.c (.int .i64 1))⟩,⟨some 29,none,.mv (.t 36)⟩]))))))) (.seq (.reg [⟨some 37,none,.mv (.t 0)⟩,⟨some 4,none,.mv (.t 37)⟩]) .ret))))
theorem Ev:Ad Tryz.prog 74=some ⟨38,Dv,[(.tmp 4)]⟩:=by kernel_rfl
theorem CB:modes 74=⟨[true],.asis,none,false⟩:=by unfold modes; rfl
abbrev Qbc (x:Tm):Prop:=∀ l:List ByteArray,l.length+x.nodes≤1048576→E 74 [.ref 0,x.sv] [.row 9 1 (l.map fun s=>[OT.str s])]=some ((bif dec (l.length<(Du l x.vs).length) then .ref 1 else .ref 0),(bif dec (l.length<(Du l x.vs).length) then [.gone,.row 9 1 ((Du l x.vs).map fun s=>[OT.str s])] else [.row 9 1 ((Du l x.vs).map fun s=>[OT.str s])]))
theorem OY (x:Tm) (hva:AI x.name=true→x.args=[]) (hc:x.cok=true) (ih:∀ y∈x.args,Qbc y):Qbc x:=by
 intro l hn
 have hl:=Tm.length_le x.args
 have hne:=Tm.A3 x
 have hv:=J9 x hc
 have hvs:=Tm.T0 x
 rcases yG x.args.length with h0 | h0
 ·have hx0:x.args=[]:=zO h0
  have hz:((x.args.length:Int)=0)=True:=by rw [hx0]; simp
  cases hvv:AI x.name with
  | true =>
   rw [hvv] at hv hvs
   have h1:=T3 l x.name (by omega)
   rw [hvs]
   cases hm:dec (x.name∈l) with
   | true =>
    have e:Du l [x.name]=l:=by simp only [Du,yC,List.foldl_nil,L2,hm,cond_true]
    rw [hm] at h1
    simp only [cond_true,e]
    refine Ab Ev CB (of_decide_eq_true rfl) ?_
    simp (disch:=omega) only [Dv,go_sem,Aa,hz,hv,h1,AK,BH]
   | false =>
    have e:Du l [x.name]=l++[x.name]:=by simp only [Du,yC,List.foldl_nil,L2,hm,cond_false]
    have hg:l.length<(l++[x.name]).length:=by simp
    rw [hm] at h1
    simp only [cond_true,e,Ay hg]
    refine Ab Ev CB (of_decide_eq_true rfl) ?_
    simp (disch:=omega) only [Dv,go_sem,Aa,hz,hv,h1,AK,BH]
    simp only [yY,zH,yM]
  | false =>
   rw [hvv] at hv hvs
   have e:Du l x.vs=l:=by rw [hvs,hx0]; simp only [cond_false,Tm.vsL]; rfl
   rw [e]
   refine Ab Ev CB (of_decide_eq_true rfl) ?_
   simp (disch:=omega) only [Dv,go_sem,Aa,hz,hv,AK]
   refine go_loop (α:=Int) (fun a=>⟨slots 38 0 [(0,.ref 0),(27,.arr (x.args.map Tm.d)),(28,.int .i64 x.args.length),(29,.int .i64 a)],[.row 9 1 (l.map fun s=>[OT.str s])]⟩) (fun a=>∃ k:Nat,a=k∧k≤(x.args).length) (fun a=>(x.args).length-(a).toNat) 0 ⟨0,rfl,zL _⟩ (by simp (disch:=omega) only [go_sem,Aa]) ?_
   rintro i ⟨k,hi,hk⟩
   have hni:i.toNat=k:=by omega
   have hni1:(i+1).toNat=k+1:=by omega
   rcases zC k (x.args).length with hlt | hge
   ·omega
   ·simp (disch:=omega) only [go_sem,Aa,hni]
 ·have hz:((x.args.length:Int)=0)=False:=eq_false (by omega)
  have hvv:AI x.name=false:=by
   cases h:AI x.name with
   | false=>rfl
   | true=>rw [hva h] at h0; simp at h0
  rw [hvv] at hvs
  simp only [cond_false] at hvs
  rw [hvs]
  refine Ab Ev CB (of_decide_eq_true rfl) ?_
  simp (disch:=omega) only [Dv,go_sem,Aa,hz]
  refine go_loop (α:=Int × (List ByteArray)) (fun a=>⟨slots 38 0 [(0,(bif dec (l.length<(a.2).length) then .ref 1 else .ref 0)),(27,.arr (x.args.map Tm.d)),(28,.int .i64 x.args.length),(29,.int .i64 (a.1))],(bif dec (l.length<(a.2).length) then [.gone,.row 9 1 ((a.2).map fun s=>[OT.str s])] else [.row 9 1 ((a.2).map fun s=>[OT.str s])])⟩) (fun a=>∃ k:Nat,a.1=k∧k≤(x.args).length∧Du (a.2) (Tm.vsL (x.args.drop k))=Du l (Tm.vsL x.args)∧(a.2).length+Tm.AE (x.args.drop k)≤1048576∧l.length≤(a.2).length) (fun a=>(x.args).length-(a.1).toNat) (0,l) ⟨0,rfl,zL _,by rw [zI],by rw [zI]; dsimp only; omega,zQ _⟩ (by simp (disch:=omega) only [go_sem,Aa]) ?_
  rintro ⟨i,acc⟩ ⟨k,hi,hk,hR⟩
  dsimp only at hi hR
  have hni:i.toNat=k:=by omega
  have hni1:(i+1).toNat=k+1:=by omega
  rcases zC k (x.args).length with hlt | hge
  ·have hg:=get_at Tm.d hlt
   rw [Tm.d_eq] at hg
   obtain ⟨hR1,hR2,hR3⟩:=hR
   rw [zB hlt,Tm.vsL,T2] at hR1
   rw [zB hlt,Tm.AE] at hR2
   have hc:=ih x.args[k] (zJ hlt) acc (by omega)
   have hlen:=L3 x.args[k].vs acc
   have hgr:=QM x.args[k].vs acc
   have hvl:=Tm.vs_len x.args[k]
   obtain ⟨acc2,ha2⟩:∃ a,a=Du acc x.args[k].vs:=⟨_,rfl⟩
   rw [←ha2] at hc hlen hgr hR1
   rcases zC l.length acc.length with q1 | q1 <;> rcases zC acc.length acc2.length with q2 | q2
   all_goals
    first
     |rw [Ay q2] at hc
     |rw [Aw (Nat.not_lt.2 q2)] at hc
    simp only [cond_true,cond_false] at hc
    simp (disch:=omega) only [go_sem,Aa,hni,hg,hc,CB]
    refine ⟨(i+1,acc2),⟨k+1,by dsimp only; omega,hlt,hR1,by dsimp only; omega,by dsimp only; omega⟩,by dsimp only; omega,?_⟩
    first | done | simp (disch:=omega) only [go_sem,Aa]
  ·rw [zD hge,Tm.vsL] at hR
   obtain ⟨hR1,hR2,hR3⟩:=hR
   have hR1:acc=Du l (Tm.vsL x.args):=hR1
   rw [←hR1]
   rcases zC l.length acc.length with q1 | q1
   ·simp (disch:=omega) only [go_sem,Aa,hni]
   ·simp (disch:=omega) only [go_sem,Aa,hni]
theorem QN (x:Tm) (hx:x.names=true) (hc:x.cok=true):Qbc x :=
 OY x (fun h=>Tm.Mz hx h) hc fun y hy=>QN y (Tm.Eg hx hy) (by rw [Tm.M0,zA] at hc; exact Tm.IQ hc.2 hy)
termination_by SizeOf.sizeOf x
decreasing_by exact Tm.Ar hy
noncomputable def T4 (l:List ByteArray):List ByteArray:=(srt (l.map (·.toList))).map fun x=>⟨x.toArray⟩
theorem QO (l:List ByteArray):(T4 l).Perm l:=by
 unfold T4
 have h:(srt (l.map (·.toList))).Perm (l.map (·.toList)):=List.mergeSort_perm _ _
 have h2:=h.map fun x:List UInt8=>(⟨x.toArray⟩:ByteArray)
 rw [y3] at h2
 have e:((fun x:List UInt8=>(⟨x.toArray⟩:ByteArray)) ∘ fun x:ByteArray=>x.toList)=id:=by
  funext x
  exact K4 x
 rw [e,List.map_id] at h2
 exact h2
theorem Dk:modes 75=⟨[true],.asis,some sortStr,false⟩:=by unfold modes; rfl
theorem Qbd (l:List ByteArray) (hl:l.length≤1099511627776):E 75 [.ref 0] [.row 9 1 (l.map fun s=>[OT.str s])]=some (.tup [],[.row 9 1 ((T4 l).map fun s=>[OT.str s])]):=by
 rw [OI (g:=sortStr) (congrArg FM.ext Dk)]
 unfold sortStr
 simp only
 rw [Ay ⟨by first | trivial | rfl,fun e he=>by obtain ⟨s,_,rfl⟩:=yS.1 he; exact ⟨s,rfl⟩,by simpa using hl⟩,cond_true]
 have e1:(l.map fun s=>[OT.str s]).map (fun e=>(UT e).toList)=l.map (·.toList):=by rw [y3]; rfl
 rw [e1]
 unfold T4
 rw [y3]
 rfl
theorem Vm (x:Tm) (h:x.atom=true):Qbc x :=
 OY x (Tm.Eh h).1 (Tm.Hn h) fun y hy=>QN y ((Tm.Eh h).2 y hy) (Tm.J8 y ((Tm.Eh h).2 y hy))
theorem OZ:∀ {xs:List ByteArray} {n m:ByteArray},m∈Fc xs n ↔ m∈xs∨m=n
 | [],n,m=>by simp [Fc]
 | x :: xs,n,m=>by
  rw [Fc]
  cases strLt x n with
  | true=>rw [cond_true,zK,OZ,zK,or_assoc]
  | false =>
   rw [cond_false]
   by_cases h:x=n
   ·rw [Ay h,cond_true]
    exact ⟨.inl,fun h'=>h'.elim id fun e=>by subst e; subst h; simp⟩
   ·rw [Aw h,cond_false,zK]
    exact or_comm
theorem T5:∀ (xs:List ByteArray) (n:ByteArray),(Fc xs n).length≤xs.length+1
 | [],n=>by simp [Fc]
 | x :: xs,n=>by
  have h:=T5 xs n
  rw [Fc]
  cases strLt x n with
  | true=>simp only [cond_true,zE]; omega
  | false =>
   rw [cond_false]
   cases dec (x=n) with
   | true=>simp only [cond_true,zE]; omega
   | false=>simp only [cond_false,zE]; omega
theorem Wm:∀ (xs:List ByteArray) (n:ByteArray),CH xs n≤xs.length
 | [],n=>by simp [CH]
 | x :: xs,n=>by
  have h:=Wm xs n
  rw [CH]
  cases strLt x n with
  | true=>simp only [cond_true,zE]; omega
  | false=>simp only [cond_false,zE]; omega
theorem Pa:∀ {xs:List ByteArray} {n:ByteArray} (h:CH xs n<xs.length),xs[CH xs n]=n→Fc xs n=xs
 | [],n,h,_=>by simp at h
 | x :: xs,n,h,e=>by
  rw [Fc]
  cases hq:strLt x n with
  | true =>
   simp only [CH,hq,cond_true,zE,yI] at h e
   rw [cond_true,Pa (by omega) e]
  | false =>
   simp only [CH,hq,cond_false,z8] at e
   rw [cond_false,Ay e]; rfl
theorem Pb:∀ {xs:List ByteArray} {n:ByteArray},(∀ h:CH xs n<xs.length,¬ xs[CH xs n]=n)→Fc xs n=xs.take (CH xs n)++n :: xs.drop (CH xs n)
 | [],n,_=>by simp [Fc,CH]
 | x :: xs,n,h=>by
  rw [Fc]
  cases hq:strLt x n with
  | true =>
   simp only [CH,hq,cond_true,zE,yI] at h ⊢
   rw [Pb fun h'=>h (by omega)]
   simp
  | false =>
   simp only [CH,hq,cond_false,z8] at h ⊢
   rw [Aw (h (by simp))]
   simp
theorem Xz {xs:List ByteArray} {n:ByteArray} {k:Nat} (h:k+CH (xs.drop k) n=CH xs n) (hk:k<xs.length):(strLt xs[k] n=true∧k+1+CH (xs.drop (k+1)) n=CH xs n)∨(strLt xs[k] n=false∧k=CH xs n):=by
 rw [zB hk,CH] at h
 cases hq:strLt xs[k] n with
 | true=>rw [hq,cond_true] at h; exact .inl ⟨rfl,by omega⟩
 | false=>rw [hq,cond_false] at h; exact .inr ⟨rfl,by omega⟩
theorem ot_take (xs:List ByteArray) (k:Nat):((xs.map fun s=>[D.str s]).take k).map (fun x=>x.map D.ot)=(xs.take k).map fun s=>[OT.str s]:=by
 rw [←List.map_take,y3]; rfl
theorem ot_drop (xs:List ByteArray) (k:Nat):((xs.map fun s=>[D.str s]).drop k).map (fun x=>x.map D.ot)=(xs.drop k).map fun s=>[OT.str s]:=by
 rw [←List.map_drop,y3]; rfl
theorem Wn (xs:List ByteArray):((xs.map fun s=>[OT.str s]).all fun l=>l.length == 1)=true:=by
 rw [List.all_map,zT]
 intro x _; rfl
theorem Zl (xs:List ByteArray):((xs.map fun s=>[D.str s]).all fun l=>l.length == 1)=true:=by
 rw [List.all_map,zT]
 intro x _; rfl
def L4:SC:=(.seq (.reg [⟨some 4,none,.mv (.c .nil)⟩]) (.seq (.reg [⟨some 5,none,.mv (.c (.int .i64 0))⟩]) (.seq (.block 0 (.loop [1,1,0,0,0,1,0,0,0,0,0,0,0,0,0,0,0,0,0,0,0,0,0,0,0,0,0,0,0,0,0,0,0,0,0,0,0,0,0,0,0,0,0,0,0] (.seq (.seq (.reg [⟨some 6,none,.mv (.t 5)⟩,⟨some 7,none,.mv (.t 0)⟩,⟨some 8,none,.len false (.t 7)⟩,⟨some 9,none,.bin .lss false (.t 6) (.t 8)⟩,⟨some 10,none,.mv (.t 9)⟩,⟨(some 11),(some (10,true)),(.mv (.t 0))⟩,⟨(some 12),(some (10,true)),(.mv (.t 5))⟩,⟨(some 13),(some (10,true)),(.iaddr 1 (.t 11) (.t 12))⟩,⟨(some 14),(some (10,true)),(.load false 1 (.t 13))⟩,⟨(some 15),(some (10,true)),(.mv (.t 1))⟩,⟨(some 16),(some (10,true)),(.bin .lss false (.t 14) (.t 15))⟩,⟨some 17,none,.pick (.t 10) (.t 16) (.c (.bool false))⟩]) (.cond (.t 17) .skip (.exit 0))) (.block 1 (.reg [⟨some 18,none,.mv (.t 5)⟩,⟨some 19,none,.bin .add false (.t 18) (.c (.int .i64 1))⟩,⟨some 5,none,.mv (.t 19)⟩]))))) (.seq (.seq (.reg [⟨some 20,none,.mv (.t 5)⟩,⟨some 21,none,.mv (.t 0)⟩,⟨some 22,none,.len false (.t 21)⟩,⟨some 23,none,.bin .lss false (.t 20) (.t 22)⟩,⟨some 24,none,.mv (.t 23)⟩,⟨(some 25),(some (24,true)),(.mv (.t 0))⟩,⟨(some 26),(some (24,true)),(.mv (.t 5))⟩,⟨(some 27),(some (24,true)),(.iaddr 1 (.t 25) (.t 26))⟩,⟨(some 28),(some (24,true)),(.load false 1 (.t 27))⟩,⟨(some 29),(some (24,true)),(.mv (.t 1))⟩,⟨(some 30),(some (24,true)),(.bin .eql false (.t 28) (.t 29))⟩,⟨some 31,none,.pick (.t 24) (.t 30) (.c (.bool false))⟩]) (.cond (.t 31) (.seq (.reg [⟨some 32,none,.mv (.t 0)⟩,⟨some 4,none,.mv (.t 32)⟩]) .ret) .skip)) (.seq (.dreg [[],[],[],[1,2],[0,3,1,2],[],[5],[4,0,3,1,2,6,5],[],[],[8,9],[7,4,0,3,1,2,6,5,10,8,9],[11,7,4,0,3,1,2,6,5,10,8,9]] [⟨(some 33),none,(.mkrow 9 1 [(.str ⟨#[]⟩)] 0 [])⟩,⟨some 34,none,.mv (.t 0)⟩,⟨some 35,none,.mv (.t 5)⟩,⟨some 36,none,.slice false 1 (.t 34) none (some (.t 35))⟩,⟨(some 37),none,(.append 9 1 16 [(.str ⟨#[]⟩)] (.t 33) (.t 36))⟩,⟨some 38,none,.mv (.t 1)⟩,⟨(some 39),none,(.mkrow 9 1 [(.str ⟨#[]⟩)] 1 [(0,(.t 38))])⟩,⟨(some 40),none,(.append 9 1 16 [(.str ⟨#[]⟩)] (.t 37) (.t 39))⟩,⟨some 41,none,.mv (.t 0)⟩,⟨some 42,none,.mv (.t 5)⟩,⟨some 43,none,.slice false 1 (.t 41) (some (.t 42)) none⟩,⟨(some 44),none,(.append 9 1 16 [(.str ⟨#[]⟩)] (.t 40) (.t 43))⟩,⟨some 4,none,.mv (.t 44)⟩]) .ret)))))
theorem RL:Ad Tryz.prog 87=some ⟨45,L4,[(.tmp 4)]⟩:=by kernel_rfl
theorem L5:modes 87=⟨[],.frz,none,false⟩:=by unfold modes; rfl
theorem Qbe (xs:List ByteArray) (n:ByteArray) (hl:xs.length≤1048576):E 87 [.arr (xs.map fun s=>[D.str s]),.str n] []=some (.arr ((Fc xs n).map fun s=>[D.str s]),[]):=by
 have e1:=ot_take xs (CH xs n)
 have e2:=ot_drop xs (CH xs n)
 have e3:=Wn (xs.take (CH xs n))
 have e4:=Wn (xs.drop (CH xs n))
 have e5:=Zl xs
 have l1:=Wm xs n
 have e6:(xs.map fun s=>[D.str s]).take xs.length=xs.map fun s=>[D.str s]:=List.take_of_length_le (by simp)
 have e7:(xs.take (CH xs n)).length=CH xs n:=by rw [List.length_take]; omega
 have e8:(xs.drop (CH xs n)).length=xs.length-CH xs n:=List.length_drop
 have hf:∀ ys:List ByteArray,ys=Fc xs n→(ys.map fun s=>[OT.str s])=(Fc xs n).map fun s=>[OT.str s]:=fun ys h=>by rw [h]
 refine Ab RL L5 (of_decide_eq_true rfl) ?_
 simp (disch:=omega) only [L4,go_sem,Aa]
 refine go_loop (α:=Int) (fun a=>⟨slots 45 0 [(0,.arr (xs.map fun s=>[D.str s])),(1,.str n),(5,.int .i64 a)],[]⟩) (fun a=>∃ k:Nat,a=k∧k≤(xs).length∧k+CH (xs.drop k) n=CH xs n) (fun a=>(xs).length-(a).toNat) 0 ⟨0,rfl,zL _,by rw [zI,yH]⟩ (by simp (disch:=omega) only [go_sem,Aa]) ?_
 rintro i ⟨k,hi,hk,hR⟩
 have hni:i.toNat=k:=by omega
 have hni1:(i+1).toNat=k+1:=by omega
 rcases zC k (xs).length with hlt | hge
 ·have hg:=get_at (fun s=>[D.str s]) hlt
  rcases Xz hR hlt with ⟨q,hR'⟩ | ⟨q,hk'⟩
  ·simp (disch:=omega) only [go_sem,Aa,hni,hg,q]
   exact ⟨i+1,⟨k+1,by omega,hlt,hR'⟩,by omega,by first | trivial | rfl⟩
  ·subst hk'
   by_cases h0:xs[CH xs n]=n
   ·have hi0:=Pa hlt h0
    rw [hi0]
    simp (disch:=omega) only [go_sem,Aa,hni,hg,q,h0,e6,HS,C9]
   ·have hi0:=Pb (fun _=>h0)
    have hx:(xs.take (CH xs n)).map (fun s=>[OT.str s])++([[OT.str n]]++(xs.drop (CH xs n)).map (fun s=>[OT.str s]))=(Fc xs n).map fun s=>[OT.str s]:=by rw [hi0]; simp
    have hx2:(xs.take (CH xs n)).map (fun s=>[OT.str s])++[[OT.str n]]++(xs.drop (CH xs n)).map (fun s=>[OT.str s])=(Fc xs n).map fun s=>[OT.str s]:=by rw [hi0]; simp
    simp (disch:=omega) only [go_sem,Aa,hni,hg,q,h0,e1,e2,e3,e4,e5,e6,e7,e8,hx2,yR,y8]
 ·obtain rfl:k=xs.length:=by omega
  have hk':xs.length=CH xs n:=by rw [←hR,zD (zQ _)]; simp [CH]
  have hi0:=Pb (xs:=xs) (n:=n) (fun h=>by omega)
  have hx2:(xs.take (CH xs n)).map (fun s=>[OT.str s])++[[OT.str n]]++(xs.drop (CH xs n)).map (fun s=>[OT.str s])=(Fc xs n).map fun s=>[OT.str s]:=by rw [hi0]; simp
  rw [hk'] at hni
  simp (disch:=omega) only [go_sem,Aa,hni,e1,e2,e3,e4,e5,e6,e7,e8,hx2,yR,y8]
theorem Pc:∀ (ns l:List ByteArray),(E4 l ns).length≤l.length+ns.length
 | [],l=>by simp [E4]
 | n :: ns,l=>by
  have h:=Pc ns (Fc l n)
  have h2:=T5 l n
  simp only [E4,yC,zE] at h ⊢
  omega
theorem Pd:∀ {ns l:List ByteArray} {m:ByteArray},m∈E4 l ns ↔ m∈l∨m∈ns
 | [],l,m=>by simp [E4]
 | n :: ns,l,m=>by
  have h:=Pd (ns:=ns) (l:=Fc l n) (m:=m)
  simp only [E4,yC] at h ⊢
  rw [h,OZ]
  simp only [zK]
  exact or_assoc
theorem T6 (l a b:List ByteArray):E4 l (a++b)=E4 (E4 l a) b:=xJ
def GH:SC:=(.seq (.reg [⟨some 3,none,.boxv 69 2 (.t 1)⟩,⟨some 4,none,.mv (.c .nil)⟩]) (.seq (.seq (.reg [⟨some 6,none,.faddr 0 (.t 3)⟩,⟨some 7,none,.load false 1 (.t 6)⟩,⟨some 8,none,.call 62 [(.t 7)]⟩]) (.cond (.t 8) (.seq (.reg [⟨some 9,none,.mv (.t 0)⟩,⟨some 10,none,.faddr 0 (.t 3)⟩,⟨some 11,none,.load false 1 (.t 10)⟩,⟨some 12,none,.call 87 [(.t 9),(.t 11)]⟩,⟨some 4,none,.mv (.t 12)⟩]) .ret) .skip)) (.seq (.seq (.reg [⟨some 5,none,.mv (.c (.int .i64 0))⟩]) (.block 0 (.loop [1,0,0,1,0,1,0,0,0,0,0,0,0,0,0,0,0,0,0,0,0,0,0,0,0,0,0,0] (.seq (.seq (.reg [⟨some 13,none,.mv (.t 5)⟩,⟨some 14,none,.faddr 1 (.t 3)⟩,⟨some 15,none,.load false 1 (.t 14)⟩,⟨some 16,none,.len false (.t 15)⟩,⟨some 17,none,.bin .lss false (.t 13) (.t 16)⟩]) (.cond (.t 17) .skip (.exit 0))) (.seq (.block 1 (.reg [⟨some 20,none,.mv (.t 0)⟩,⟨some 21,none,.faddr 1 (.t 3)⟩,⟨some 22,none,.load false 1 (.t 21)⟩,⟨some 23,none,.mv (.t 5)⟩,⟨some 24,none,.iaddr 2 (.t 22) (.t 23)⟩,⟨some 25,none,.load true 2 (.t 24)⟩,⟨some 26,none,.call 64 [(.t 20),(.t 25)]⟩,⟨some 0,none,.mv (.t 26)⟩])) (.reg [⟨some 18,none,.mv (.t 5)⟩,⟨some 19,none,.bin .add false (.t 18) (.c (.int .i64 1))⟩,⟨some 5,none,.mv (.t 19)⟩])))))) (.seq (.reg [⟨some 27,none,.mv (.t 0)⟩,⟨some 4,none,.mv (.t 27)⟩]) .ret))))
theorem Kd:Ad Tryz.prog 64=some ⟨28,GH,[(.tmp 4)]⟩:=by kernel_rfl
theorem DM:modes 64=⟨[],.asis,none,false⟩:=by unfold modes; rfl
abbrev Zm (x:Tm):Prop:=∀ l:List ByteArray,l.length+x.nodes≤1048576→E 64 [.arr (l.map fun s=>[D.str s]),x.sv] []=some (.arr ((E4 l x.vs).map fun s=>[D.str s]),[])
theorem X2 (x:Tm) (ih:∀ y∈x.args,Zm y):Zm x:=by
 intro l hn
 have hl:=Tm.length_le x.args
 have hne:=Tm.A3 x
 have hvs:=Tm.T0 x
 have hp:=Qbe l x.name (by omega)
 cases hvv:AI x.name with
 | true =>
  rw [hvv] at hvs
  have e:E4 l x.vs=Fc l x.name:=by rw [hvs]; rfl
  rw [e]
  refine Ab Kd DM (of_decide_eq_true rfl) ?_
  simp (disch:=omega) only [GH,go_sem,Aa,hvv,hp,Ao,Gp,L5]
 | false =>
  rw [hvv] at hvs
  simp only [cond_false] at hvs
  rw [hvs]
  refine Ab Kd DM (of_decide_eq_true rfl) ?_
  simp (disch:=omega) only [GH,go_sem,Aa,hvv,Ao,Gp]
  refine go_loop (α:=Int × (List ByteArray)) (fun a=>⟨slots 28 0 [(0,.arr ((a.2).map fun s=>[D.str s])),(3,.ptr 0 0),(5,.int .i64 (a.1))],[.box 69 [.str x.name,.arr (x.args.map Tm.d)]]⟩) (fun a=>∃ k:Nat,a.1=k∧k≤(x.args).length∧E4 (a.2) (Tm.vsL (x.args.drop k))=E4 l (Tm.vsL x.args)∧(a.2).length+Tm.AE (x.args.drop k)≤1048576) (fun a=>(x.args).length-(a.1).toNat) (0,l) ⟨0,rfl,zL _,by rw [zI],by rw [zI]; dsimp only; omega⟩ (by simp (disch:=omega) only [go_sem,Aa]) ?_
  rintro ⟨i,acc⟩ ⟨k,hi,hk,hR⟩
  dsimp only at hi hR
  have hni:i.toNat=k:=by omega
  have hni1:(i+1).toNat=k+1:=by omega
  rcases zC k (x.args).length with hlt | hge
  ·have hg:=get_at Tm.d hlt
   rw [Tm.d_eq] at hg
   obtain ⟨hR1,hR2⟩:=hR
   rw [zB hlt,Tm.vsL,T6] at hR1
   rw [zB hlt,Tm.AE] at hR2
   have hc:=ih x.args[k] (zJ hlt) acc (by omega)
   have hlen:=Pc x.args[k].vs acc
   have hvl:=Tm.vs_len x.args[k]
   simp (disch:=omega) only [go_sem,Aa,hni,hg,hc,DM]
   exact ⟨(i+1,E4 acc x.args[k].vs),⟨k+1,by dsimp only; omega,hlt,hR1,by dsimp only; omega⟩,by dsimp only; omega,by first | trivial | rfl⟩
  ·rw [zD hge,Tm.vsL] at hR
   obtain ⟨hR1,hR2⟩:=hR
   have hR1:acc=E4 l (Tm.vsL x.args):=hR1
   rw [←hR1]
   simp (disch:=omega) only [go_sem,Aa,hni]
theorem T7 (x:Tm):Zm x:=X2 x fun y hy=>T7 y
termination_by SizeOf.sizeOf x
decreasing_by exact Tm.Ar hy
theorem Wo:∀ x y:List UInt8,Op.bytesLess x y=true ↔ x<y
 | [],[]=>by simp [Op.bytesLess]
 | [],b :: y=>by simp [Op.bytesLess]
 | a :: x,[]=>by simp [Op.bytesLess]
 | a :: x,b :: y=>by
  have h:=Wo x y
  rw [List.cons_lt_cons_iff,← h]
  simp only [Op.bytesLess,yK,decide_eq_true_eq,zA,beq_iff_eq]
theorem Zn (a b:ByteArray):strLt a b=true ↔ a.toList<b.toList:=Wo _ _
theorem QP (n:ByteArray):∀ xs:List ByteArray,xs.Pairwise (fun x y=>strLt x y=true)→(Fc xs n).Pairwise fun x y=>strLt x y=true
 | [],_=>by simp [Fc]
 | x :: xs,h=>by
  rw [Fc]
  rw [zU] at h
  cases hq:strLt x n with
  | true =>
   rw [cond_true,zU]
   refine ⟨fun y hy=>?_,QP n xs h.2⟩
   rcases OZ.1 hy with hy | rfl
   ·exact h.1 y hy
   ·exact hq
  | false =>
   rw [cond_false]
   by_cases he:x=n
   ·rw [Ay he,cond_true,zU]; exact h
   ·rw [Aw he,cond_false,zU,zU]
    have hn:strLt n x=true:=by
     cases hh:strLt n x with
     | true=>rfl
     | false=>exact absurd (IT hq hh) he
    refine ⟨fun y hy=>?_,h⟩
    rcases zK.1 hy with rfl | hy
    ·exact hn
    ·exact IU hn (h.1 y hy)
theorem QQ:∀ (ns xs:List ByteArray),xs.Pairwise (fun x y=>strLt x y=true)→(E4 xs ns).Pairwise fun x y=>strLt x y=true
 | [],xs,h=>h
 | n :: ns,xs,h=>QQ ns (Fc xs n) (QP n xs h)
theorem Vn {xs:List ByteArray} (h:xs.Pairwise fun x y=>strLt x y=true):xs.Nodup :=
 h.imp fun {a b} hab e=>by rw [e,HS] at hab; cases hab
theorem X3 (l:List ByteArray):(T4 l).Pairwise fun x y=>strLt y x=false:=by
 unfold T4 srt
 rw [List.pairwise_map]
 have h:=List.pairwise_mergeSort (le:=fun x y:List UInt8=>decide (x≤y)) (fun a b c h k=>by
  rw [decide_eq_true_eq] at h k ⊢; exact List.le_trans h k) (fun a b=>by
  rw [yK,decide_eq_true_eq,decide_eq_true_eq]; exact List.le_total a b) (l.map (·.toList))
 refine h.imp fun {a b} hab=>?_
 rw [decide_eq_true_eq] at hab
 rw [xH]
 intro hh
 have:=(Zn _ _).1 hh
 rw [ByteArray.toList_eq,ByteArray.toList_eq] at this
 exact absurd this (List.not_lt.2 hab)
theorem QR (ns:List ByteArray):T4 (Du [] ns)=E4 [] ns:=by
 have h1:=QQ ns [] xZ
 have n1:=Vn h1
 have n2:(Du [] ns).Nodup:=OX List.nodup_nil
 have hp:(T4 (Du [] ns)).Perm (E4 [] ns):=(QO _).trans ((y9 n2 n1).2 fun a=>by rw [T1,Pd])
 refine xK (le:=fun x y=>strLt y x=false) (fun a b _ _ h k=>IT k h) (X3 _) (h1.imp fun h=>Tz h) hp
theorem Zo {m:Ip} {e:Env} (hm:m.ok=true) (he:InE m.size e) (a b:Tm):(match Tm.DL m e [a,b] 0 with
  | some i=>some (bif dec (i.tmod m.size=i.tdiv m.size) then (1:Int) else 0)
  | none=>none)=match a.val m e,b.val m e with
  | some u,some v=>some (bif dec (u=v) then 1 else 0)
  | _,_=>none:=by
 obtain ⟨⟨h1,_⟩,_⟩:=Ip.DK hm
 rw [Tm.DL]
 cases ha:a.val m e with
 | none=>rfl
 | some u =>
  simp only [Tm.DL]
  cases hb:b.val m e with
  | none=>rfl
  | some v =>
   obtain ⟨u0,u1⟩:=Tm.M2 hm he a u ha
   obtain ⟨v0,v1⟩:=Tm.M2 hm he b v hb
   simp only [Int.zero_mul,Int.zero_add]
   have e1:(u*m.size+v).tmod m.size=v:=by
    rw [xA (by have:=y7 u0 (show 0≤m.size by omega); omega),Int.add_comm,Int.add_mul_emod_self_right]
    exact xI v0 v1
   have e2:(u*m.size+v).tdiv m.size=u:=by
    rw [xB (by have:=y7 u0 (show 0≤m.size by omega); omega),Int.add_comm,Int.add_mul_ediv_right _ _ (by omega),Int.ediv_eq_zero_of_lt v0 v1]
    omega
   rw [e1,e2]
   have e3:(v=u)=(u=v):=propext ⟨Eq.symm,Eq.symm⟩
   rw [e3]
noncomputable def conn (op:Int) (a b:Bool):Bool:=bif dec (op=5) then a&&b else bif dec (op=6) then a || b else !a || b
noncomputable def two (op:Int):Option Bool→Option Bool→Option Bool
 | some a,some b=>some (conn op a b)
 | _,_=>none
section
variable {m:Ip} {x p q:Fm} {e:Env}
end
def AG:SC:=(.seq (.reg [⟨some 6,none,.mv (.c (.int .i64 0))⟩]) (.seq (.seq (.reg [⟨some 11,none,.mv (.t 0)⟩,⟨some 12,none,.len false (.t 11)⟩,⟨some 13,none,.mv (.c (.int .i64 0))⟩]) (.block 0 (.loop [1,1,1,0,0,0,0,0,0,0,0,1,1,1,0,0,0,0,0,0,0,0,0,0,0,0,0,0,0,0,0,0,0,0,0,0,0,0,0] (.seq (.reg [⟨some 14,none,.bin .lss false (.t 13) (.t 12)⟩]) (.seq (.cond (.t 14) .skip (.exit 0)) (.seq (.block 1 (.seq (.reg [⟨some 15,none,.mv (.t 13)⟩,⟨some 16,none,.iaddr 2 (.t 11) (.t 13)⟩,⟨some 17,none,.load true 2 (.t 16)⟩,⟨(some 8),none,(.alloc 69 [(.str ⟨#[]⟩),.nil])⟩,⟨some 7,none,.mv (.t 15)⟩,⟨none,none,(.store 2 (.t 8) (.t 17))⟩]) (.seq (.seq (.reg [⟨some 18,none,.mv (.t 7)⟩,⟨some 19,none,.mv (.t 1)⟩,⟨some 20,none,.len false (.t 19)⟩,⟨some 21,none,.bin .geq false (.t 18) (.t 20)⟩]) (.cond (.t 21) (.seq (.reg [⟨some 6,none,.mv (.c (.int .i64 1))⟩]) .ret) .skip)) (.seq (.reg [⟨some 22,none,.mv (.t 1)⟩,⟨some 23,none,.mv (.t 7)⟩,⟨some 24,none,.iaddr 2 (.t 22) (.t 23)⟩,⟨some 25,none,.load true 2 (.t 24)⟩,⟨(some 9),none,(.alloc 69 [(.str ⟨#[]⟩),.nil])⟩,⟨none,none,(.store 2 (.t 9) (.t 25))⟩]) (.seq (.reg [⟨some 26,none,.mv (.t 2)⟩,⟨some 27,none,.load true 2 (.t 8)⟩,⟨some 28,none,.load true 2 (.t 9)⟩,⟨some 29,none,.callv (.t 26) [(.t 27),(.t 28)]⟩,⟨some 10,none,.mv (.t 29)⟩]) (.seq (.reg [⟨some 30,none,.mv (.t 10)⟩,⟨some 31,none,.bin .neq false (.t 30) (.c (.int .i64 0))⟩]) (.cond (.t 31) (.seq (.reg [⟨some 32,none,.mv (.t 10)⟩,⟨some 6,none,.mv (.t 32)⟩]) .ret) .skip))))))) (.reg [⟨some 33,none,.bin .add false (.t 13) (.c (.int .i64 1))⟩,⟨some 13,none,.mv (.t 33)⟩]))))))) (.seq (.seq (.reg [⟨some 34,none,.mv (.t 0)⟩,⟨some 35,none,.len false (.t 34)⟩,⟨some 36,none,.mv (.t 1)⟩,⟨some 37,none,.len false (.t 36)⟩,⟨some 38,none,.bin .lss false (.t 35) (.t 37)⟩]) (.cond (.t 38) (.seq (.reg [⟨some 6,none,.mv (.c (.int .i64 (-(0+1))))⟩]) .ret) .skip)) (.seq (.reg [⟨some 6,none,.mv (.c (.int .i64 0))⟩]) .ret))))
theorem BI:Ad Tryz.prog 115=some ⟨39,AG,[(.tmp 6)]⟩:=by kernel_rfl
theorem AH:modes 115=⟨[],.asis,none,false⟩:=by unfold modes; rfl
def DB:SC:=(.seq (.reg [⟨some 2,none,.boxv 69 2 (.t 0)⟩,⟨some 3,none,.boxv 69 2 (.t 1)⟩,⟨some 4,none,.mv (.c (.int .i64 0))⟩]) (.seq (.dreg [[],[0],[],[2,1,0],[1,0,3,2],[3,2,1,0,4]] [⟨some 8,none,.load true 2 (.t 2)⟩,⟨some 9,none,.call 69 [(.t 8)]⟩,⟨some 10,none,.load true 2 (.t 3)⟩,⟨some 11,none,.call 69 [(.t 10)]⟩,⟨some 5,none,.mv (.t 9)⟩,⟨some 6,none,.mv (.t 11)⟩]) (.seq (.block 0 (.seq (.reg [⟨some 13,none,.mv (.t 5)⟩,⟨some 14,none,.mv (.t 13)⟩,⟨(some 15),(some (14,true)),(.mv (.t 6))⟩,⟨(some 16),(some (14,true)),(.un .not (.t 15))⟩,⟨some 17,none,.pick (.t 14) (.t 16) (.c (.bool false))⟩,⟨some 12,none,.mv (.t 17)⟩]) (.cond (.t 12) (.seq (.reg [⟨some 4,none,.mv (.c (.int .i64 (-(0+1))))⟩]) .ret) (.seq (.reg [⟨some 19,none,.mv (.t 6)⟩,⟨some 20,none,.mv (.t 19)⟩,⟨(some 21),(some (20,true)),(.mv (.t 5))⟩,⟨(some 22),(some (20,true)),(.un .not (.t 21))⟩,⟨some 23,none,.pick (.t 20) (.t 22) (.c (.bool false))⟩,⟨some 18,none,.mv (.t 23)⟩]) (.cond (.t 18) (.seq (.reg [⟨some 4,none,.mv (.c (.int .i64 1))⟩]) .ret) .skip))))) (.seq (.seq (.dreg [[],[0],[],[2],[1,0,3,2],[],[5],[6,5],[],[8],[9,8],[7,6,5,10,9,8,4,1,0,3,2],[4,1,0,3,2,11,7,6,5,10,9,8],[12,4,1,0,3,2,11,7,6,5,10,9,8],[13,12,4,1,0,3,2,11,7,6,5,10,9,8]] [⟨some 24,none,.faddr 0 (.t 2)⟩,⟨some 25,none,.load false 1 (.t 24)⟩,⟨some 26,none,.faddr 0 (.t 3)⟩,⟨some 27,none,.load false 1 (.t 26)⟩,⟨some 28,none,.call 95 [(.t 25),(.t 27)]⟩,⟨some 29,none,.faddr 1 (.t 2)⟩,⟨some 30,none,.load false 1 (.t 29)⟩,⟨some 31,none,.len false (.t 30)⟩,⟨some 32,none,.faddr 1 (.t 3)⟩,⟨some 33,none,.load false 1 (.t 32)⟩,⟨some 34,none,.len false (.t 33)⟩,⟨some 35,none,.call 92 [(.t 31),(.t 34)]⟩,⟨some 36,none,.mkrow 3 1 [(.int .i64 0)] 2 [(0,(.t 28)),(1,(.t 35))]⟩,⟨some 37,none,.call 90 [(.t 36)]⟩,⟨some 7,none,.mv (.t 37)⟩]) (.seq (.reg [⟨some 38,none,.mv (.t 7)⟩,⟨some 39,none,.bin .neq false (.t 38) (.c (.int .i64 0))⟩]) (.cond (.t 39) (.seq (.reg [⟨some 40,none,.mv (.t 7)⟩,⟨some 4,none,.mv (.t 40)⟩]) .ret) .skip))) (.seq (.reg [⟨some 41,none,.faddr 1 (.t 2)⟩,⟨some 42,none,.load false 1 (.t 41)⟩,⟨some 43,none,.faddr 1 (.t 3)⟩,⟨some 44,none,.load false 1 (.t 43)⟩,⟨some 45,none,.call 115 [(.t 42),(.t 44),(.c (.fn 91 []))]⟩,⟨some 4,none,.mv (.t 45)⟩]) .ret)))))
theorem Ft:Ad Tryz.prog 91=some ⟨46,DB,[(.tmp 4)]⟩:=by kernel_rfl
theorem C7:modes 91=⟨[],.asis,none,false⟩:=by unfold modes; rfl
theorem JN:GQ Tryz.prog 91=true:=by kernel_rfl
theorem PP (fid:Nat) (xs ys:List Tm) (hl:xs.length≤1099511627776) (hl':ys.length≤1099511627776) (hg:GQ Tryz.prog fid=true) (hm:(modes fid).hand=[]) (hE:∀ x∈xs,∀ y∈ys,E fid [x.sv,y.sv] []=some (.int .i64 (x.cmp y),[])):E 115 [.arr (xs.map Tm.d),.arr (ys.map Tm.d),.fn fid []] []=some (.int .i64 (Tm.Iz xs ys),[]):=by
 refine Ab BI AH (of_decide_eq_true rfl) ?_
 simp (disch:=omega) only [AG,go_sem,Aa]
 refine go_loop (α:=Int) (fun a=>⟨slots 39 0 [(0,.arr (xs.map Tm.d)),(1,.arr (ys.map Tm.d)),(2,.fn fid []),(11,.arr (xs.map Tm.d)),(12,.int .i64 xs.length),(13,.int .i64 a)],[]⟩) (fun a=>∃ k:Nat,a=k∧k≤(xs).length∧k≤ys.length∧Tm.Iz (xs.drop k) (ys.drop k)=Tm.Iz xs ys) (fun a=>(xs).length-(a).toNat) 0 ⟨0,rfl,zL _,zL _,by rw [zI,zI]⟩ (by simp (disch:=omega) only [go_sem,Aa]) ?_
 rintro i ⟨k,hi,hk,hR⟩
 have hni:i.toNat=k:=by omega
 have hni1:(i+1).toNat=k+1:=by omega
 rcases zC k (xs).length with hlt | hge
 ·obtain ⟨hk',hR⟩:=hR
  have hgx:=get_at Tm.d hlt
  rw [Tm.d_eq] at hgx
  rcases zC k ys.length with hlt' | hge'
  ·have hgy:=get_at Tm.d hlt'
   rw [Tm.d_eq] at hgy
   have hc:=hE xs[k] (zJ hlt) ys[k] (zJ hlt')
   rw [QG hlt hlt'] at hR
   by_cases h0:xs[k].cmp ys[k]=0
   ·rw [orZ,if_pos h0] at hR
    rw [h0] at hc
    simp (disch:=omega) only [go_sem,Aa,hni,hgx,hgy,hc,hg,hm]
    exact ⟨i+1,⟨k+1,by omega,hlt,hlt',hR⟩,by omega,by first | trivial | rfl⟩
   ·rw [orZ,if_neg h0] at hR
    simp (disch:=omega) only [go_sem,Aa,hni,hgx,hgy,hc,hg,hm,h0]
    exact hR
  ·rw [Vf hlt hge'] at hR
   simp (disch:=omega) only [go_sem,Aa,hni,hgx]
   exact hR
 ·obtain ⟨hk',hR⟩:=hR
  obtain rfl:k=xs.length:=by omega
  rcases zC xs.length ys.length with hlt' | hge'
  ·rw [Zd (zQ _) hlt'] at hR
   simp (disch:=omega) only [go_sem,Aa,hni]
   exact hR
  ·rw [QH (zQ _) hge'] at hR
   simp (disch:=omega) only [go_sem,Aa,hni]
   exact hR
abbrev X4 (f:FuncId) (x y:Tm):Prop:=x.cok=true→y.cok=true→x.nodes≤1099511627776→y.nodes≤1099511627776→E f [x.sv,y.sv] []=some (.int .i64 (x.cmp y),[])
theorem N2 (x:Tm) (ih:∀ x'∈x.args,∀ y,X4 91 x' y) (y:Tm):X4 91 x y:=by
 intro hx hy hnx hny
 have lx:=Tm.length_le x.args
 have ly:=Tm.length_le y.args
 have nx:=Tm.A3 x
 have ny:=Tm.A3 y
 have h1:=J9 x hx
 have h2:=J9 y hy
 have h3:=KE x.name y.name
 have h4:=HT x.args.length y.args.length
 have h5:=Wi (F0 x.name y.name) (Hm x.args.length y.args.length)
 rw [Tm.M0,zA] at hx hy
 have h6:=PP 91 x.args y.args (by omega) (by omega) JN (by rw [C7]) fun x' hx' y' hy'=>ih x' hx' y' (Tm.IQ hx.2 hx') (Tm.IQ hy.2 hy') (by have:=Tm.Cv hx'; omega) (by have:=Tm.Cv hy'; omega)
 rw [Tm.Zc]
 cases vx:AI x.name <;> rw [vx] at h1 <;> cases vy:AI y.name <;> rw [vy] at h2
 all_goals
  simp only [xY,xS,zM,z7,yN,z6,if_true,if_false,yQ]
  by_cases h0:orZ (F0 x.name y.name) (Hm x.args.length y.args.length)=0
  ·rw [h0] at h5
   try rw [h0]
   refine Ab Ft C7 (of_decide_eq_true rfl) ?_
   simp (disch:=omega) only [DB,go_sem,Aa,h1,h2,h3,h4,h5,h6,AK,Bh,Br,D1,AH]
   try rfl
  ·try rw [orZ.eq_1 (orZ _ _) _,if_neg h0]
   refine Ab Ft C7 (of_decide_eq_true rfl) ?_
   simp (disch:=omega) only [DB,go_sem,Aa,h0,h1,h2,h3,h4,h5,AK,Bh,Br,D1]
theorem IV (x y:Tm):X4 91 x y:=N2 x (fun x' hx' y'=>IV x' y') y
termination_by SizeOf.sizeOf x
decreasing_by exact Tm.Ar hx'
def ET:SC:=(.seq (.reg [⟨some 4,none,.mv (.c (.int .i64 0))⟩]) (.seq (.block 0 (.seq (.reg [⟨some 6,none,.mv (.t 0)⟩,⟨some 7,none,.mv (.t 1)⟩,⟨some 8,none,.bin .lss false (.t 6) (.t 7)⟩,⟨some 5,none,.mv (.t 8)⟩]) (.cond (.t 5) (.seq (.reg [⟨some 4,none,.mv (.c (.int .i64 (-(0+1))))⟩]) .ret) (.seq (.reg [⟨some 10,none,.mv (.t 0)⟩,⟨some 11,none,.mv (.t 1)⟩,⟨some 12,none,.bin .gtr false (.t 10) (.t 11)⟩,⟨some 9,none,.mv (.t 12)⟩]) (.cond (.t 9) (.seq (.reg [⟨some 4,none,.mv (.c (.int .i64 1))⟩]) .ret) .skip))))) (.seq (.reg [⟨some 4,none,.mv (.c (.int .i64 0))⟩]) .ret)))
theorem GI:Ad Tryz.prog 110=some ⟨13,ET,[(.tmp 4)]⟩:=by kernel_rfl
theorem EU:modes 110=⟨[],.asis,none,false⟩:=by unfold modes; rfl
def BM:SC:=(.seq (.reg [⟨some 2,none,.boxv 69 2 (.t 0)⟩,⟨some 3,none,.boxv 69 2 (.t 1)⟩,⟨some 4,none,.mv (.c (.int .i64 0))⟩]) (.seq (.dreg [[],[0],[1,0],[],[3],[4,3,2,1,0],[2,1,0,5,4,3],[5,4,3,2,1,0,6]] [⟨some 9,none,.faddr 0 (.t 2)⟩,⟨some 10,none,.load false 1 (.t 9)⟩,⟨some 11,none,.call 62 [(.t 10)]⟩,⟨some 12,none,.faddr 0 (.t 3)⟩,⟨some 13,none,.load false 1 (.t 12)⟩,⟨some 14,none,.call 62 [(.t 13)]⟩,⟨some 5,none,.mv (.t 11)⟩,⟨some 6,none,.mv (.t 14)⟩]) (.seq (.block 0 (.seq (.reg [⟨some 16,none,.mv (.t 5)⟩,⟨some 17,none,.mv (.t 16)⟩,⟨(some 18),(some (17,true)),(.mv (.t 6))⟩,⟨(some 19),(some (17,true)),(.un .not (.t 18))⟩,⟨some 20,none,.pick (.t 17) (.t 19) (.c (.bool false))⟩,⟨some 15,none,.mv (.t 20)⟩]) (.cond (.t 15) (.seq (.reg [⟨some 4,none,.mv (.c (.int .i64 (-(0+1))))⟩]) .ret) (.seq (.reg [⟨some 22,none,.mv (.t 5)⟩,⟨some 23,none,.un .not (.t 22)⟩,⟨some 24,none,.mv (.t 23)⟩,⟨(some 25),(some (24,true)),(.mv (.t 6))⟩,⟨some 26,none,.pick (.t 24) (.t 25) (.c (.bool false))⟩,⟨some 21,none,.mv (.t 26)⟩]) (.cond (.t 21) (.seq (.reg [⟨some 4,none,.mv (.c (.int .i64 1))⟩]) .ret) (.seq (.reg [⟨some 28,none,.faddr 0 (.t 2)⟩,⟨some 29,none,.load false 1 (.t 28)⟩,⟨some 30,none,.faddr 0 (.t 3)⟩,⟨some 31,none,.load false 1 (.t 30)⟩,⟨some 32,none,.bin .neq false (.t 29) (.t 31)⟩,⟨some 27,none,.mv (.t 32)⟩]) (.cond (.t 27) (.seq (.reg [⟨some 33,none,.faddr 0 (.t 2)⟩,⟨some 34,none,.load false 1 (.t 33)⟩,⟨some 35,none,.faddr 0 (.t 3)⟩,⟨some 36,none,.load false 1 (.t 35)⟩,⟨some 37,none,.call 110 [(.t 34),(.t 36)]⟩,⟨some 4,none,.mv (.t 37)⟩]) .ret) (.seq (.reg [⟨some 39,none,.faddr 1 (.t 2)⟩,⟨some 40,none,.load false 1 (.t 39)⟩,⟨some 41,none,.len false (.t 40)⟩,⟨some 42,none,.faddr 1 (.t 3)⟩,⟨some 43,none,.load false 1 (.t 42)⟩,⟨some 44,none,.len false (.t 43)⟩,⟨some 45,none,.bin .lss false (.t 41) (.t 44)⟩,⟨some 38,none,.mv (.t 45)⟩]) (.cond (.t 38) (.seq (.reg [⟨some 4,none,.mv (.c (.int .i64 (-(0+1))))⟩]) .ret) (.seq (.reg [⟨some 47,none,.faddr 1 (.t 2)⟩,⟨some 48,none,.load false 1 (.t 47)⟩,⟨some 49,none,.len false (.t 48)⟩,⟨some 50,none,.faddr 1 (.t 3)⟩,⟨some 51,none,.load false 1 (.t 50)⟩,⟨some 52,none,.len false (.t 51)⟩,⟨some 53,none,.bin .gtr false (.t 49) (.t 52)⟩,⟨some 46,none,.mv (.t 53)⟩]) (.cond (.t 46) (.seq (.reg [⟨some 4,none,.mv (.c (.int .i64 1))⟩]) .ret) .skip))))))))))) (.seq (.seq (.reg [⟨some 7,none,.mv (.c (.int .i64 0))⟩]) (.block 1 (.loop [0,0,1,1,0,0,0,1,0,0,0,0,0,0,0,0,0,0,0,0,0,0,0,0,0,0,0,0,0,0,0,0,0,0,0,0,0,0,0,0,0,0,0,0,0,0,0,0,0,0,0,0,0,0,0,0,0,0,0,0,0,0,0,0,0,0,0,0,0,0,0,0,0,0,0] (.seq (.seq (.reg [⟨some 54,none,.mv (.t 7)⟩,⟨some 55,none,.faddr 1 (.t 2)⟩,⟨some 56,none,.load false 1 (.t 55)⟩,⟨some 57,none,.len false (.t 56)⟩,⟨some 58,none,.bin .lss false (.t 54) (.t 57)⟩]) (.cond (.t 58) .skip (.exit 1))) (.seq (.block 2 (.seq (.dreg [[],[0],[],[1,0,2],[3,1,0,2],[],[5],[],[6,5,7],[8,6,5,7],[4,3,1,0,2,9,8,6,5,7],[10,4,3,1,0,2,9,8,6,5,7]] [⟨some 61,none,.faddr 1 (.t 2)⟩,⟨some 62,none,.load false 1 (.t 61)⟩,⟨some 63,none,.mv (.t 7)⟩,⟨some 64,none,.iaddr 2 (.t 62) (.t 63)⟩,⟨some 65,none,.load true 2 (.t 64)⟩,⟨some 66,none,.faddr 1 (.t 3)⟩,⟨some 67,none,.load false 1 (.t 66)⟩,⟨some 68,none,.mv (.t 7)⟩,⟨some 69,none,.iaddr 2 (.t 67) (.t 68)⟩,⟨some 70,none,.load true 2 (.t 69)⟩,⟨some 71,none,.call 85 [(.t 65),(.t 70)]⟩,⟨some 8,none,.mv (.t 71)⟩]) (.seq (.reg [⟨some 72,none,.mv (.t 8)⟩,⟨some 73,none,.bin .neq false (.t 72) (.c (.int .i64 0))⟩]) (.cond (.t 73) (.seq (.reg [⟨some 74,none,.mv (.t 8)⟩,⟨some 4,none,.mv (.t 74)⟩]) .ret) .skip)))) (.reg [⟨some 59,none,.mv (.t 7)⟩,⟨some 60,none,.bin .add false (.t 59) (.c (.int .i64 1))⟩,⟨some 7,none,.mv (.t 60)⟩])))))) (.seq (.reg [⟨some 4,none,.mv (.c (.int .i64 0))⟩]) .ret)))))
theorem Cm:Ad Tryz.prog 85=some ⟨75,BM,[(.tmp 4)]⟩:=by kernel_rfl
theorem AU:modes 85=⟨[],.asis,none,false⟩:=by unfold modes; rfl
theorem Zp (a b:ByteArray):E 110 [.str a,.str b] []=some (.int .i64 (F0 a b),[]):=by
 unfold F0
 cases h3:strLt a b
 ·cases h4:dec (a=b)
  ·refine Ab GI EU (of_decide_eq_true rfl) ?_
   simp (disch:=omega) only [ET,go_sem,Aa,h3,h4]
  ·refine Ab GI EU (of_decide_eq_true rfl) ?_
   simp (disch:=omega) only [ET,go_sem,Aa,h3,h4]
 ·refine Ab GI EU (of_decide_eq_true rfl) ?_
  simp (disch:=omega) only [ET,go_sem,Aa,h3]
theorem Qbf {a b:ByteArray} (h:¬ a=b):F0 a b≠0:=by
 unfold F0
 rw [Aw h]
 cases strLt a b <;> simp
theorem Qbg (a:ByteArray):F0 a a=0:=by
 unfold F0
 rw [HS,Ay rfl]; rfl
theorem RN (x:Tm) (ih:∀ x'∈x.args,∀ y,X4 85 x' y) (y:Tm):X4 85 x y:=by
 intro hx hy hnx hny
 have lx:=Tm.length_le x.args
 have ly:=Tm.length_le y.args
 have nx:=Tm.A3 x
 have ny:=Tm.A3 y
 have h1:=Gp x.name
 have h2:=Gp y.name
 have h3:=Zp x.name y.name
 rw [Tm.M0,zA] at hx hy
 rw [Tm.Zc]
 cases vx:AI x.name <;> rw [vx] at h1 <;> cases vy:AI y.name <;> rw [vy] at h2
 case' false.true =>
           refine Ab Cm AU (of_decide_eq_true rfl) ?_
           simp (disch:=omega) only [BM,go_sem,Aa,h1,h2,Ao]
 case' true.false =>
           refine Ab Cm AU (of_decide_eq_true rfl) ?_
           simp (disch:=omega) only [BM,go_sem,Aa,h1,h2,Ao]
 case' false.false=>skip
 case' true.true=>skip
 all_goals (try trivial)
 all_goals
  simp only [xY,xS,zM,z7,yN,z6,if_true,if_false,yQ]
  by_cases h0:x.name=y.name
  ·rw [show F0 x.name y.name=0 by rw [h0]; exact Qbg _]
   unfold Hm
   rcases zC x.args.length y.args.length with h4 | h4
   ·rw [Ay (by omega)]
    refine Ab Cm AU (of_decide_eq_true rfl) ?_
    simp (disch:=omega) only [BM,go_sem,Aa,h0,h1,h2,Ao]
    rfl
   ·rcases zC y.args.length x.args.length with h5 | h5
    ·rw [Aw (by omega),Ay (by omega)]
     refine Ab Cm AU (of_decide_eq_true rfl) ?_
     simp (disch:=omega) only [BM,go_sem,Aa,h0,h1,h2,Ao]
     rfl
    ·rw [Aw (by omega),Aw (by omega)]
     refine Ab Cm AU (of_decide_eq_true rfl) ?_
     simp (disch:=omega) only [BM,go_sem,Aa,h0,h1,h2,Ao]
     refine go_loop (α:=Int) (fun a=>⟨slots 75 0 [(2,.ptr 0 0),(3,.ptr 1 0),(7,.int .i64 a)],[.box 69 [.str x.name,.arr (x.args.map Tm.d)],.box 69 [.str y.name,.arr (y.args.map Tm.d)]]⟩) (fun a=>∃ k:Nat,a=k∧k≤(x.args).length∧Tm.Iz (x.args.drop k) (y.args.drop k)=Tm.Iz x.args y.args) (fun a=>(x.args).length-(a).toNat) 0 ⟨0,rfl,zL _,by rw [zI,zI]⟩ (by simp (disch:=omega) only [go_sem,Aa,h0]) ?_
     rintro i ⟨k,hi,hk,hR⟩
     have hni:i.toNat=k:=by omega
     have hni1:(i+1).toNat=k+1:=by omega
     rcases zC k (x.args).length with hlt | hge
     ·have hlt':k<y.args.length:=by omega
      have hgx:=get_at Tm.d hlt
      rw [Tm.d_eq] at hgx
      have hgy:=get_at Tm.d hlt'
      rw [Tm.d_eq] at hgy
      have hc:=ih x.args[k] (zJ hlt) y.args[k] (Tm.IQ hx.2 (zJ hlt)) (Tm.IQ hy.2 (zJ hlt')) (by have:=Tm.DH x.args k hlt; omega) (by have:=Tm.DH y.args k hlt'; omega)
      rw [QG hlt hlt'] at hR
      by_cases hz:x.args[k].cmp y.args[k]=0
      ·rw [orZ,if_pos hz] at hR
       rw [hz] at hc
       simp (disch:=omega) only [go_sem,Aa,hni,hgx,hgy,hc,AU]
       exact ⟨i+1,⟨k+1,by omega,hlt,hR⟩,by omega,by first | trivial | rfl | simp only [h0,and_self]⟩
      ·rw [orZ,if_neg hz] at hR
       simp (disch:=omega) only [go_sem,Aa,hni,hgx,hgy,hc,hz,AU]
       exact hR
     ·rw [QH hge (by omega)] at hR
      simp (disch:=omega) only [go_sem,Aa,hni]
      exact hR
  ·have h6:=Qbf h0
   rw [show orZ (orZ (F0 x.name y.name) (Hm x.args.length y.args.length)) (Tm.Iz x.args y.args)=F0 x.name y.name by unfold orZ; rw [if_neg h6,if_neg h6]]
   refine Ab Cm AU (of_decide_eq_true rfl) ?_
   simp (disch:=omega) only [BM,go_sem,Aa,h0,h1,h2,h3,Ao,EU]
theorem Nr (x y:Tm):X4 85 x y:=RN x (fun x' hx' y'=>Nr x' y') y
termination_by SizeOf.sizeOf x
decreasing_by exact Tm.Ar hx'
noncomputable def X5 (xs:List Lt) (k:Nat):Bool:=match xs[k]? with
 | none=>true
 | some x=>x.atom.atom&&(match k with
  | 0=>true
  | j+1=>match xs[j]? with
   | none=>true
   | some y=>decide (y.cmp x < 0))
noncomputable def I1 (xs:List Lt):Nat→Bool
 | 0=>true
 | k+1=>I1 xs k&&X5 xs k
theorem X6 {xs:List Lt} {k n:Nat} (h:I1 xs k=false) (hn:k≤n):I1 xs n=false:=by
 induction n with
 | zero =>
      obtain rfl:k=0:=by omega
      exact h
 | succ n ih =>
  rcases zC n k with h1 | h1
  ·obtain rfl:k=n+1:=by omega
   exact h
  ·rw [I1,ih h1]; rfl
theorem Hr {xs:List Lt} (h:0<xs.length):X5 xs 0=xs[0].atom.atom:=by
 unfold X5
 rw [zP h]
 simp
theorem EK {xs:List Lt} {j:Nat} (h:j+1<xs.length):X5 xs (j+1)=(xs[j+1].atom.atom&&decide (xs[j].cmp xs[j+1]<0)):=by
 unfold X5
 rw [zP h]
 simp only [zP (show j<xs.length by omega)]
theorem JB {xs:List Lt} {k j:Nat} (h:I1 xs k=true) (hj:j<k) (hl:j<xs.length):xs[j].atom.atom=true:=by
 induction k with
 | zero=>omega
 | succ k ih =>
  rw [I1,zA] at h
  rcases zC j k with h1 | h1
  ·exact ih h.1 h1
  ·obtain rfl:j=k:=by omega
   cases j with
   | zero=>rw [←Hr hl]; exact h.2
   | succ j =>
    have:=h.2
    rw [EK hl,zA] at this
    exact this.1
noncomputable def Cl.ok (x:Cl):Bool:=decide (x.lits.length≤8)&&I1 x.lits x.lits.length
theorem Cl.RO {x:Cl} {k:Nat} (h:I1 x.lits k=true) (h':X5 x.lits k=false) (hk:k<x.lits.length):x.ok=false:=by
 have:I1 x.lits x.lits.length=false:=X6 (k:=k+1) (by rw [I1,h,h']; rfl) (by omega)
 unfold Cl.ok
 rw [this,z7]
def Cl.tame (x:Cl):Prop:=x.lits.length≤1099511627776∧∀ y∈x.lits,y.atom.nodes≤1099511627776
theorem Cl.JC {x:Cl} (h:x.tame) {k:Nat} (hk:k<x.lits.length):x.lits[k].atom.nodes≤1099511627776:=h.2 _ (zJ hk)
def IW:SC:=(.seq (.reg [⟨some 2,none,.mv (.c (.int .i64 0))⟩]) (.seq (.seq (.reg [⟨some 3,none,.mv (.t 0)⟩]) (.cond (.t 3) (.seq (.reg [⟨some 2,none,.mv (.c (.int .i64 1))⟩]) .ret) .skip)) (.seq (.reg [⟨some 2,none,.mv (.c (.int .i64 0))⟩]) .ret)))
theorem Ns:Ad Tryz.prog 93=some ⟨4,IW,[(.tmp 2)]⟩:=by kernel_rfl
theorem IX:modes 93=⟨[],.asis,none,false⟩:=by unfold modes; rfl
def Ew:SC:=(.seq (.reg [⟨some 2,none,.boxv 71 3 (.t 0)⟩,⟨some 3,none,.boxv 71 3 (.t 1)⟩,⟨some 4,none,.mv (.c (.int .i64 0))⟩]) (.seq (.dreg [[],[0],[],[2],[1,0,3,2],[],[5],[6,5,4,1,0,3,2],[],[8],[9,8,7,6,5,4,1,0,3,2],[7,6,5,4,1,0,3,2,10,9,8],[4,1,0,3,2,11,7,6,5,10,9,8],[12,4,1,0,3,2,11,7,6,5,10,9,8],[13,12,4,1,0,3,2,11,7,6,5,10,9,8]] [⟨some 5,none,.faddr 1 (.t 2)⟩,⟨some 6,none,.load true 2 (.t 5)⟩,⟨some 7,none,.faddr 1 (.t 3)⟩,⟨some 8,none,.load true 2 (.t 7)⟩,⟨some 9,none,.call 91 [(.t 6),(.t 8)]⟩,⟨some 10,none,.faddr 0 (.t 2)⟩,⟨some 11,none,.load false 1 (.t 10)⟩,⟨some 12,none,.call 93 [(.t 11)]⟩,⟨some 13,none,.faddr 0 (.t 3)⟩,⟨some 14,none,.load false 1 (.t 13)⟩,⟨some 15,none,.call 93 [(.t 14)]⟩,⟨some 16,none,.call 92 [(.t 12),(.t 15)]⟩,⟨some 17,none,.mkrow 3 1 [(.int .i64 0)] 2 [(0,(.t 9)),(1,(.t 16))]⟩,⟨some 18,none,.call 90 [(.t 17)]⟩,⟨some 4,none,.mv (.t 18)⟩]) .ret))
theorem HU:Ad Tryz.prog 67=some ⟨19,Ew,[(.tmp 4)]⟩:=by kernel_rfl
theorem BC:modes 67=⟨[],.asis,none,false⟩:=by unfold modes; rfl
def Ex:SC:=(.seq (.reg [⟨some 2,none,.boxv 71 3 (.t 0)⟩,⟨some 3,none,.boxv 71 3 (.t 1)⟩,⟨some 4,none,.mv (.c (.int .i64 0))⟩]) (.seq (.reg [⟨some 6,none,.faddr 1 (.t 2)⟩,⟨some 7,none,.load true 2 (.t 6)⟩,⟨some 8,none,.faddr 1 (.t 3)⟩,⟨some 9,none,.load true 2 (.t 8)⟩,⟨some 10,none,.call 85 [(.t 7),(.t 9)]⟩,⟨some 5,none,.mv (.t 10)⟩]) (.seq (.block 0 (.seq (.reg [⟨some 12,none,.mv (.t 5)⟩,⟨some 13,none,.bin .neq false (.t 12) (.c (.int .i64 0))⟩,⟨some 11,none,.mv (.t 13)⟩]) (.cond (.t 11) (.seq (.reg [⟨some 14,none,.mv (.t 5)⟩,⟨some 4,none,.mv (.t 14)⟩]) .ret) (.seq (.reg [⟨some 16,none,.faddr 0 (.t 2)⟩,⟨some 17,none,.load false 1 (.t 16)⟩,⟨some 18,none,.un .not (.t 17)⟩,⟨some 19,none,.mv (.t 18)⟩,⟨(some 20),(some (19,true)),(.faddr 0 (.t 3))⟩,⟨(some 21),(some (19,true)),(.load false 1 (.t 20))⟩,⟨some 22,none,.pick (.t 19) (.t 21) (.c (.bool false))⟩,⟨some 15,none,.mv (.t 22)⟩]) (.cond (.t 15) (.seq (.reg [⟨some 4,none,.mv (.c (.int .i64 (-(0+1))))⟩]) .ret) (.seq (.reg [⟨some 24,none,.faddr 0 (.t 2)⟩,⟨some 25,none,.load false 1 (.t 24)⟩,⟨some 26,none,.mv (.t 25)⟩,⟨(some 27),(some (26,true)),(.faddr 0 (.t 3))⟩,⟨(some 28),(some (26,true)),(.load false 1 (.t 27))⟩,⟨(some 29),(some (26,true)),(.un .not (.t 28))⟩,⟨some 30,none,.pick (.t 26) (.t 29) (.c (.bool false))⟩,⟨some 23,none,.mv (.t 30)⟩]) (.cond (.t 23) (.seq (.reg [⟨some 4,none,.mv (.c (.int .i64 1))⟩]) .ret) .skip))))))) (.seq (.reg [⟨some 4,none,.mv (.c (.int .i64 0))⟩]) .ret))))
theorem Gw:Ad Tryz.prog 61=some ⟨31,Ex,[(.tmp 4)]⟩:=by kernel_rfl
theorem Ca:modes 61=⟨[],.asis,none,false⟩:=by unfold modes; rfl
def E8:SC:=(.seq (.reg [⟨some 1,none,.boxv 71 3 (.t 0)⟩,⟨some 2,none,.mv (.c (.bool false))⟩]) (.seq (.reg [⟨some 3,none,.faddr 1 (.t 1)⟩,⟨some 4,none,.load true 2 (.t 3)⟩,⟨some 5,none,.call 89 [(.t 4)]⟩,⟨some 2,none,.mv (.t 5)⟩]) .ret))
theorem I3:Ad Tryz.prog 66=some ⟨6,E8,[(.tmp 2)]⟩:=by kernel_rfl
theorem BJ:modes 66=⟨[],.asis,none,false⟩:=by unfold modes; rfl
def Fd:SC:=(.seq (.reg [⟨some 1,none,.boxv 47 1 (.t 0)⟩,⟨some 2,none,.mv (.c (.bool false))⟩]) (.seq (.seq (.reg [⟨some 5,none,.faddr 0 (.t 1)⟩,⟨some 6,none,.load false 1 (.t 5)⟩,⟨some 7,none,.len false (.t 6)⟩,⟨some 8,none,.mv (.c (.int .i64 0))⟩]) (.block 0 (.loop [0,1,0,0,0,0,1,1,1,0,0,0,0,0,0,0,0,0,0,0,0,0,0,0,0,0,0,0,0,0,0,0,0,0,0,0] (.seq (.reg [⟨some 9,none,.bin .lss false (.t 8) (.t 7)⟩]) (.seq (.cond (.t 9) .skip (.exit 0)) (.seq (.block 1 (.seq (.reg [⟨some 10,none,.mv (.t 8)⟩,⟨some 11,none,.iaddr 3 (.t 6) (.t 8)⟩,⟨some 12,none,.load true 3 (.t 11)⟩,⟨(some 4),none,(.alloc 71 [(.bool false),(.str ⟨#[]⟩),.nil])⟩,⟨some 3,none,.mv (.t 10)⟩,⟨none,none,(.store 3 (.t 4) (.t 12))⟩]) (.seq (.dreg [[],[0],[1,0],[2,1,0],[3,2,1,0],[4,3,2,1,0],[5,4,3,2,1,0],[6,5,4,3,2,1,0],[7,6,5,4,3,2,1,0],[6,5,4,3,2,1,0],[9,6,5,4,3,2,1,0],[8,7,6,5,4,3,2,1,0,10,9],[11,8,7,6,5,4,3,2,1,0,10,9],[6,5,4,3,2,1,0],[12,11,8,7,6,5,4,3,2,1,0,10,9,13],[14,12,11,8,7,6,5,4,3,2,1,0,10,9,13],[6,5,4,3,2,1,0,15,14,12,11,8,7,10,9,13],[3,2,1,0,16,6,5,4,15,14,12,11,8,7,10,9,13]] [⟨some 13,none,.load true 3 (.t 4)⟩,⟨some 14,none,.call 66 [(.t 13)]⟩,⟨some 15,none,.un .not (.t 14)⟩,⟨some 16,none,.mv (.t 15)⟩,⟨(some 17),(some (16,false)),(.mv (.t 3))⟩,⟨(some 18),(some (16,false)),(.bin .gtr false (.t 17) (.c (.int .i64 0)))⟩,⟨(some 19),(some (16,false)),(.mv (.t 18))⟩,⟨(some 20),(some (19,true)),(.faddr 0 (.t 1))⟩,⟨(some 21),(some (19,true)),(.load false 1 (.t 20))⟩,⟨(some 22),(some (19,true)),(.mv (.t 3))⟩,⟨(some 23),(some (19,true)),(.bin .sub false (.t 22) (.c (.int .i64 1)))⟩,⟨(some 24),(some (19,true)),(.iaddr 3 (.t 21) (.t 23))⟩,⟨(some 25),(some (19,true)),(.load true 3 (.t 24))⟩,⟨(some 26),(some (19,true)),(.load true 3 (.t 4))⟩,⟨(some 27),(some (19,true)),(.call 67 [(.t 25),(.t 26)])⟩,⟨(some 28),(some (19,true)),(.bin .geq false (.t 27) (.c (.int .i64 0)))⟩,⟨(some 29),(some (16,false)),(.pick (.t 19) (.t 28) (.c (.bool false)))⟩,⟨some 30,none,.pick (.t 16) (.c (.bool true)) (.t 29)⟩]) (.cond (.t 30) (.seq (.reg [⟨some 2,none,.mv (.c (.bool false))⟩]) .ret) .skip)))) (.reg [⟨some 31,none,.bin .add false (.t 8) (.c (.int .i64 1))⟩,⟨some 8,none,.mv (.t 31)⟩]))))))) (.seq (.reg [⟨some 32,none,.faddr 0 (.t 1)⟩,⟨some 33,none,.load false 1 (.t 32)⟩,⟨some 34,none,.len false (.t 33)⟩,⟨some 35,none,.bin .leq false (.t 34) (.c (.int .i64 8))⟩,⟨some 2,none,.mv (.t 35)⟩]) .ret)))
theorem IY:Ad Tryz.prog 43=some ⟨36,Fd,[(.tmp 2)]⟩:=by kernel_rfl
theorem Fe:modes 43=⟨[],.asis,none,false⟩:=by unfold modes; rfl
def GJ:SC:=(.seq (.reg [⟨some 1,none,.boxv 47 1 (.t 0)⟩,⟨some 2,none,.mv (.c (.bool false))⟩]) (.seq (.seq (.reg [⟨some 4,none,.faddr 0 (.t 1)⟩,⟨some 5,none,.load false 1 (.t 4)⟩,⟨some 6,none,.len false (.t 5)⟩,⟨some 7,none,.bin .gtr false (.t 6) (.c (.int .i64 8))⟩]) (.cond (.t 7) (.seq (.reg [⟨some 2,none,.mv (.c (.bool false))⟩]) .ret) .skip)) (.seq (.seq (.reg [⟨some 3,none,.mv (.c (.int .i64 0))⟩]) (.block 0 (.loop [0,1,0,1,0,0,0,0,0,0,0,0,0,0,0,0,0,0,0,0,0,0,0,0,0,0,0,0,0,0,0,0,0,0,0,0,0,0,0,0,0,0] (.seq (.seq (.reg [⟨some 8,none,.mv (.t 3)⟩,⟨some 9,none,.faddr 0 (.t 1)⟩,⟨some 10,none,.load false 1 (.t 9)⟩,⟨some 11,none,.len false (.t 10)⟩,⟨some 12,none,.bin .lss false (.t 8) (.t 11)⟩]) (.cond (.t 12) .skip (.exit 0))) (.seq (.block 1 (.seq (.dreg [[],[0],[],[1,0,2],[3,1,0,2],[4,3,1,0,2],[5,4,3,1,0,2],[6,5,4,3,1,0,2],[7,6,5,4,3,1,0,2],[8,7,6,5,4,3,1,0,2],[9,8,7,6,5,4,3,1,0,2],[10,9,8,7,6,5,4,3,1,0,2],[11,10,9,8,7,6,5,4,3,1,0,2],[12,11,10,9,8,7,6,5,4,3,1,0,2],[11,10,9,8,7,6,5,4,3,1,0,2],[14,11,10,9,8,7,6,5,4,3,1,0,2],[13,12,11,10,9,8,7,6,5,4,3,1,0,2,15,14],[16,13,12,11,10,9,8,7,6,5,4,3,1,0,2,15,14],[11,10,9,8,7,6,5,4,3,1,0,2],[18,11,10,9,8,7,6,5,4,3,1,0,2],[11,10,9,8,7,6,5,4,3,1,0,2],[19,18,11,10,9,8,7,6,5,4,3,1,0,2,20],[21,19,18,11,10,9,8,7,6,5,4,3,1,0,2,20],[17,16,13,12,11,10,9,8,7,6,5,4,3,1,0,2,15,14,22,21,19,18,20],[23,17,16,13,12,11,10,9,8,7,6,5,4,3,1,0,2,15,14,22,21,19,18,20],[11,10,9,8,7,6,5,4,3,1,0,2,24,23,17,16,13,12,15,14,22,21,19,18,20],[8,7,6,5,4,3,1,0,2,25,11,10,9,24,23,17,16,13,12,15,14,22,21,19,18,20]] [⟨some 15,none,.faddr 0 (.t 1)⟩,⟨some 16,none,.load false 1 (.t 15)⟩,⟨some 17,none,.mv (.t 3)⟩,⟨some 18,none,.iaddr 3 (.t 16) (.t 17)⟩,⟨some 19,none,.faddr 1 (.t 18)⟩,⟨some 20,none,.load true 2 (.t 19)⟩,⟨some 21,none,.call 60 [(.t 20)]⟩,⟨some 22,none,.un .not (.t 21)⟩,⟨some 23,none,.mv (.t 22)⟩,⟨(some 24),(some (23,false)),(.mv (.t 3))⟩,⟨(some 25),(some (23,false)),(.bin .gtr false (.t 24) (.c (.int .i64 0)))⟩,⟨(some 26),(some (23,false)),(.mv (.t 25))⟩,⟨(some 27),(some (26,true)),(.faddr 0 (.t 1))⟩,⟨(some 28),(some (26,true)),(.load false 1 (.t 27))⟩,⟨(some 29),(some (26,true)),(.mv (.t 3))⟩,⟨(some 30),(some (26,true)),(.bin .sub false (.t 29) (.c (.int .i64 1)))⟩,⟨(some 31),(some (26,true)),(.iaddr 3 (.t 28) (.t 30))⟩,⟨(some 32),(some (26,true)),(.load true 3 (.t 31))⟩,⟨(some 33),(some (26,true)),(.faddr 0 (.t 1))⟩,⟨(some 34),(some (26,true)),(.load false 1 (.t 33))⟩,⟨(some 35),(some (26,true)),(.mv (.t 3))⟩,⟨(some 36),(some (26,true)),(.iaddr 3 (.t 34) (.t 35))⟩,⟨(some 37),(some (26,true)),(.load true 3 (.t 36))⟩,⟨(some 38),(some (26,true)),(.call 61 [(.t 32),(.t 37)])⟩,⟨(some 39),(some (26,true)),(.bin .geq false (.t 38) (.c (.int .i64 0)))⟩,⟨(some 40),(some (23,false)),(.pick (.t 26) (.t 39) (.c (.bool false)))⟩,⟨some 41,none,.pick (.t 23) (.c (.bool true)) (.t 40)⟩]) (.cond (.t 41) (.seq (.reg [⟨some 2,none,.mv (.c (.bool false))⟩]) .ret) .skip))) (.reg [⟨some 13,none,.mv (.t 3)⟩,⟨some 14,none,.bin .add false (.t 13) (.c (.int .i64 1))⟩,⟨some 3,none,.mv (.t 14)⟩])))))) (.seq (.reg [⟨some 2,none,.mv (.c (.bool true))⟩]) .ret))))
theorem Ke:Ad Tryz.prog 36=some ⟨42,GJ,[(.tmp 2)]⟩:=by kernel_rfl
theorem Da:modes 36=⟨[],.asis,none,false⟩:=by unfold modes; rfl
theorem Zq (b:Bool):E 93 [.bool b] []=some (.int .i64 (Nq b),[]):=by
 cases b
 ·refine Ab Ns IX (of_decide_eq_true rfl) ?_
  simp (disch:=omega) only [IW,go_sem,Aa]
  rfl
 ·refine Ab Ns IX (of_decide_eq_true rfl) ?_
  simp (disch:=omega) only [IW,go_sem,Aa]
  rfl
theorem L6 (x y:Lt) (hx:x.atom.cok=true) (hy:y.atom.cok=true) (hnx:x.atom.nodes≤1099511627776) (hny:y.atom.nodes≤1099511627776):E 67 [x.sv,y.sv] []=some (.int .i64 (x.cmp y),[]):=by
 have h1:=IV x.atom y.atom hx hy hnx hny
 have h2:=Zq x.pos
 have h3:=Zq y.pos
 have h4:=HT (Nq x.pos) (Nq y.pos)
 have h5:=Wi (x.atom.cmp y.atom) (Hm (Nq x.pos) (Nq y.pos))
 unfold Lt.cmp
 refine Ab HU BC (of_decide_eq_true rfl) ?_
 simp (disch:=omega) only [Ew,go_sem,Aa,h1,h2,h3,h4,h5,C7,IX,Br,D1]
theorem RP (x y:Lt) (hx:x.atom.cok=true) (hy:y.atom.cok=true) (hnx:x.atom.nodes≤1099511627776) (hny:y.atom.nodes≤1099511627776):E 61 [x.sv,y.sv] []=some (.int .i64 (x.cmp y),[]):=by
 have h1:=Nr x.atom y.atom hx hy hnx hny
 unfold Lt.cmp
 by_cases h0:x.atom.cmp y.atom=0
 ·rw [h0] at h1 ⊢
  cases hp:x.pos <;> cases hq:y.pos
  all_goals
   simp only [Nq,Hm,orZ,if_true,if_false,yQ]
   refine Ab Gw Ca (of_decide_eq_true rfl) ?_
   simp (disch:=omega) only [Ex,go_sem,Aa,h1,hp,hq,AU]
 ·rw [orZ,if_neg h0]
  refine Ab Gw Ca (of_decide_eq_true rfl) ?_
  simp (disch:=omega) only [Ex,go_sem,Aa,h1,h0,AU]
theorem M3 (x:Lt) (hn:x.atom.nodes≤1099511627776):E 66 [x.sv] []=some (.bool x.atom.atom,[]):=by
 have h:=PO x.atom hn
 refine Ab I3 BJ (of_decide_eq_true rfl) ?_
 simp (disch:=omega) only [E8,go_sem,Aa,h,Bz]
theorem N3 (x:Cl) (hn:x.tame):E 43 [x.sv] []=some (.bool x.ok,[]):=by
 have hl:=hn.1
 refine Ab IY Fe (of_decide_eq_true rfl) ?_
 simp (disch:=omega) only [Fd,go_sem,Aa]
 refine go_loop (α:=Int) (fun a=>⟨slots 36 0 [(1,.ptr 0 0),(6,.arr (x.lits.map Lt.d)),(7,.int .i64 x.lits.length),(8,.int .i64 a)],[.box 47 [.arr (x.lits.map Lt.d)]]⟩) (fun a=>∃ k:Nat,a=k∧k≤(x.lits).length∧I1 x.lits k=true) (fun a=>(x.lits).length-(a).toNat) 0 ⟨0,rfl,zL _,by rw [I1]⟩ (by simp (disch:=omega) only [go_sem,Aa]) ?_
 rintro i ⟨k,hi,hk,hR⟩
 have hni:i.toNat=k:=by omega
 have hni1:(i+1).toNat=k+1:=by omega
 rcases zC k (x.lits).length with hlt | hge
 ·have hg:=get_at Lt.d hlt
  rw [Lt.d_eq] at hg
  have hv:=M3 x.lits[k] (Cl.JC hn hlt)
  cases ha:x.lits[k].atom.atom <;> rw [ha] at hv
  ·have e:x.ok=false:=Cl.RO hR (by cases k with | zero=>rw [Hr hlt,ha] | succ j=>rw [EK hlt,ha,z6]) hlt
   rw [e]
   simp (disch:=omega) only [go_sem,Aa,hni,hg,hv,BJ,BC]
  ·cases k with
   | zero =>
    obtain rfl:i=0:=hi
    simp (disch:=omega) only [go_sem,Aa,hni,hg,hv,BJ,BC]
    exact ⟨1,⟨1,rfl,hlt,by rw [I1,hR,Hr hlt,ha]; rfl⟩,by omega,by first | trivial | rfl⟩
   | succ j =>
    have hj:j<x.lits.length:=by omega
    have hg2:=get_at Lt.d hj
    rw [Lt.d_eq] at hg2
    have hni2:(i-1).toNat=j:=by omega
    have hc:=L6 x.lits[j] x.lits[j+1] (Tm.Hn (JB hR (by omega) (by omega))) (Tm.Hn ha) (Cl.JC hn hj) (Cl.JC hn hlt)
    rcases xN (x.lits[j].cmp x.lits[j+1]) 0 with hq | hq
    ·simp (disch:=omega) only [go_sem,Aa,hni,hg,hv,BJ,BC,hni2,hg2,hc]
     exact ⟨i+1,⟨j+1+1,by omega,hlt,by rw [I1,hR,EK hlt,ha,decide_eq_true hq]; rfl⟩,by omega,by first | trivial | rfl⟩
    ·have e:x.ok=false:=Cl.RO hR (by rw [EK hlt,ha,decide_eq_false (by omega)]; rfl) hlt
     rw [e]
     simp (disch:=omega) only [go_sem,Aa,hni,hg,hv,BJ,BC,hni2,hg2,hc]
 ·obtain rfl:k=x.lits.length:=by omega
  simp (disch:=omega) only [go_sem,Aa,hni]
  unfold Cl.ok
  rw [hR,zM,Kw]
  exact decide_eq_decide.2 (by omega)
theorem T8 (x:Cl) (hn:x.tame):E 36 [x.sv] []=some (.bool x.ok,[]):=by
 have hl:=hn.1
 rcases zC 8 x.lits.length with h8 | h8
 ·have e:x.ok=false:=by unfold Cl.ok; rw [decide_eq_false (by omega),z6]
  rw [e]
  refine Ab Ke Da (of_decide_eq_true rfl) ?_
  simp (disch:=omega) only [GJ,go_sem,Aa]
 refine Ab Ke Da (of_decide_eq_true rfl) ?_
 simp (disch:=omega) only [GJ,go_sem,Aa]
 refine go_loop (α:=Int) (fun a=>⟨slots 42 0 [(1,.ptr 0 0),(3,.int .i64 a)],[.box 47 [.arr (x.lits.map Lt.d)]]⟩) (fun a=>∃ k:Nat,a=k∧k≤(x.lits).length∧I1 x.lits k=true) (fun a=>(x.lits).length-(a).toNat) 0 ⟨0,rfl,zL _,by rw [I1]⟩ (by simp (disch:=omega) only [go_sem,Aa]) ?_
 rintro i ⟨k,hi,hk,hR⟩
 have hni:i.toNat=k:=by omega
 have hni1:(i+1).toNat=k+1:=by omega
 rcases zC k (x.lits).length with hlt | hge
 ·have hg:=get_at Lt.d hlt
  rw [Lt.d_eq] at hg
  have hv:=Zb x.lits[k].atom (Cl.JC hn hlt)
  cases ha:x.lits[k].atom.atom <;> rw [ha] at hv
  ·have e:x.ok=false:=Cl.RO hR (by cases k with | zero=>rw [Hr hlt,ha] | succ j=>rw [EK hlt,ha,z6]) hlt
   rw [e]
   simp (disch:=omega) only [go_sem,Aa,hni,hg,hv,BA,Ca]
  ·cases k with
   | zero =>
    obtain rfl:i=0:=hi
    simp (disch:=omega) only [go_sem,Aa,hni,hg,hv,BA,Ca]
    exact ⟨1,⟨1,rfl,hlt,by rw [I1,hR,Hr hlt,ha]; rfl⟩,by omega,by first | trivial | rfl⟩
   | succ j =>
    have hj:j<x.lits.length:=by omega
    have hg2:=get_at Lt.d hj
    rw [Lt.d_eq] at hg2
    have hni2:(i-1).toNat=j:=by omega
    have hc:=RP x.lits[j] x.lits[j+1] (Tm.Hn (JB hR (by omega) (by omega))) (Tm.Hn ha) (Cl.JC hn hj) (Cl.JC hn hlt)
    rcases xN (x.lits[j].cmp x.lits[j+1]) 0 with hq | hq
    ·simp (disch:=omega) only [go_sem,Aa,hni,hg,hv,BA,Ca,hni2,hg2,hc]
     exact ⟨i+1,⟨j+1+1,by omega,hlt,by rw [I1,hR,EK hlt,ha,decide_eq_true hq]; rfl⟩,by omega,by first | trivial | rfl⟩
    ·have e:x.ok=false:=Cl.RO hR (by rw [EK hlt,ha,decide_eq_false (by omega)]; rfl) hlt
     rw [e]
     simp (disch:=omega) only [go_sem,Aa,hni,hg,hv,BA,Ca,hni2,hg2,hc]
 ·obtain rfl:k=x.lits.length:=by omega
  simp (disch:=omega) only [go_sem,Aa,hni]
  unfold Cl.ok
  rw [hR,decide_eq_true h8]; rfl
noncomputable def Lt.vsL:List Lt→List ByteArray
 | []=>[]
 | x :: xs=>x.atom.vs++Lt.vsL xs
theorem Cl.KG {x:Cl} (h:x.ok=true):x.lits.length≤8:=by
 unfold Cl.ok at h
 rw [zA,decide_eq_true_eq] at h
 exact h.1
theorem Cl.Gx {x:Cl} (h:x.ok=true) {k:Nat} (hk:k<x.lits.length):x.lits[k].atom.atom=true:=by
 unfold Cl.ok at h
 rw [zA,decide_eq_true_eq] at h
 exact JB h.2 hk hk
theorem Cl.Zr {x:Cl} (h:x.ok=true):∀ y∈x.lits,y.atom.atom=true:=fun y hy=>by
 obtain ⟨k,hk,rfl⟩:=zW hy
 exact Cl.Gx h hk
theorem Cl.vs_len {c:Cl} (hc:c.ok=true):(Lt.vsL c.lits).length≤240:=by
 have hl:=Cl.KG hc
 have key:∀ xs:List Lt,(∀ x∈xs,x.atom.nodes≤30)→(Lt.vsL xs).length≤30*xs.length:=by
  intro xs
  induction xs with
  | nil=>intro _; exact zQ _
  | cons x xs ih =>
   intro h
   have h1:=h x (by simp)
   have h2:=ih fun y hy=>h y (by simp [hy])
   have h3:=Tm.vs_len x.atom
   rw [Lt.vsL,yR,zE]; omega
 have:=key c.lits fun x hx=>by
  obtain ⟨k,hk,rfl⟩:=zW hx
  exact Tm.FU (Cl.Gx hc hk)
 omega
def IZ:SC:=(.seq (.reg [⟨some 1,none,.boxv 47 1 (.t 0)⟩,⟨some 2,none,.mv (.c .nil)⟩]) (.seq (.reg [⟨(some 6),none,(.mkrow 9 1 [(.str ⟨#[]⟩)] 0 [])⟩,⟨some 3,none,.mv (.t 6)⟩]) (.seq (.seq (.reg [⟨some 7,none,.faddr 0 (.t 1)⟩,⟨some 8,none,.load false 1 (.t 7)⟩,⟨some 9,none,.len false (.t 8)⟩,⟨some 10,none,.mv (.c (.int .i64 0))⟩]) (.block 0 (.loop [0,0,0,1,0,0,0,0,1,1,1,0,0,0,0,0,0,0,0,0] (.seq (.reg [⟨some 11,none,.bin .lss false (.t 10) (.t 9)⟩]) (.seq (.cond (.t 11) .skip (.exit 0)) (.seq (.block 1 (.seq (.reg [⟨some 12,none,.iaddr 3 (.t 8) (.t 10)⟩,⟨some 13,none,.load true 3 (.t 12)⟩,⟨(some 5),none,(.alloc 71 [(.bool false),(.str ⟨#[]⟩),.nil])⟩,⟨none,none,(.store 3 (.t 5) (.t 13))⟩]) (.reg [⟨some 14,none,.mv (.t 3)⟩,⟨some 15,none,.faddr 1 (.t 5)⟩,⟨some 16,none,.load true 2 (.t 15)⟩,⟨some 17,none,.call 74 [(.t 14),(.t 16)]⟩,⟨some 3,none,.mv (.t 17)⟩]))) (.reg [⟨some 18,none,.bin .add false (.t 10) (.c (.int .i64 1))⟩,⟨some 10,none,.mv (.t 18)⟩]))))))) (.seq (.reg [⟨some 19,none,.mv (.t 3)⟩,⟨some 2,none,.mv (.t 19)⟩]) .ret))))
theorem Pe:Ad Tryz.prog 49=some ⟨20,IZ,[(.tmp 2)]⟩:=by kernel_rfl
theorem FV:modes 49=⟨[],.asis,none,false⟩:=by unfold modes; rfl
theorem QS (c:Cl) (hc:c.ok=true):E 49 [c.sv] []=some (.ref 0,[.row 9 1 ((Du [] (Lt.vsL c.lits)).map fun s=>[OT.str s])]):=by
 have hl:=Cl.KG hc
 refine Ab Pe FV (of_decide_eq_true rfl) ?_
 simp (disch:=omega) only [IZ,go_sem,Aa]
 refine go_loop (α:=Int × (List ByteArray)) (fun a=>⟨slots 20 0 [(3,.ref 0),(8,.arr (c.lits.map Lt.d)),(9,.int .i64 c.lits.length),(10,.int .i64 (a.1))],[.row 9 1 ((a.2).map fun s=>[OT.str s])]⟩) (fun a=>∃ k:Nat,a.1=k∧k≤(c.lits).length∧Du (a.2) (Lt.vsL (c.lits.drop k))=Du [] (Lt.vsL c.lits)∧(a.2).length≤30*k) (fun a=>(c.lits).length-(a.1).toNat) (0,[]) ⟨0,rfl,zL _,by rw [zI],zQ _⟩ (by simp (disch:=omega) only [go_sem,Aa]) ?_
 rintro ⟨i,acc⟩ ⟨k,hi,hk,hR⟩
 dsimp only at hi hR
 have hni:i.toNat=k:=by omega
 have hni1:(i+1).toNat=k+1:=by omega
 rcases zC k (c.lits).length with hlt | hge
 ·have hg:=get_at Lt.d hlt
  rw [Lt.d_eq] at hg
  obtain ⟨hR1,hR2⟩:=hR
  rw [zB hlt,Lt.vsL,T2] at hR1
  have hnn:=Tm.FU (Cl.Gx hc hlt)
  have hcl:=Vm c.lits[k].atom (Cl.Gx hc hlt) acc (by omega)
  have has:c.lits[k].atom.sv=.agg [.str c.lits[k].atom.name,.arr (c.lits[k].atom.args.map Tm.d)]:=rfl
  have hlen:=L3 c.lits[k].atom.vs acc
  have hvl:=Tm.vs_len c.lits[k].atom
  obtain ⟨acc2,ha2⟩:∃ a,a=Du acc c.lits[k].atom.vs:=⟨_,rfl⟩
  rw [←ha2] at hcl hlen hR1
  rcases zC acc.length acc2.length with q2 | q2
  all_goals
   first
    |rw [Ay q2] at hcl
    |rw [Aw (Nat.not_lt.2 q2)] at hcl
   simp only [cond_true,cond_false] at hcl
   simp (disch:=omega) only [go_sem,Aa,hni,hg,has,hcl,CB]
   refine ⟨(i+1,acc2),⟨k+1,by dsimp only; omega,hlt,hR1,by dsimp only; omega⟩,by dsimp only; omega,?_⟩
   first | trivial | rfl | exact ⟨rfl,rfl⟩
 ·rw [zD hge,Lt.vsL] at hR
  obtain ⟨hR1,hR2⟩:=hR
  have hR1:acc=_:=hR1
  rw [←hR1]
  simp (disch:=omega) only [go_sem,Aa,hni]
theorem X7 (ns:List ByteArray):(Du [] ns).length=(E4 [] ns).length:=by
 rw [←QR,(QO _).length_eq]
def Ey:SC:=(.seq (.reg [⟨some 1,none,.boxv 47 1 (.t 0)⟩,⟨some 2,none,.mv (.c .nil)⟩]) (.seq (.reg [⟨some 4,none,.load true 1 (.t 1)⟩,⟨some 5,none,.call 49 [(.t 4)]⟩,⟨some 3,none,.mv (.t 5)⟩]) (.seq (.reg [⟨some 6,none,.mv (.t 3)⟩,⟨some 7,none,.call 75 [(.t 6)]⟩]) (.seq (.reg [⟨some 8,none,.mv (.t 3)⟩,⟨some 2,none,.mv (.t 8)⟩]) .ret))))
theorem HV:Ad Tryz.prog 50=some ⟨9,Ey,[(.tmp 2)]⟩:=by kernel_rfl
theorem Ez:modes 50=⟨[],.asis,none,false⟩:=by unfold modes; rfl
theorem L7 (c:Cl) (hc:c.ok=true):E 50 [c.sv] []=some (.ref 0,[.row 9 1 ((E4 [] (Lt.vsL c.lits)).map fun s=>[OT.str s])]):=by
 have h1:=QS c hc
 have hl:=Cl.vs_len hc
 have hlen:=L3 (Lt.vsL c.lits) []
 rw [xP,yH] at hlen
 have h2:=Qbd (Du [] (Lt.vsL c.lits)) (by omega)
 rw [QR] at h2
 refine Ab HV Ez (of_decide_eq_true rfl) ?_
 simp (disch:=omega) only [Ey,go_sem,Aa,h1,h2,FV,Dk]
def Ie:SC:=(.seq (.reg [⟨some 1,none,.boxv 47 1 (.t 0)⟩,⟨some 2,none,.mv (.c (.bool false))⟩]) (.seq (.reg [⟨some 3,none,.load true 1 (.t 1)⟩,⟨some 4,none,.call 49 [(.t 3)]⟩,⟨some 5,none,.len false (.t 4)⟩,⟨some 6,none,.bin .leq false (.t 5) (.c (.int .i64 6))⟩,⟨some 2,none,.mv (.t 6)⟩]) .ret))
theorem N4:Ad Tryz.prog 25=some ⟨7,Ie,[(.tmp 2)]⟩:=by kernel_rfl
theorem If:modes 25=⟨[],.asis,none,false⟩:=by unfold modes; rfl
noncomputable def Cl.narrow (c:Cl):Bool:=dec (((E4 [] (Lt.vsL c.lits)).length:Int)≤6)
theorem Vo (c:Cl) (hc:c.ok=true):E 25 [c.sv] []=some (.bool c.narrow,[]):=by
 have h1:=QS c hc
 have h2:=X7 (Lt.vsL c.lits)
 unfold Cl.narrow
 refine Ab N4 If (of_decide_eq_true rfl) ?_
 simp (disch:=omega) only [Ie,go_sem,Aa,h1,h2,FV]
def Ig:SC:=(.seq (.reg [⟨some 1,none,.boxv 47 1 (.t 0)⟩,⟨some 2,none,.mv (.c .nil)⟩]) (.seq (.reg [⟨(some 5),none,(.mkrow 9 1 [(.str ⟨#[]⟩)] 0 [])⟩,⟨some 3,none,.mv (.t 5)⟩]) (.seq (.seq (.reg [⟨some 4,none,.mv (.c (.int .i64 0))⟩]) (.block 0 (.loop [0,1,0,1,1,0,0,0,0,0,0,0,0,0,0,0,0,0,0,0,0,0] (.seq (.seq (.reg [⟨some 6,none,.mv (.t 4)⟩,⟨some 7,none,.faddr 0 (.t 1)⟩,⟨some 8,none,.load false 1 (.t 7)⟩,⟨some 9,none,.len false (.t 8)⟩,⟨some 10,none,.bin .lss false (.t 6) (.t 9)⟩]) (.cond (.t 10) .skip (.exit 0))) (.seq (.block 1 (.reg [⟨some 13,none,.mv (.t 3)⟩,⟨some 14,none,.faddr 0 (.t 1)⟩,⟨some 15,none,.load false 1 (.t 14)⟩,⟨some 16,none,.mv (.t 4)⟩,⟨some 17,none,.iaddr 3 (.t 15) (.t 16)⟩,⟨some 18,none,.faddr 1 (.t 17)⟩,⟨some 19,none,.load true 2 (.t 18)⟩,⟨some 20,none,.call 64 [(.t 13),(.t 19)]⟩,⟨some 3,none,.mv (.t 20)⟩])) (.reg [⟨some 11,none,.mv (.t 4)⟩,⟨some 12,none,.bin .add false (.t 11) (.c (.int .i64 1))⟩,⟨some 4,none,.mv (.t 12)⟩])))))) (.seq (.reg [⟨some 21,none,.mv (.t 3)⟩,⟨some 2,none,.mv (.t 21)⟩]) .ret))))
theorem N5:Ad Tryz.prog 39=some ⟨22,Ig,[(.tmp 2)]⟩:=by kernel_rfl
theorem Fo:modes 39=⟨[],.frz,none,false⟩:=by unfold modes; rfl
theorem Pf (c:Cl) (hc:c.ok=true):E 39 [c.sv] []=some (.arr ((E4 [] (Lt.vsL c.lits)).map fun s=>[D.str s]),[]):=by
 have hl:=Cl.KG hc
 refine Ab N5 Fo (of_decide_eq_true rfl) ?_
 simp (disch:=omega) only [Ig,go_sem,Aa]
 refine go_loop (α:=Int × (List ByteArray)) (fun a=>⟨slots 22 0 [(1,.ptr 0 0),(3,(if (a.1)=0 then .ref 1 else .arr ((a.2).map fun s=>[D.str s]))),(4,.int .i64 (a.1))],(if (a.1)=0 then [.box 47 [.arr (c.lits.map Lt.d)],.row 9 1 []] else [.box 47 [.arr (c.lits.map Lt.d)]])⟩) (fun a=>∃ k:Nat,a.1=k∧k≤(c.lits).length∧E4 (a.2) (Lt.vsL (c.lits.drop k))=E4 [] (Lt.vsL c.lits)∧(a.2).length≤30*k) (fun a=>(c.lits).length-(a.1).toNat) (0,[]) ⟨0,rfl,zL _,by rw [zI],zQ _⟩ (by simp (disch:=omega) only [go_sem,Aa,eq_self,if_true]) ?_
 rintro ⟨i,acc⟩ ⟨k,hi,hk,hR⟩
 dsimp only at hi hR
 have hni:i.toNat=k:=by omega
 have hni1:(i+1).toNat=k+1:=by omega
 rcases zC k (c.lits).length with hlt | hge
 ·have hg:=get_at Lt.d hlt
  rw [Lt.d_eq] at hg
  obtain ⟨hR1,hR2⟩:=hR
  rw [zB hlt,Lt.vsL,T6] at hR1
  have hnn:=Tm.FU (Cl.Gx hc hlt)
  have hcl:=T7 c.lits[k].atom acc (by omega)
  have has:c.lits[k].atom.sv=.agg [.str c.lits[k].atom.name,.arr (c.lits[k].atom.args.map Tm.d)]:=rfl
  have hlen:=Pc c.lits[k].atom.vs acc
  have hvl:=Tm.vs_len c.lits[k].atom
  have hi1:(i+1=0)=False:=eq_false (by omega)
  obtain ⟨acc2,ha2⟩:∃ a,a=E4 acc c.lits[k].atom.vs:=⟨_,rfl⟩
  rw [←ha2] at hcl hlen hR1
  rcases yG k with h0 | h0
  ·have hi0:i=0:=by omega
   subst hi0
   subst h0
   have e0:acc=[]:=zO (by omega)
   subst e0
   rw [yM] at hcl
   simp (disch:=omega) only [go_sem,Aa,hni,hg,has,hcl,eq_self,if_true,DM,VW,yM,OT.erss,y8]
   refine ⟨(1,acc2),⟨1,rfl,hlt,hR1,by dsimp only; omega⟩,by dsimp only; omega,?_⟩
   simp (disch:=omega) only [go_sem,Aa,hi1,Int.reduceEq,if_false]
  ·have hi0:(i=0)=False:=eq_false (by omega)
   simp (disch:=omega) only [go_sem,Aa,hni,hg,has,hcl,hi0,if_false,DM]
   refine ⟨(i+1,acc2),⟨k+1,by dsimp only; omega,hlt,hR1,by dsimp only; omega⟩,by dsimp only; omega,?_⟩
   simp (disch:=omega) only [go_sem,Aa,hi1,Int.reduceEq,if_false]
 ·rw [zD hge,Lt.vsL] at hR
  obtain ⟨hR1,hR2⟩:=hR
  have hR1:acc=_:=hR1
  rw [←hR1]
  rcases yG k with h0 | h0
  ·have hi0:i=0:=by omega
   subst hi0
   have e0:acc=[]:=zO (by omega)
   subst e0
   simp (disch:=omega) only [go_sem,Aa,hni,eq_self,if_true,OT.erss,OT.B7,yM,y8]
  ·have hi0:(i=0)=False:=eq_false (by omega)
   simp (disch:=omega) only [go_sem,Aa,hni,hi0,if_false]
def EM:SC:=(.seq (.reg [⟨some 1,none,.boxv 47 1 (.t 0)⟩,⟨some 2,none,.mv (.c (.bool false))⟩]) (.seq (.reg [⟨some 3,none,.load true 1 (.t 1)⟩,⟨some 4,none,.call 36 [(.t 3)]⟩,⟨some 5,none,.mv (.t 4)⟩,⟨(some 6),(some (5,true)),(.load true 1 (.t 1))⟩,⟨(some 7),(some (5,true)),(.call 39 [(.t 6)])⟩,⟨(some 8),(some (5,true)),(.len false (.t 7))⟩,⟨(some 9),(some (5,true)),(.bin .leq false (.t 8) (.c (.int .i64 6)))⟩,⟨some 10,none,.pick (.t 5) (.t 9) (.c (.bool false))⟩,⟨some 2,none,.mv (.t 10)⟩]) .ret))
theorem Hs:Ad Tryz.prog 17=some ⟨11,EM,[(.tmp 2)]⟩:=by kernel_rfl
theorem D5:modes 17=⟨[],.asis,none,false⟩:=by unfold modes; rfl
theorem T9 (c:Cl) (ht:c.tame):E 17 [c.sv] []=some (.bool (c.ok&&c.narrow),[]):=by
 have h1:=T8 c ht
 cases hc:c.ok with
 | false =>
  rw [hc] at h1
  rw [z6]
  refine Ab Hs D5 (of_decide_eq_true rfl) ?_
  simp (disch:=omega) only [EM,go_sem,Aa,h1,Da]
 | true =>
  rw [hc] at h1
  have h2:=Pf c hc
  rw [yN]
  unfold Cl.narrow
  refine Ab Hs D5 (of_decide_eq_true rfl) ?_
  simp (disch:=omega) only [EM,go_sem,Aa,h1,h2,Da,Fo]
noncomputable def HW (m:Ip) (e:Env):List Lt→Bool→Option Bool
 | [],b=>some b
 | l :: r,b=>match l.atom.tru m e with
  | some n=>HW m e r (b || (dec (n=1) == l.pos))
  | none=>none
def BN (sz:Int):List ByteArray→Int→List Ag × Int
 | [],n=>([],n)
 | v :: r,n=>(⟨v,(BN sz r n).2.tmod sz⟩ :: (BN sz r n).1,(BN sz r n).2.tdiv sz)
theorem L8 (sz n:Int):∀ l:List ByteArray,(BN sz l n).1.length=l.length
 | []=>rfl
 | v :: r=>by rw [BN]; simp only [zE]; rw [L8 sz n r]
theorem tdiv_le {a b:Int} (h0:0≤a) (h1:1≤b):0≤a.tdiv b∧a.tdiv b≤a:=by
 rw [xB h0]
 exact ⟨Int.ediv_nonneg h0 (by omega),Int.ediv_le_self _ h0⟩
theorem RQ {a b:Int} (h0:0≤a) (h1:1≤b):0≤a.tmod b∧a.tmod b<b:=by
 rw [xA h0]
 exact ⟨xR _ (by omega),y6 _ (by omega)⟩
theorem JD {sz n:Int} (hs:1≤sz) (hn:0≤n):∀ l:List ByteArray,0≤(BN sz l n).2∧(BN sz l n).2≤n
 | []=>⟨hn,Int.le_refl _⟩
 | v :: r=>by
  have h:=JD hs hn r
  have h2:=tdiv_le h.1 hs
  rw [BN]
  dsimp only
  omega
theorem RR {sz n:Int} (hs:1≤sz) (hn:0≤n):∀ (l:List ByteArray) (x:Ag),x∈(BN sz l n).1→0≤x.elem∧x.elem<sz
 | [],x,h=>by cases h
 | v :: r,x,h=>by
  rw [BN] at h
  rcases zK.1 h with rfl | h
  ·exact RQ (JD hs hn r).1 hs
  ·exact RR hs hn r x h
theorem Zs (x:Ag) (r:List Ag):asg (x :: r)=Qbb (asg r) x.var x.elem:=by
 funext s
 rw [asg,Qbb]
 have e:(x.var=s)=(s=x.var):=propext ⟨Eq.symm,Eq.symm⟩
 rw [e]
noncomputable def Cl.vars (c:Cl):List ByteArray:=E4 [] (Lt.vsL c.lits)
noncomputable def HX (m:Ip) (c:Cl):Nat→Int→Option (Option (List Ag))
 | 0,_=>some none
 | k+1,n=>match HW m (asg (BN m.size c.vars n).1) c.lits false with
  | none=>none
  | some true=>HX m c k (n+1)
  | some false=>some (some (BN m.size c.vars n).1)
noncomputable def C3 (m:Ip) (c:Cl):Option (Option (List Ag)):=HX m c (pw m.size c.vars.length).toNat 0
def M4:Option (Option (List Ag))→List Ag
 | some (some a)=>a
 | _=>[]
def N6:Option (Option (List Ag))→Bool
 | some (some _)=>true
 | _=>false
def Pg:Option (Option (List Ag))→Int
 | some (some _)=>1
 | some none=>0
 | none=>-1
theorem Wp {m:Ip} {c:Cl} {P k:Nat} {n:Int} (h:k<P) (hs:HW m (asg (BN m.size c.vars n).1) c.lits false=some true):HX m c (P-k) n=HX m c (P-(k+1)) (n+1):=by
 obtain ⟨j,hj⟩:∃ j,P-k=j+1:=⟨P-k-1,by omega⟩
 have hj2:P-(k+1)=j:=by omega
 rw [hj,hj2,HX,hs]
theorem TA {m:Ip} {c:Cl} {P k:Nat} {n:Int} (h:k<P) (hs:HW m (asg (BN m.size c.vars n).1) c.lits false=some false):HX m c (P-k) n=some (some (BN m.size c.vars n).1):=by
 obtain ⟨j,hj⟩:∃ j,P-k=j+1:=⟨P-k-1,by omega⟩
 rw [hj,HX,hs]
theorem Wq {m:Ip} {c:Cl} {P k:Nat} {n:Int} (h:k<P) (hs:HW m (asg (BN m.size c.vars n).1) c.lits false=none):HX m c (P-k) n=none:=by
 obtain ⟨j,hj⟩:∃ j,P-k=j+1:=⟨P-k-1,by omega⟩
 rw [hj,HX,hs]
def M5 (j:Nat) (L:List (List OT)):List (List OT):=yF j [.str ⟨#[]⟩,.int 0]++L
theorem Zt (j:Nat) (L:List (List OT)):(M5 j L).length=j+L.length:=by unfold M5; simp
theorem Zu (e:List OT) (L:List (List OT)) (j:Nat):(M5 (j+1) L).set j e=M5 j (e :: L):=by
 unfold M5
 rw [List.replicate_succ',xG]
 have hl:(yF j ([.str ⟨#[]⟩,.int 0]:List OT)).length=j:=List.length_replicate
 rw [yV _ _ (by omega),hl,xM]
 rfl
theorem Zv (L:List (List OT)) (j:Nat):(M5 (j+1) L)[j]?=some [.str ⟨#[]⟩,.int 0]:=by
 unfold M5
 rw [List.getElem?_append_left (by simp)]
 simp
theorem M6 (L:List (List OT)):M5 0 L=L:=rfl
theorem Zw (n:Nat):yF n ([.str ⟨#[]⟩,.int 0]:List OT)=M5 n []:=by unfold M5; rw [yZ]
theorem Zx {b:Int} (h1:1≤b) (h3:b≤3) {k:Nat} (hk:k≤6):1≤pw b k∧pw b k≤531441:=DJ h1 h3 (by omega)
theorem Ht {a b:Tl}:Bi a b=true ↔ strLt a.name b.name=true∨(a.name=b.name∧a.arity<b.arity):=by
 unfold Bi
 rw [yK,zA,Af,Af]
theorem L9 {a b c:Tl} (h1:Bi a b=true) (h2:Bi b c=true):Bi a c=true:=by
 rw [Ht] at *
 rcases h1 with h1 | ⟨h1,h1'⟩
 ·rcases h2 with h2 | ⟨h2,h2'⟩
  ·exact .inl (IU h1 h2)
  ·rw [←h2]; exact .inl h1
 ·rcases h2 with h2 | ⟨h2,h2'⟩
  ·rw [h1]; exact .inl h2
  ·exact .inr ⟨h1.trans h2,by omega⟩
noncomputable def C0 (t x:Tl):Bool:=dec (t.name=x.name)&&dec (t.arity=x.arity)
theorem Db {t x:Tl}:C0 t x=true ↔ t.name=x.name∧t.arity=x.arity:=by unfold C0; rw [zA,Af,Af]
theorem EN {a b:Tl} (h:Bi a b=true) (h':C0 a b=true):False:=by
 rw [Ht] at h
 rw [Db] at h'
 rcases h with h | ⟨_,h⟩
 ·exact OV h h'.1
 ·omega
theorem Vp {a b:Tl} (h:Bi a b=true) (h':Bi b a=true):False:=EN (L9 h h') (Db.2 ⟨rfl,rfl⟩)
theorem QT {a b:Tl} (h:Bi a b=false) (h':C0 a b=false):Bi b a=true:=by
 rw [Ht]
 cases h1:strLt b.name a.name with
 | true=>exact .inl rfl
 | false =>
  refine .inr ?_
  cases h2:strLt a.name b.name with
  | true=>rw [Ht.2 (.inl h2)] at h; cases h
  | false =>
   have e:a.name=b.name:=IT h2 h1
   refine ⟨e.symm,?_⟩
   have n1:¬ a.arity<b.arity:=fun h3=>by rw [Ht.2 (.inr ⟨e,h3⟩)] at h; cases h
   have n2:¬ a.arity=b.arity:=fun h3=>by rw [Db.2 ⟨e,h3⟩] at h'; cases h'
   omega
noncomputable def A7:List Tl→Tl→Nat
 | [],_=>0
 | t :: ts,x=>if Bi t x=true then A7 ts x+1 else 0
theorem LA (x:Tl):∀ ts:List Tl,A7 ts x≤ts.length
 | []=>zQ _
 | t :: ts=>by
  have:=LA x ts
  rw [A7]
  split
  ·simp only [zE]; omega
  ·exact zL _
noncomputable def CX (ts:List Tl) (x:Tl):List Tl:=ts.take (A7 ts x)++x :: ts.drop (A7 ts x)
theorem TB (x:Tl):CX [] x=[x]:=rfl
theorem TC {t x:Tl} (ts:List Tl) (h:Bi t x=true):CX (t :: ts) x=t :: CX ts x:=by
 unfold CX
 rw [A7,if_pos h]; rfl
theorem Wr {t x:Tl} (ts:List Tl) (h:Bi t x=false):CX (t :: ts) x=x :: t :: ts:=by
 unfold CX
 rw [A7,if_neg (by rw [h]; simp)]; rfl
theorem M7 (x:Tl):∀ ts:List Tl,(CX ts x).Perm (x :: ts)
 | []=>List.Perm.refl _
 | t :: ts=>by
  cases h:Bi t x with
  | true =>
   rw [TC ts h]
   exact ((M7 x ts).cons t).trans (List.Perm.swap x t ts)
  | false=>rw [Wr ts h]
theorem FW {x y:Tl} {ts:List Tl}:y∈CX ts x ↔ y=x∨y∈ts:=by rw [(M7 x ts).mem_iff,zK]
theorem Ja (x:Tl) (ts:List Tl):(CX ts x).length=ts.length+1:=by rw [(M7 x ts).length_eq]; rfl
theorem RS (x:Tl):∀ ts:List Tl,ts.Pairwise (fun a b=>Bi a b=true)→(∀ t∈ts,C0 t x=false)→(CX ts x).Pairwise fun a b=>Bi a b=true
 | [],_,_=>by rw [TB]; simp
 | t :: ts,h,hn=>by
  obtain ⟨h1,h2⟩:=zU.1 h
  cases hk:Bi t x with
  | true =>
   rw [TC ts hk,zU]
   refine ⟨fun y hy=>?_,RS x ts h2 fun y hy=>hn y (by simp [hy])⟩
   rcases FW.1 hy with rfl | hy
   ·exact hk
   ·exact h1 y hy
  | false =>
   rw [Wr ts hk,zU]
   have hx:=QT hk (hn t (by simp))
   refine ⟨fun y hy=>?_,h⟩
   rcases zK.1 hy with rfl | hy
   ·exact hx
   ·exact L9 hx (h1 y hy)
noncomputable def Dw (s:List Tl × Bool) (x:Tl):List Tl × Bool:=match s.1.find? (fun t=>C0 t x) with
 | some t=>(s.1,s.2 || (dec (3 < x.arity) || !(t.pred == x.pred)))
 | none=>(CX s.1 x,s.2 || dec (3 < x.arity))
noncomputable def AO (s:List Tl × Bool) (S:List Tl):List Tl × Bool:=S.foldl Dw s
theorem JE (s:List Tl × Bool) (a b:List Tl):AO s (a++b)=AO (AO s a) b:=xJ
structure SgInv (S:List Tl) (s:List Tl × Bool):Prop where
 up:s.1.Pairwise fun a b=>Bi a b=true
 sub:∀ t∈s.1,t∈S
 cov:∀ x∈S,∃ t∈s.1,C0 t x=true
 fl:s.2=false ↔ ∀ x∈S,x.arity≤3∧x∈s.1
theorem QU {ts:List Tl} (h:ts.Pairwise fun a b=>Bi a b=true) {a b:Tl} (ha:a∈ts) (hb:b∈ts) (hk:C0 a b=true):a=b:=by
 obtain ⟨i,hi,rfl⟩:=zW ha
 obtain ⟨j,hj,rfl⟩:=zW hb
 rw [List.pairwise_iff_getElem] at h
 rcases xF i j with h1 | h1 | h1
 ·exact (EN (h i j hi hj h1) hk).elim
 ·subst h1; rfl
 ·have h2:=Db.1 hk
  exact (EN (h j i hj hi h1) (Db.2 ⟨h2.1.symm,h2.2.symm⟩)).elim
theorem SgInv.start:SgInv [] ([],false):=⟨xZ,fun t h=>h,(fun x h=>by cases h),by simp⟩
theorem SgInv.put {S:List Tl} {s:List Tl × Bool} (h:SgInv S s) (hS:∀ t∈S,t.vals=[]) {x:Tl} (hx:x.vals=[]):SgInv (S++[x]) (Dw s x):=by
 have hmem:∀ y,y∈S++[x] ↔ y∈S∨y=x:=fun y=>by simp
 cases hf:s.1.find? (fun t=>C0 t x) with
 | some t =>
  have hts:t∈s.1:=xD hf
  have htk:C0 t x=true:=by simpa using List.find?_some hf
  have e:Dw s x=(s.1,s.2 || (dec (3<x.arity) || !(t.pred == x.pred))):=by unfold Dw; rw [hf]
  rw [e]
  refine ⟨h.up,fun y hy=>(hmem y).2 (.inl (h.sub y hy)),fun y hy=>?_,?_⟩
  ·rcases (hmem y).1 hy with hy | rfl
   ·exact h.cov y hy
   ·exact ⟨t,hts,htk⟩
  ·show (s.2 || (dec (3<x.arity) || !(t.pred == x.pred)))=false ↔ _
   rw [zZ,zZ,h.fl,Be,Bool.not_eq_false',beq_iff_eq]
   constructor
   ·rintro ⟨h1,h2,h3⟩ y hy
    rcases (hmem y).1 hy with hy | rfl
    ·exact h1 y hy
    ·have hk:=Db.1 htk
     have hv:=hS t (h.sub t hts)
     have:y=t:=by
      obtain ⟨n1,a1,p1,v1⟩:=t
      obtain ⟨n2,a2,p2,v2⟩:=y
      simp only at hk h3 hv hx
      rw [hk.1,hk.2,h3,hv,hx]
     exact ⟨by omega,by rw [this]; exact hts⟩
   ·intro h1
    obtain ⟨h2,h3⟩:=h1 x ((hmem x).2 (.inr rfl))
    refine ⟨fun y hy=>h1 y ((hmem y).2 (.inl hy)),by omega,?_⟩
    rw [QU h.up hts h3 htk]
 | none =>
  have hnk:∀ t∈s.1,C0 t x=false:=fun t ht=>by
   have:=List.find?_eq_none.1 hf t ht
   simpa using this
  have e:Dw s x=(CX s.1 x,s.2 || dec (3<x.arity)):=by unfold Dw; rw [hf]
  rw [e]
  refine ⟨RS x s.1 h.up hnk,fun y hy=>?_,fun y hy=>?_,?_⟩
  ·rcases FW.1 hy with rfl | hy
   ·exact (hmem y).2 (.inr rfl)
   ·exact (hmem y).2 (.inl (h.sub y hy))
  ·rcases (hmem y).1 hy with hy | rfl
   ·obtain ⟨t,h1,h2⟩:=h.cov y hy
    exact ⟨t,FW.2 (.inr h1),h2⟩
   ·exact ⟨y,FW.2 (.inl rfl),Db.2 ⟨rfl,rfl⟩⟩
  ·show (s.2 || dec (3<x.arity))=false ↔ _
   rw [zZ,h.fl,Be]
   constructor
   ·rintro ⟨h1,h2⟩ y hy
    rcases (hmem y).1 hy with hy | rfl
    ·exact ⟨(h1 y hy).1,FW.2 (.inr (h1 y hy).2)⟩
    ·exact ⟨by omega,FW.2 (.inl rfl)⟩
   ·intro h1
    refine ⟨fun y hy=>?_,by have:=(h1 x ((hmem x).2 (.inr rfl))).1; omega⟩
    obtain ⟨h2,h3⟩:=h1 y ((hmem y).2 (.inl hy))
    refine ⟨h2,?_⟩
    rcases FW.1 h3 with rfl | h3
    ·obtain ⟨t,h4,h5⟩:=h.cov y hy
     rw [hnk t h4] at h5; cases h5
    ·exact h3
theorem SgInv.run:∀ (T S:List Tl) (s:List Tl × Bool),SgInv S s→(∀ t∈S,t.vals=[])→(∀ t∈T,t.vals=[])→SgInv (S++T) (AO s T)
 | [],S,s,h,_,_=>by rw [yZ]; exact h
 | x :: T,S,s,h,hS,hT=>by
  have h1:=h.put hS (hT x (by simp))
  have h2:=SgInv.run T (S++[x]) (Dw s x) h1 (fun t ht=>by
   rcases yO.1 ht with ht | ht
   ·exact hS t ht
   ·rw [List.mem_singleton.1 ht]; exact hT x (by simp)) fun t ht=>hT t (by simp [ht])
  rw [xG] at h2
  exact h2
theorem Ws {S:List Tl} (hS:∀ t∈S,t.vals=[]):SgInv S (AO ([],false) S):=by
 have:=SgInv.run S [] ([],false) SgInv.start (fun t h=>by cases h) hS
 exact this
theorem Wt {ts:List Tl} (h:ts.Pairwise fun a b=>Bi a b=true):ts.Nodup:=h.imp fun {a b} hab e=>by subst e; exact EN hab (Db.2 ⟨rfl,rfl⟩)
theorem Vq {S S':List Tl} {s s':List Tl × Bool} (hm:∀ x,x∈S ↔ x∈S') (h:SgInv S s) (h':SgInv S' s') (hf:s.2=false):s'.2=false∧s.1=s'.1:=by
 have h1:=h.fl.1 hf
 have hf':s'.2=false:=h'.fl.2 fun x hx=>by
  obtain ⟨h2,h3⟩:=h1 x ((hm x).2 hx)
  obtain ⟨t,h4,h5⟩:=h'.cov x hx
  have h6:=(h1 t ((hm t).2 (h'.sub t h4))).2
  exact ⟨h2,by rw [←QU h.up h6 h3 h5]; exact h4⟩
 have h2:=h'.fl.1 hf'
 refine ⟨hf',?_⟩
 have hp:s.1.Perm s'.1:=(y9 (Wt h.up) (Wt h'.up)).2 fun x=>⟨fun hx=>(h2 x ((hm x).1 (h.sub x hx))).2,fun hx=>(h1 x ((hm x).2 (h'.sub x hx))).2⟩
 exact xK (le:=fun a b=>Bi a b=true) (fun a b _ _ hab hba=>(Vp hab hba).elim) h.up h'.up hp
theorem Qbh {S S':List Tl} (hS:∀ t∈S,t.vals=[]) (hm:∀ x,x∈S ↔ x∈S'):(AO ([],false) S).2=(AO ([],false) S').2∧((AO ([],false) S).2=false→(AO ([],false) S).1=(AO ([],false) S').1):=by
 have hS':∀ t∈S',t.vals=[]:=fun t ht=>hS t ((hm t).2 ht)
 have h:=Ws hS
 have h':=Ws hS'
 refine ⟨?_,fun hf=>(Vq hm h h' hf).2⟩
 cases hf:(AO ([],false) S).2 with
 | false=>exact (Vq hm h h' hf).1.symm
 | true =>
  cases hf':(AO ([],false) S').2 with
  | true=>rfl
  | false =>
   have:=(Vq (fun x=>(hm x).symm) h' h hf').1
   rw [hf] at this; cases this
def BR (t:Tm) (p:Bool):Tl:=⟨t.name,t.args.length,p,[]⟩
mutual
noncomputable def Tm.sgI:Tm→Bool→List Tl
 | .mk n args,p=>Tm.Hu args++(bif dec (n=⟨#[61]⟩) || AI n then [] else [⟨n,args.length,p,[]⟩])
noncomputable def Tm.Hu:List Tm→List Tl
 | []=>[]
 | x :: xs=>Tm.sgI x false++Tm.Hu xs
end
mutual
noncomputable def Tm.sgR:Tm→Bool→List Tl
 | .mk n args,p=>bif AI n then [] else (bif p&&dec (n=⟨#[61]⟩) then [] else [⟨n,args.length,p,[]⟩])++Tm.Cs args
noncomputable def Tm.Cs:List Tm→List Tl
 | []=>[]
 | x :: xs=>Tm.sgR x false++Tm.Cs xs
end
theorem Tm.GK (x:Tm) (p:Bool):x.sgI p=Tm.Hu x.args++(bif dec (x.name=⟨#[61]⟩) || AI x.name then [] else [BR x p]):=by
 obtain ⟨n,a⟩:=x
 rw [Tm.sgI]; rfl
theorem Tm.Vr (x:Tm) (p:Bool):x.sgR p=bif AI x.name then [] else (bif p&&dec (x.name=⟨#[61]⟩) then [] else [BR x p])++Tm.Cs x.args:=by
 obtain ⟨n,a⟩:=x
 rw [Tm.sgR]; rfl
theorem Tm.DN {y:Tl}:∀ {xs:List Tm},y∈Tm.Hu xs ↔ ∃ x∈xs,y∈x.sgI false
 | []=>by simp [Tm.Hu]
 | x :: xs=>by rw [Tm.Hu,yO,Tm.DN (xs:=xs)]; simp
theorem Tm.Ph {y:Tl}:∀ {xs:List Tm},y∈Tm.Cs xs ↔ ∃ x∈xs,y∈x.sgR false
 | []=>by simp [Tm.Cs]
 | x :: xs=>by rw [Tm.Cs,yO,Tm.Ph (xs:=xs)]; simp
theorem QV:AI ⟨#[61]⟩=false:=by kernel_rfl
theorem X8:CN ⟨#[61]⟩=false:=by kernel_rfl
theorem Pi {x:Tm} (h:x.names=true):dec (x.name=⟨#[61]⟩)=false:=by
 refine Aw fun e=>?_
 rw [Tm.FL,e,if_neg (by rw [QV]; simp),X8] at h
 simp at h
theorem NT (x:Tm) (h:x.names=true) (p:Bool) (y:Tl):y∈x.sgI p ↔ y∈x.sgR p:=by
 have ih:∀ z∈x.args,(y∈z.sgI false ↔ y∈z.sgR false):=fun z hz=>NT z (Tm.Eg h hz) false y
 rw [Tm.GK,Tm.Vr,Pi h,xX,z7,cond_false]
 cases hv:AI x.name with
 | true =>
  rw [Tm.Mz h hv]
  simp [Tm.Hu]
 | false =>
  rw [cond_false,cond_false,yO,yO,Tm.DN,Tm.Ph]
  constructor
  ·rintro (⟨z,hz,h1⟩ | h1)
   ·exact .inr ⟨z,hz,(ih z hz).1 h1⟩
   ·exact .inl h1
  ·rintro (h1 | ⟨z,hz,h1⟩)
   ·exact .inr h1
   ·exact .inl ⟨z,hz,(ih z hz).2 h1⟩
termination_by SizeOf.sizeOf x
decreasing_by exact Tm.Ar hz
theorem Qbi (x:Tm) (h:x.expr=true) (y:Tl):y∈x.sgI true ↔ y∈x.sgR true:=by
 rcases Tm.KB h with h1 | ⟨h1,h2⟩
 ·exact NT x h1 true y
 ·have he:dec (x.name=⟨#[61]⟩)=true:=h1
  have hv:=Tm.Wh h1
  rw [Tm.GK,Tm.Vr,he,hv,Bool.true_or,cond_true,cond_false,zF,cond_true,yZ,List.nil_append,Tm.DN,Tm.Ph]
  exact ⟨fun ⟨z,hz,k⟩=>⟨z,hz,(NT z (Tm.OM h hz) false y).1 k⟩,fun ⟨z,hz,k⟩=>⟨z,hz,(NT z (Tm.OM h hz) false y).2 k⟩⟩
def QcY (res:RM) (n0:Nat) (rs:List RX) (Q:SV × List Ob→Prop) (x:X) (st:St):Prop:=∃ out,QaU res n0 rs out x st∧Q out
theorem exq {α:Type} {a:α} {Q:α→Prop}:(∃ out,some a=some out∧Q out)=Q a:=propext ⟨fun ⟨o,h,q⟩=>by obtain rfl:=zG h; exact q,fun q=>⟨a,rfl,q⟩⟩
theorem Qc4 {res:RM} {n0:Nat} {rs:List RX} {Q:SV × List Ob→Prop} {sl:List SV} {ob:List Ob}:QcY res n0 rs Q .ret ⟨sl,ob⟩=∃ out,Tk res n0 ob (PF ⟨sl,ob⟩ rs)=some out∧Q out:=rfl
theorem Qc5 {res:RM} {n0:Nat} {rs:List RX} {Q:SV × List Ob→Prop} {sl:List SV} {ob:List Ob}:QcY res n0 rs Q .normal ⟨sl,ob⟩=∃ out,Tk res n0 ob (PF ⟨sl,ob⟩ rs)=some out∧Q out:=rfl
attribute [go_sem] Qc4 Qc5 exq
def GM:SC:=(.seq (.reg [⟨some 6,none,.mv (.c (.bool false))⟩]) (.seq (.reg [⟨some 7,none,.mv (.t 0)⟩,⟨some 8,none,.mv (.t 1)⟩,⟨some 9,none,.bin .geq false (.t 7) (.t 8)⟩,⟨some 10,none,.mv (.t 9)⟩,⟨(some 11),(some (10,true)),(.mv (.t 0))⟩,⟨(some 12),(some (10,true)),(.mv (.t 2))⟩,⟨(some 13),(some (10,true)),(.bin .leq false (.t 11) (.t 12))⟩,⟨some 14,none,.pick (.t 10) (.t 13) (.c (.bool false))⟩,⟨some 6,none,.mv (.t 14)⟩]) .ret))
theorem Kf:Ad Tryz.prog 46=some ⟨15,GM,[(.tmp 6)]⟩:=by kernel_rfl
theorem BB:modes 46=⟨[],.asis,none,false⟩:=by unfold modes; rfl
def Jb:SC:=(.seq (.reg [⟨some 6,none,.mv (.c (.bool false))⟩]) (.seq (.reg [⟨some 7,none,.mv (.t 0)⟩,⟨some 8,none,.mv (.t 1)⟩,⟨some 9,none,.bin .geq false (.t 7) (.t 8)⟩,⟨some 10,none,.mv (.t 9)⟩,⟨(some 11),(some (10,true)),(.mv (.t 0))⟩,⟨(some 12),(some (10,true)),(.mv (.t 2))⟩,⟨(some 13),(some (10,true)),(.bin .leq false (.t 11) (.t 12))⟩,⟨some 14,none,.pick (.t 10) (.t 13) (.c (.bool false))⟩,⟨some 6,none,.mv (.t 14)⟩]) .ret))
theorem Nt:Ad Tryz.prog 15=some ⟨15,Jb,[(.tmp 6)]⟩:=by kernel_rfl
theorem Ff:modes 15=⟨[],.asis,none,false⟩:=by unfold modes; rfl
end Go.Proofs.YtjkpbnbkofnajaaGreat
