/-
  Texts of this claim, one behind the other, each built on those ahead of it. No condition.
-/
import Derived.Test.YtmhjhclgihoaeaaK19b
import Derived.Shelf.Spec.SlicesInsert
import Derived.Shelf.Spec.SlicesInsertGrow
set_option maxHeartbeats 16000000
open Nat renaming lt_or_ge → zA, zero_le → zI, le_refl → zL, not_lt → yI, min_def → yT, lt_trichotomy → yU, zero_add → yY, min → y9
open Bool renaming and_eq_true → zB, and_self → zH, false_and → zO, and_true → zP, or_eq_false_iff → zV, and_false → zY, true_and → zZ, false_or → z2, true_or → z7, false_eq_true → yE, or_eq_true → yN, or_true → y2, not_false → y8, not_true → xB
open List renaming drop_eq_getElem_cons → zC, drop_eq_nil_of_le → zD, map_cons → zE, getElem_mem → zF, drop_zero → zG, eq_nil_of_length_eq_zero → zK, getElem?_eq_getElem → zM, length_cons → zQ, mem_cons → zS, getElem?_map → zT, getElem?_eq_some_iff → zU, getD_eq_getElem?_getD → zX, getElem?_range → z3, all_eq_true → z5, getElem_cons_succ → z6, pairwise_cons → z8, length_nil → z9, cons_append → yC, mem_append → yD, length_append → yF, getElem?_cons_succ → yG, mem_range → yH, map_append → yM, getElem_of_mem → yO, range → yQ, find?_eq_none → yR, getElem_append_right → yS, append_assoc → yV, mem_map → yX, map_nil → yZ, append_nil → y4, nil_append → y5, length_map → y6, find?_cons → y7, any_cons → xA
open Option.some renaming inj → zJ, injEq → zN
open Prod.mk renaming injEq → zR, inj → yJ
open Array renaming getD_eq_getD_getElem? → zW, getElem?_eq_some_iff → yB, getElem?_setIfInBounds → yL, size_push → y3
open Option renaming getD_some → z4, map_some → yK
open Int renaming toNat_natCast → yA, lt_or_le → yP
open List.Pairwise renaming nil → yW
set_option maxRecDepth 100000
set_option linter.unusedSimpArgs false
set_option linter.unusedVariables false
set_option linter.unusedSectionVars false
namespace Go.Proofs.Ytmhjhclgihoaeaa
open Go.RowKit
theorem PF (b n c:Nat) (f:Nat→ByteArray) (x:ByteArray) (w:World) (hn:n≤9223372036854775807)
  (hc:∀ k,k<n→w.cell? ⟨b,k,none⟩=some (.string (f k))):Calls Try.prog 93 #[.slice (some ⟨b,0,none⟩) n c,.string x] w (Same w (.int .i64 (NF (fun k=>x.toList == (f k).toList) n))):=by
 go_enter Try.func93,Try.ntmps93
 go_wp2
 go_loopw [8] (fun i wr=>Cnt w n (fun k=>∀ j,j<k→(x.toList == (f j).toList)=false) i wr) (fun i _=>n-(intOf i).toNat)
 case atStart=>exact ⟨0,zI _,rfl,fun j hj=>absurd hj (by omega),rfl⟩
 case round =>
  obtain ⟨k,hk,rfl,hok,rfl⟩:=hrel
  have Hok:=Lib.hid hok
  clear hok
  by_cases hlt:k<n
  ·have hck:=hc k (by omega)
   go_wp2_with fail
   ·go_ret
    exact Same.mk' _ (by rw [NG hlt Hok.out (by assumption)]; rfl)
   ·go_roundw
    case rel=>exact ⟨_,hlt,by go_num,NH Hok.out (by assumption),rfl⟩
    case measure=>exact FH hlt
  ·obtain rfl:k=n:=by omega
   go_wp2_with fail
   go_ret
   exact Same.mk' _ (by rw [LV Hok.out]; rfl)
theorem LD (b n c:Nat) (f:Nat→ByteArray) (x:ByteArray) (w:World) (hn:n≤9223372036854775807)
  (hc:∀ k,k<n→w.cell? ⟨b,k,none⟩=some (.string (f k))):Calls Try.prog 88 #[.slice (some ⟨b,0,none⟩) n c,.string x] w (Same w (.bool (RK (fun k=>x.toList == (f k).toList) n))):=by
 have Hc:=Lib.hid hc
 clear hc
 go_enter Try.func88,Try.ntmps88
 go_wp2_with (first
  |(go_at_call 93; refine (PF _ _ _ f _ _ hn Hc.out).mono ?_; rintro e w' ⟨rfl,rfl⟩))
 go_ret
 exact Same.mk' _ (by rw [←Tu]; rfl)
theorem Nm (w:World):Calls Try.prog 89 #[] w fun e w'=>e=.returned (.slice (some ⟨w.heap.size,0,none⟩) 8 8)∧w'=w.alloc (.cells ((words.map fun l=>Value.string ⟨l.toArray⟩).toArray) 9):=by
 go_enter Try.func89,Try.ntmps89
 go_wp2
 go_ret
 exact ⟨rfl,rfl⟩
theorem O1 (w:World):∀ k,k<8→(w.alloc (.cells ((words.map fun l=>Value.string ⟨l.toArray⟩).toArray) 9)).cell? ⟨w.heap.size,k,none⟩=some (.string ⟨(words.getD k []).toArray⟩):=by
 intro k hk
 have hh:(w.alloc (.cells ((words.map fun l=>Value.string ⟨l.toArray⟩).toArray) 9)).heap[w.heap.size]?=some (.cells ((words.map fun l=>Value.string ⟨l.toArray⟩).toArray) 9):=heap_alloc_new w _
 unfold World.cell?
 rw [hh]
 match k,hk with
 | 0,_=>rfl
 | 1,_=>rfl
 | 2,_=>rfl
 | 3,_=>rfl
 | 4,_=>rfl
 | 5,_=>rfl
 | 6,_=>rfl
 | 7,_=>rfl
theorem Nn (s:ByteArray) (w:World) (hs:s.size≤9223372036854775807):Calls Try.prog 70 #[.string s] w (Ret w (.bool (CU s))):=by
  go_enter Try.func70,Try.ntmps70
  go_wp2
  go_loopw [6] (fun i wr=>Cnt w s.size (fun k=>CW Ha s k=true) i wr) (fun i _=>s.size-(intOf i).toNat)
  case atStart=>exact ⟨0,zI _,rfl,rfl,rfl⟩
  case round =>
    obtain ⟨k,hk,rfl,hok,rfl⟩:=hrel
    have Hok:=Lib.hid hok
    clear hok
    by_cases hlt:k<s.size
    · have Hb:=Lib.hid (Dg hlt)
      rcases Nat.eq_zero_or_pos k with rfl | hpos
      all_goals
        go_wp2_with (first
          | (go_at_call 85; refine (J7 _ _).mono ?_; rintro e w' ⟨rfl,rfl⟩)
          | (go_at_call 86; refine (J8 _ _).mono ?_; rintro e w' ⟨rfl,rfl⟩))
        all_goals first
          | (go_ret
             refine Ret.same _ ?_
             unfold CU
             rw [Dh hlt (by rw [←Hb.out]; simp_all [Ha,Fq] <;> omega)]
             rfl)
          | (go_roundw
             case rel=>exact ⟨_,hlt,by go_num,Fs Hok.out (by rw [←Hb.out]; simp_all [Ha,Fq] <;> omega),rfl⟩
             case measure=>first | exact FH hlt | (simp [intOf]; omega))
    · obtain rfl:k=s.size:=by omega
      cases hin:inB s.size 1 6
      · go_wp2_with (first
          | (go_at_call 87; refine (H7 _ _ _ _).mono ?_; rintro e w' ⟨rfl,rfl⟩))
        go_ret
        exact Ret.same _ (by unfold CU; rw [hin]; simp)
      · go_wp2_with (first
          | (go_at_call 87; refine (H7 _ _ _ _).mono ?_; rintro e w' ⟨rfl,rfl⟩)
          | (go_at_call 89; refine (Nm _).mono ?_; rintro e w' ⟨rfl,rfl⟩)
          | (go_at_call 88; refine (LD _ _ _ (fun k=>⟨(words.getD k []).toArray⟩) _ _ (by omega) (O1 w)).mono ?_; rintro e w' ⟨rfl,rfl⟩))
        go_ret
        refine Ret.bel ?_ ((Below.refl _ _).alloc (zL _) _)
        unfold CU S3
        rw [hin,Hok.out]
        simp
theorem Rf (s:ByteArray) (w:World) (hs:s.size≤9223372036854775807):Calls Try.prog 30 #[.string s] w (Same w (.bool (AY s))):=by
  cases hin:inB s.size 1 4
  · go_enter Try.func30,Try.ntmps30
    go_wp2_with (first
      | (go_at_call 50; refine (FY _ _ _ _).mono ?_; rintro e w' ⟨rfl,rfl⟩))
    go_ret
    exact Same.mk' _ (by unfold AY; rw [hin]; simp)
  · have hpos:0<s.size:=by simp [inB] at hin; omega
    have Hb:=Lib.hid (Dg hpos)
    go_enter Try.func30,Try.ntmps30
    go_wp2_with (first
      | (go_at_call 50; refine (FY _ _ _ _).mono ?_; rintro e w' ⟨rfl,rfl⟩))
    all_goals first
      | (go_ret
         refine Same.mk' _ ?_
         unfold AY
         rw [Dh hpos (by rw [←Hb.out]; simp [Ga,Nl]; omega)]
         rfl)
      | skip
    · go_loopw [3] (fun i wr=>Cnt w s.size (fun k=>1≤k∧CW Ga s k=true) i wr) (fun i _=>s.size-(intOf i).toNat)
      case atStart=>exact ⟨1,hpos,rfl,⟨zL _,by rw [DW,← Hb.out]; simp [CW,Ga,Nl]; omega⟩,rfl⟩
      case round =>
        obtain ⟨k,hk,rfl,⟨hk1,hok⟩,rfl⟩:=hrel
        have Hok:=Lib.hid hok
        clear hok
        by_cases hlt:k<s.size
        · have Hbk:=Lib.hid (Dg hlt)
          have hk0:k≠0:=by omega
          go_wp2_with (first
            | (go_at_call 51; refine (J9 _ _).mono ?_; rintro e w' ⟨rfl,rfl⟩))
          all_goals first
            | (go_ret
               refine Same.mk' _ ?_
               unfold AY
               rw [Dh hlt (by rw [←Hbk.out]; simp_all [Ga] <;> omega)]
               rfl)
            | (go_roundw
               case rel=>exact ⟨_,hlt,by go_num,⟨by omega,Fs Hok.out (by rw [←Hbk.out]; simp_all [Ga] <;> omega)⟩,rfl⟩
               case measure=>first | exact FH hlt | (simp [intOf]; omega))
        · obtain rfl:k=s.size:=by omega
          go_wp2_with fail
          go_ret
          exact Same.mk' _ (by unfold AY; rw [Hok.out,hin]; rfl)
theorem Q6 (s:ByteArray):S3 s=(s.toList == [116,114,117,101] || s.toList == [102,97,108,115,101] || s.toList == [116,114,117,116,104] || s.toList == [98,111,116,104] || s.toList == [101,105,116,104,101,114] || s.toList == [105,102] || s.toList == [97,108,108] || s.toList == [115,111,109,101]):=by
 unfold S3 RK words
 simp [yQ,List.range.loop,Bool.or_assoc]
theorem No (s:ByteArray) (w:World) (hs:s.size≤9223372036854775807):Calls Try.prog 47 #[.string s] w (Same w (.bool (CU s))):=by
  cases hin:inB s.size 1 6
  · go_enter Try.func47,Try.ntmps47
    go_wp2_with (first
      | (go_at_call 50; refine (FY _ _ _ _).mono ?_; rintro e w' ⟨rfl,rfl⟩))
    go_ret
    exact Same.mk' _ (by unfold CU; rw [hin]; simp)
  · have hpos:0<s.size:=by simp [inB] at hin; omega
    have Hb:=Lib.hid (Dg hpos)
    cases hres:S3 s
    case true =>
      have Hres:=Lib.hid hres
      rw [Q6] at hres
      go_enter Try.func47,Try.ntmps47
      go_wp2_with (first
        | (go_at_call 50; refine (FY _ _ _ _).mono ?_; rintro e w' ⟨rfl,rfl⟩))
      all_goals first
        | (go_ret
           refine Same.mk' _ ?_
           unfold CU
           rw [Hres.out]; simp)
        | (exfalso; simp_all; done)
    have Hres:=Lib.hid hres
    rw [Q6] at hres
    simp only [zV] at hres
    obtain ⟨⟨⟨⟨⟨⟨⟨e1,e2⟩,e3⟩,e4⟩,e5⟩,e6⟩,e7⟩,e8⟩:=hres
    go_enter Try.func47,Try.ntmps47
    go_wp2_with (first
      | (go_at_call 50; refine (FY _ _ _ _).mono ?_; rintro e w' ⟨rfl,rfl⟩))
    all_goals first
      | (go_ret
         refine Same.mk' _ ?_
         unfold CU
         rw [Dh hpos (by rw [←Hb.out]; simp [Ha,Oz]; omega)]; rfl)
      | skip
    go_loopw [3] (fun i wr=>Cnt w s.size (fun k=>1≤k∧CW Ha s k=true) i wr) (fun i _=>s.size-(intOf i).toNat)
    case atStart=>exact ⟨1,hpos,rfl,⟨zL _,by rw [DW,← Hb.out]; simp [CW,Ha,Fq,Oz]; omega⟩,rfl⟩
    case round =>
      obtain ⟨k,hk,rfl,⟨hk1,hok⟩,rfl⟩:=hrel
      have Hok:=Lib.hid hok
      clear hok
      by_cases hlt:k<s.size
      · have Hbk:=Lib.hid (Dg hlt)
        have hk0:k≠0:=by omega
        go_wp2_with (first
          | (go_at_call 51; refine (J9 _ _).mono ?_; rintro e w' ⟨rfl,rfl⟩))
        all_goals first
          | (go_ret
             refine Same.mk' _ ?_
             unfold CU
             rw [Dh hlt (by rw [←Hbk.out]; simp_all [Ha] <;> omega)]
             rfl)
          | (go_roundw
             case rel=>exact ⟨_,hlt,by go_num,⟨by omega,Fs Hok.out (by rw [←Hbk.out]; simp_all [Ha] <;> omega)⟩,rfl⟩
             case measure=>first | exact FH hlt | (simp [intOf]; omega))
      · obtain rfl:k=s.size:=by omega
        go_wp2_with fail
        go_ret
        exact Same.mk' _ (by unfold CU; rw [Hok.out,hin,Hres.out]; rfl)
end Go.Proofs.Ytmhjhclgihoaeaa
set_option maxRecDepth 100000
set_option linter.unusedSimpArgs false
set_option linter.unusedVariables false
set_option linter.unusedSectionVars false
namespace Go.Proofs.Ytmhjhclgihoaeaa
open Go.RowKit Go.Shelf
theorem KQ:∃ (i:TypeInfo) (z:Value),Try.prog.info? 57=some i∧i.zero=some z∧i.size=4∧z.cells.size=4∧i.bytes=56:=by
 have h:(match Try.prog.info? 57 with
  | some i=>match i.zero with
   | some z=>i.size == 4&&z.cells.size == 4&&i.bytes == 56
   | none=>false
  | none=>false)=true:=by kernel_rfl
 split at h
 ·rename_i i hi
  split at h
  ·rename_i z hz
   rw [zB,zB,beq_iff_eq,beq_iff_eq,beq_iff_eq] at h
   exact ⟨i,z,hi,hz,h.1.1,h.1.2,h.2⟩
  ·cases h
 ·cases h
theorem Ft {P:Program} (w:World) (dT sT ty elem:TypeId) (k b o dLen dCap:Nat) (a:Addr) (sLen sCap:Nat) (cs:List Value)
  (hu:P.underlying dT=some (.slice elem)) (hs:(P.info? elem).map (·.size)=some k) (hn:cs.length=y9 sLen dLen*k)
  (hsrc:∀ j v,cs[j]?=some v→w.cell? (a.add j)=some v) (hc:∀ j,j<cs.length→(w.cell? ⟨b,o+j,none⟩).isSome=true) (hf:∀ j,j<cs.length→w.frozen? ⟨b,o+j,none⟩=false) (h1:∀ v∈cs,v.oneCell'=true) :
  (Builtin.copy_ #[dT,sT] ty #[.slice (some ⟨b,o,none⟩) dLen dCap,.slice (some a) sLen sCap]).run P w=.ok (goInt (y9 sLen dLen)) (w.setCells b o cs):=by
 have hl:=run_loadCells_list (P:=P) w a cs hsrc
 have hst:=run_storeCells_cells (P:=P) b o cs 0 w (by simpa using hc) (by simpa using hf) h1
 cases hq:P.info? elem with
 | none=>simp [hq] at hs
 | some i =>
  have hi:i.size=k:=by simpa [hq] using hs
  simp [Builtin.copy_,run_underlying hu,Builtin.lenOf,Builtin.firstCells,sizeOf,typeInfo,hq,hi,← hn,hl,hst]
structure RowX (w:World) (b:Nat) (t:TypeId) (cur:Array Value) (w':World):Prop where
 os:w'.os=w.os
 tape:w'.tape=w.tape
 output:w'.output=w.output
 size:w.heap.size≤w'.heap.size
 block:∀ x,x<w.heap.size→x≠b→w'.heap[x]?=w.heap[x]?
 row:w'.heap[b]?=some (.cells cur t (0,0))
theorem RowX.set {w V:World} {b:Nat} {t:TypeId} {cur:Array Value} (h:RowX w b t cur V) (o:Nat) (v:Value):RowX w b t (cur.setIfInBounds o v) (V.setCell ⟨b,o,none⟩ v):=by
 refine ⟨h.os,h.tape,h.output,by simpa [World.setCell] using h.size,fun x hx hne=>?_,?_⟩
 ·simp only [World.setCell,Array.getElem?_modify]
  rw [if_neg (fun e=>hne e.symm)]
  exact h.block x hx hne
 ·simp only [World.setCell,Array.getElem?_modify,if_true,h.row,yK,Option.isSome_none,if_false]
  rfl
theorem RowX.cells {w:World} {b:Nat} {t:TypeId}:∀ (vs:List Value) (o:Nat) {V:World} {cur:Array Value},RowX w b t cur V→o+vs.length≤cur.size→∃ cur',RowX w b t cur' (V.setCells b o vs)∧cur'.size=cur.size∧∀ q,cur'.getD q undef=if o≤q∧q<o+vs.length then vs.getD (q-o) undef else cur.getD q undef
 | [],o,V,cur,h,_=>⟨cur,h,rfl,fun q=>by
  have e:¬ (o≤q∧q<o+([]:List Value).length):=by simp only [z9]; omega
  rw [if_neg e]⟩
 | v :: r,o,V,cur,h,hl=>by
  simp only [zQ] at hl
  obtain ⟨cur',h1,h2,h3⟩:=RowX.cells r (o+1) (h.set o v) (by simp; omega)
  refine ⟨cur',h1,by simpa using h2,fun q=>?_⟩
  rw [h3 q]
  simp only [zQ]
  by_cases e:q=o
  ·subst e
   rw [if_neg (by omega),if_pos (by omega),Nat.sub_self]
   simp [zW,yL,show q<cur.size by omega]
  ·by_cases h4:o+1≤q∧q<o+1+r.length
   ·rw [if_pos h4,if_pos (by omega),show q-o=(q-(o+1))+1 by omega]; rfl
   ·rw [if_neg h4,if_neg (by omega)]
    simp only [zW,yL]
    rw [if_neg (fun h=>e h.symm)]
theorem Hd {w:World} {b:Nat} {cur:Array Value} {t:TypeId} (hb:w.heap[b]?=some (.cells cur t (0,0))) {q:Nat} (hlt:q<cur.size):w.cell? ⟨b,q,none⟩=some (cur.getD q undef):=by
 unfold World.cell?
 simp only [hb,Option.isSome_none,if_false]
 rw [zW,Array.getElem?_eq_getElem hlt]
 rfl
theorem M4 {w:World} {b:Nat} {cur:Array Value} {t:TypeId} (hb:w.heap[b]?=some (.cells cur t (0,0))) (o:Nat):w.frozen? ⟨b,o,none⟩=false:=by
 unfold World.frozen?
 rw [hb]
 simp
theorem O2 (base:Option Addr) (n c:Nat) (vb vc:Nat) (w w':World) (v':Value) (hb:base=none→n=0∧c=0)
  (hap:∀ ty,(Builtin.append_ #[24,24] ty #[.slice base n c,.slice (some ⟨vb,0,none⟩) 1 vc]).run Try.prog w=.ok v' w') :
  Calls Try.prog 40 #[.slice base n c,.int .i64 (n:Int),.slice (some ⟨vb,0,none⟩) 1 vc] w fun e w2=>e=.returned v'∧w2=w':=by
 have mixed:Try.prog.follows .mixedOrders=true:=by kernel_rfl
 go_enter Try.func40,Try.ntmps40
 go_wp2_with (at_builtin; refine Lib.wpList_append_run _ rfl _ _ _ _ rfl _ _ rfl rfl _ _ (hap _) ?_)
 all_goals (go_ret; exact ⟨rfl,rfl⟩)
end Go.Proofs.Ytmhjhclgihoaeaa
set_option maxRecDepth 100000
set_option linter.unusedSimpArgs false
set_option linter.unusedVariables false
set_option linter.unusedSectionVars false
namespace Go.Proofs.Ytmhjhclgihoaeaa
open Go.RowKit Go.Shelf
theorem Rg (n i c:Nat) (hi:i<n) (hroom:n+1≤c) (hc63:c≤9223372036854775807) (w:World) (b vb vc:Nat) (cur curv:Array Value) (t tv:TypeId) (hb:w.heap[b]?=some (.cells cur t (0,0))) (hsz:cur.size=c*4) (hvb:w.heap[vb]?=some (.cells curv tv (0,0))) (hszv:curv.size=vc*4) (hvc:1≤vc) (hne:vb≠b)
  (hone:∀ q,q<n*4→(cur.getD q undef).oneCell'=true) (honev:∀ q,q<4→(curv.getD q undef).oneCell'=true) :
  Calls Try.prog 40 #[.slice (some ⟨b,0,none⟩) n c,.int .i64 (i:Int),.slice (some ⟨vb,0,none⟩) 1 vc] w fun e w'=>e=.returned (.slice (some ⟨b,0,none⟩) (n+1) c) ∧
   ∃ cur',RowX w b t cur' w'∧cur'.size=cur.size∧∀ p,p<n+1→∀ j,j<4→cur'.getD (p*4+j) undef=if p<i then cur.getD (p*4+j) undef else if p=i then curv.getD j undef else cur.getD ((p-1)*4+j) undef:=by
 obtain ⟨i0,z,hi0,hz0,hs0,hzc,hby⟩:=KQ
 have hs4:(Try.prog.info? 57).map (·.size)=some 4:=by rw [hi0]; simp [hs0]
 obtain ⟨cs,hcs⟩:∃ cs,cs=(yQ ((n-i)*4)).map fun q=>cur.getD (i*4+q) undef:=⟨_,rfl⟩
 obtain ⟨vs,hvs⟩:∃ vs,vs=(yQ 4).map fun q=>curv.getD q undef:=⟨_,rfl⟩
 have hcl:cs.length=(n-i)*4:=by rw [hcs]; simp
 have hvl:vs.length=4:=by rw [hvs]; simp
 have hcg:∀ q,q<(n-i)*4→cs[q]?=some (cur.getD (i*4+q) undef):=fun q hq=>by rw [hcs,zT,z3 hq]; rfl
 have hvg:∀ q,q<4→vs[q]?=some (curv.getD q undef):=fun q hq=>by rw [hvs,zT,z3 hq]; rfl
 have h1c:∀ v∈cs,v.oneCell'=true:=by
  intro u hu
  rw [hcs] at hu
  obtain ⟨q,hq,rfl⟩:=yX.1 hu
  rw [yH] at hq
  exact hone _ (by omega)
 have h1v:∀ v∈vs,v.oneCell'=true:=by
  intro u hu
  rw [hvs] at hu
  obtain ⟨q,hq,rfl⟩:=yX.1 hu
  rw [yH] at hq
  exact honev _ hq
 have hov:∀ (W:World),W.heap[b]?=some (.cells cur t (0,0))→W.heap[vb]?=some (.cells curv tv (0,0))→∀ lb cb,(callFunc 60 #[.slice (some ⟨vb,0,none⟩) 1 vc,.slice (some ⟨b,(i+1)*4,none⟩) lb cb]).run Try.prog W=.ok (.value (.bool false)) W:=fun W hb hvb lb cb=>by
  rw [run_callFunc_extern (fn:=Try.f60) (by kernel_rfl) (by kernel_rfl) (by kernel_rfl) (by kernel_rfl) (e:=Extern.SlicesOverlaps.overlaps #[24,24] #[4]) (by kernel_rfl),
   Lib.run_overlaps_apart W 24 4 57 Try.underlying24 4 (fun w=>by simp [Go.sizeOf,typeInfo,hi0,hs0]) ⟨vb,0,none⟩ ⟨b,(i+1)*4,none⟩ 1 vc lb cb hne tv t curv.size cur.size (by simp [World.shape?,hvb]) (by simp [World.shape?,hb]) (by omega) (M4 hvb _) (M4 hvb _)]
  rfl
 have hmA:y9 (n-i) (n+1-(i+1))=n-i:=by simp only [yT]; split <;> omega
 have hmA':y9 (n+1-i) (n+1-(i+1))=n-i:=by simp only [yT]; split <;> omega
 have hmB:y9 1 (n+1-i)=1:=by simp only [yT]; split <;> omega
 have hcpA:∀ (W:World),W.heap[b]?=some (.cells cur t (0,0))→∀ ty dc sc,(Builtin.copy_ #[24,24] ty #[.slice (some ⟨b,(i+1)*4,none⟩) (n+1-(i+1)) dc,.slice (some ⟨b,i*4,none⟩) (n+1-i) sc]).run Try.prog W=.ok (goInt ((n-i:Nat):Int)) (W.setCells b ((i+1)*4) cs):=fun W hW ty dc sc=>by
  have h:=Ft (P:=Try.prog) W 24 24 ty 57 4 b ((i+1)*4) (n+1-(i+1)) dc ⟨b,i*4,none⟩ (n+1-i) sc cs Try.underlying24 hs4 (by rw [hmA',hcl])
   (fun j v hj=>by
    have hq:j<(n-i)*4:=by rw [←hcl]; exact (zU.1 hj).1
    rw [hcg j hq] at hj
    rw [Addr.add_lit,← hj]
    exact Hd hW (by omega))
   (fun j hj=>by rw [hcl] at hj; rw [Hd hW (by omega)]; rfl) (fun j hj=>M4 hW _) h1c
  rw [hmA'] at h
  exact h
 obtain ⟨W1,hW1⟩:∃ W1,W1=w.drew.setCells b ((i+1)*4) cs:=⟨_,rfl⟩
 have hr0:RowX w b t cur w.drew:=⟨rfl,rfl,rfl,zL _,fun _ _ _=>rfl,hb⟩
 obtain ⟨cur1,hr1,hz1,hg1⟩:=hr0.cells cs ((i+1)*4) (by rw [hcl]; omega)
 rw [←hW1] at hr1
 have hvlt:vb<w.heap.size:=(yB.1 hvb).1
 have hvb1:W1.heap[vb]?=some (.cells curv tv (0,0)):=by rw [hr1.block vb hvlt hne]; exact hvb
 have hcpB:∀ (W:World),W.heap[b]?=some (.cells cur1 t (0,0))→W.heap[vb]?=some (.cells curv tv (0,0))→∀ ty dc,(Builtin.copy_ #[24,24] ty #[.slice (some ⟨b,i*4,none⟩) (n+1-i) dc,.slice (some ⟨vb,0,none⟩) 1 vc]).run Try.prog W=.ok (goInt 1) (W.setCells b (i*4) vs):=fun W hW hWv ty dc=>by
  have h:=Ft (P:=Try.prog) W 24 24 ty 57 4 b (i*4) (n+1-i) dc ⟨vb,0,none⟩ 1 vc vs Try.underlying24 hs4 (by rw [hmB,hvl])
   (fun j v hj=>by
    have hq:j<4:=by rw [←hvl]; exact (zU.1 hj).1
    rw [hvg j hq] at hj
    rw [Addr.add_lit,← hj]
    have:=Hd hWv (q:=0+j) (by omega)
    rw [this,yY])
   (fun j hj=>by rw [hvl] at hj; rw [Hd hW (by omega)]; rfl) (fun j hj=>M4 hW _) h1v
  rw [hmB] at h
  exact h
 obtain ⟨cur2,hr2,hz2,hg2⟩:=hr1.cells vs (i*4) (by rw [hvl]; omega)
 have hA:=hcpA w.drew hb
 rw [←hW1,show n+1-(i+1)=n-i by omega] at hA
 have hO:=hov w hb hvb
 have hfin:Hid (∃ cur',RowX w b t cur' (W1.setCells b (i*4) vs)∧cur'.size=cur.size∧∀ p,p<n+1→∀ j,j<4→cur'.getD (p*4+j) undef=if p<i then cur.getD (p*4+j) undef else if p=i then curv.getD j undef else cur.getD ((p-1)*4+j) undef):=by
  refine ⟨cur2,hr2,by rw [hz2,hz1],fun p hp j hj=>?_⟩
  rw [hg2,hvl]
  by_cases h1:p<i
  ·rw [if_neg (by omega),if_pos h1,hg1,hcl,if_neg (by omega)]
  ·by_cases h2:p=i
   ·subst h2
    rw [if_pos (by omega),if_neg (by omega),if_pos rfl,zX,hvg _ (by omega),z4]
    congr 1
    omega
   ·rw [if_neg (by omega),if_neg h1,if_neg h2,hg1,hcl,if_pos (by omega),zX,hcg _ (by omega),z4]
    congr 1
    omega
 have hB1:=hcpB W1 hr1.row hvb1
 have mixed:Try.prog.follows .mixedOrders=true:=by kernel_rfl
 have hz1':¬ ((i:Int)=(n:Int)):=by omega
 have hw1:IntKind.i64.wrap ((i:Int)+1)=(i:Int)+1:=by rw [IntKind.wrap_i64]; omega
 have hb1:(0:Int)≤(i:Int)+1:=by omega
 have hin:i≤n:=by omega
 have htn:((i:Int)+1).toNat=i+1:=by omega
 have hb2:¬ (c=i+1):=by omega
 have hb3:(i:Int)≤(n:Int)+1:=by omega
 have hb4:¬ (c=i):=by omega
 clear hcpA hcpB hov hr0 hr1 hr2 hg1 hg2 hcg hvg hone honev hcs hvs h1c h1v hW1 hz1 hz2 hb hvb hvb1
 go_enter Try.func40,Try.ntmps40
 go_wp2_with (simp only [hO])
 go_region_law_o (refine step_copy_runI rfl (.tmp 73) (.tmp 76) 24 24 rfl _ _ (by simp [Act.eval,Act.put]) (by simp [Act.eval,Act.put]) (hA _ _ _) ?_)
 go_wp2_with (simp only [hB1])
 go_ret
 exact ⟨rfl,hfin.out⟩
end Go.Proofs.Ytmhjhclgihoaeaa
set_option maxRecDepth 100000
set_option linter.unusedSimpArgs false
set_option linter.unusedVariables false
set_option linter.unusedSectionVars false
namespace Go.Proofs.Ytmhjhclgihoaeaa
open Go.RowKit Go.Shelf
theorem Rh (n i c:Nat) (hi:i<n) (hnc:n≤c) (hroom:c<n+1) (hbig:n≤1048576) (w:World) (b vb vc:Nat) (cur curv:Array Value) (t tv:TypeId) (hb:w.heap[b]?=some (.cells cur t (0,0))) (hsz:cur.size=c*4) (hvb:w.heap[vb]?=some (.cells curv tv (0,0))) (hszv:curv.size=vc*4) (hvc:1≤vc)
  (hone:∀ q,q<n*4→(cur.getD q undef).oneCell'=true) (honev:∀ q,q<4→(curv.getD q undef).oneCell'=true) :
  Calls Try.prog 40 #[.slice (some ⟨b,0,none⟩) n c,.int .i64 (i:Int),.slice (some ⟨vb,0,none⟩) 1 vc] w fun e w'=>∃ (G:Nat) (ROW cur':Array Value),e=.returned (.slice (some ⟨w.heap.size,0,none⟩) (n+1) G) ∧
   RowX (w.drew.alloc (.cells ROW 57)) w.heap.size 57 cur' w'∧cur'.size=G*4∧n+1≤G∧G≤9223372036854775807∧∀ p,p<n+1→∀ j,j<4→cur'.getD (p*4+j) undef=if p<i then cur.getD (p*4+j) undef else if p=i then curv.getD j undef else cur.getD ((p-1)*4+j) undef:=by
 obtain ⟨i0,z,hi0,hz0,hs0,hzc,hby⟩:=KQ
 have hs4:(Try.prog.info? 57).map (·.size)=some 4:=by rw [hi0]; simp [hs0]
 obtain ⟨hd,hhd⟩:∃ hd,hd=(yQ (i*4)).map fun q=>cur.getD q undef:=⟨_,rfl⟩
 have hhl:hd.length=i*4:=by rw [hhd]; simp
 have hhg:∀ q,q<i*4→hd[q]?=some (cur.getD q undef):=fun q hq=>by rw [hhd,zT,z3 hq]; rfl
 have hold:(Builtin.firstCells i0.size i (.slice (some ⟨b,0,none⟩) i c)).run Try.prog w.drew=.ok hd.toArray w.drew:=by
  rw [hs0]
  exact run_firstCells_some w.drew 4 i ⟨b,0,none⟩ i c hd (by rw [hhl]) (fun j v hj=>by
   have hq:j<i*4:=by rw [←hhl]; exact (zU.1 hj).1
   rw [hhg j hq] at hj
   rw [Addr.add_lit,← hj]
   have hbd:w.drew.heap[b]?=some (.cells cur t (0,0)):=hb
   have:=Hd hbd (q:=0+j) (by omega)
   rw [this,yY])
 have hkk:(n:Int)+1-(i:Int)=((n+1-i:Nat):Int):=by omega
 have hik:i+(n+1-i)=n+1:=by omega
 have hrz:∀ ty,(Builtin.append_ #[24,3] ty #[.slice (some ⟨b,0,none⟩) i c,.int .i64 ((n:Int)+1-(i:Int))]).run Try.prog w =
   .ok (.slice (some ⟨w.heap.size,0,none⟩) (n+1) (grownCap w (n+1) c 57)) (w.drew.alloc (.cells (hd.toArray++Builtin.zeroCells z.cells (n+1-i)++Builtin.zeroCells z.cells (grownCap w (n+1) c 57-(n+1))) 57)):=fun ty=>by
  have h:=Lib.run_append_grow_zeros w 24 3 ty 57 i0 z .i64 .i64 Try.underlying24 Try.underlying3 hi0 hz0 (some ⟨b,0,none⟩) i c hd hold (n+1-i) (by omega) (by omega) (by omega) (by omega) (by rw [hby]; omega) (by rw [hby,hik]; exact growslice_fits hroom (by omega))
  rw [hik] at h
  rw [hkk]
  exact h
 obtain ⟨G,hG⟩:∃ G,G=grownCap w (n+1) c 57:=⟨_,rfl⟩
 obtain ⟨ROW,hROW⟩:∃ ROW:Array Value,ROW=hd.toArray++Builtin.zeroCells z.cells (n+1-i)++Builtin.zeroCells z.cells (G-(n+1)):=⟨_,rfl⟩
 rw [←hG] at hrz
 rw [←hROW] at hrz
 have hGn:n+1≤G:=by rw [hG]; exact grownCap_ge w _ _ _
 have hG63:G≤9223372036854775807:=by
  have:=grownCap_le_maxLen w (n+1) c 57 (by unfold maxLen; omega)
  rw [←hG] at this
  unfold maxLen at this
  omega
 have hRl:ROW.size=G*4:=by
  rw [hROW]
  simp [Builtin.zeroCells,hzc,hhl]
  omega
 have hRg:∀ q,q<i*4→ROW.getD q undef=cur.getD q undef:=fun q hq=>by
  rw [hROW,Array.append_assoc,zW,Array.getElem?_append_left (by simp [hhl]; omega)]
  rw [List.getElem?_toArray,hhg q hq,z4]
 obtain ⟨cs,hcs⟩:∃ cs,cs=(yQ ((n-i)*4)).map fun q=>cur.getD (i*4+q) undef:=⟨_,rfl⟩
 obtain ⟨vs,hvs⟩:∃ vs,vs=(yQ 4).map fun q=>curv.getD q undef:=⟨_,rfl⟩
 have hcl:cs.length=(n-i)*4:=by rw [hcs]; simp
 have hvl:vs.length=4:=by rw [hvs]; simp
 have hcg:∀ q,q<(n-i)*4→cs[q]?=some (cur.getD (i*4+q) undef):=fun q hq=>by rw [hcs,zT,z3 hq]; rfl
 have hvg:∀ q,q<4→vs[q]?=some (curv.getD q undef):=fun q hq=>by rw [hvs,zT,z3 hq]; rfl
 have h1c:∀ v∈cs,v.oneCell'=true:=by
  intro u hu
  rw [hcs] at hu
  obtain ⟨q,hq,rfl⟩:=yX.1 hu
  rw [yH] at hq
  exact hone _ (by omega)
 have h1v:∀ v∈vs,v.oneCell'=true:=by
  intro u hu
  rw [hvs] at hu
  obtain ⟨q,hq,rfl⟩:=yX.1 hu
  rw [yH] at hq
  exact honev _ hq
 obtain ⟨W0,hW0⟩:∃ W0,W0=w.drew.alloc (.cells ROW 57):=⟨_,rfl⟩
 have hnew:W0.heap[w.heap.size]?=some (.cells ROW 57 (0,0)):=by rw [hW0]; exact heap_alloc_new w.drew _
 have hbl0:∀ x,x<w.heap.size→W0.heap[x]?=w.heap[x]?:=fun x hx=>by rw [hW0]; exact Below.heap_alloc w.drew _ x hx
 have hblt:b<w.heap.size:=(yB.1 hb).1
 have hvlt:vb<w.heap.size:=(yB.1 hvb).1
 have hW0s:W0.heap.size=w.heap.size+1:=by rw [hW0]; exact y3 _
 have hr0:RowX W0 w.heap.size 57 ROW W0:=⟨rfl,rfl,rfl,zL _,fun _ _ _=>rfl,hnew⟩
 obtain ⟨cur1,hr1,hz1,hg1⟩:=hr0.cells vs (i*4) (by rw [hvl]; omega)
 obtain ⟨W1,hW1⟩:∃ W1,W1=W0.setCells w.heap.size (i*4) vs:=⟨_,rfl⟩
 rw [←hW1] at hr1
 have hb1:W1.heap[b]?=some (.cells cur t (0,0)):=by rw [hr1.block b (by omega) (by omega),hbl0 b hblt]; exact hb
 have hvb0:W0.heap[vb]?=some (.cells curv tv (0,0)):=by rw [hbl0 vb hvlt]; exact hvb
 have hr1d:RowX W0 w.heap.size 57 cur1 W1.drew:=⟨hr1.os,hr1.tape,hr1.output,hr1.size,hr1.block,hr1.row⟩
 obtain ⟨cur2,hr2,hz2,hg2⟩:=hr1d.cells cs ((i+1)*4) (by rw [hcl]; omega)
 have hmA:y9 1 (n+1-i)=1:=by simp only [yT]; split <;> omega
 have hmB:y9 (n-i) (n-i)=n-i:=by simp only [yT]; split <;> omega
 have hcpA:∀ (W:World),W.heap[w.heap.size]?=some (.cells ROW 57 (0,0))→W.heap[vb]?=some (.cells curv tv (0,0))→∀ ty dc,(Builtin.copy_ #[24,24] ty #[.slice (some ⟨w.heap.size,i*4,none⟩) (n+1-i) dc,.slice (some ⟨vb,0,none⟩) 1 vc]).run Try.prog W=.ok (goInt 1) (W.setCells w.heap.size (i*4) vs):=fun W hW hWv ty dc=>by
  have h:=Ft (P:=Try.prog) W 24 24 ty 57 4 w.heap.size (i*4) (n+1-i) dc ⟨vb,0,none⟩ 1 vc vs Try.underlying24 hs4 (by rw [hmA,hvl])
   (fun j v hj=>by
    have hq:j<4:=by rw [←hvl]; exact (zU.1 hj).1
    rw [hvg j hq] at hj
    rw [Addr.add_lit,← hj]
    have:=Hd hWv (q:=0+j) (by omega)
    rw [this,yY])
   (fun j hj=>by rw [hvl] at hj; rw [Hd hW (by omega)]; rfl) (fun j hj=>M4 hW _) h1v
  rw [hmA] at h
  exact h
 have hcpB:∀ (W:World),W.heap[w.heap.size]?=some (.cells cur1 57 (0,0))→W.heap[b]?=some (.cells cur t (0,0))→∀ ty dc sc,(Builtin.copy_ #[24,24] ty #[.slice (some ⟨w.heap.size,(i+1)*4,none⟩) (n-i) dc,.slice (some ⟨b,i*4,none⟩) (n-i) sc]).run Try.prog W=.ok (goInt ((n-i:Nat):Int)) (W.setCells w.heap.size ((i+1)*4) cs):=fun W hW hWb ty dc sc=>by
  have h:=Ft (P:=Try.prog) W 24 24 ty 57 4 w.heap.size ((i+1)*4) (n-i) dc ⟨b,i*4,none⟩ (n-i) sc cs Try.underlying24 hs4 (by rw [hmB,hcl])
   (fun j v hj=>by
    have hq:j<(n-i)*4:=by rw [←hcl]; exact (zU.1 hj).1
    rw [hcg j hq] at hj
    rw [Addr.add_lit,← hj]
    exact Hd hWb (by omega))
   (fun j hj=>by rw [hcl] at hj; rw [Hd hW (by omega)]; rfl) (fun j hj=>M4 hW _) h1c
  rw [hmB] at h
  exact h
 have hfin:Hid (RowX W0 w.heap.size 57 cur2 (W1.drew.setCells w.heap.size ((i+1)*4) cs)∧cur2.size=G*4∧n+1≤G∧G≤9223372036854775807∧∀ p,p<n+1→∀ j,j<4→cur2.getD (p*4+j) undef=if p<i then cur.getD (p*4+j) undef else if p=i then curv.getD j undef else cur.getD ((p-1)*4+j) undef):=by
  refine ⟨hr2,by rw [hz2,hz1,hRl],hGn,hG63,fun p hp j hj=>?_⟩
  rw [hg2,hcl]
  by_cases h1:p<i
  ·rw [if_neg (by omega),if_pos h1,hg1,hvl,if_neg (by omega),hRg _ (by omega)]
  ·by_cases h2:p=i
   ·subst h2
    rw [if_neg (by omega),if_neg (by omega),if_pos rfl,hg1,hvl,if_pos (by omega),zX,hvg _ (by omega),z4]
    congr 1
    omega
   ·rw [if_pos (by omega),if_neg h1,if_neg h2,zX,hcg _ (by omega),z4]
    congr 1
    omega
 rw [←hW0] at hrz
 have hA0:=hcpA W0 hnew hvb0
 rw [←hW1] at hA0
 have hB0:=hcpB W1.drew hr1.row hb1
 have mixed:Try.prog.follows .mixedOrders=true:=by kernel_rfl
 have hz1':¬ ((i:Int)=(n:Int)):=by omega
 have hz3:(c:Int)<(n:Int)+1:=by omega
 have hw1:IntKind.i64.wrap ((i:Int)+1)=(i:Int)+1:=by rw [IntKind.wrap_i64]; omega
 have hb1':(0:Int)≤(i:Int)+1:=by omega
 have hin:i≤n:=by omega
 have htn:((i:Int)+1).toNat=i+1:=by omega
 have hb2:¬ (G=i):=by omega
 have hb3:(i:Int)≤(n:Int):=by omega
 have hb4:¬ (c=i):=by omega
 have hb5:¬ (G=i+1):=by omega
 have hb6:n+1-(i+1)=n-i:=by omega
 have hW:Hid (W0=w.drew.alloc (.cells ROW 57)):=hW0
 clear hr1d hW0 hW1 hcpA hcpB hr0 hr1 hr2 hg1 hg2 hcg hvg hhg hone honev hcs hvs h1c h1v hz1 hz2 hb hvb hnew hb1 hvb0 hold hROW hG hRg hbl0 hhd hRl hmA hmB hW0s hkk hik hsz hszv hhl hcl hvl
 go_enter Try.func40,Try.ntmps40
 go_wp2_with (first
  |(at_builtin; refine Lib.wpList_append_run _ rfl _ _ _ _ rfl _ _ rfl rfl _ _ (hrz _) ?_)
  |(at_builtin; refine wpList_copy_runI _ rfl _ _ 24 24 rfl _ _ rfl rfl (hA0 _ _) ?_))
 go_region_law_o (refine step_copy_runI rfl (.tmp 50) (.tmp 53) 24 24 rfl _ _ (by simp [Act.eval,Act.put]) (by simp [Act.eval,Act.put]) (hB0 _ _ _) ?_)
 go_wp2
 go_ret
 exact ⟨G,ROW,cur2,rfl,by rw [←hW.out]; exact hfin.out.1,hfin.out.2.1,hfin.out.2.2.1,hfin.out.2.2.2.1,hfin.out.2.2.2.2⟩
end Go.Proofs.Ytmhjhclgihoaeaa
set_option maxRecDepth 100000
set_option linter.unusedSimpArgs false
set_option linter.unusedVariables false
set_option linter.unusedSectionVars false
namespace Go.Proofs.Ytmhjhclgihoaeaa
open Go.RowKit Go.Shelf
theorem S4 {α:Type} (es:List α) (x:α) (i:Nat) (hi:i≤es.length):(es.take i++x :: es.drop i).length=es.length+1:=by simp; omega
theorem S5 {α:Type} {es:List α} {x:α} {i:Nat} {p:Nat} (hp:p<(es.take i++x :: es.drop i).length) (h:p<i) (hi:i≤es.length):∃ hq:p<es.length,(es.take i++x :: es.drop i)[p]=es[p]:=by
 have hq:p<es.length:=by omega
 refine ⟨hq,?_⟩
 rw [List.getElem_append_left (by simp; omega),List.getElem_take]
theorem S6 {α:Type} {es:List α} {x:α} {i:Nat} (hp:i<(es.take i++x :: es.drop i).length) (hi:i≤es.length):(es.take i++x :: es.drop i)[i]=x:=by
 rw [yS (by simp; omega)]
 have e:i-(es.take i).length=0:=by simp; omega
 simp only [e,List.getElem_cons_zero]
theorem S7 {α:Type} {es:List α} {x:α} {i:Nat} {p:Nat} (hp:p<(es.take i++x :: es.drop i).length) (h:i<p) (hi:i≤es.length):∃ hq:p-1<es.length,(es.take i++x :: es.drop i)[p]=es[p-1]:=by
 have hq:p-1<es.length:=by rw [S4 es x i hi] at hp; omega
 refine ⟨hq,?_⟩
 rw [yS (by simp; omega)]
 have e:p-(es.take i).length=(p-1-i)+1:=by simp; omega
 simp only [e,z6,List.getElem_drop]
 congr 1
 omega
theorem O3 {w w':World} {I S0 S1 S':Nat→Prop} {es:List (List OT)} {x:List OT} {i b b' G:Nat} (hi:i≤es.length) {cur curv cur':Array Value} {Sub Subv:Nat→Nat→Nat→Prop}
  (g4:∀ i (h:i<es.length),es[i].length=4) (g5:∀ i j x,Sub i j x→S0 x∧x≠b) (g6:∀ i j i' j' x,Sub i j x→Sub i' j' x→i=i'∧j=j') (g7:∀ i j (h:i<es.length) (h':j<es[i].length),ORep w I (Sub i j) (es[i][j]) (cur.getD (i*4+j) undef))
  (a4:x.length=4) (a5:∀ j x,Subv 0 j x→S1 x) (a6:∀ j j' x,Subv 0 j x→Subv 0 j' x→j=j') (a7:∀ j (h':j<x.length),ORep w I (Subv 0 j) (x[j]) (curv.getD j undef))
  (h01:∀ b,S0 b→¬ S1 b) (hsz:w.heap.size≤w'.heap.size) (hk:∀ y,y<w.heap.size→(I y∨(S0 y∧y≠b)∨S1 y)→w'.heap[y]?=w.heap[y]?)
  (hb':w'.heap[b']?=some (.cells cur' 57 (0,0))) (hS':S' b') (hSub:∀ y,(S0 y∧y≠b)∨S1 y→S' y∧y≠b') (hG:es.length+1≤G) (hG63:G≤9223372036854775807) (hcs:cur'.size=G*4)
  (hcell:∀ p,p<es.length+1→∀ j,j<4→cur'.getD (p*4+j) undef=if p<i then cur.getD (p*4+j) undef else if p=i then curv.getD j undef else cur.getD ((p-1)*4+j) undef) :
  RowR w' I S' 57 4 (es.take i++x :: es.drop i) (.slice (some ⟨b',0,none⟩) (es.length+1) G):=by
 have hlen:=S4 es x i hi
 have hks:KeepS I w w':=⟨hsz,fun y hy hlt=>hk y hlt (.inl hy)⟩
 refine .inr ⟨b',G,cur',fun p j y=>(p<i∧Sub p j y)∨(p=i∧Subv 0 j y)∨(i<p∧Sub (p-1) j y),by rw [hlen],hS',hb',by rw [hlen]; exact hG,hG63,hcs,fun p hp=>?_,fun p j y h=>?_,fun p j p' j' y h h'=>?_,fun p j hp hj=>?_⟩
 ·rcases yU p i with h | h | h
  ·obtain ⟨hq,e⟩:=S5 hp h hi
   rw [e]; exact g4 _ hq
  ·subst h
   rw [S6 hp hi]; exact a4
  ·obtain ⟨hq,e⟩:=S7 hp h hi
   rw [e]; exact g4 _ hq
 ·rcases h with ⟨_,h⟩ | ⟨_,h⟩ | ⟨_,h⟩
  ·exact hSub y (.inl (g5 _ _ _ h))
  ·exact hSub y (.inr (a5 _ _ h))
  ·exact hSub y (.inl (g5 _ _ _ h))
 ·rcases h with ⟨q,h⟩ | ⟨q,h⟩ | ⟨q,h⟩ <;> rcases h' with ⟨q',h'⟩ | ⟨q',h'⟩ | ⟨q',h'⟩
  ·exact g6 _ _ _ _ _ h h'
  ·exact (h01 _ (g5 _ _ _ h).1 (a5 _ _ h')).elim
  ·obtain ⟨k1,k2⟩:=g6 _ _ _ _ _ h h'
   exact ⟨by omega,k2⟩
  ·exact (h01 _ (g5 _ _ _ h').1 (a5 _ _ h)).elim
  ·exact ⟨by omega,a6 _ _ _ h h'⟩
  ·exact (h01 _ (g5 _ _ _ h').1 (a5 _ _ h)).elim
  ·obtain ⟨k1,k2⟩:=g6 _ _ _ _ _ h h'
   exact ⟨by omega,k2⟩
  ·exact (h01 _ (g5 _ _ _ h).1 (a5 _ _ h')).elim
  ·obtain ⟨k1,k2⟩:=g6 _ _ _ _ _ h h'
   exact ⟨by omega,k2⟩
 ·have hp':p<es.length+1:=by omega
  rcases yU p i with h | h | h
  ·obtain ⟨hq,e⟩:=S5 hp h hi
   have hj':j<es[p].length:=by rw [←e]; exact hj
   have h7:=(g7 p j hq hj').keep (w':=w') hks (fun _ h=>h) fun y hy hlt=>hk y hlt (.inr (.inl (g5 _ _ _ hy)))
   rw [hcell p hp' j (by rw [g4 _ hq] at hj'; exact hj'),if_pos h]
   have h8:=h7.up (S':=fun y=>(p<i∧Sub p j y)∨(p=i∧Subv 0 j y)∨(i<p∧Sub (p-1) j y)) fun y hy=>.inl ⟨h,hy⟩
   simp only [e]
   exact h8
  ·subst h
   have e:=S6 hp hi
   have hj':j<x.length:=by rw [←e]; exact hj
   have h7:=(a7 j hj').keep (w':=w') hks (fun _ h=>h) fun y hy hlt=>hk y hlt (.inr (.inr (a5 _ _ hy)))
   rw [hcell p hp' j (by rw [a4] at hj'; exact hj'),if_neg (by omega),if_pos rfl]
   have h8:=h7.up (S':=fun y=>(p<p∧Sub p j y)∨(p=p∧Subv 0 j y)∨(p<p∧Sub (p-1) j y)) fun y hy=>.inr (.inl ⟨rfl,hy⟩)
   have h9:∀ (l:List OT) (hl:(es.take p++x :: es.drop p)[p]=l) (hj:j<(es.take p++x :: es.drop p)[p].length) (hj':j<l.length),((es.take p++x :: es.drop p)[p])[j]=l[j]:=fun l hl hj hj'=>by subst hl; rfl
   rw [h9 x e hj hj']
   exact h8
  ·obtain ⟨hq,e⟩:=S7 hp h hi
   have hj':j<es[p-1].length:=by rw [←e]; exact hj
   have h7:=(g7 (p-1) j hq hj').keep (w':=w') hks (fun _ h=>h) fun y hy hlt=>hk y hlt (.inr (.inl (g5 _ _ _ hy)))
   rw [hcell p hp' j (by rw [g4 _ hq] at hj'; exact hj'),if_neg (by omega),if_neg (by omega)]
   have h8:=h7.up (S':=fun y=>(p<i∧Sub p j y)∨(p=i∧Subv 0 j y)∨(i<p∧Sub (p-1) j y)) fun y hy=>.inr (.inr ⟨h,hy⟩)
   simp only [e]
   exact h8
theorem M5 {w:World} {I S0 S1:Nat→Prop} {t1:TypeId} {es:List (List OT)} {x:List OT} {v0 v1:Value} (i:Nat) (hi:i≤es.length) (hbig:es.length≤1048576)
  (h0:RowR w I S0 57 4 es v0) (h1:RowR w I S1 t1 4 [x] v1) (l1:∀ b,S1 b→b<w.heap.size) (l0:∀ b,S0 b→b<w.heap.size) (hI0:∀ b,S0 b→¬ I b) (h01:∀ b,S0 b→¬ S1 b) :
  Calls Try.prog 40 #[v0,.int .i64 (i:Int),v1] w fun e w'=>∃ v' S',e=.returned v'∧RowR w' I S' 57 4 (es.take i++x :: es.drop i) v' ∧
   (∀ b,S' b→S0 b∨S1 b∨(w.heap.size≤b∧b<w'.heap.size))∧w'.os=w.os∧TapeOk w w'∧w'.output=w.output∧w.heap.size≤w'.heap.size∧∀ b,b<w.heap.size→¬ S0 b→w'.heap[b]?=w.heap[b]?:=by
 obtain ⟨i0,z,hi0,hz0,hs0,hzc,hby⟩:=KQ
 rcases h1 with ⟨he,_⟩ | ⟨vb,vc,curv,Subv,rfl,hsv,hvb,a1,a2,a3,a4,a5,a6,a7⟩
 ·cases he
 have a4':x.length=4:=a4 0 (by simp)
 by_cases hin:i=es.length
 ·subst hin
  obtain ⟨v',w',S',hrun,hrow,hS',o1,o2,o3,o4,o5⟩:=Hz (P:=Try.prog) (w:=w) (I:=I) (S:=S0) (T:=S1) (t:=57) (es:=es) (new:=[x]) (tr:=24) (ty:=24) (val:=fun i j=>curv.getD (i*4+j) undef) (Sub':=Subv) (a:=some ⟨vb,0,none⟩) (cp:=vc) (v:=v0) Try.underlying24 hi0 hz0 hs0 hzc (by omega)
   hI0 h0 (fun _=>⟨vb,0,rfl,fun i j hi hj=>by
    have hi':i=0:=by simp at hi; omega
    subst hi'
    have hq:0*4+j<curv.size:=by simp at a1; omega
    have:=Hd hvb hq
    rw [←this]; try simp⟩) a4 (fun i j x hx=>(a5 i j x hx).1) l1 h01 a6 a7 (by simp; omega) (by rw [hby]; simp; omega)
  have hcon:Calls Try.prog 40 #[v0,.int .i64 (es.length:Int),.slice (some ⟨vb,0,none⟩) 1 vc] w fun e w2=>e=.returned v'∧w2=w':=by
   rcases h0 with ⟨he,rfl⟩ | ⟨b,cap,cur,Sub,rfl,hs,hb,g1,g2,g3,g4,g5,g6,g7⟩
   ·subst he
    exact O2 none 0 0 vb vc w w' v' (fun _=>⟨rfl,rfl⟩) fun ty=>hrun
   ·exact O2 (some ⟨b,0,none⟩) es.length cap vb vc w w' v' (fun h=>by cases h) fun ty=>hrun
  refine hcon.mono ?_
  rintro e w2 ⟨rfl,rfl⟩
  refine ⟨v',S',rfl,?_,hS',o1,o2,o3,o4,o5⟩
  rw [List.take_length,List.drop_length]
  exact hrow
 ·have hi':i<es.length:=by omega
  rcases h0 with ⟨he,rfl⟩ | ⟨b,cap,cur,Sub,rfl,hs,hb,g1,g2,g3,g4,g5,g6,g7⟩
  ·subst he; simp at hi'
  have hne:vb≠b:=fun e=>h01 b hs (e▸hsv)
  have hblt:b<w.heap.size:=l0 b hs
  have hvc:1≤vc:=by simpa using a1
  have hone:∀ q,q<es.length*4→(cur.getD q undef).oneCell'=true:=fun q hq=>by
   have hq1:q / 4<es.length:=by omega
   have:=g7 (q / 4) (q % 4) hq1 (by rw [g4 _ hq1]; omega)
   rw [show q / 4*4+q % 4=q by omega] at this
   exact this.one
  have honev:∀ q,q<4→(curv.getD q undef).oneCell'=true:=fun q hq=>by
   have:=a7 0 q (by simp) (by rw [a4 0 (by simp)]; exact hq)
   rw [show 0*4+q=q by omega] at this
   exact this.one
  have a7':∀ j (h':j<x.length),ORep w I (Subv 0 j) (x[j]) (curv.getD j undef):=fun j h'=>by
   have:=a7 0 j (by simp) h'
   rw [show 0*4+j=j by omega] at this
   exact this
  have a5':∀ j y,Subv 0 j y→S1 y:=fun j y h=>(a5 0 j y h).1
  have a6':∀ j j' y,Subv 0 j y→Subv 0 j' y→j=j':=fun j j' y h h'=>(a6 0 j 0 j' y h h').2
  by_cases hroom:es.length+1≤cap
  ·refine (Rg es.length i cap hi' hroom g2 w b vb vc cur curv _ _ hb g3 hvb a3 hvc hne hone honev).mono ?_
   rintro e w' ⟨rfl,cur',hro,hcs,hcell⟩
   refine ⟨_,fun y=>S0 y∨S1 y,rfl,O3 hi g4 g5 g6 g7 a4' a5' a6' a7' h01 hro.size (fun y hy h=>hro.block y hy fun e=>?_) hro.row (.inl hs) (fun y h=>?_) hroom g2 (by rw [hcs]; exact g3) hcell,?_,hro.os,⟨hro.tape,fun h=>False.elim h⟩,hro.output,hro.size,fun y hy hn=>hro.block y hy fun e=>hn (e▸hs)⟩
   ·subst e
    rcases h with h | h | h
    ·exact hI0 _ hs h
    ·exact h.2 rfl
    ·exact h01 _ hs h
   ·rcases h with h | h
    ·exact ⟨.inl h.1,h.2⟩
    ·exact ⟨.inr h,fun e=>h01 b hs (e▸h)⟩
   ·intro y h
    rcases h with h | h
    ·exact .inl h
    ·exact .inr (.inl h)
  ·refine (Rh es.length i cap hi' g1 (by omega) hbig w b vb vc cur curv _ _ hb g3 hvb a3 hvc hone honev).mono ?_
   rintro e w' ⟨G,ROW,cur',rfl,hro,hcs,hGn,hG63,hcell⟩
   have hsz:w.heap.size+1≤w'.heap.size:=by
    have:=hro.size
    rw [show (w.drew.alloc (.cells ROW 57)).heap.size=w.heap.size+1 from y3 _] at this
    exact this
   have hblk:∀ y,y<w.heap.size→w'.heap[y]?=w.heap[y]?:=fun y hy=>by
    rw [hro.block y (by rw [show (w.drew.alloc (.cells ROW 57)).heap.size=w.heap.size+1 from y3 _]; omega) (by omega)]
    exact Below.heap_alloc w.drew _ y hy
   refine ⟨_,fun y=>S0 y∨S1 y∨y=w.heap.size,rfl,O3 hi g4 g5 g6 g7 a4' a5' a6' a7' h01 (by omega) (fun y hy _=>hblk y hy) hro.row (.inr (.inr rfl)) (fun y h=>?_) hGn hG63 hcs hcell,?_,hro.os,⟨hro.tape,fun h=>False.elim h⟩,hro.output,by omega,fun y hy _=>hblk y hy⟩
   ·rcases h with h | h
    ·exact ⟨.inl h.1,fun e=>by have:=l0 y h.1; omega⟩
    ·exact ⟨.inr (.inl h),fun e=>by have:=l1 y h; omega⟩
   ·intro y h
    rcases h with h | h | h
    ·exact .inl h
    ·exact .inr (.inl h)
    ·exact .inr (.inr (by omega))
theorem S8 {w w':World} {I:Nat→Prop} {V:Nat→Option Value} {B:Nat→Nat→Prop} {k:Nat} {ob obN:List Ob} {t:TypeId} {sz:Nat} {es':List (List OT)} {v':Value} {S':Nat→Prop} (hwf:Wf w I V B (Ac ob))
  (hlv:∀ g,(Ac obN g).live→g=k) (hob:Ac obN k=.row t sz es') (hfr:∀ g,Ac obN g=.free→k<g) (hfo:∀ g,k≤g→Ac ob g=.free)
  (hos:w'.os=w.os) (htape:TapeOk w w') (hout:w'.output=w.output) (hsz:w.heap.size≤w'.heap.size) (hblk:∀ x,x<w.heap.size→¬ HB B ob x→w'.heap[x]?=w.heap[x]?) (hS:∀ x,S' x→HB B ob x∨(w.heap.size≤x∧x<w'.heap.size)) (hrow:RowR w' I S' t sz es' v') :
  FunPost w I V B ob obN w' I (fun g=>if g=k then some v' else V g) (fun g=>if g=k then S' else B g):=by
 refine ⟨⟨hos,htape,hout,hsz,fun x hx hn=>hblk x hx hn⟩,fun _ h=>h,fun _ h=>.inl h,fun g u hu=>?_,?_,fun g x hl hx=>?_⟩
 ·by_cases e:g=k
  ·rw [e,hwf.fr k (hfo k (zL _))] at hu; cases hu
  ·simp only [e,if_false]; exact hu
 ·refine ⟨fun x hx=>Nat.lt_of_lt_of_le (hwf.ilt x hx) hsz,fun g hl=>?_,fun g x hl hx=>?_,fun g x hl hx=>?_,fun g g' x hl hl' _ _=>by rw [hlv g hl,hlv g' hl'],fun g hf=>?_,hwf.gl.keep ⟨hsz,fun x hx hlt=>hblk x hlt fun ⟨g,h1,h2⟩=>hwf.dI g x h1 h2 hx⟩ fun _ h=>h⟩
  ·have e:=hlv g hl
   subst e
   refine ⟨v',by simp,?_⟩
   rw [hob]
   simp only [if_true]
   exact hrow
  ·have e:=hlv g hl
   subst e
   simp only [if_true] at hx
   rcases hS x hx with ⟨g',h1,h2⟩ | h
   ·exact Nat.lt_of_lt_of_le (hwf.lt g' x h1 h2) hsz
   ·exact h.2
  ·have e:=hlv g hl
   subst e
   simp only [if_true] at hx
   rcases hS x hx with ⟨g',h1,h2⟩ | h
   ·exact hwf.dI g' x h1 h2
   ·exact fun hI=>by have:=hwf.ilt x hI; omega
  ·have e:¬ g=k:=by have:=hfr g hf; omega
   simp only [e,if_false]
   exact hwf.fr g (hfo g (by have:=hfr g hf; omega))
 ·have e:=hlv g hl
  subst e
  simp only [if_true] at hx
  rcases hS x hx with h | h
  ·exact .inl h
  ·exact .inr h.1
noncomputable def O4 (xs:List SV) (ob:List Ob):Option (SV × List Ob) :=
 match xs,ob with
 | [.ref 0,.int .i64 i,.ref 1],[.row t sz es,.row _ sz' [x]]=>bif dec (t=57∧sz=4∧sz'=4∧0≤i∧i.toNat≤es.length∧es.length≤1048576) then some (.ref 2,[.gone,.gone,.row 57 4 (es.take i.toNat++x :: es.drop i.toNat)]) else none
 | [.nil,.int .i64 i,.ref 0],[.row _ sz' [x]]=>bif dec (i=0∧sz'=4) then some (.ref 1,[.gone,.row 57 4 [x]]) else none
 | _,_=>none
theorem Ri {xs:List SV} {ob:List Ob} {r:SV} {ob':List Ob} (h:O4 xs ob=some (r,ob')):Fun Try.prog 40 xs ob r ob':=by
 unfold O4 at h
 split at h
 ·rename_i i t sz es t' sz' x
  obtain ⟨h1,h2⟩:=Af h
  obtain ⟨rfl,rfl,rfl,k1,k2,k3⟩:=Ah.1 h1
  simp only [zN,zR] at h2
  obtain ⟨rfl,rfl⟩:=h2
  clear h h1
  obtain ⟨m,rfl⟩:∃ m:Nat,i=m:=⟨i.toNat,by omega⟩
  rw [yA] at k2 ⊢
  intro w I V B vs hwf hvs
  obtain ⟨v,q,rfl,hv,hvs⟩:=BP hvs
  obtain ⟨v2,q,rfl,hv2,hvs⟩:=BP hvs
  obtain ⟨v3,q,rfl,hv3,hvs⟩:=BP hvs
  obtain rfl:=KO hvs
  simp only [RepV] at hv hv2 hv3
  subst hv2
  obtain ⟨val,hval,hrow⟩:=hwf.obj 0 trivial
  rw [hv.1] at hval
  obtain rfl:=zJ hval
  have hrow:RowR w I (B 0) 57 4 es v:=hrow
  obtain ⟨val,hval,hrow1⟩:=hwf.obj 1 trivial
  rw [hv3.1] at hval
  obtain rfl:=zJ hval
  have hrow1:RowR w I (B 1) t' 4 [x] v3:=hrow1
  refine (M5 m k2 k3 hrow hrow1 (fun b hb=>hwf.lt 1 b trivial hb) (fun b hb=>hwf.lt 0 b trivial hb) (fun b hb=>hwf.dI 0 b trivial hb) (fun b hb hb'=>by have:=hwf.dO 0 1 b trivial trivial hb hb'; omega)).mono ?_
  rintro e w' ⟨v',S',rfl,hr,hS',o1,o2,o3,o4,o5⟩
  have hone:v'.oneCell'=true:=by
   obtain ⟨a,n,e,_⟩:=hr.form
   rw [e]; rfl
  refine ⟨_,I,_,_,rfl,by simp only [RepV]; exact ⟨rfl,hone⟩,S8 (k:=2) hwf (fun g hl=>?_) rfl (fun g hf=>?_) (fun g hg=>?_) o1 o2 o3 o4 (fun y hy hn=>o5 y hy fun h=>hn ⟨0,trivial,h⟩) (fun y hy=>?_) hr⟩
  ·match g with
   | 0=>exact hl.elim
   | 1=>exact hl.elim
   | 2=>rfl
   | g+3=>exact hl.elim
  ·match g with
   | 0=>cases hf
   | 1=>cases hf
   | 2=>cases hf
   | g+3=>omega
  ·obtain ⟨g',rfl⟩:∃ g',g=g'+2:=⟨g-2,by omega⟩
   rfl
  ·rcases hS' y hy with h | h | h
   ·exact .inl ⟨0,trivial,h⟩
   ·exact .inl ⟨1,trivial,h⟩
   ·exact .inr h
 ·rename_i i t' sz' x
  obtain ⟨h1,h2⟩:=Af h
  obtain ⟨rfl,rfl⟩:=Ah.1 h1
  simp only [zN,zR] at h2
  obtain ⟨rfl,rfl⟩:=h2
  clear h h1
  intro w I V B vs hwf hvs
  obtain ⟨v,q,rfl,hv,hvs⟩:=BP hvs
  obtain ⟨v2,q,rfl,hv2,hvs⟩:=BP hvs
  obtain ⟨v3,q,rfl,hv3,hvs⟩:=BP hvs
  obtain rfl:=KO hvs
  simp only [RepV] at hv hv2 hv3
  subst hv hv2
  obtain ⟨val,hval,hrow1⟩:=hwf.obj 0 trivial
  rw [hv3.1] at hval
  obtain rfl:=zJ hval
  have hrow1:RowR w I (B 0) t' 4 [x] v3:=hrow1
  refine (M5 (S0:=fun _=>False) (es:=[]) 0 (zL _) (by simp) (.inl ⟨rfl,rfl⟩) hrow1 (fun b hb=>hwf.lt 0 b trivial hb) (fun b hb=>hb.elim) (fun b hb=>hb.elim) (fun b hb=>hb.elim)).mono ?_
  rintro e w' ⟨v',S',rfl,hr,hS',o1,o2,o3,o4,o5⟩
  have hone:v'.oneCell'=true:=by
   obtain ⟨a,n,e,_⟩:=hr.form
   rw [e]; rfl
  refine ⟨_,I,_,_,rfl,by simp only [RepV]; exact ⟨rfl,hone⟩,S8 (k:=1) hwf (fun g hl=>?_) rfl (fun g hf=>?_) (fun g hg=>?_) o1 o2 o3 o4 (fun y hy hn=>o5 y hy fun h=>h) (fun y hy=>?_) hr⟩
  ·match g with
   | 0=>exact hl.elim
   | 1=>rfl
   | g+2=>exact hl.elim
  ·match g with
   | 0=>cases hf
   | 1=>cases hf
   | g+2=>omega
  ·obtain ⟨g',rfl⟩:∃ g',g=g'+1:=⟨g-1,by omega⟩
   rfl
  ·rcases hS' y hy with h | h | h
   ·exact h.elim
   ·exact .inl ⟨0,trivial,h⟩
   ·exact .inr h
 ·cases h
end Go.Proofs.Ytmhjhclgihoaeaa
set_option maxRecDepth 100000
set_option linter.unusedSimpArgs false
set_option linter.unusedVariables false
set_option linter.unusedSectionVars false
namespace Go.Proofs.Ytmhjhclgihoaeaa
open Go.RowKit
def Q7:List (Nat × FM)→Nat→FM
 | [],_=>⟨[],.asis,none,false⟩
 | (f,m) :: r,g=>bif f == g then m else Q7 r g
theorem Rj {l:List (Nat × FM)} {f:Nat} {g:List SV→List Ob→Option (SV × List Ob)} (h:(Q7 l f).ext=some g):∃ m,(f,m)∈l∧m.ext=some g:=by
 induction l with
 | nil=>cases h
 | cons x r ih =>
  obtain ⟨f',m⟩:=x
  simp only [Q7] at h
  cases e:f' == f with
  | true =>
   rw [e] at h
   obtain rfl:f'=f:=by simpa using e
   exact ⟨m,by simp,h⟩
  | false =>
   rw [e] at h
   obtain ⟨m',h1,h2⟩:=ih h
   exact ⟨m',by simp [h1],h2⟩
noncomputable def M6:List SV→Option SV
 | [.int .i64 k]=>bif dec (1≤k)&&dec (k≤1099511627776) then some (.str (D8 k)) else none
 | _=>none
theorem PG {xs:List SV} {r:SV} (h:M6 xs=some r):Fun Try.prog 24 xs [] r []:=by
 unfold M6 at h
 split at h
 ·rename_i k
  obtain ⟨h1,h2⟩:=Af h
  rw [zB,Ah,Ah] at h1
  obtain rfl:=zJ h2
  obtain ⟨n,rfl⟩:∃ n:Nat,k=n:=⟨k.toNat,by omega⟩
  refine Fun.PC (rv:=.string (D8 n)) (fun w I V=>by simp only [RepV,true_and]; exact PD (by omega) (by omega)) fun w I V vs h=>?_
  obtain ⟨v,r,rfl,h3,h⟩:=BP h
  obtain rfl:=KO h
  obtain rfl:=TY h3
  exact Nk n w (by omega) (by omega)
 ·cases h
def S9:List SV→Option SV
 | [.str s]=>some (.bool (AY s))
 | _=>none
theorem Rk {xs:List SV} {r:SV} (h:S9 xs=some r):Fun Try.prog 82 xs [] r []:=by
 unfold S9 at h
 split at h
 ·rename_i s
  obtain rfl:=zJ h
  refine Fun.of_same (rv:=.bool (AY s)) (fun w I V=>by simp only [RepV]) fun w I V vs h=>?_
  obtain ⟨v,r,rfl,h3,h⟩:=BP h
  obtain rfl:=KO h
  obtain ⟨rfl,h4⟩:=Kf h3
  exact KP s w h4
 ·cases h
def SA:List SV→Option SV
 | [.str s]=>some (.bool (AY s))
 | _=>none
theorem Rl {xs:List SV} {r:SV} (h:SA xs=some r):Fun Try.prog 30 xs [] r []:=by
 unfold SA at h
 split at h
 ·rename_i s
  obtain rfl:=zJ h
  refine Fun.of_same (rv:=.bool (AY s)) (fun w I V=>by simp only [RepV]) fun w I V vs h=>?_
  obtain ⟨v,r,rfl,h3,h⟩:=BP h
  obtain rfl:=KO h
  obtain ⟨rfl,h4⟩:=Kf h3
  exact Rf s w h4
 ·cases h
def SB:List SV→Option SV
 | [.str s]=>some (.bool (CU s))
 | _=>none
theorem Rm {xs:List SV} {r:SV} (h:SB xs=some r):Fun Try.prog 70 xs [] r []:=by
 unfold SB at h
 split at h
 ·rename_i s
  obtain rfl:=zJ h
  refine Fun.PC (rv:=.bool (CU s)) (fun w I V=>by simp only [RepV]) fun w I V vs h=>?_
  obtain ⟨v,r,rfl,h3,h⟩:=BP h
  obtain rfl:=KO h
  obtain ⟨rfl,h4⟩:=Kf h3
  exact Nn s w h4
 ·cases h
def SD:List SV→Option SV
 | [.str s]=>some (.bool (CU s))
 | _=>none
theorem Rn {xs:List SV} {r:SV} (h:SD xs=some r):Fun Try.prog 47 xs [] r []:=by
 unfold SD at h
 split at h
 ·rename_i s
  obtain rfl:=zJ h
  refine Fun.of_same (rv:=.bool (CU s)) (fun w I V=>by simp only [RepV]) fun w I V vs h=>?_
  obtain ⟨v,r,rfl,h3,h⟩:=BP h
  obtain rfl:=KO h
  obtain ⟨rfl,h4⟩:=Kf h3
  exact No s w h4
 ·cases h
noncomputable def modes:FuncId→FM:=Q7 [(24,⟨[],.asis,some (Ie M6),false⟩),(82,⟨[],.asis,some (Ie S9),false⟩),(30,⟨[],.asis,some (Ie SA),false⟩),(70,⟨[],.asis,some (Ie SB),false⟩),(47,⟨[],.asis,some (Ie SD),false⟩),(40,⟨[true,false,true],.asis,some O4,false⟩),(43,⟨[true],.asis,none,true⟩),(23,⟨[true],.asis,none,true⟩),(10,⟨[true],.asis,none,true⟩),(11,⟨[true],.asis,none,true⟩),(25,⟨[true],.asis,none,true⟩),(7,⟨[],.own [some (57,4),none],none,false⟩),(15,⟨[],.frl [7],none,false⟩),(5,⟨[],.frl [11],none,false⟩)]
theorem noExt {l:List (Nat × FM)} (h:(l.all fun p=>p.2.ext.isNone)=true) {f:Nat} {m:FM} {g:List SV→List Ob→Option (SV × List Ob)} (h1:(f,m)∈l) (h2:m.ext=some g):False:=by
 have h3:=z5.1 h _ h1
 rw [h2] at h3
 cases h3
theorem PH:Ke Try.prog modes:=by
 intro f g xs ob r ob' hg hx
 obtain ⟨m,h1,h2⟩:=Rj hg
 rcases zS.1 h1 with h1 | h1
 ·obtain ⟨rfl,rfl⟩:=yJ h1
  obtain rfl:=zJ h2
  exact EP PG hx
 rcases zS.1 h1 with h1 | h1
 ·obtain ⟨rfl,rfl⟩:=yJ h1
  obtain rfl:=zJ h2
  exact EP Rk hx
 rcases zS.1 h1 with h1 | h1
 ·obtain ⟨rfl,rfl⟩:=yJ h1
  obtain rfl:=zJ h2
  exact EP Rl hx
 rcases zS.1 h1 with h1 | h1
 ·obtain ⟨rfl,rfl⟩:=yJ h1
  obtain rfl:=zJ h2
  exact EP Rm hx
 rcases zS.1 h1 with h1 | h1
 ·obtain ⟨rfl,rfl⟩:=yJ h1
  obtain rfl:=zJ h2
  exact EP Rn hx
 rcases zS.1 h1 with h1 | h1
 ·obtain ⟨rfl,rfl⟩:=yJ h1
  obtain rfl:=zJ h2
  exact Ri hx
 exact (noExt rfl h1 h2).elim
noncomputable def E:FEnv:=ev Try.prog modes
noncomputable def calls:CallF:=BT modes E
theorem UX {f:FuncId} {xs:List SV} {ob:List Ob} {r:SV} {ob':List Ob} (h:E f xs ob=some (r,ob')):Fun Try.prog f xs ob r ob':=TX UT PH f xs ob r ob' h
noncomputable def run (n0:Nat):SC→St→Option (X × St):=fr Try.prog calls (H6 n0)
def go (n0:Nat) (sc:SC) (st:St) (K:X→St→Prop):Prop:=∃ x st',run n0 sc st=some (x,st')∧K x st'
def Ud (n0:Nat) (b:SC) (K:X→St→Prop):X→St→Prop
 | .normal,st=>go n0 b st K
 | .exit i,st=>K (.exit i) st
 | .ret,st=>K .ret st
def blk (id:Nat) (K:X→St→Prop):X→St→Prop
 | .normal,st=>K .normal st
 | .exit i,st=>if i=id then K .normal st else K (.exit i) st
 | .ret,st=>K .ret st
def SE (r:Option St) (k:X→St→Prop):Prop :=
 match r with
 | some st=>k .normal st
 | none=>False
def SF (anc:List (List Nat)) (r:Option (List Ent × St)) (k:X→St→Prop):Prop :=
 match r with
 | some (es,st)=>obB anc [] (Hu es) 0=true∧k .normal st
 | none=>False
def KR (v:SV) (a b:Unit→Prop):Prop :=
 match v with
 | .bool true=>a ()
 | .bool false=>b ()
 | _=>False
noncomputable def PI (ops:List SOper) (st:St):Option St:=K9 Try.prog calls ops st
noncomputable def PJ (ops:List SOper) (acc:List Ent) (st:St):Option (List Ent × St):=EJ Try.prog calls ops acc st
section
variable {n0:Nat} {st:St} {K:X→St→Prop}
theorem go_skip:go n0 .skip st K=K .normal st:=by
 refine propext ⟨fun ⟨x,st',h,k⟩=>?_,fun k=>⟨_,_,rfl,k⟩⟩
 obtain ⟨rfl,rfl⟩:X.normal=x∧st=st':=by simpa [run,fr] using h
 exact k
theorem Ue {i:Nat}:go n0 (.exit i) st K=K (.exit i) st:=by
 refine propext ⟨fun ⟨x,st',h,k⟩=>?_,fun k=>⟨_,_,rfl,k⟩⟩
 obtain ⟨rfl,rfl⟩:X.exit i=x∧st=st':=by simpa [run,fr] using h
 exact k
theorem go_ret:go n0 .ret st K=K .ret st:=by
 refine propext ⟨fun ⟨x,st',h,k⟩=>?_,fun k=>⟨_,_,rfl,k⟩⟩
 obtain ⟨rfl,rfl⟩:X.ret=x∧st=st':=by simpa [run,fr] using h
 exact k
theorem UY {ops:List SOper}:go n0 (.reg ops) st K=SE (PI ops st) K:=by
 unfold SE PI
 refine propext ⟨fun ⟨x,st',h,k⟩=>?_,fun k=>?_⟩
 ·simp only [run,fr] at h
  split at h
  ·rename_i s hs
   simp only [zN,zR] at h
   obtain ⟨rfl,rfl⟩:=h
   first | exact k | (simp only [hs]; exact k)
  ·cases h
 ·split at k
  ·rename_i s hs
   exact ⟨.normal,s,by simp only [run,fr,hs],k⟩
  ·exact k.elim
theorem Uf {anc:List (List Nat)} {ops:List SOper}:go n0 (.dreg anc ops) st K=SF anc (PJ ops [] st) K:=by
 unfold SF PJ
 refine propext ⟨fun ⟨x,st',h,k⟩=>?_,fun k=>?_⟩
 ·simp only [run,fr] at h
  split at h
  ·rename_i es s hs
   obtain ⟨h1,h2⟩:=Af h
   simp only [zN,zR] at h2
   obtain ⟨rfl,rfl⟩:=h2
   first | exact ⟨h1,k⟩ | (simp only [hs]; exact ⟨h1,k⟩)
  ·cases h
 ·split at k
  ·rename_i es s hs
   exact ⟨.normal,s,by simp only [run,fr,hs,k.1,cond_true],k.2⟩
  ·exact k.elim
theorem UZ {a b:SC}:go n0 (.seq a b) st K=go n0 a st (Ud n0 b K):=by
 refine propext ⟨fun ⟨x,st',h,k⟩=>?_,fun ⟨x,st',h,k⟩=>?_⟩
 ·simp only [run,fr,BK] at h
  split at h
  ·rename_i s hs
   exact ⟨.normal,s,hs,x,st',h,k⟩
  ·rename_i i s hs
   simp only [zN,zR] at h
   obtain ⟨rfl,rfl⟩:=h
   exact ⟨_,_,hs,k⟩
  ·rename_i s hs
   simp only [zN,zR] at h
   obtain ⟨rfl,rfl⟩:=h
   exact ⟨_,_,hs,k⟩
  ·cases h
 ·simp only [run] at h
  cases x with
  | normal =>
   obtain ⟨x2,st2,h2,k2⟩:=k
   exact ⟨x2,st2,by simp only [run,fr,BK,h]; exact h2,k2⟩
  | exit i=>exact ⟨_,st',by simp only [run,fr,BK,h],k⟩
  | ret=>exact ⟨_,st',by simp only [run,fr,BK,h],k⟩
theorem SG {n:Nat} {b:SC}:go n0 (.ghost n b) st K=go n0 b (Or n st) K:=by simp only [go,run,fr]
theorem SH {id:Nat} {b:SC}:go n0 (.block id b) st K=go n0 b st (blk id K):=by
 refine propext ⟨fun ⟨x,st',h,k⟩=>?_,fun ⟨x,st',h,k⟩=>?_⟩
 ·simp only [run,fr,Fn] at h
  split at h
  ·rename_i s hs
   simp only [zN,zR] at h
   obtain ⟨rfl,rfl⟩:=h
   exact ⟨.normal,s,hs,k⟩
  ·rename_i i s hs
   refine ⟨.exit i,s,hs,?_⟩
   simp only [blk]
   by_cases hi:i=id
   ·simp only [if_pos hi,zN,zR] at h ⊢
    obtain ⟨rfl,rfl⟩:=h
    exact k
   ·simp only [if_neg hi,zN,zR] at h ⊢
    obtain ⟨rfl,rfl⟩:=h
    exact k
  ·rename_i s hs
   simp only [zN,zR] at h
   obtain ⟨rfl,rfl⟩:=h
   exact ⟨_,s,hs,k⟩
  ·cases h
 ·simp only [run] at h
  cases x with
  | normal=>exact ⟨_,st',by simp only [run,fr,Fn,h],k⟩
  | exit i =>
   simp only [blk] at k
   by_cases hi:i=id
   ·simp only [if_pos hi] at k
    exact ⟨.normal,st',by simp only [run,fr,Fn,h,if_pos hi],k⟩
   ·simp only [if_neg hi] at k
    exact ⟨.exit i,st',by simp only [run,fr,Fn,h,if_neg hi],k⟩
  | ret=>exact ⟨_,st',by simp only [run,fr,Fn,h],k⟩
theorem Aa {q:SX} {a b:SC}:go n0 (.cond q a b) st K=KR (Al (gets st.sl) q) (fun _=>go n0 a st K) (fun _=>go n0 b st K):=by
 unfold KR
 refine propext ⟨fun ⟨x,st',h,k⟩=>?_,fun k=>?_⟩
 ·simp only [run,fr] at h
  split at h
  ·rename_i t ht
   simp only [ht]
   cases t with
   | true=>exact ⟨x,st',h,k⟩
   | false=>exact ⟨x,st',h,k⟩
  ·cases h
 ·split at k
  ·rename_i ht
   obtain ⟨x,st',h,k⟩:=k
   exact ⟨x,st',by simp only [run,fr,ht,cond_true]; exact h,k⟩
  ·rename_i ht
   obtain ⟨x,st',h,k⟩:=k
   exact ⟨x,st',by simp only [run,fr,ht,cond_false]; exact h,k⟩
  ·exact k.elim
theorem Ug {a b:Unit→Prop}:KR (.bool true) a b=a ():=rfl
theorem Uh {a b:Unit→Prop}:KR (.bool false) a b=b ():=rfl
theorem Ui {t:Bool} {a b:Unit→Prop}:KR (.bool (!t)) a b=KR (.bool t) b a:=by cases t <;> rfl
theorem SI {q:SX} {a b:SC} (h:Al (gets st.sl) q=.bool true) (k:go n0 a st K):go n0 (.cond q a b) st K:=by rw [Aa,h]; exact k
theorem SJ {q:SX} {a b:SC} (h:Al (gets st.sl) q=.bool false) (k:go n0 b st K):go n0 (.cond q a b) st K:=by rw [Aa,h]; exact k
theorem Bz {t:Bool} {a b:Unit→Prop} (h1:t=true→a ()) (h2:t=false→b ()):KR (.bool t) a b:=by
 cases t with
 | true=>exact h1 rfl
 | false=>exact h2 rfl
theorem Va {b:SC}:Ud n0 b K .normal st=go n0 b st K:=rfl
theorem Vb {b:SC} {i:Nat}:Ud n0 b K (.exit i) st=K (.exit i) st:=rfl
theorem Vd {b:SC}:Ud n0 b K .ret st=K .ret st:=rfl
theorem VN {id:Nat}:blk id K .normal st=K .normal st:=rfl
theorem VO {id i:Nat}:blk id K (.exit i) st=if i=id then K .normal st else K (.exit i) st:=rfl
theorem VP {id:Nat}:blk id K .ret st=K .ret st:=rfl
theorem Uj:SE (some st) K=K .normal st:=rfl
def quiet:List Ent→Bool
 | []=>true
 | ⟨_,_,[],_⟩ :: r=>quiet r
 | ⟨_,_,_ :: _,_⟩ :: _=>false
theorem KS {anc:List (List Nat)} {rd:List Nat} {j:Nat}:∀ {l:List Ent} {i:Nat},quiet l=true→Pn anc rd [] j (Hu l) i=true
 | [],i,_=>rfl
 | ⟨_,_,[],rdi⟩ :: r,i,h=>by
  have:=KS (anc:=anc) (rd:=rd) (j:=j) (l:=r) (i:=i+1) h
  simp only [Hu,zE,yZ] at this ⊢
  simp only [Pn,this,zP]
  have e1:meets [] (rd++[])=false:=rfl
  have e2:meets rdi []=false:=by cases rdi <;> simp [meets]
  rw [e1,e2]; rfl
theorem Ro {l l':List Ent} (h:quiet l=true) (h':quiet l'=true):quiet (l++l')=true:=by
 induction l with
 | nil=>exact h'
 | cons x r ih =>
  obtain ⟨a,b,c,d⟩:=x
  cases c with
  | nil=>exact ih h
  | cons _ _=>cases h
theorem M7 {anc:List (List Nat)}:∀ {l pre:List Ent} {j:Nat},quiet pre=true→quiet l=true→obB anc (Hu pre) (Hu l) j=true
 | [],pre,j,_,_=>rfl
 | ⟨a,b,[],rd⟩ :: r,pre,j,hp,h=>by
  have e:=M7 (anc:=anc) (l:=r) (pre:=pre++[⟨a,b,[],rd⟩]) (j:=j+1) (Ro hp rfl) h
  have e2:=KS (anc:=anc) (rd:=rd) (j:=j) (i:=0) hp
  simp only [Hu,yM,zE,yZ] at e e2 ⊢
  simp only [obB,e2,e,zH]
theorem Uk {anc:List (List Nat)} {es:List Ent}:SF anc (some (es,st)) K=match quiet es with
  | true=>K .normal st
  | false=>obB anc [] (Hu es) 0=true∧K .normal st:=by
 show (obB anc [] (Hu es) 0=true∧K .normal st)=_
 cases h:quiet es with
 | true=>exact propext ⟨fun h=>h.2,fun h'=>⟨M7 (pre:=[]) rfl h,h'⟩⟩
 | false=>rfl
noncomputable def Ve (r:List SOper) (e:Option (Ent × St)):Option St :=
 match e with
 | some (_,st)=>PI r st
 | none=>none
noncomputable def Vf (r:List SOper) (acc:List Ent) (e:Option (Ent × St)):Option (List Ent × St) :=
 match e with
 | some (x,st)=>PJ r (acc++[x]) st
 | none=>none
noncomputable def opF (so:SOp) (sl:List SV) (ob:List Ob):Option R3:=fOp Try.prog calls so sl ob
theorem SK:PI [] st=some st:=rfl
theorem Rp {d:Option Tmp} {so:SOp} {r:List SOper} {sl:List SV} {ob:List Ob}:PI (⟨d,none,so⟩ :: r) ⟨sl,ob⟩=Ve r (GP d ⟨sl,ob⟩ (opF so sl ob)):=rfl
noncomputable def gdF (d:Option Tmp) (so:SOp) (want:Bool) (sl:List SV) (ob:List Ob) (v:SV):Option (Ent × St) :=
 match v with
 | .bool b=>bif Pz b want then GP d ⟨sl,ob⟩ (opF so sl ob) else some (⟨false,.tup [],[],[]⟩,⟨DM sl d (.tup []),ob⟩)
 | .tup []=>some (⟨false,.tup [],[],[]⟩,⟨DM sl d (.tup []),ob⟩)
 | _=>none
theorem Ul {d:Option Tmp} {k:Nat} {want:Bool} {so:SOp} {r:List SOper} {sl:List SV} {ob:List Ob}:PI (⟨d,some (k,want),so⟩ :: r) ⟨sl,ob⟩=Ve r (gdF d so want sl ob (gets sl k)):=rfl
theorem SL {acc:List Ent}:PJ [] acc st=some (acc,st):=rfl
theorem Rq {d:Option Tmp} {so:SOp} {r:List SOper} {acc:List Ent} {sl:List SV} {ob:List Ob}:PJ (⟨d,none,so⟩ :: r) acc ⟨sl,ob⟩=Vf r acc (GP d ⟨sl,ob⟩ (opF so sl ob)):=rfl
theorem Um {d:Option Tmp} {k:Nat} {want:Bool} {so:SOp} {r:List SOper} {acc:List Ent} {sl:List SV} {ob:List Ob}:PJ (⟨d,some (k,want),so⟩ :: r) acc ⟨sl,ob⟩=Vf r acc (gdF d so want sl ob (gets sl k)):=rfl
theorem Vg {r:List SOper} {e:Ent}:Ve r (some (e,st))=PI r st:=rfl
theorem Vh {r:List SOper} {acc:List Ent} {e:Ent}:Vf r acc (some (e,st))=PJ r (acc++[e]) st:=rfl
theorem VQ {d:Option Tmp} {so:SOp} {sl:List SV} {ob:List Ob}:gdF d so true sl ob (.bool true)=GP d ⟨sl,ob⟩ (opF so sl ob):=rfl
theorem Vi {d:Option Tmp} {so:SOp} {sl:List SV} {ob:List Ob}:gdF d so false sl ob (.bool false)=GP d ⟨sl,ob⟩ (opF so sl ob):=rfl
theorem Vj {d:Option Tmp} {so:SOp} {sl:List SV} {ob:List Ob}:gdF d so true sl ob (.bool false)=some (⟨false,.tup [],[],[]⟩,⟨DM sl d (.tup []),ob⟩):=rfl
theorem Vk {d:Option Tmp} {so:SOp} {sl:List SV} {ob:List Ob}:gdF d so false sl ob (.bool true)=some (⟨false,.tup [],[],[]⟩,⟨DM sl d (.tup []),ob⟩):=rfl
theorem VR {d:Option Tmp} {so:SOp} {want:Bool} {sl:List SV} {ob:List Ob}:gdF d so want sl ob (.tup [])=some (⟨false,.tup [],[],[]⟩,⟨DM sl d (.tup []),ob⟩):=rfl
theorem Vl {d:Option Tmp} {x:SV} {rd:List Nat}:GP d st (some (x,[],rd))=some (⟨true,x,[],rd⟩,⟨DM st.sl d x,st.ob⟩):=rfl
theorem Vm {d:Option Tmp} {x:SV} {q:Nat × Ob} {u:List (Nat × Ob)} {rd:List Nat}:GP d st (some (x,q :: u,rd))=bif QV (Cp st.ob (q :: u)).length (q :: u) then some (⟨true,x,q :: u,rd⟩,⟨DM st.sl d x,Cp st.ob (q :: u)⟩) else none:=rfl
def O5 (ob:List Ob) (xs:List SV) (sel:List Nat) (r:Option (SV × List Ob)) (n:Nat):Option R3 :=
 match r with
 | some (r,fob')=>bif decide (n≤fob'.length) then some (Ei sel (AF sel xs) ob.length r fob') else none
 | none=>none
def Vn (hd:List Bool) (f:FuncId) (xs:List SV) (ob:List Ob) (sel:List Nat) (e:List SV→List Ob→Option (SV × List Ob)) (b:Option (List Ob)):Option R3 :=
 match b with
 | some fob=>bif E2 sel&&H3 ob.length sel&&Fj fob.length fob then O5 ob xs sel (e (Eh hd (Ac ob) sel xs) fob) fob.length else none
 | none=>none
def SM (hd:List Bool) (f:FuncId) (xs:List SV) (ob:List Ob) (sel:List Nat) (e:List SV→List Ob→Option (SV × List Ob)):Option R3:=Vn hd f xs ob sel e (DD sel ob sel)
theorem SN {f:FuncId} {xs:List SV} {ob:List Ob}:calls f xs ob=DP (modes f).res (SM (modes f).hand f xs ob (reach ob 64 (EO (modes f).hand xs) []) (E f)):=rfl
theorem Vo {r:Option R3}:DP .asis r=r:=rfl
theorem Vp {r:Option R3}:DP .frz r=r:=rfl
theorem Vq {l:List (Option (Nat × Nat))} {r:Option R3}:DP (.own l) r=r:=rfl
theorem Vr {l:List (Option (Nat × Nat))} {r:Option R3}:DP (.half l) r=r:=rfl
theorem Vs {l:List (Option (Nat × Nat))} {r:Option R3}:DP (.tr l) r=r:=rfl
theorem Vt {d n:Nat} {r:Option R3}:DP (.frzg d n) r=r:=rfl
theorem Vu {d n:Nat} {l:List (Option (Nat × Nat))} {r:Option R3}:DP (.halfg d n l) r=r:=rfl
theorem Vv {l:List Nat} {r:Option R3}:DP (.frl l) r=r:=rfl
theorem Vw {r:R3}:DP .late (some r)=Ok r:=rfl
theorem H8:∀ u:List (Nat × Ob),C1 [] u=u
 | []=>rfl
 | (g,o) :: u=>by rw [C1,H8 u]; rfl
theorem Vx {m:RM} {b:Bool} {u:List (Nat × Ob)} {rd:List Nat}:DP m (some (.bool b,u,rd))=some (.bool b,u,rd):=by
 cases m <;> first | rfl | (show some (SV.bool b,C1 [] u,rd)=_; rw [H8])
theorem Vy {m:RM} {k:IntKind} {n:Int} {u:List (Nat × Ob)} {rd:List Nat}:DP m (some (.int k n,u,rd))=some (.int k n,u,rd):=by
 cases m <;> first | rfl | (show some (SV.int k n,C1 [] u,rd)=_; rw [H8])
theorem Rr {hd:List Bool} {f:FuncId} {xs:List SV} {ob:List Ob} {e:List SV→List Ob→Option (SV × List Ob)}:SM hd f xs ob [] e=O5 ob xs [] (e (Eh hd (Ac ob) [] xs) []) 0:=rfl
theorem PK {hd:List Bool} {f:FuncId} {xs:List SV} {ob:List Ob} {g:Nat} {r:List Nat} {e:List SV→List Ob→Option (SV × List Ob)}:SM hd f xs ob (g :: r) e=Vn hd f xs ob (g :: r) e (DD (g :: r) ob (g :: r)):=rfl
theorem Un {ob:List Ob} {xs:List SV} {r:SV} {fob':List Ob}:O5 ob xs [] (some (r,fob')) 0=some (Ei [] (AF [] xs) ob.length r fob'):=rfl
theorem Uo {ob:List Ob} {xs:List SV} {sel:List Nat} {r:SV} {fob':List Ob} {n:Nat}:O5 ob xs sel (some (r,fob')) n=bif decide (n≤fob'.length) then some (Ei sel (AF sel xs) ob.length r fob') else none:=rfl
theorem Vz {hd:List Bool} {f:FuncId} {xs:List SV} {ob:List Ob} {sel:List Nat} {fob:List Ob} {e:List SV→List Ob→Option (SV × List Ob)}:Vn hd f xs ob sel e (some fob)=bif E2 sel&&H3 ob.length sel&&Fj fob.length fob then O5 ob xs sel (e (Eh hd (Ac ob) sel xs) fob) fob.length else none:=rfl
theorem Rs {p:Nat} {r:SV}:Ei [] [] p r []=(r.ren (sgp [] p),[],[]):=rfl
def Np {α:Type} (n0:Nat) (keep:List Nat) (H:α→St) (R:α→Prop) (μ:α→Nat) (a:α) (K:X→St→Prop):X→St→Prop
 | .normal,st'=>∃ y,R y∧μ y < μ a∧canon n0 keep st'=H y
 | .exit i,st'=>K (.exit i) st'
 | .ret,st'=>K .ret st'
theorem SO {α:Type} {keep:List Nat} {H:α→St} {R:α→Prop} {μ:α→Nat} {a:α} {st':St}:Np n0 keep H R μ a K .normal st'=∃ y,R y∧μ y < μ a∧canon n0 keep st'=H y:=rfl
theorem SP {α:Type} {keep:List Nat} {H:α→St} {R:α→Prop} {μ:α→Nat} {a:α} {i:Nat} {st':St}:Np n0 keep H R μ a K (.exit i) st'=K (.exit i) st':=rfl
theorem SQ {α:Type} {keep:List Nat} {H:α→St} {R:α→Prop} {μ:α→Nat} {a:α} {st':St}:Np n0 keep H R μ a K .ret st'=K .ret st':=rfl
theorem go_loop {α:Type} {keep:List Nat} {b:SC} (H:α→St) (R:α→Prop) (μ:α→Nat) (a0:α) (hR:R a0) (h0:canon n0 keep st=H a0) (round:∀ a,R a→go n0 b (H a) (Np n0 keep H R μ a K)):go n0 (.loop keep b) st K:=by
 have key:∀ (n:Nat) (a:α) (st:St),μ a≤n→R a→canon n0 keep st=H a→∃ x st',Mz n0 keep (run n0 b) st=some (x,st')∧K x st':=by
  intro n
  induction n with
  | zero =>
   intro a st hn hR hc
   obtain ⟨x,st',h,k⟩:=round a hR
   cases x with
   | normal =>
    obtain ⟨y,_,h2,_⟩:=k
    omega
   | exit i=>exact ⟨_,st',by rw [FX,hc,h]; rfl,k⟩
   | ret=>exact ⟨_,st',by rw [FX,hc,h]; rfl,k⟩
  | succ n ih =>
   intro a st hn hR hc
   obtain ⟨x,st',h,k⟩:=round a hR
   cases x with
   | normal =>
    obtain ⟨y,h1,h2,h3⟩:=k
    obtain ⟨x2,st2,h4,k2⟩:=ih y st' (by omega) h1 h3
    exact ⟨x2,st2,by rw [FX,hc,h]; exact h4,k2⟩
   | exit i=>exact ⟨_,st',by rw [FX,hc,h]; rfl,k⟩
   | ret=>exact ⟨_,st',by rw [FX,hc,h]; rfl,k⟩
 exact key (μ a0) a0 st (zL _) hR h0
def Nq (n0:Nat) (keep keepO:List Nat) (H:EL→St) (F:X × St) (p:EL):X→St→Prop
 | .normal,st'=>canon n0 keep st'=H p
 | .exit i,st'=>F=(.exit i,canon n0 keepO st')
 | .ret,st'=>F=(.ret,canon n0 keepO st')
def UC (n0:Nat) (keepO:List Nat) (F:X × St):X→St→Prop
 | .normal,_=>False
 | .exit i,st'=>F=(.exit i,canon n0 keepO st')
 | .ret,st'=>F=(.ret,canon n0 keepO st')
theorem Rt {keep keepO:List Nat} {H:EL→St} {F:X × St} {p:EL} {st':St}:Nq n0 keep keepO H F p .normal st'=(canon n0 keep st'=H p):=rfl
theorem Ru {keep keepO:List Nat} {H:EL→St} {F:X × St} {p:EL} {i:Nat} {st':St}:Nq n0 keep keepO H F p (.exit i) st'=(F=(.exit i,canon n0 keepO st')):=rfl
theorem Rv {keep keepO:List Nat} {H:EL→St} {F:X × St} {p:EL} {st':St}:Nq n0 keep keepO H F p .ret st'=(F=(.ret,canon n0 keepO st')):=rfl
theorem Up {keepO:List Nat} {F:X × St} {i:Nat} {st':St}:UC n0 keepO F (.exit i) st'=(F=(.exit i,canon n0 keepO st')):=rfl
theorem Uq {keepO:List Nat} {F:X × St} {st':St}:UC n0 keepO F .ret st'=(F=(.ret,canon n0 keepO st')):=rfl
end
def slots:Nat→Nat→List (Nat × SV)→List SV
 | 0,_,_=>[]
 | n+1,k,[]=>.any :: slots n (k+1) []
 | n+1,k,(j,x) :: r=>bif j == k then x :: slots n (k+1) r else .any :: slots n (k+1) ((j,x) :: r)
def Ur (res:RM) (n0:Nat) (rs:List RX) (out:SV × List Ob) (x:X) (st:St):Prop:=fin res n0 rs x st=some out
def V3 (res:RM) (n0:Nat) (r:Option (SV × List Ob)):Option (SV × List Ob) :=
 match r with
 | some (r,ob)=>order res n0 r ob
 | none=>none
def O6 (res:RM) (n0:Nat) (ob:List Ob) (r:Option SV):Option (SV × List Ob) :=
 match r with
 | some r0=>V3 res n0 (gc n0 r0 ob)
 | none=>none
theorem V4 {res:RM} {n0:Nat} {rs:List RX} {out:SV × List Ob} {sl:List SV} {ob:List Ob}:Ur res n0 rs out .ret ⟨sl,ob⟩=(O6 res n0 ob (L9 ⟨sl,ob⟩ rs)=some out):=rfl
theorem V5 {res:RM} {n0:Nat} {rs:List RX} {out:SV × List Ob} {sl:List SV} {ob:List Ob}:Ur res n0 rs out .normal ⟨sl,ob⟩=(O6 res n0 ob (L9 ⟨sl,ob⟩ rs)=some out):=rfl
theorem Us {res:RM} {n0:Nat} {ob:List Ob} {r:SV}:O6 res n0 ob (some r)=V3 res n0 (gc n0 r ob):=rfl
theorem V6 {n0:Nat} {r:SV} {ob:List Ob} {res:RM}:V3 res n0 (some (r,ob))=order res n0 r ob:=rfl
theorem Ab {f:FuncId} {fc:FC} {hand:List Bool} {res:RM} {tr:Bool} {xs:List SV} {ob:List Ob} {out:SV × List Ob} (hc:Aj Try.prog f=some fc) (hr:modes f=⟨hand,res,none,tr⟩) (hn:xs.length≤fc.nt) (h:go ob.length (DT res fc.sc) ⟨xs++IM (fc.nt-xs.length),entry tr ob⟩ (Ur res ob.length fc.rs out)):E f xs ob=some out:=by
 obtain ⟨x,st',h1,h2⟩:=h
 unfold E
 rw [U9]
 unfold Ek
 rw [hc,hr]
 simp only
 rw [decide_eq_true hn,cond_true]
 have h1:fr Try.prog (BT modes (ev Try.prog modes)) (H6 ob.length) (DT res fc.sc) ⟨xs++IM (fc.nt-xs.length),entry tr ob⟩=some (x,st'):=h1
 rw [h1]
 exact h2
theorem PL {f:FuncId} {g:List SV→List Ob→Option (SV × List Ob)} {xs:List SV} {ob:List Ob} (hg:(modes f).ext=some g):E f xs ob=g xs ob:=by
 unfold E
 rw [U9]
 unfold Ek
 rw [hg]
theorem O7 {f:FuncId} {g:List SV→Option SV} {xs:List SV} {r:SV} (hg:(modes f).ext=some (Ie g)) (h:g xs=some r):E f xs []=some (r,[]):=by
 rw [PL hg]
 simp only [Ie,h]
theorem Cc:modes 24=⟨[],.asis,some (Ie M6),false⟩:=by unfold modes; rfl
theorem Fu {k:Int} (h1:1≤k) (h2:k≤1099511627776):E 24 [.int .i64 k] []=some (.str (D8 k),[]):=by
 refine O7 (g:=M6) (by unfold modes; rfl) ?_
 simp only [M6,AM h1,AM h2,zH,cond_true]
theorem BD:modes 82=⟨[],.asis,some (Ie S9),false⟩:=by unfold modes; rfl
theorem If (s:ByteArray):E 82 [.str s] []=some (.bool (AY s),[]):=O7 (g:=S9) (congrArg FM.ext BD) rfl
theorem Aq:modes 30=⟨[],.asis,some (Ie SA),false⟩:=by unfold modes; rfl
theorem Kg (s:ByteArray):E 30 [.str s] []=some (.bool (AY s),[]):=O7 (g:=SA) (congrArg FM.ext Aq) rfl
theorem AJ:modes 70=⟨[],.asis,some (Ie SB),false⟩:=by unfold modes; rfl
theorem KT (s:ByteArray):E 70 [.str s] []=some (.bool (CU s),[]):=O7 (g:=SB) (congrArg FM.ext AJ) rfl
theorem AK:modes 47=⟨[],.asis,some (Ie SD),false⟩:=by unfold modes; rfl
theorem KU (s:ByteArray):E 47 [.str s] []=some (.bool (CU s),[]):=O7 (g:=SD) (congrArg FM.ext AK) rfl
abbrev Tm.sv (x:Tm):SV:=.agg [.str x.name,.arr (x.args.map Tm.d)]
mutual
def Tm.o:Tm→List OT
 | .mk name args=>[.str name,.ow (Tm.os args)]
def Tm.os:List Tm→List (List OT)
 | []=>[]
 | x :: xs=>Tm.o x :: Tm.os xs
end
theorem Tm.UD:∀ xs:List Tm,Tm.os xs=xs.map Tm.o
 | []=>rfl
 | x :: xs=>by rw [Tm.os,Tm.UD xs]; rfl
theorem Tm.o_eq (x:Tm):Tm.o x=[.str x.name,.ow (x.args.map Tm.o)]:=by
 obtain ⟨name,args⟩:=x
 rw [Tm.o,Tm.UD]; rfl
theorem Tm.PM:∀ xs:List Tm,(∀ x∈xs,OT.ers (Tm.o x)=Tm.d x)→OT.erss (xs.map Tm.o)=xs.map Tm.d
 | [],_=>rfl
 | x :: xs,h=>by
  simp only [zE,OT.erss]
  rw [h x (by simp),Tm.PM xs fun y hy=>h y (by simp [hy])]
theorem Tm.er (x:Tm):OT.ers (Tm.o x)=Tm.d x:=by
 have h:=Tm.PM x.args fun y hy=>Tm.er y
 rw [Tm.o_eq,Tm.d_eq]
 simp only [OT.ers,OT.er,h]
termination_by SizeOf.sizeOf x
decreasing_by exact Tm.Av hy
theorem Tm.erss (xs:List Tm):OT.erss (xs.map Tm.o)=xs.map Tm.d:=Tm.PM xs fun x _=>Tm.er x
theorem Tm.PN:∀ xs:List Tm,(∀ x∈xs,OT.Du (Tm.o x)=true)→OT.BI (xs.map Tm.o)=true
 | [],_=>rfl
 | x :: xs,h=>by
  simp only [zE,OT.BI]
  rw [h x (by simp),Tm.PN xs fun y hy=>h y (by simp [hy])]; rfl
theorem Tm.no (x:Tm):OT.Du (Tm.o x)=true:=by
 have h:=Tm.PN x.args fun y hy=>Tm.no y
 rw [Tm.o_eq]
 simp only [OT.Du,OT.noSh,h,zH,zP]
termination_by SizeOf.sizeOf x
decreasing_by exact Tm.Av hy
theorem Tm.noss (xs:List Tm):OT.BI (xs.map Tm.o)=true:=Tm.PN xs fun x _=>Tm.no x
abbrev Tm.osv (x:Tm):SV:=.agg [.str x.name,.ref 0]
abbrev Tm.obs (x:Tm):List Ob:=[.row 45 2 (x.args.map Tm.o)]
abbrev Lt.sv (x:Lt):SV:=.agg [.bool x.pos,.str x.atom.name,.arr (x.atom.args.map Tm.d)]
def Lt.o (x:Lt):List OT:=[.bool x.pos,.str x.atom.name,.ow (x.atom.args.map Tm.o)]
theorem Lt.o_eq (x:Lt):Lt.o x=[.bool x.pos,.str x.atom.name,.ow (x.atom.args.map Tm.o)]:=rfl
theorem Lt.er (x:Lt):OT.ers (Lt.o x)=Lt.d x:=by
 simp only [Lt.o,Lt.d,OT.ers,OT.er,Tm.erss]
theorem Lt.erss:∀ xs:List Lt,OT.erss (xs.map Lt.o)=xs.map Lt.d
 | []=>rfl
 | x :: xs=>by simp only [zE,OT.erss,Lt.er,Lt.erss xs]
theorem Lt.no (x:Lt):OT.Du (Lt.o x)=true:=by
 simp only [Lt.o,OT.Du,OT.noSh,Tm.noss,zH,zP]
theorem Lt.noss:∀ xs:List Lt,OT.BI (xs.map Lt.o)=true
 | []=>rfl
 | x :: xs=>by simp only [zE,OT.BI,Lt.no,Lt.noss xs,zH]
abbrev Lt.osv (x:Lt):SV:=.agg [.bool x.pos,.str x.atom.name,.ref 0]
abbrev Lt.obs (x:Lt):List Ob:=[.row 45 2 (x.atom.args.map Tm.o)]
abbrev Cl.sv (x:Cl):SV:=.agg [.arr (x.lits.map Lt.d)]
def Cl.o (x:Cl):List OT:=[.ow (x.lits.map Lt.o)]
theorem Cl.o_eq (x:Cl):Cl.o x=[.ow (x.lits.map Lt.o)]:=rfl
theorem Cl.er (x:Cl):OT.ers (Cl.o x)=Cl.d x:=by
 simp only [Cl.o,Cl.d,OT.ers,OT.er,Lt.erss]
theorem Cl.erss:∀ xs:List Cl,OT.erss (xs.map Cl.o)=xs.map Cl.d
 | []=>rfl
 | x :: xs=>by simp only [zE,OT.erss,Cl.er,Cl.erss xs]
theorem Cl.no (x:Cl):OT.Du (Cl.o x)=true:=by
 simp only [Cl.o,OT.Du,OT.noSh,Lt.noss,zH,zP]
theorem Cl.noss:∀ xs:List Cl,OT.BI (xs.map Cl.o)=true
 | []=>rfl
 | x :: xs=>by simp only [zE,OT.BI,Cl.no,Cl.noss xs,zH]
abbrev Cl.osv (x:Cl):SV:=.agg [.ref 0]
abbrev Cl.obs (x:Cl):List Ob:=[.row 47 3 (x.lits.map Lt.o)]
abbrev Tl.sv (x:Tl):SV:=.agg [.str x.name,.int .i64 x.arity,.bool x.pred,.arr (x.vals.map fun n=>[D.int n])]
def Tl.o (x:Tl):List OT:=[.str x.name,.int x.arity,.bool x.pred,.ow (x.vals.map fun n=>[OT.int n])]
theorem Tl.o_eq (x:Tl):Tl.o x=[.str x.name,.int x.arity,.bool x.pred,.ow (x.vals.map fun n=>[OT.int n])]:=rfl
theorem Tl.er (x:Tl):OT.ers (Tl.o x)=Tl.d x:=by
 simp only [Tl.o,Tl.d,OT.ers,OT.er,Q4]
theorem Tl.erss:∀ xs:List Tl,OT.erss (xs.map Tl.o)=xs.map Tl.d
 | []=>rfl
 | x :: xs=>by simp only [zE,OT.erss,Tl.er,Tl.erss xs]
theorem Tl.no (x:Tl):OT.Du (Tl.o x)=true:=by
 simp only [Tl.o,OT.Du,OT.noSh,Q5,zH,zP]
theorem Tl.noss:∀ xs:List Tl,OT.BI (xs.map Tl.o)=true
 | []=>rfl
 | x :: xs=>by simp only [zE,OT.BI,Tl.no,Tl.noss xs,zH]
abbrev Tl.osv (x:Tl):SV:=.agg [.str x.name,.int .i64 x.arity,.bool x.pred,.ref 0]
abbrev Tl.obs (x:Tl):List Ob:=[.row 3 1 (x.vals.map fun n=>[OT.int n])]
theorem Ut {n:Int} (h1:-9223372036854775808≤n) (h2:n≤9223372036854775807):dec (inK .i64 n)=true:=AM (TH.2 ⟨h1,h2⟩)
theorem get_at {α β:Type} (f:α→β) {xs:List α} {k:Nat} (h:k<xs.length):(xs.map f)[k]?=some (f xs[k]):=by rw [zT,zM h]; rfl
theorem AA (left:Int) (n:Nat):((n:Int)≤left∧szR left n=left-n)∨(left<n∧szR left n=-1):=by
 unfold szR; split <;> omega
mutual
def D.fit:D→Prop
 | .int _=>True
 | .byte _=>True
 | .nl=>True
 | .bool _=>True
 | .str s=>s.size≤9223372036854775807
 | .arr es=>es.length≤9223372036854775807∧D.O8 es
def D.fits:List D→Prop
 | []=>True
 | x :: r=>D.fit x∧D.fits r
def D.O8:List (List D)→Prop
 | []=>True
 | x :: r=>D.fits x∧D.O8 r
end
theorem D.Q8:∀ {l:List D},(∀ (j:Nat) (h:j<l.length),D.fit l[j])→D.fits l
 | [],_=>trivial
 | x :: r,h=>⟨h 0 (by simp),D.Q8 fun j hj=>h (j+1) (by simpa using hj)⟩
theorem D.O9:∀ {es:List (List D)},(∀ (i:Nat) (h:i<es.length),D.fits es[i])→D.O8 es
 | [],_=>trivial
 | x :: r,h=>⟨h 0 (by simp),D.O9 fun j hj=>h (j+1) (by simpa using hj)⟩
theorem D.GF {α:Type} {f:α→List D}:∀ {xs:List α},D.O8 (xs.map f)→∀ x∈xs,D.fits (f x)
 | [],_,x,h=>by cases h
 | y :: r,h,x,hx=>by
  simp only [zE,D.O8] at h
  rcases zS.1 hx with rfl | hx
  ·exact h.1
  ·exact D.GF h.2 x hx
theorem DRep.fit {own:Bool} {w:World} {S:Nat→Prop} {d:D} {v:Value} (h:DRep own w S d v):D.fit d:=by
 induction h with
 | int=>trivial
 | byte=>trivial
 | nl=>trivial
 | bool=>trivial
 | str S s h=>exact h
 | arr S sz es a cap f Sub h1 h2 h3 h4 h5 h6 h7 ih=>exact ⟨Nat.le_trans h1 h2,D.O9 fun i hi=>D.Q8 fun j hj=>ih i j hi hj⟩
theorem VS:dec True=true:=AM trivial
theorem VT:dec False=false:=AG fun h=>h
attribute [go_sem] TV TU Vu Vt SG Or SC.Cw Sy pfx CV GZ OT.Fl OT.Oo OT.half Vr TS Eh Oa SV.isNil Ob.idsB SV.idsB SV.J0 List.getElem?_cons_zero yG OT.At OT.C3 OT.full entry toTree Q2 Oq Q1 Dx EN CZ Sk Ma Su OT.erss OT.ers OT.er OT.BI OT.Du OT.noSh quiet obB Pn Hu meets FI go_skip Ue go_ret UY Uf UZ SH Ug Uh Ui Va Vb Vd VN VO VP Uj Uk SK Rp Ul SL Rq Um Vg Vh VQ Vi Vj Vk VR Vl Vm SN Vo Vp Vq Vs Vv Vw Vx Vy Ok Oj C1 seen Rr PK Un Uo Vz Rs Ei SO SP SQ V4 V5 Us V6 order opF fOp Dw Qw TI Qu Qv Sj FQ eqK Al gets Ac L8 DM Cp HV K1 As QV SV.cellsN SV.one GV splice C4 NL GU HT Cv AV Bs AU EB Fz Pp eOp.mkEs eOp.addS D.sv OT.sv D.ot EH E2 reach SV.refs SV.Mn SV.ptrs SV.Mo Ob.refs Ob.liveB EO DD SV.back SV.J1 Ob.back EF F0 BA AF AE H3 Fj SV.ren SV.HZ Ob.ren mkU sgp gc J5 names Qz Ic TL TM TN KF Sv TO TP TQ TR TT TW SC.mark Ms DQ slots L9 Px rxV IM Oi SV.noSh SV.Jx Ob.noSh SV.own SV.Nh D7 cond_true cond_false zQ z9 zE yZ List.drop_succ_cons zG List.drop_nil List.take_succ_cons List.take_zero List.take_nil y4 y5 yC List.all_cons List.all_nil List.getD_cons_zero List.getD_cons_succ xA List.any_nil List.contains_cons List.contains_nil List.isEmpty_nil List.isEmpty_cons List.flatten_cons List.flatten_nil List.replicate_succ List.replicate_zero List.set_cons_zero List.set_cons_succ Nat.add_zero yY zL zI zP zZ zH Bool.or_false z2 z7 y2 xB y8 zO zY decide_true decide_false beq_self_eq_true if_true if_false yK Option.map_none zN z4 Option.getD_none yA true_and and_true and_self eq_self_iff_true y6 yE Bool.true_eq_false zR SV.int.injEq SV.bool.injEq SV.str.injEq SV.agg.injEq SV.tup.injEq SV.arr.injEq List.cons.injEq St.mk.injEq Int.zero_add VS VT Ut AM AG VH svK svD RO svM MV.sv Qj Sl Sm Sn E1 St.app Ou MK.sv Rt Ru Rv Up Uq
attribute [go_sem_proc] Nat.reduceAdd Nat.reduceSub Nat.reduceLT Nat.reduceLeDiff Nat.reduceEqDiff Nat.reduceBEq Nat.reduceBneDiff Nat.reduceMul Int.reduceToNat Int.reduceNeg Int.reduceAdd reduceCtorEq
attribute [go_sem_proc ↓] reduceIte
theorem Q9:∀ xs:List ByteArray,OT.At (xs.map fun s=>[OT.str s])=true
 | []=>rfl
 | x :: xs=>by simp only [zE,OT.At,OT.C3,OT.full,Q9 xs,zH]
theorem Nr:∀ xs:List Int,OT.At (xs.map fun n=>[OT.int n])=true
 | []=>rfl
 | x :: xs=>by simp only [zE,OT.At,OT.C3,OT.full,Nr xs,zH]
theorem Tm.SR:∀ xs:List Tm,(∀ x∈xs,OT.C3 (Tm.o x)=true)→OT.At (xs.map Tm.o)=true
 | [],_=>rfl
 | x :: xs,h=>by
  simp only [zE,OT.At]
  rw [h x (by simp),Tm.SR xs fun y hy=>h y (by simp [hy])]; rfl
theorem Tm.fu (x:Tm):OT.C3 (Tm.o x)=true:=by
 have h:=Tm.SR x.args fun y hy=>Tm.fu y
 rw [Tm.o_eq]
 simp only [OT.C3,OT.full,h,zH,zP]
termination_by SizeOf.sizeOf x
decreasing_by exact Tm.Av hy
theorem Tm.fus (xs:List Tm):OT.At (xs.map Tm.o)=true:=Tm.SR xs fun x _=>Tm.fu x
theorem Lt.fu (x:Lt):OT.C3 (Lt.o x)=true:=by
 simp only [Lt.o,OT.C3,OT.full,Tm.fus,zH,zP]
theorem Lt.fus:∀ xs:List Lt,OT.At (xs.map Lt.o)=true
 | []=>rfl
 | x :: xs=>by simp only [zE,OT.At,Lt.fu,Lt.fus xs,zH]
theorem Cl.fu (x:Cl):OT.C3 (Cl.o x)=true:=by
 simp only [Cl.o,OT.C3,OT.full,Lt.fus,zH,zP]
theorem Cl.fus:∀ xs:List Cl,OT.At (xs.map Cl.o)=true
 | []=>rfl
 | x :: xs=>by simp only [zE,OT.At,Cl.fu,Cl.fus xs,zH]
theorem Tl.fu (x:Tl):OT.C3 (Tl.o x)=true:=by
 simp only [Tl.o,OT.C3,OT.full,Nr,zH,zP]
theorem Tl.fus:∀ xs:List Tl,OT.At (xs.map Tl.o)=true
 | []=>rfl
 | x :: xs=>by simp only [zE,OT.At,Tl.fu,Tl.fus xs,zH]
attribute [go_sem] Q9 Nr TZ Q4 Ua Q5 Tm.fus Tm.erss Tm.noss Lt.fus Lt.erss Lt.noss Cl.fus Cl.erss Cl.noss Tl.fus Tl.erss Tl.noss
theorem Dy {α β:Type} (f:α→β) (dn rest:List α) (x y:α) {k:Nat} (h:dn.length=k):((dn++x :: rest).map f).set k (f y)=((dn++[y])++rest).map f:=by
 subst h
 rw [yM,List.set_append_right _ _ (by simp)]
 simp
theorem Cq {α:Type} (a:α):dec (a=a)=true:=AM rfl
def El {α β:Type} (f:α→β) (z:β) (xs:List α) (k:Nat):List β:=(xs.take k).map f++List.replicate (xs.length-k) z
section
variable {α β:Type} (f:α→β) (z:β) {xs:List α} {k:Nat}
theorem H9:El f z xs 0=List.replicate xs.length z:=by simp [El]
theorem IU:(El f z xs k).length=xs.length:=by simp [El]; omega
theorem IV:El f z xs xs.length=xs.map f:=by simp [El]
theorem IW (h:k<xs.length):(El f z xs k)[k]?=some z:=by
 have hl:((xs.take k).map f).length=k:=by simp; omega
 unfold El
 rw [List.getElem?_append_right (by omega),hl,Nat.sub_self,List.getElem?_replicate]
 simp; omega
theorem IX (h:k<xs.length):(El f z xs k).set k (f xs[k])=El f z xs (k+1):=by
 have hl:((xs.take k).map f).length=k:=by simp; omega
 have e:List.take (k+1) xs=List.take k xs++[xs[k]]:=List.take_succ_eq_append_getElem h
 unfold El
 rw [List.set_append_right _ _ (by omega),hl,Nat.sub_self,e,yM,yV]
 congr 1
 rw [show xs.length-k=(xs.length-(k+1))+1 by omega,List.replicate_succ,List.set_cons_zero]
 rfl
end
theorem Uu (a b:Int):(bif dec (a<b) then b else a)=max a b:=by
 by_cases h:a<b
 ·rw [AM h,cond_true,Int.max_eq_right (by omega)]
 ·rw [AG h,cond_false,Int.max_eq_left (by omega)]
def DE {α:Type} (p:α→Bool):List α→Int→Int
 | [],_=>-1
 | x :: xs,i=>if p x then i else DE p xs (i+1)
theorem OA {α:Type} (p:α→Bool):∀ (xs:List α),dec (0≤DE p xs 0)=xs.any p:=by
 have key:∀ (xs:List α) (i:Int),0≤i→(0≤DE p xs i ↔ xs.any p=true):=by
  intro xs
  induction xs with
  | nil=>intro i h; simp [DE]
  | cons x xs ih =>
   intro i h
   simp only [DE,xA,yN]
   by_cases hp:p x=true
   ·simp [hp,h]
   ·rw [if_neg hp,ih (i+1) (by omega)]; simp [hp]
 intro xs
 cases h:xs.any p with
 | true=>exact AM ((key xs 0 (by omega)).2 h)
 | false=>exact AG fun h'=>by rw [(key xs 0 (by omega)).1 h'] at h; cases h
mutual
def Tm.nodes:Tm→Nat
 | .mk _ args=>1+Tm.A9 args
def Tm.A9:List Tm→Nat
 | []=>0
 | x :: xs=>Tm.nodes x+Tm.A9 xs
end
mutual
def Tm.deep:Tm→Nat
 | .mk _ args=>Tm.Em args+1
def Tm.Em:List Tm→Nat
 | []=>0
 | x :: xs=>max (Tm.deep x) (Tm.Em xs)
end
mutual
def Tm.names:Tm→Bool
 | .mk name args=>if AY name then args.length == 0 else CU name&&decide (args.length≤4)&&Tm.D9 args
def Tm.D9:List Tm→Bool
 | []=>true
 | x :: xs=>Tm.names x&&Tm.D9 xs
end
def Tm.small (x:Tm):Bool:=decide (x.nodes≤30)&&decide (x.deep≤8)
def Tm.valid (x:Tm):Bool:=x.small&&x.names
noncomputable def Tm.eqn (x:Tm):Bool:=dec (x.name=⟨#[61]⟩)
noncomputable def Tm.atom (x:Tm):Bool:=if x.eqn then x.args.length == 2&&x.small&&Tm.D9 x.args else CU x.name&&x.valid
noncomputable def Tm.expr (x:Tm):Bool:=x.valid || x.atom
theorem Tm.A6 (x:Tm):x.nodes=1+Tm.A9 x.args:=by
 obtain ⟨name,args⟩:=x
 rw [Tm.nodes]; rfl
theorem Tm.Rw (x:Tm):1≤x.nodes:=by rw [Tm.A6]; omega
theorem Tm.Dz:∀ (xs:List Tm) (k:Nat) (h:k<xs.length),xs[k].nodes≤Tm.A9 xs
 | [],k,h=>absurd h (by simp)
 | x :: xs,0,_=>by rw [Tm.A9]; simp
 | x :: xs,k+1,h=>by
  have:=Tm.Dz xs k (by simpa using h)
  rw [Tm.A9]; simp only [z6]; omega
theorem Tm.Ns (x:Tm):x.deep=Tm.Em x.args+1:=by
 obtain ⟨name,args⟩:=x
 rw [Tm.deep]; rfl
theorem Tm.Gb:∀ xs:List Tm,(∀ y∈xs,y.deep≤y.nodes)→Tm.Em xs≤Tm.A9 xs
 | [],_=>by simp [Tm.Em]
 | x :: xs,h=>by
  have h1:=h x (by simp)
  have h2:=Tm.Gb xs fun y hy=>h y (by simp [hy])
  rw [Tm.Em,Tm.A9]; omega
theorem Tm.E3 (x:Tm):x.deep≤x.nodes:=by
 rw [Tm.Ns,Tm.A6]
 have:=Tm.Gb x.args fun y hy=>Tm.E3 y
 omega
termination_by SizeOf.sizeOf x
decreasing_by exact Tm.Av hy
theorem Tm.ER (x:Tm):x.names=if AY x.name then x.args.length == 0 else CU x.name&&decide (x.args.length≤4)&&Tm.D9 x.args:=by
 obtain ⟨name,args⟩:=x
 rw [Tm.names]; rfl
theorem Tm.GG:∀ xs:List Tm,Tm.D9 xs=xs.all Tm.names
 | []=>rfl
 | x :: xs=>by rw [Tm.D9,Tm.GG xs]; rfl
theorem Tm.length_le:∀ xs:List Tm,xs.length≤Tm.A9 xs
 | []=>zL _
 | x :: xs=>by
  have:=Tm.length_le xs
  have:=Tm.Rw x
  rw [Tm.A9]; simp only [zQ]; omega
theorem Tm.CJ {xs:List Tm} {y:Tm} (h:y∈xs):y.nodes≤Tm.A9 xs:=by
 obtain ⟨k,hk,rfl⟩:=yO h
 exact Tm.Dz xs k hk
theorem M8 {xs:List Tm} (h:xs.length=2):Tm.D9 xs=((xs[0]'(by omega)).names&&(xs[1]'(by omega)).names):=by
 match xs,h with
 | [a,b],_=>simp [Tm.D9]
mutual
def Tm.cap:Tm→Int
 | .mk _ xs=>Tm.IY xs 1
def Tm.IY:List Tm→Int→Int
 | [],n=>n
 | x :: xs,n=>if 30 < n then n else Tm.IY xs (n+Tm.cap x)
end
theorem Tm.SS (x:Tm):x.cap=Tm.IY x.args 1:=by
 obtain ⟨n,xs⟩:=x
 rw [Tm.cap]; rfl
theorem Tm.M9:∀ (xs:List Tm) (n:Int),(∀ x∈xs,1≤x.cap∧x.cap≤x.nodes∧(x.cap≤30→x.cap=x.nodes))→1≤n→n≤Tm.IY xs n∧Tm.IY xs n≤n+Tm.A9 xs∧(Tm.IY xs n≤30→Tm.IY xs n=n+Tm.A9 xs)
 | [],n,_,h=>by simp [Tm.IY,Tm.A9]
 | x :: xs,n,hx,h=>by
  rw [Tm.IY,Tm.A9]
  have h1:=hx x (by simp)
  split
  ·omega
  ·have:=Tm.M9 xs (n+x.cap) (fun y hy=>hx y (by simp [hy])) (by omega)
   omega
theorem Tm.Ig (x:Tm):1≤x.cap∧x.cap≤x.nodes∧(x.cap≤30→x.cap=x.nodes):=by
 rw [Tm.SS,Tm.A6]
 have:=Tm.M9 x.args 1 (fun y hy=>Tm.Ig y) (by omega)
 omega
termination_by SizeOf.sizeOf x
decreasing_by exact Tm.Av hy
mutual
def Tm.many:Tm→Int→Int
 | .mk _ xs,m=>Tm.ES xs m 1
def Tm.ES:List Tm→Int→Int→Int
 | [],_,n=>n
 | x :: xs,m,n=>if n≤m then Tm.ES xs m (n+Tm.many x (m-n)) else n
end
theorem Tm.QA (x:Tm) (m:Int):x.many m=Tm.ES x.args m 1:=by
 obtain ⟨n,xs⟩:=x
 rw [Tm.many]; rfl
theorem Tm.KV (m:Int):∀ (xs:List Tm) (n:Int),(∀ x∈xs,∀ m,0≤m→1≤x.many m∧x.many m≤x.nodes∧(x.many m≤m→x.many m=x.nodes))→1≤n→n≤Tm.ES xs m n∧Tm.ES xs m n≤n+Tm.A9 xs∧(Tm.ES xs m n≤m→Tm.ES xs m n=n+Tm.A9 xs)
 | [],n,_,h=>by simp [Tm.ES,Tm.A9]
 | x :: xs,n,hx,h=>by
  rw [Tm.ES,Tm.A9]
  split
  ·have h1:=hx x (by simp) (m-n) (by omega)
   have:=Tm.KV m xs (n+x.many (m-n)) (fun y hy=>hx y (by simp [hy])) (by omega)
   omega
  ·omega
theorem Tm.GH (x:Tm) (m:Int):1≤x.many m∧x.many m≤x.nodes∧(x.many m≤m→x.many m=x.nodes):=by
 rw [Tm.QA,Tm.A6]
 have:=Tm.KV m x.args 1 (fun y hy m _=>Tm.GH y m) (by omega)
 omega
termination_by SizeOf.sizeOf x
decreasing_by exact Tm.Av hy
theorem Tm.Rx {x:Tm} (h:x.names=true) (hv:AY x.name=true):x.args=[]:=by
 rw [Tm.ER,if_pos hv] at h
 exact zK (by simpa using h)
theorem Tm.IZ {x:Tm} (h:x.names=true) {y:Tm} (hy:y∈x.args):y.names=true:=by
 rw [Tm.ER] at h
 split at h
 ·have:x.args=[]:=zK (by simpa using h)
  rw [this] at hy; cases hy
 ·rw [zB,Tm.GG,z5] at h
  exact h.2 y hy
def JA:SC:=(.seq (.reg [⟨some 1,none,.boxv 45 2 (.t 0)⟩,⟨some 2,none,.mv (.c (.int .i64 0))⟩]) (.seq (.reg [⟨some 3,none,.mv (.c (.int .i64 1))⟩]) (.seq (.seq (.reg [⟨some 6,none,.faddr 1 (.t 1)⟩,⟨some 7,none,.load false 1 (.t 6)⟩,⟨some 8,none,.len false (.t 7)⟩,⟨some 9,none,.mv (.c (.int .i64 0))⟩]) (.block 0 (.loop [0,0,0,1,0,0,0,1,1,1,0,0,0,0,0,0,0,0,0,0,0,0] (.seq (.reg [⟨some 10,none,.bin .lss false (.t 9) (.t 8)⟩]) (.seq (.cond (.t 10) .skip (.exit 0)) (.seq (.block 1 (.seq (.reg [⟨some 11,none,.iaddr 2 (.t 7) (.t 9)⟩,⟨some 12,none,.load true 2 (.t 11)⟩,⟨(some 5),none,(.alloc 45 [(.str ⟨#[]⟩),.nil])⟩,⟨none,none,(.store 2 (.t 5) (.t 12))⟩]) (.seq (.seq (.reg [⟨some 13,none,.mv (.t 3)⟩,⟨some 14,none,.bin .gtr false (.t 13) (.c (.int .i64 30))⟩]) (.cond (.t 14) (.seq (.reg [⟨some 15,none,.mv (.t 3)⟩,⟨some 2,none,.mv (.t 15)⟩]) .ret) .skip)) (.reg [⟨some 16,none,.mv (.t 3)⟩,⟨some 17,none,.load true 2 (.t 5)⟩,⟨some 18,none,.call 80 [(.t 17)]⟩,⟨some 19,none,.bin .add false (.t 16) (.t 18)⟩,⟨some 3,none,.mv (.t 19)⟩])))) (.reg [⟨some 20,none,.bin .add false (.t 9) (.c (.int .i64 1))⟩,⟨some 9,none,.mv (.t 20)⟩]))))))) (.seq (.reg [⟨some 21,none,.mv (.t 3)⟩,⟨some 2,none,.mv (.t 21)⟩]) .ret))))
theorem OB:Aj Try.prog 80=some ⟨22,JA,[(.tmp 2)]⟩:=by kernel_rfl
theorem D0:modes 80=⟨[],.asis,none,false⟩:=by unfold modes; rfl
theorem Uv (x:Tm) (hn:x.nodes≤1099511627776) (ih:∀ y∈x.args,E 80 [y.sv] []=some (.int .i64 y.cap,[])):E 80 [x.sv] []=some (.int .i64 x.cap,[]):=by
 have hl:=Tm.length_le x.args
 have hx:=Tm.A6 x
 rw [Tm.SS]
 refine Ab OB D0 (of_decide_eq_true rfl) ?_
 simp (disch:=omega) only [JA,go_sem,Aa]
 refine go_loop (α:=Int × Int) (fun a=>⟨slots 22 0 [(3,.int .i64 a.2),(7,.arr (x.args.map Tm.d)),(8,.int .i64 x.args.length),(9,.int .i64 a.1)],[]⟩) (fun a=>∃ k:Nat,a.1=k∧k≤x.args.length∧1≤a.2∧a.2+Tm.A9 (x.args.drop k)≤x.nodes∧Tm.IY (x.args.drop k) a.2=Tm.IY x.args 1) (fun a=>x.args.length-a.1.toNat) (0,1) ⟨0,rfl,zI _,by dsimp only; omega,by rw [zG]; dsimp only; omega,rfl⟩ (by simp (disch:=omega) only [go_sem,Aa]) ?_
 rintro ⟨i,n⟩ ⟨k,hi,hk,hn0,hn1,hs⟩
 dsimp only at hi hn0 hn1 hs
 have hni:i.toNat=k:=by omega
 rcases zA k x.args.length with hlt | hge
 ·have hg:=get_at Tm.d hlt
  rw [Tm.d_eq] at hg
  have hd:x.args.drop k=x.args[k] :: x.args.drop (k+1):=zC hlt
  have hc:=ih x.args[k] (zF hlt)
  have hp:=Tm.Ig x.args[k]
  rw [hd,Tm.IY] at hs
  rw [hd,Tm.A9] at hn1
  rcases yP 30 n with h30 | h30
  ·rw [if_pos h30] at hs
   simp (disch:=omega) only [go_sem,Aa,hni,hg,hc,D0]
   exact hs
  ·rw [if_neg (by omega)] at hs
   simp (disch:=omega) only [go_sem,Aa,hni,hg,hc,D0]
   refine ⟨(i+1,n+x.args[k].cap),⟨k+1,by dsimp only; omega,hlt,by dsimp only; omega,by dsimp only; omega,hs⟩,by dsimp only; omega,?_⟩
   simp only [and_self]
 ·have hd:x.args.drop k=[]:=zD hge
  rw [hd,Tm.IY] at hs
  simp (disch:=omega) only [go_sem,Aa,hni]
  exact hs
theorem ST (x:Tm) (hn:x.nodes≤1099511627776):E 80 [x.sv] []=some (.int .i64 x.cap,[]) :=
 Uv x hn fun y hy=>ST y (by have:=Tm.CJ hy; have:=Tm.A6 x; omega)
termination_by SizeOf.sizeOf x
decreasing_by exact Tm.Av hy
def He:SC:=(.seq (.reg [⟨some 2,none,.boxv 45 2 (.t 0)⟩,⟨some 4,none,.mv (.c (.int .i64 0))⟩]) (.seq (.reg [⟨some 5,none,.mv (.c (.int .i64 1))⟩]) (.seq (.seq (.reg [⟨some 6,none,.mv (.c (.int .i64 0))⟩]) (.block 0 (.loop [0,1,1,0,0,1,1,0,0,0,0,0,0,0,0,0,0,0,0,0,0,0,0,0,0,0,0,0,0,0,0] (.seq (.seq (.reg [⟨some 7,none,.mv (.t 6)⟩,⟨some 8,none,.faddr 1 (.t 2)⟩,⟨some 9,none,.load false 1 (.t 8)⟩,⟨some 10,none,.len false (.t 9)⟩,⟨some 11,none,.bin .lss false (.t 7) (.t 10)⟩,⟨some 12,none,.mv (.t 11)⟩,⟨(some 13),(some (12,true)),(.mv (.t 5))⟩,⟨(some 14),(some (12,true)),(.mv (.t 1))⟩,⟨(some 15),(some (12,true)),(.bin .leq false (.t 13) (.t 14))⟩,⟨some 16,none,.pick (.t 12) (.t 15) (.c (.bool false))⟩]) (.cond (.t 16) .skip (.exit 0))) (.seq (.block 1 (.reg [⟨some 19,none,.mv (.t 5)⟩,⟨some 20,none,.faddr 1 (.t 2)⟩,⟨some 21,none,.load false 1 (.t 20)⟩,⟨some 22,none,.mv (.t 6)⟩,⟨some 23,none,.iaddr 2 (.t 21) (.t 22)⟩,⟨some 24,none,.load true 2 (.t 23)⟩,⟨some 25,none,.mv (.t 1)⟩,⟨some 26,none,.mv (.t 5)⟩,⟨some 27,none,.bin .sub false (.t 25) (.t 26)⟩,⟨some 28,none,.call 64 [(.t 24),(.t 27)]⟩,⟨some 29,none,.bin .add false (.t 19) (.t 28)⟩,⟨some 5,none,.mv (.t 29)⟩])) (.reg [⟨some 17,none,.mv (.t 6)⟩,⟨some 18,none,.bin .add false (.t 17) (.c (.int .i64 1))⟩,⟨some 6,none,.mv (.t 18)⟩])))))) (.seq (.reg [⟨some 30,none,.mv (.t 5)⟩,⟨some 4,none,.mv (.t 30)⟩]) .ret))))
theorem LE:Aj Try.prog 64=some ⟨31,He,[(.tmp 4)]⟩:=by kernel_rfl
theorem C7:modes 64=⟨[],.asis,none,false⟩:=by unfold modes; rfl
theorem Uw (x:Tm) (m:Int) (hm:0≤m) (hm1:m≤1099511627776) (hn:x.nodes≤1099511627776) (ih:∀ y∈x.args,∀ m:Int,0≤m→m≤1099511627776→E 64 [y.sv,.int .i64 m] []=some (.int .i64 (y.many m),[])):E 64 [x.sv,.int .i64 m] []=some (.int .i64 (x.many m),[]):=by
 have hl:=Tm.length_le x.args
 have hx:=Tm.A6 x
 rw [Tm.QA]
 refine Ab LE C7 (of_decide_eq_true rfl) ?_
 simp (disch:=omega) only [He,go_sem,Aa]
 refine go_loop (α:=Int × Int) (fun a=>⟨slots 31 0 [(1,.int .i64 m),(2,.ptr 0 0),(5,.int .i64 a.2),(6,.int .i64 a.1)],[.box 45 [.str x.name,.arr (x.args.map Tm.d)]]⟩) (fun a=>∃ k:Nat,a.1=k∧k≤x.args.length∧1≤a.2∧a.2+Tm.A9 (x.args.drop k)≤x.nodes∧Tm.ES (x.args.drop k) m a.2=Tm.ES x.args m 1) (fun a=>x.args.length-a.1.toNat) (0,1) ⟨0,rfl,zI _,by dsimp only; omega,by rw [zG]; dsimp only; omega,rfl⟩ (by simp (disch:=omega) only [go_sem,Aa]) ?_
 rintro ⟨i,n⟩ ⟨k,hi,hk,hn0,hn1,hs⟩
 dsimp only at hi hn0 hn1 hs
 have hni:i.toNat=k:=by omega
 rcases zA k x.args.length with hlt | hge
 ·have hg:=get_at Tm.d hlt
  rw [Tm.d_eq] at hg
  have hd:x.args.drop k=x.args[k] :: x.args.drop (k+1):=zC hlt
  rw [hd,Tm.ES] at hs
  rw [hd,Tm.A9] at hn1
  rcases yP m n with h30 | h30
  ·rw [if_neg (by omega)] at hs
   simp (disch:=omega) only [go_sem,Aa,hni,hg,C7]
   exact hs
  ·rw [if_pos h30] at hs
   have hc:=ih x.args[k] (zF hlt) (m-n) (by omega) (by omega)
   have hp:=Tm.GH x.args[k] (m-n)
   simp (disch:=omega) only [go_sem,Aa,hni,hg,hc,C7]
   refine ⟨(i+1,n+x.args[k].many (m-n)),⟨k+1,by dsimp only; omega,hlt,by dsimp only; omega,by dsimp only; omega,hs⟩,by dsimp only; omega,?_⟩
   simp only [and_self]
 ·have hd:x.args.drop k=[]:=zD hge
  rw [hd,Tm.ES] at hs
  simp (disch:=omega) only [go_sem,Aa,hni]
  exact hs
theorem SU (x:Tm) (m:Int) (hm:0≤m) (hm1:m≤1099511627776) (hn:x.nodes≤1099511627776):E 64 [x.sv,.int .i64 m] []=some (.int .i64 (x.many m),[]) :=
 Uw x m hm hm1 hn fun y hy m hm hm1=>SU y m hm hm1 (by have:=Tm.CJ hy; have:=Tm.A6 x; omega)
termination_by SizeOf.sizeOf x
decreasing_by exact Tm.Av hy
def Ih:SC:=(.seq (.reg [⟨some 1,none,.boxv 45 2 (.t 0)⟩,⟨some 2,none,.mv (.c (.int .i64 0))⟩]) (.seq (.reg [⟨some 3,none,.mv (.c (.int .i64 0))⟩]) (.seq (.seq (.reg [⟨some 6,none,.faddr 1 (.t 1)⟩,⟨some 7,none,.load false 1 (.t 6)⟩,⟨some 8,none,.len false (.t 7)⟩,⟨some 9,none,.mv (.c (.int .i64 0))⟩]) (.block 0 (.loop [0,0,0,1,0,0,0,1,1,1,0,0,0,0,0,0,0,0,0,0] (.seq (.reg [⟨some 10,none,.bin .lss false (.t 9) (.t 8)⟩]) (.seq (.cond (.t 10) .skip (.exit 0)) (.seq (.block 1 (.seq (.reg [⟨some 11,none,.iaddr 2 (.t 7) (.t 9)⟩,⟨some 12,none,.load true 2 (.t 11)⟩,⟨(some 5),none,(.alloc 45 [(.str ⟨#[]⟩),.nil])⟩,⟨none,none,(.store 2 (.t 5) (.t 12))⟩]) (.reg [⟨some 13,none,.mv (.t 3)⟩,⟨some 14,none,.load true 2 (.t 5)⟩,⟨some 15,none,.call 81 [(.t 14)]⟩,⟨some 16,none,.minmax true (.t 13) (.t 15)⟩,⟨some 3,none,.mv (.t 16)⟩]))) (.reg [⟨some 17,none,.bin .add false (.t 9) (.c (.int .i64 1))⟩,⟨some 9,none,.mv (.t 17)⟩]))))))) (.seq (.reg [⟨some 18,none,.mv (.t 3)⟩,⟨some 19,none,.bin .add false (.t 18) (.c (.int .i64 1))⟩,⟨some 2,none,.mv (.t 19)⟩]) .ret))))
theorem Nt:Aj Try.prog 81=some ⟨20,Ih,[(.tmp 2)]⟩:=by kernel_rfl
theorem DF:modes 81=⟨[],.asis,none,false⟩:=by unfold modes; rfl
def Hf:SC:=(.seq (.reg [⟨some 4,none,.mv (.c (.int .i64 0))⟩]) (.seq (.seq (.reg [⟨some 5,none,.mv (.t 0)⟩,⟨some 6,none,.mv (.t 1)⟩,⟨some 7,none,.bin .gtr false (.t 5) (.t 6)⟩]) (.cond (.t 7) (.seq (.reg [⟨some 8,none,.mv (.t 0)⟩,⟨some 4,none,.mv (.t 8)⟩]) .ret) .skip)) (.seq (.reg [⟨some 9,none,.mv (.t 1)⟩,⟨some 4,none,.mv (.t 9)⟩]) .ret)))
theorem LF:Aj Try.prog 78=some ⟨10,Hf,[(.tmp 4)]⟩:=by kernel_rfl
theorem Hg:modes 78=⟨[],.asis,none,false⟩:=by unfold modes; rfl
def Gc:SC:=(.seq (.reg [⟨some 1,none,.boxv 45 2 (.t 0)⟩,⟨some 2,none,.mv (.c (.int .i64 0))⟩]) (.seq (.reg [⟨some 3,none,.mv (.c (.int .i64 0))⟩]) (.seq (.seq (.reg [⟨some 4,none,.mv (.c (.int .i64 0))⟩]) (.block 0 (.loop [0,1,0,1,1,0,0,0,0,0,0,0,0,0,0,0,0,0,0,0,0,0] (.seq (.seq (.reg [⟨some 5,none,.mv (.t 4)⟩,⟨some 6,none,.faddr 1 (.t 1)⟩,⟨some 7,none,.load false 1 (.t 6)⟩,⟨some 8,none,.len false (.t 7)⟩,⟨some 9,none,.bin .lss false (.t 5) (.t 8)⟩]) (.cond (.t 9) .skip (.exit 0))) (.seq (.block 1 (.reg [⟨some 12,none,.mv (.t 3)⟩,⟨some 13,none,.faddr 1 (.t 1)⟩,⟨some 14,none,.load false 1 (.t 13)⟩,⟨some 15,none,.mv (.t 4)⟩,⟨some 16,none,.iaddr 2 (.t 14) (.t 15)⟩,⟨some 17,none,.load true 2 (.t 16)⟩,⟨some 18,none,.call 65 [(.t 17)]⟩,⟨some 19,none,.call 78 [(.t 12),(.t 18)]⟩,⟨some 3,none,.mv (.t 19)⟩])) (.reg [⟨some 10,none,.mv (.t 4)⟩,⟨some 11,none,.bin .add false (.t 10) (.c (.int .i64 1))⟩,⟨some 4,none,.mv (.t 11)⟩])))))) (.seq (.reg [⟨some 20,none,.mv (.t 3)⟩,⟨some 21,none,.bin .add false (.t 20) (.c (.int .i64 1))⟩,⟨some 2,none,.mv (.t 21)⟩]) .ret))))
theorem KW:Aj Try.prog 65=some ⟨22,Gc,[(.tmp 2)]⟩:=by kernel_rfl
theorem CM:modes 65=⟨[],.asis,none,false⟩:=by unfold modes; rfl
theorem SW (a b:Int):E 78 [.int .i64 a,.int .i64 b] []=some (.int .i64 (max a b),[]):=by
 refine Ab LF Hg (of_decide_eq_true rfl) ?_
 simp (disch:=omega) only [Hf,go_sem,Aa]
 repeat' (refine Bz (fun hq=>?_) (fun hq=>?_) <;> (first | replace hq:=Ah.1 hq | replace hq:=Bi.1 hq) <;> (try simp (disch:=omega) only [go_sem,Aa]))
 all_goals omega
theorem SY (x:Tm) (hn:x.nodes≤1099511627776) (ih:∀ y∈x.args,E 81 [y.sv] []=some (.int .i64 y.deep,[])):E 81 [x.sv] []=some (.int .i64 x.deep,[]):=by
 have hl:=Tm.length_le x.args
 have hx:=Tm.A6 x
 have hd1:=Tm.Ns x
 have hd2:=Tm.E3 x
 refine Ab Nt DF (of_decide_eq_true rfl) ?_
 simp (disch:=omega) only [Ih,go_sem,Aa]
 refine go_loop (α:=Int × (Int)) (fun a=>⟨slots 20 0 [(3,.int .i64 (a.2)),(7,.arr (x.args.map Tm.d)),(8,.int .i64 x.args.length),(9,.int .i64 (a.1))],[]⟩) (fun a=>∃ k:Nat,a.1=k∧k≤(x.args).length∧0≤(a.2)∧max (a.2) (Tm.Em (x.args.drop k):Nat)=(Tm.Em x.args:Nat)) (fun a=>(x.args).length-(a.1).toNat) (0,0) ⟨0,rfl,zI _,by dsimp only; omega,by rw [zG]; dsimp only; omega⟩ (by simp (disch:=omega) only [go_sem,Aa]) ?_
 rintro ⟨i,n⟩ ⟨k,hi,hk,hR⟩
 dsimp only at hi hR
 have hni:i.toNat=k:=by omega
 have hni1:(i+1).toNat=k+1:=by omega
 rcases zA k (x.args).length with hlt | hge
 ·have hg:=get_at Tm.d hlt
  rw [Tm.d_eq] at hg
  have hc:=ih x.args[k] (zF hlt)
  rw [zC hlt,Tm.Em] at hR
  simp (disch:=omega) only [go_sem,Aa,hni,hg,hc,DF,Uu]
  refine ⟨(i+1,max n (x.args[k].deep:Int)),⟨k+1,by dsimp only; omega,hlt,by dsimp only; omega⟩,by dsimp only; omega,?_⟩
  simp only [and_self]
 ·rw [zD hge,Tm.Em] at hR
  simp (disch:=omega) only [go_sem,Aa,hni]
  omega
theorem QB (x:Tm) (hn:x.nodes≤1099511627776):E 81 [x.sv] []=some (.int .i64 x.deep,[]) :=
 SY x hn fun y hy=>QB y (by have:=Tm.CJ hy; have:=Tm.A6 x; omega)
termination_by SizeOf.sizeOf x
decreasing_by exact Tm.Av hy
theorem PO (x:Tm) (hn:x.nodes≤1099511627776) (ih:∀ y∈x.args,E 65 [y.sv] []=some (.int .i64 y.deep,[])):E 65 [x.sv] []=some (.int .i64 x.deep,[]):=by
 have hl:=Tm.length_le x.args
 have hx:=Tm.A6 x
 have hd1:=Tm.Ns x
 have hd2:=Tm.E3 x
 refine Ab KW CM (of_decide_eq_true rfl) ?_
 simp (disch:=omega) only [Gc,go_sem,Aa]
 refine go_loop (α:=Int × (Int)) (fun a=>⟨slots 22 0 [(1,.ptr 0 0),(3,.int .i64 (a.2)),(4,.int .i64 (a.1))],[.box 45 [.str x.name,.arr (x.args.map Tm.d)]]⟩) (fun a=>∃ k:Nat,a.1=k∧k≤(x.args).length∧0≤(a.2)∧max (a.2) (Tm.Em (x.args.drop k):Nat)=(Tm.Em x.args:Nat)) (fun a=>(x.args).length-(a.1).toNat) (0,0) ⟨0,rfl,zI _,by dsimp only; omega,by rw [zG]; dsimp only; omega⟩ (by simp (disch:=omega) only [go_sem,Aa]) ?_
 rintro ⟨i,n⟩ ⟨k,hi,hk,hR⟩
 dsimp only at hi hR
 have hni:i.toNat=k:=by omega
 have hni1:(i+1).toNat=k+1:=by omega
 rcases zA k (x.args).length with hlt | hge
 ·have hg:=get_at Tm.d hlt
  rw [Tm.d_eq] at hg
  have hc:=ih x.args[k] (zF hlt)
  rw [zC hlt,Tm.Em] at hR
  simp (disch:=omega) only [go_sem,Aa,hni,hg,hc,CM,SW,Hg]
  refine ⟨(i+1,max n (x.args[k].deep:Int)),⟨k+1,by dsimp only; omega,hlt,by dsimp only; omega⟩,by dsimp only; omega,?_⟩
  simp only [and_self]
 ·rw [zD hge,Tm.Em] at hR
  simp (disch:=omega) only [go_sem,Aa,hni]
  omega
theorem MA (x:Tm) (hn:x.nodes≤1099511627776):E 65 [x.sv] []=some (.int .i64 x.deep,[]) :=
 PO x hn fun y hy=>MA y (by have:=Tm.CJ hy; have:=Tm.A6 x; omega)
termination_by SizeOf.sizeOf x
decreasing_by exact Tm.Av hy
def Bt:SC:=(.seq (.reg [⟨some 4,none,.mv (.c (.int .i64 0))⟩]) (.seq (.seq (.reg [⟨some 6,none,.mv (.t 0)⟩,⟨some 7,none,.len false (.t 6)⟩,⟨some 8,none,.mv (.c (.int .i64 0))⟩]) (.block 0 (.loop [1,1,0,0,0,0,0,1,1,0,0,0,0,0,0,0,0,0,0] (.seq (.reg [⟨some 9,none,.bin .lss false (.t 8) (.t 7)⟩]) (.seq (.cond (.t 9) .skip (.exit 0)) (.seq (.block 1 (.seq (.reg [⟨some 10,none,.mv (.t 8)⟩,⟨some 5,none,.mv (.t 10)⟩]) (.seq (.reg [⟨some 11,none,.mv (.t 1)⟩,⟨some 12,none,.mv (.t 0)⟩,⟨some 13,none,.mv (.t 5)⟩,⟨some 14,none,.iaddr 2 (.t 12) (.t 13)⟩,⟨some 15,none,.load true 2 (.t 14)⟩,⟨some 16,none,.callv (.t 11) [(.t 15)]⟩]) (.cond (.t 16) (.seq (.reg [⟨some 17,none,.mv (.t 5)⟩,⟨some 4,none,.mv (.t 17)⟩]) .ret) .skip)))) (.reg [⟨some 18,none,.bin .add false (.t 8) (.c (.int .i64 1))⟩,⟨some 8,none,.mv (.t 18)⟩]))))))) (.seq (.reg [⟨some 4,none,.mv (.c (.int .i64 (-(0+1))))⟩]) .ret)))
theorem Cr:Aj Try.prog 92=some ⟨19,Bt,[(.tmp 4)]⟩:=by kernel_rfl
theorem Bu:modes 92=⟨[],.asis,none,false⟩:=by unfold modes; rfl
def Bf:SC:=(.seq (.reg [⟨some 4,none,.mv (.c (.bool false))⟩]) (.seq (.reg [⟨some 5,none,.mv (.t 0)⟩,⟨some 6,none,.mv (.t 1)⟩,⟨some 7,none,.call 92 [(.t 5),(.t 6)]⟩,⟨some 8,none,.bin .geq false (.t 7) (.c (.int .i64 0))⟩,⟨some 4,none,.mv (.t 8)⟩]) .ret))
theorem Cd:Aj Try.prog 83=some ⟨9,Bf,[(.tmp 4)]⟩:=by kernel_rfl
theorem Bg:modes 83=⟨[],.asis,none,false⟩:=by unfold modes; rfl
theorem JK (fid:Nat) (p:Tm→Bool) (xs:List Tm) (hl:xs.length≤1099511627776) (hg:Hx Try.prog fid=true) (hm:(modes fid).hand=[]) (hE:∀ x∈xs,E fid [x.sv] []=some (.bool (p x),[])):E 92 [.arr (xs.map Tm.d),.fn fid []] []=some (.int .i64 (DE p xs 0),[]):=by
 refine Ab Cr Bu (of_decide_eq_true rfl) ?_
 simp (disch:=omega) only [Bt,go_sem,Aa]
 refine go_loop (α:=Int) (fun a=>⟨slots 19 0 [(0,.arr (xs.map Tm.d)),(1,.fn fid []),(7,.int .i64 xs.length),(8,.int .i64 a)],[]⟩) (fun a=>∃ k:Nat,a=k∧k≤(xs).length∧DE p (xs.drop k) a=DE p xs 0) (fun a=>(xs).length-(a).toNat) 0 ⟨0,rfl,zI _,by rw [zG]⟩ (by simp (disch:=omega) only [go_sem,Aa]) ?_
 rintro i ⟨k,hi,hk,hR⟩
 have hni:i.toNat=k:=by omega
 have hni1:(i+1).toNat=k+1:=by omega
 rcases zA k (xs).length with hlt | hge
 ·have hg':=get_at Tm.d hlt
  rw [Tm.d_eq] at hg'
  have hc:=hE xs[k] (zF hlt)
  rw [zC hlt,DE] at hR
  cases hp:p xs[k] with
  | true =>
   rw [hp] at hc hR
   simp (disch:=omega) only [go_sem,Aa,hni,hg',hc,hg,hm]
   simpa using hR
  | false =>
   rw [hp] at hc hR
   simp (disch:=omega) only [go_sem,Aa,hni,hg',hc,hg,hm]
   exact ⟨i+1,⟨k+1,by omega,hlt,by simpa using hR⟩,by omega,by first | trivial | rfl⟩
 ·rw [zD hge,DE] at hR
  simp (disch:=omega) only [go_sem,Aa,hni]
  exact hR
theorem HA (fid:Nat) (p:Tm→Bool) (xs:List Tm) (hl:xs.length≤1099511627776) (hg:Hx Try.prog fid=true) (hm:(modes fid).hand=[]) (hE:∀ x∈xs,E fid [x.sv] []=some (.bool (p x),[])):E 83 [.arr (xs.map Tm.d),.fn fid []] []=some (.bool (xs.any p),[]):=by
 have h:=JK fid p xs hl hg hm hE
 refine Ab Cd Bg (of_decide_eq_true rfl) ?_
 simp (disch:=omega) only [Bf,go_sem,Aa,h,Bu]
 rw [OA]
def Ce:SC:=(.seq (.reg [⟨some 1,none,.boxv 45 2 (.t 0)⟩,⟨some 2,none,.mv (.c (.bool false))⟩]) (.seq (.seq (.reg [⟨some 3,none,.faddr 0 (.t 1)⟩,⟨some 4,none,.load false 1 (.t 3)⟩,⟨some 5,none,.call 82 [(.t 4)]⟩]) (.cond (.t 5) (.seq (.reg [⟨some 6,none,.faddr 1 (.t 1)⟩,⟨some 7,none,.load false 1 (.t 6)⟩,⟨some 8,none,.len false (.t 7)⟩,⟨some 9,none,.bin .eql false (.t 8) (.c (.int .i64 0))⟩,⟨some 2,none,.mv (.t 9)⟩]) .ret) .skip)) (.seq (.reg [⟨some 10,none,.faddr 0 (.t 1)⟩,⟨some 11,none,.load false 1 (.t 10)⟩,⟨some 12,none,.call 70 [(.t 11)]⟩,⟨some 13,none,.mv (.t 12)⟩,⟨(some 14),(some (13,true)),(.faddr 1 (.t 1))⟩,⟨(some 15),(some (13,true)),(.load false 1 (.t 14))⟩,⟨(some 16),(some (13,true)),(.len false (.t 15))⟩,⟨(some 17),(some (13,true)),(.bin .leq false (.t 16) (.c (.int .i64 4)))⟩,⟨some 18,none,.pick (.t 13) (.t 17) (.c (.bool false))⟩,⟨some 19,none,.mv (.t 18)⟩,⟨(some 20),(some (19,true)),(.faddr 1 (.t 1))⟩,⟨(some 21),(some (19,true)),(.load false 1 (.t 20))⟩,⟨(some 22),(some (19,true)),(.call 83 [(.t 21),(.c (.fn 84 []))])⟩,⟨(some 23),(some (19,true)),(.un .not (.t 22))⟩,⟨some 24,none,.pick (.t 19) (.t 23) (.c (.bool false))⟩,⟨some 2,none,.mv (.t 24)⟩]) .ret)))
theorem CA:Aj Try.prog 69=some ⟨25,Ce,[(.tmp 2)]⟩:=by kernel_rfl
theorem Aw:modes 69=⟨[],.asis,none,false⟩:=by unfold modes; rfl
def En:SC:=(.seq (.reg [⟨some 1,none,.boxv 45 2 (.t 0)⟩,⟨some 2,none,.mv (.c (.bool false))⟩]) (.seq (.reg [⟨some 3,none,.load true 2 (.t 1)⟩,⟨some 4,none,.call 69 [(.t 3)]⟩,⟨some 5,none,.un .not (.t 4)⟩,⟨some 2,none,.mv (.t 5)⟩]) .ret))
theorem Ii:Aj Try.prog 84=some ⟨6,En,[(.tmp 2)]⟩:=by kernel_rfl
theorem Eo:modes 84=⟨[],.asis,none,false⟩:=by unfold modes; rfl
theorem Ij:Hx Try.prog 84=true:=by kernel_rfl
theorem Tm.Ux (xs:List Tm):(!xs.any fun y=>!y.names)=Tm.D9 xs:=by
 rw [Tm.GG]
 induction xs with
 | nil=>rfl
 | cons x xs ih=>simp only [xA,List.all_cons,Bool.not_or,Bool.not_not,ih]
theorem OC (x:Tm) (hn:x.nodes≤1099511627776) (ih:∀ y∈x.args,E 69 [y.sv] []=some (.bool y.names,[])):E 69 [x.sv] []=some (.bool x.names,[]):=by
 have hl:=Tm.length_le x.args
 have hx:=Tm.A6 x
 have h1:∀ y∈x.args,E 84 [y.sv] []=some (.bool (!y.names),[]):=fun y hy=>by
  have h:=ih y hy
  refine Ab Ii Eo (of_decide_eq_true rfl) ?_
  simp (disch:=omega) only [En,go_sem,Aa,h,Aw]
 have h2:=HA 84 (fun y=>!y.names) x.args (by omega) Ij (by rw [Eo]) h1
 rw [Tm.ER,← Tm.Ux]
 cases hv:AY x.name with
 | true =>
  have h3:=If x.name
  rw [hv] at h3
  refine Ab CA Aw (of_decide_eq_true rfl) ?_
  simp (disch:=omega) only [Ce,go_sem,Aa,h3,BD]
  rw [IN]; cases x.args <;> simp <;> omega
 | false =>
  have h3:=If x.name
  rw [hv] at h3
  have h4:=KT x.name
  cases hs:CU x.name with
  | false =>
   rw [hs] at h4
   refine Ab CA Aw (of_decide_eq_true rfl) ?_
   simp (disch:=omega) only [Ce,go_sem,Aa,h2,h3,h4,BD,AJ]
  | true =>
   rw [hs] at h4
   rcases zA 4 x.args.length with h5 | h5
   ·refine Ab CA Aw (of_decide_eq_true rfl) ?_
    simp (disch:=omega) only [Ce,go_sem,Aa,h2,h3,h4,BD,AJ]
    simp; omega
   ·refine Ab CA Aw (of_decide_eq_true rfl) ?_
    simp (disch:=omega) only [Ce,go_sem,Aa,h2,h3,h4,BD,AJ,Bg]
    simp [h5]
theorem Fv (x:Tm) (hn:x.nodes≤1099511627776):E 69 [x.sv] []=some (.bool x.names,[]) :=
 OC x hn fun y hy=>Fv y (by have:=Tm.CJ hy; have:=Tm.A6 x; omega)
termination_by SizeOf.sizeOf x
decreasing_by exact Tm.Av hy
def Cs:SC:=(.seq (.reg [⟨some 1,none,.boxv 45 2 (.t 0)⟩,⟨some 2,none,.mv (.c (.bool false))⟩]) (.seq (.seq (.reg [⟨some 4,none,.faddr 0 (.t 1)⟩,⟨some 5,none,.load false 1 (.t 4)⟩,⟨some 6,none,.call 30 [(.t 5)]⟩]) (.cond (.t 6) (.seq (.reg [⟨some 7,none,.faddr 1 (.t 1)⟩,⟨some 8,none,.load false 1 (.t 7)⟩,⟨some 9,none,.len false (.t 8)⟩,⟨some 10,none,.bin .eql false (.t 9) (.c (.int .i64 0))⟩,⟨some 2,none,.mv (.t 10)⟩]) .ret) .skip)) (.seq (.seq (.reg [⟨some 11,none,.faddr 0 (.t 1)⟩,⟨some 12,none,.load false 1 (.t 11)⟩,⟨some 13,none,.call 47 [(.t 12)]⟩,⟨some 14,none,.un .not (.t 13)⟩,⟨some 15,none,.mv (.t 14)⟩,⟨(some 16),(some (15,false)),(.faddr 1 (.t 1))⟩,⟨(some 17),(some (15,false)),(.load false 1 (.t 16))⟩,⟨(some 18),(some (15,false)),(.len false (.t 17))⟩,⟨(some 19),(some (15,false)),(.bin .gtr false (.t 18) (.c (.int .i64 4)))⟩,⟨some 20,none,.pick (.t 15) (.c (.bool true)) (.t 19)⟩]) (.cond (.t 20) (.seq (.reg [⟨some 2,none,.mv (.c (.bool false))⟩]) .ret) .skip)) (.seq (.seq (.reg [⟨some 3,none,.mv (.c (.int .i64 0))⟩]) (.block 0 (.loop [0,1,0,1,0,0,0,0,0,0,0,0,0,0,0,0,0,0,0,0,0,0,0,0,0,0,0,0,0,0,0,0,0,0,0] (.seq (.seq (.reg [⟨some 21,none,.mv (.t 3)⟩,⟨some 22,none,.faddr 1 (.t 1)⟩,⟨some 23,none,.load false 1 (.t 22)⟩,⟨some 24,none,.len false (.t 23)⟩,⟨some 25,none,.bin .lss false (.t 21) (.t 24)⟩]) (.cond (.t 25) .skip (.exit 0))) (.seq (.block 1 (.seq (.reg [⟨some 28,none,.faddr 1 (.t 1)⟩,⟨some 29,none,.load false 1 (.t 28)⟩,⟨some 30,none,.mv (.t 3)⟩,⟨some 31,none,.iaddr 2 (.t 29) (.t 30)⟩,⟨some 32,none,.load true 2 (.t 31)⟩,⟨some 33,none,.call 46 [(.t 32)]⟩,⟨some 34,none,.un .not (.t 33)⟩]) (.cond (.t 34) (.seq (.reg [⟨some 2,none,.mv (.c (.bool false))⟩]) .ret) .skip))) (.reg [⟨some 26,none,.mv (.t 3)⟩,⟨some 27,none,.bin .add false (.t 26) (.c (.int .i64 1))⟩,⟨some 3,none,.mv (.t 27)⟩])))))) (.seq (.reg [⟨some 2,none,.mv (.c (.bool true))⟩]) .ret)))))
theorem CN:Aj Try.prog 46=some ⟨35,Cs,[(.tmp 2)]⟩:=by kernel_rfl
theorem Ax:modes 46=⟨[],.asis,none,false⟩:=by unfold modes; rfl
theorem PP (x:Tm) (hn:x.nodes≤1099511627776) (ih:∀ y∈x.args,E 46 [y.sv] []=some (.bool y.names,[])):E 46 [x.sv] []=some (.bool x.names,[]):=by
 have hl:=Tm.length_le x.args
 have hx:=Tm.A6 x
 have h3:=Kg x.name
 have h4:=KU x.name
 rw [Tm.ER]
 cases hv:AY x.name with
 | true =>
  rw [hv] at h3
  refine Ab CN Ax (of_decide_eq_true rfl) ?_
  simp (disch:=omega) only [Cs,go_sem,Aa,h3,Aq]
  rw [IN]; cases x.args <;> simp <;> omega
 | false =>
  rw [hv] at h3
  cases hs:CU x.name with
  | false =>
   rw [hs] at h4
   refine Ab CN Ax (of_decide_eq_true rfl) ?_
   simp (disch:=omega) only [Cs,go_sem,Aa,h3,h4,Aq,AK]
  | true =>
   rw [hs] at h4
   rcases zA 4 x.args.length with h5 | h5
   ·refine Ab CN Ax (of_decide_eq_true rfl) ?_
    simp (disch:=omega) only [Cs,go_sem,Aa,h3,h4,Aq,AK]
    simp; omega
   ·refine Ab CN Ax (of_decide_eq_true rfl) ?_
    simp (disch:=omega) only [Cs,go_sem,Aa,h3,h4,Aq,AK]
    refine go_loop (α:=Int) (fun a=>⟨slots 35 0 [(1,.ptr 0 0),(3,.int .i64 a)],[.box 45 [.str x.name,.arr (x.args.map Tm.d)]]⟩) (fun a=>∃ k:Nat,a=k∧k≤(x.args).length∧Tm.D9 (x.args.drop k)=Tm.D9 x.args) (fun a=>(x.args).length-(a).toNat) 0 ⟨0,rfl,zI _,by rw [zG]⟩ (by simp (disch:=omega) only [go_sem,Aa]) ?_
    rintro i ⟨k,hi,hk,hR⟩
    have hni:i.toNat=k:=by omega
    have hni1:(i+1).toNat=k+1:=by omega
    rcases zA k (x.args).length with hlt | hge
    ·have hg:=get_at Tm.d hlt
     rw [Tm.d_eq] at hg
     have hc:=ih x.args[k] (zF hlt)
     rw [zC hlt,Tm.D9] at hR
     cases hp:x.args[k].names with
     | true =>
      rw [hp] at hc hR
      simp (disch:=omega) only [go_sem,Aa,hni,hg,hc,Ax]
      exact ⟨i+1,⟨k+1,by omega,hlt,by simpa using hR⟩,by omega,by first | trivial | rfl⟩
     | false =>
      rw [hp] at hc hR
      simp (disch:=omega) only [go_sem,Aa,hni,hg,hc,Ax]
      simp at hR ⊢; exact fun _=>hR
    ·rw [zD hge,Tm.D9] at hR
     simp (disch:=omega) only [go_sem,Aa,hni]
     simp [h5,← hR]
theorem GI (x:Tm) (hn:x.nodes≤1099511627776):E 46 [x.sv] []=some (.bool x.names,[]) :=
 PP x hn fun y hy=>GI y (by have:=Tm.CJ hy; have:=Tm.A6 x; omega)
termination_by SizeOf.sizeOf x
decreasing_by exact Tm.Av hy
def DX:SC:=(.seq (.reg [⟨some 1,none,.boxv 45 2 (.t 0)⟩,⟨some 2,none,.mv (.c (.bool false))⟩]) (.seq (.reg [⟨some 3,none,.load true 2 (.t 1)⟩,⟨some 4,none,.call 80 [(.t 3)]⟩,⟨some 5,none,.bin .leq false (.t 4) (.c (.int .i64 30))⟩,⟨some 6,none,.mv (.t 5)⟩,⟨(some 7),(some (6,true)),(.load true 2 (.t 1))⟩,⟨(some 8),(some (6,true)),(.call 81 [(.t 7)])⟩,⟨(some 9),(some (6,true)),(.bin .leq false (.t 8) (.c (.int .i64 8)))⟩,⟨some 10,none,.pick (.t 6) (.t 9) (.c (.bool false))⟩,⟨some 2,none,.mv (.t 10)⟩]) .ret))
theorem Gd:Aj Try.prog 68=some ⟨11,DX,[(.tmp 2)]⟩:=by kernel_rfl
theorem AO:modes 68=⟨[],.asis,none,false⟩:=by unfold modes; rfl
def E4:SC:=(.seq (.reg [⟨some 1,none,.boxv 45 2 (.t 0)⟩,⟨some 2,none,.mv (.c (.bool false))⟩]) (.seq (.reg [⟨some 3,none,.load true 2 (.t 1)⟩,⟨some 4,none,.call 64 [(.t 3),(.c (.int .i64 30))]⟩,⟨some 5,none,.bin .leq false (.t 4) (.c (.int .i64 30))⟩,⟨some 6,none,.mv (.t 5)⟩,⟨(some 7),(some (6,true)),(.load true 2 (.t 1))⟩,⟨(some 8),(some (6,true)),(.call 65 [(.t 7)])⟩,⟨(some 9),(some (6,true)),(.bin .leq false (.t 8) (.c (.int .i64 8)))⟩,⟨some 10,none,.pick (.t 6) (.t 9) (.c (.bool false))⟩,⟨some 2,none,.mv (.t 10)⟩]) .ret))
theorem Hh:Aj Try.prog 45=some ⟨11,E4,[(.tmp 2)]⟩:=by kernel_rfl
theorem AW:modes 45=⟨[],.asis,none,false⟩:=by unfold modes; rfl
def CF:SC:=(.seq (.reg [⟨some 1,none,.boxv 45 2 (.t 0)⟩,⟨some 2,none,.mv (.c (.bool false))⟩]) (.seq (.reg [⟨some 3,none,.load true 2 (.t 1)⟩,⟨some 4,none,.call 68 [(.t 3)]⟩,⟨some 5,none,.mv (.t 4)⟩,⟨(some 6),(some (5,true)),(.load true 2 (.t 1))⟩,⟨(some 7),(some (5,true)),(.call 69 [(.t 6)])⟩,⟨some 8,none,.pick (.t 5) (.t 7) (.c (.bool false))⟩,⟨some 2,none,.mv (.t 8)⟩]) .ret))
theorem DY:Aj Try.prog 71=some ⟨9,CF,[(.tmp 2)]⟩:=by kernel_rfl
theorem AH:modes 71=⟨[],.asis,none,false⟩:=by unfold modes; rfl
def E5:SC:=(.seq (.reg [⟨some 1,none,.boxv 45 2 (.t 0)⟩,⟨some 2,none,.mv (.c (.bool false))⟩]) (.seq (.reg [⟨some 3,none,.load true 2 (.t 1)⟩,⟨some 4,none,.call 45 [(.t 3)]⟩,⟨some 5,none,.mv (.t 4)⟩,⟨(some 6),(some (5,true)),(.load true 2 (.t 1))⟩,⟨(some 7),(some (5,true)),(.call 46 [(.t 6)])⟩,⟨some 8,none,.pick (.t 5) (.t 7) (.c (.bool false))⟩,⟨some 2,none,.mv (.t 8)⟩]) .ret))
theorem Hi:Aj Try.prog 48=some ⟨9,E5,[(.tmp 2)]⟩:=by kernel_rfl
theorem B0:modes 48=⟨[],.asis,none,false⟩:=by unfold modes; rfl
def Ep:SC:=(.seq (.reg [⟨some 1,none,.boxv 45 2 (.t 0)⟩,⟨some 2,none,.mv (.c (.bool false))⟩]) (.seq (.reg [⟨some 3,none,.faddr 0 (.t 1)⟩,⟨some 4,none,.load false 1 (.t 3)⟩,⟨(some 5),none,(.bin .eql false (.t 4) (.c (.str ⟨#[61]⟩)))⟩,⟨some 2,none,.mv (.t 5)⟩]) .ret))
theorem Ik:Aj Try.prog 36=some ⟨6,Ep,[(.tmp 2)]⟩:=by kernel_rfl
theorem Ao:modes 36=⟨[],.asis,none,false⟩:=by unfold modes; rfl
def AQ:SC:=(.seq (.reg [⟨some 1,none,.boxv 45 2 (.t 0)⟩,⟨some 2,none,.mv (.c (.bool false))⟩]) (.seq (.seq (.reg [⟨some 3,none,.load true 2 (.t 1)⟩,⟨some 4,none,.call 36 [(.t 3)]⟩]) (.cond (.t 4) (.seq (.reg [⟨some 5,none,.faddr 1 (.t 1)⟩,⟨some 6,none,.load false 1 (.t 5)⟩,⟨some 7,none,.len false (.t 6)⟩,⟨some 8,none,.bin .eql false (.t 7) (.c (.int .i64 2))⟩,⟨some 9,none,.mv (.t 8)⟩,⟨(some 10),(some (9,true)),(.load true 2 (.t 1))⟩,⟨(some 11),(some (9,true)),(.call 68 [(.t 10)])⟩,⟨some 12,none,.pick (.t 9) (.t 11) (.c (.bool false))⟩,⟨some 13,none,.mv (.t 12)⟩,⟨(some 14),(some (13,true)),(.faddr 1 (.t 1))⟩,⟨(some 15),(some (13,true)),(.load false 1 (.t 14))⟩,⟨(some 16),(some (13,true)),(.iaddr 2 (.t 15) (.c (.int .i64 0)))⟩,⟨(some 17),(some (13,true)),(.load true 2 (.t 16))⟩,⟨(some 18),(some (13,true)),(.call 69 [(.t 17)])⟩,⟨some 19,none,.pick (.t 13) (.t 18) (.c (.bool false))⟩,⟨some 20,none,.mv (.t 19)⟩,⟨(some 21),(some (20,true)),(.faddr 1 (.t 1))⟩,⟨(some 22),(some (20,true)),(.load false 1 (.t 21))⟩,⟨(some 23),(some (20,true)),(.iaddr 2 (.t 22) (.c (.int .i64 1)))⟩,⟨(some 24),(some (20,true)),(.load true 2 (.t 23))⟩,⟨(some 25),(some (20,true)),(.call 69 [(.t 24)])⟩,⟨some 26,none,.pick (.t 20) (.t 25) (.c (.bool false))⟩,⟨some 2,none,.mv (.t 26)⟩]) .ret) .skip)) (.seq (.reg [⟨some 27,none,.faddr 0 (.t 1)⟩,⟨some 28,none,.load false 1 (.t 27)⟩,⟨some 29,none,.call 70 [(.t 28)]⟩,⟨some 30,none,.mv (.t 29)⟩,⟨(some 31),(some (30,true)),(.load true 2 (.t 1))⟩,⟨(some 32),(some (30,true)),(.call 71 [(.t 31)])⟩,⟨some 33,none,.pick (.t 30) (.t 32) (.c (.bool false))⟩,⟨some 2,none,.mv (.t 33)⟩]) .ret)))
theorem Bk:Aj Try.prog 53=some ⟨34,AQ,[(.tmp 2)]⟩:=by kernel_rfl
theorem AR:modes 53=⟨[],.asis,none,false⟩:=by unfold modes; rfl
def BJ:SC:=(.seq (.reg [⟨some 1,none,.boxv 45 2 (.t 0)⟩,⟨some 2,none,.mv (.c (.bool false))⟩]) (.seq (.seq (.reg [⟨some 3,none,.faddr 0 (.t 1)⟩,⟨some 4,none,.load false 1 (.t 3)⟩,⟨(some 5),none,(.bin .eql false (.t 4) (.c (.str ⟨#[61]⟩)))⟩]) (.cond (.t 5) (.seq (.reg [⟨some 6,none,.faddr 1 (.t 1)⟩,⟨some 7,none,.load false 1 (.t 6)⟩,⟨some 8,none,.len false (.t 7)⟩,⟨some 9,none,.bin .eql false (.t 8) (.c (.int .i64 2))⟩,⟨some 10,none,.mv (.t 9)⟩,⟨(some 11),(some (10,true)),(.load true 2 (.t 1))⟩,⟨(some 12),(some (10,true)),(.call 45 [(.t 11)])⟩,⟨some 13,none,.pick (.t 10) (.t 12) (.c (.bool false))⟩,⟨some 14,none,.mv (.t 13)⟩,⟨(some 15),(some (14,true)),(.faddr 1 (.t 1))⟩,⟨(some 16),(some (14,true)),(.load false 1 (.t 15))⟩,⟨(some 17),(some (14,true)),(.iaddr 2 (.t 16) (.c (.int .i64 0)))⟩,⟨(some 18),(some (14,true)),(.load true 2 (.t 17))⟩,⟨(some 19),(some (14,true)),(.call 46 [(.t 18)])⟩,⟨some 20,none,.pick (.t 14) (.t 19) (.c (.bool false))⟩,⟨some 21,none,.mv (.t 20)⟩,⟨(some 22),(some (21,true)),(.faddr 1 (.t 1))⟩,⟨(some 23),(some (21,true)),(.load false 1 (.t 22))⟩,⟨(some 24),(some (21,true)),(.iaddr 2 (.t 23) (.c (.int .i64 1)))⟩,⟨(some 25),(some (21,true)),(.load true 2 (.t 24))⟩,⟨(some 26),(some (21,true)),(.call 46 [(.t 25)])⟩,⟨some 27,none,.pick (.t 21) (.t 26) (.c (.bool false))⟩,⟨some 2,none,.mv (.t 27)⟩]) .ret) .skip)) (.seq (.reg [⟨some 28,none,.faddr 0 (.t 1)⟩,⟨some 29,none,.load false 1 (.t 28)⟩,⟨some 30,none,.call 47 [(.t 29)]⟩,⟨some 31,none,.mv (.t 30)⟩,⟨(some 32),(some (31,true)),(.load true 2 (.t 1))⟩,⟨(some 33),(some (31,true)),(.call 48 [(.t 32)])⟩,⟨some 34,none,.pick (.t 31) (.t 33) (.c (.bool false))⟩,⟨some 2,none,.mv (.t 34)⟩]) .ret)))
theorem Ch:Aj Try.prog 28=some ⟨35,BJ,[(.tmp 2)]⟩:=by kernel_rfl
theorem AX:modes 28=⟨[],.asis,none,false⟩:=by unfold modes; rfl
theorem MB (x:Tm) (hn:x.nodes≤1099511627776):E 68 [x.sv] []=some (.bool x.small,[]):=by
 have h1:=ST x hn
 have h2:=QB x hn
 have h3:=Tm.Ig x
 have h4:=Tm.GH x 30
 unfold Tm.small
 rcases zA 30 x.nodes with h5 | h5
 ·rw [decide_eq_false (by omega),zO]
  refine Ab Gd AO (of_decide_eq_true rfl) ?_
  simp (disch:=omega) only [DX,go_sem,Aa,h1,h2,D0,DF]
 ·rw [decide_eq_true h5,zZ]
  refine Ab Gd AO (of_decide_eq_true rfl) ?_
  simp (disch:=omega) only [DX,go_sem,Aa,h1,h2,D0,DF]
  rcases zA 8 x.deep with h6 | h6
  ·rw [decide_eq_false (by omega),AG (by omega)]
  ·rw [decide_eq_true h6,AM (by omega)]
theorem OD (x:Tm) (hn:x.nodes≤1099511627776):E 45 [x.sv] []=some (.bool x.small,[]):=by
 have h1:=SU x 30 (by omega) (by omega) hn
 have h2:=MA x hn
 have h3:=Tm.Ig x
 have h4:=Tm.GH x 30
 unfold Tm.small
 rcases zA 30 x.nodes with h5 | h5
 ·rw [decide_eq_false (by omega),zO]
  refine Ab Hh AW (of_decide_eq_true rfl) ?_
  simp (disch:=omega) only [E4,go_sem,Aa,h1,h2,C7,CM]
 ·rw [decide_eq_true h5,zZ]
  refine Ab Hh AW (of_decide_eq_true rfl) ?_
  simp (disch:=omega) only [E4,go_sem,Aa,h1,h2,C7,CM]
  rcases zA 8 x.deep with h6 | h6
  ·rw [decide_eq_false (by omega),AG (by omega)]
  ·rw [decide_eq_true h6,AM (by omega)]
theorem LG (x:Tm) (hn:x.nodes≤1099511627776):E 71 [x.sv] []=some (.bool x.valid,[]):=by
 have h1:=MB x hn
 have h2:=Fv x hn
 unfold Tm.valid
 cases h3:x.small <;> rw [h3] at h1
 ·refine Ab DY AH (of_decide_eq_true rfl) ?_
  simp (disch:=omega) only [CF,go_sem,Aa,h1,h2,AO,Aw]
 ·refine Ab DY AH (of_decide_eq_true rfl) ?_
  simp (disch:=omega) only [CF,go_sem,Aa,h1,h2,AO,Aw]
theorem SZ (x:Tm) (hn:x.nodes≤1099511627776):E 48 [x.sv] []=some (.bool x.valid,[]):=by
 have h1:=OD x hn
 have h2:=GI x hn
 unfold Tm.valid
 cases h3:x.small <;> rw [h3] at h1
 ·refine Ab Hi B0 (of_decide_eq_true rfl) ?_
  simp (disch:=omega) only [E5,go_sem,Aa,h1,h2,AW,Ax]
 ·refine Ab Hi B0 (of_decide_eq_true rfl) ?_
  simp (disch:=omega) only [E5,go_sem,Aa,h1,h2,AW,Ax]
theorem DG (x:Tm):E 36 [x.sv] []=some (.bool x.eqn,[]):=by
 unfold Tm.eqn
 refine Ab Ik Ao (of_decide_eq_true rfl) ?_
 simp (disch:=omega) only [Ep,go_sem,Aa]
theorem LH (x:Tm) (hn:x.nodes≤1099511627776):E 53 [x.sv] []=some (.bool x.atom,[]):=by
 have hl:=Tm.length_le x.args
 have hx:=Tm.A6 x
 have h0:=DG x
 have h1:=MB x hn
 have h2:=KT x.name
 have h3:=LG x hn
 have hE:dec (x.name=⟨#[61]⟩)=x.eqn:=rfl
 unfold Tm.atom
 cases he:x.eqn <;> rw [he] at h0 hE
 ·rw [if_neg (by simp)]
  cases hs:CU x.name <;> rw [hs] at h2
  ·refine Ab Bk AR (of_decide_eq_true rfl) ?_
   simp (disch:=omega) only [AQ,go_sem,Aa,h0,h1,h2,h3,hE,AO,Aw,AJ,AH,Ao]
  ·refine Ab Bk AR (of_decide_eq_true rfl) ?_
   simp (disch:=omega) only [AQ,go_sem,Aa,h0,h1,h2,h3,hE,AO,Aw,AJ,AH,Ao]
 ·rw [if_pos rfl]
  by_cases hc:x.args.length=2
  ·have hlt0:0<x.args.length:=by omega
   have hlt1:1<x.args.length:=by omega
   have hg0:=get_at Tm.d hlt0
   have hg1:=get_at Tm.d hlt1
   rw [Tm.d_eq] at hg0 hg1
   have hb0:=Tm.Dz x.args 0 hlt0
   have hb1:=Tm.Dz x.args 1 hlt1
   have hn0:=Fv x.args[0] (by omega)
   have hn1:=Fv x.args[1] (by omega)
   rw [M8 hc,show (x.args.length == 2)=true by simpa using hc]
   cases hs:x.small <;> rw [hs] at h1
   ·refine Ab Bk AR (of_decide_eq_true rfl) ?_
    simp (disch:=omega) only [AQ,go_sem,Aa,h0,h1,h2,h3,hE,hg0,hg1,hn0,hn1,hc,AO,Aw,AJ,AH,Ao]
    try simp
   ·cases hq:(x.args[0]'hlt0).names <;> rw [hq] at hn0
    ·refine Ab Bk AR (of_decide_eq_true rfl) ?_
     simp (disch:=omega) only [AQ,go_sem,Aa,h0,h1,h2,h3,hE,hg0,hg1,hn0,hn1,hc,AO,Aw,AJ,AH,Ao]
     try simp
    ·refine Ab Bk AR (of_decide_eq_true rfl) ?_
     simp (disch:=omega) only [AQ,go_sem,Aa,h0,h1,h2,h3,hE,hg0,hg1,hn0,hn1,hc,AO,Aw,AJ,AH,Ao]
     try simp
  ·refine Ab Bk AR (of_decide_eq_true rfl) ?_
   simp (disch:=omega) only [AQ,go_sem,Aa,h0,h1,h2,h3,hE,AO,Aw,AJ,AH,Ao]
   rw [show (x.args.length == 2)=false by simpa using hc]
   try simp
theorem Ta (x:Tm) (hn:x.nodes≤1099511627776):E 28 [x.sv] []=some (.bool x.atom,[]):=by
 have hl:=Tm.length_le x.args
 have hx:=Tm.A6 x
 have h0:=DG x
 have h1:=OD x hn
 have h2:=KU x.name
 have h3:=SZ x hn
 have hE:dec (x.name=⟨#[61]⟩)=x.eqn:=rfl
 unfold Tm.atom
 cases he:x.eqn <;> rw [he] at h0 hE
 ·rw [if_neg (by simp)]
  cases hs:CU x.name <;> rw [hs] at h2
  ·refine Ab Ch AX (of_decide_eq_true rfl) ?_
   simp (disch:=omega) only [BJ,go_sem,Aa,h0,h1,h2,h3,hE,AW,Ax,AK,B0]
  ·refine Ab Ch AX (of_decide_eq_true rfl) ?_
   simp (disch:=omega) only [BJ,go_sem,Aa,h0,h1,h2,h3,hE,AW,Ax,AK,B0]
 ·rw [if_pos rfl]
  by_cases hc:x.args.length=2
  ·have hlt0:0<x.args.length:=by omega
   have hlt1:1<x.args.length:=by omega
   have hg0:=get_at Tm.d hlt0
   have hg1:=get_at Tm.d hlt1
   rw [Tm.d_eq] at hg0 hg1
   have hb0:=Tm.Dz x.args 0 hlt0
   have hb1:=Tm.Dz x.args 1 hlt1
   have hn0:=GI x.args[0] (by omega)
   have hn1:=GI x.args[1] (by omega)
   rw [M8 hc,show (x.args.length == 2)=true by simpa using hc]
   cases hs:x.small <;> rw [hs] at h1
   ·refine Ab Ch AX (of_decide_eq_true rfl) ?_
    simp (disch:=omega) only [BJ,go_sem,Aa,h0,h1,h2,h3,hE,hg0,hg1,hn0,hn1,hc,AW,Ax,AK,B0]
    try simp
   ·cases hq:(x.args[0]'hlt0).names <;> rw [hq] at hn0
    ·refine Ab Ch AX (of_decide_eq_true rfl) ?_
     simp (disch:=omega) only [BJ,go_sem,Aa,h0,h1,h2,h3,hE,hg0,hg1,hn0,hn1,hc,AW,Ax,AK,B0]
     try simp
    ·refine Ab Ch AX (of_decide_eq_true rfl) ?_
     simp (disch:=omega) only [BJ,go_sem,Aa,h0,h1,h2,h3,hE,hg0,hg1,hn0,hn1,hc,AW,Ax,AK,B0]
     try simp
  ·refine Ab Ch AX (of_decide_eq_true rfl) ?_
   simp (disch:=omega) only [BJ,go_sem,Aa,h0,h1,h2,h3,hE,AW,Ax,AK,B0]
   rw [show (x.args.length == 2)=false by simpa using hc]
   try simp
theorem Tm.PQ {x:Tm} (h:x.expr=true):x.small=true:=by
 unfold Tm.expr Tm.atom Tm.valid at h
 cases hs:x.small with
 | true=>rfl
 | false =>
  rw [hs] at h
  split at h <;> simp at h
theorem Tm.KX {x:Tm} (h:x.expr=true):x.nodes≤30:=by
 have:=Tm.PQ h
 unfold Tm.small at this
 rw [zB,decide_eq_true_eq] at this
 exact this.1
theorem Tm.Uy {x:Tm} (h:x.eqn=true):AY x.name=false:=by
 unfold Tm.eqn at h
 rw [Ah.1 h]
 kernel_rfl
theorem Tm.HC {x:Tm} (h:x.expr=true):x.names=true∨(x.eqn=true∧Tm.D9 x.args=true):=by
 unfold Tm.expr Tm.valid at h
 cases hn:x.names with
 | true=>exact .inl rfl
 | false =>
  rw [hn,zY,z2] at h
  unfold Tm.atom at h
  split at h
  ·rename_i he
   rw [zB] at h
   exact .inr ⟨he,h.2⟩
  ·unfold Tm.valid at h; rw [hn,zY,zY] at h; cases h
theorem Tm.KY {x:Tm} (h:x.expr=true) {y:Tm} (hy:y∈x.args):y.names=true:=by
 rcases Tm.HC h with h1 | ⟨h1,h2⟩
 ·exact Tm.IZ h1 hy
 ·rw [Tm.GG,z5] at h2; exact h2 y hy
theorem Tm.KZ:∀ xs:List Tm,(∀ x∈xs,x.nodes≤1+x.bulk)→Tm.A9 xs≤xs.length+Tm.sumB xs
 | [],_=>by simp [Tm.A9]
 | x :: xs,h=>by
  have h1:=h x (by simp)
  have h2:=Tm.KZ xs fun y hy=>h y (by simp [hy])
  rw [Tm.A9,Tm.sumB]; simp only [zQ]; omega
theorem Tm.La (x:Tm):x.nodes≤1+x.bulk:=by
 rw [Tm.A6,Tm.bulk_eq]
 have:=Tm.KZ x.args fun y hy=>Tm.La y
 omega
termination_by SizeOf.sizeOf x
decreasing_by exact Tm.Av hy
theorem Ry {s:ByteArray} (h:AY s=true):s.size≤6:=by
 unfold AY inB at h
 simp at h
 omega
theorem Rz {s:ByteArray} (h:CU s=true):s.size≤6:=by
 unfold CU inB at h
 simp at h
 omega
noncomputable def Fw (a b:ByteArray):Int:=bif strLt a b then -1 else bif dec (a=b) then 0 else 1
noncomputable def HD (a b:Int):Int:=bif dec (a<b) then -1 else bif dec (b<a) then 1 else 0
def orZ (x y:Int):Int:=if x=0 then y else x
mutual
noncomputable def Tm.cmp:Tm→Tm→Int
 | .mk n xs,y=>if AY n&&!AY y.name then -1 else if AY y.name&&!AY n then 1 else orZ (orZ (Fw n y.name) (HD xs.length y.args.length)) (Tm.FE xs y.args)
noncomputable def Tm.FE:List Tm→List Tm→Int
 | [],[]=>0
 | [],_ :: _=>-1
 | _ :: _,[]=>1
 | x :: xs,y :: ys=>orZ (Tm.cmp x y) (Tm.FE xs ys)
end
theorem Tm.Tc (x y:Tm):x.cmp y=if AY x.name&&!AY y.name then -1 else if AY y.name&&!AY x.name then 1 else orZ (orZ (Fw x.name y.name) (HD x.args.length y.args.length)) (Tm.FE x.args y.args):=by
 obtain ⟨n,xs⟩:=x
 rw [Tm.cmp]; rfl
def Hj (s:ByteArray):Bool:=decide (0<s.size)&&(Nl (FZ s 0) == AY s)
mutual
def Tm.cok:Tm→Bool
 | .mk n xs=>Hj n&&Tm.Nu xs
def Tm.Nu:List Tm→Bool
 | []=>true
 | x :: xs=>Tm.cok x&&Tm.Nu xs
end
theorem Tm.Lb (x:Tm):x.cok=(Hj x.name&&Tm.Nu x.args):=by
 obtain ⟨n,xs⟩:=x
 rw [Tm.cok]; rfl
theorem Tm.Il {xs:List Tm} (h:Tm.Nu xs=true) {y:Tm} (hy:y∈xs):y.cok=true:=by
 induction xs with
 | nil=>cases hy
 | cons x xs ih =>
  rw [Tm.Nu,zB] at h
  rcases zS.1 hy with rfl | hy
  ·exact h.1
  ·exact ih h.2 hy
def JB (b:Bool):Int:=if b then 1 else 0
noncomputable def Lt.cmp (x y:Lt):Int:=orZ (x.atom.cmp y.atom) (HD (JB x.pos) (JB y.pos))
structure Ord3 {α:Type} (c:α→α→Int) (a b d:α):Prop where
 anti:c b a=- c a b
 zero:c a b=0 ↔ a=b
 trans:c a b<0→c b d<0→c a d<0
def DZ:SC:=(.seq (.reg [⟨some 2,none,.mv (.c (.bool false))⟩]) (.seq (.reg [⟨some 3,none,.mv (.t 0)⟩,⟨some 4,none,.bin .geq false (.t 3) (.c (.int .u8 65))⟩,⟨some 5,none,.mv (.t 4)⟩,⟨(some 6),(some (5,true)),(.mv (.t 0))⟩,⟨(some 7),(some (5,true)),(.bin .leq false (.t 6) (.c (.int .u8 90)))⟩,⟨some 8,none,.pick (.t 5) (.t 7) (.c (.bool false))⟩,⟨some 2,none,.mv (.t 8)⟩]) .ret))
theorem Ge:Aj Try.prog 58=some ⟨9,DZ,[(.tmp 2)]⟩:=by kernel_rfl
theorem Ea:modes 58=⟨[],.asis,none,false⟩:=by unfold modes; rfl
theorem MC {xs ys:List Tm} {k:Nat} (h:k<xs.length) (h':k<ys.length):Tm.FE (xs.drop k) (ys.drop k)=orZ (xs[k].cmp ys[k]) (Tm.FE (xs.drop (k+1)) (ys.drop (k+1))):=by
 rw [zC h,zC h',Tm.FE]
theorem PR {xs ys:List Tm} {k:Nat} (h:k<xs.length) (h':ys.length≤k):Tm.FE (xs.drop k) (ys.drop k)=1:=by
 rw [zC h,zD h',Tm.FE]
theorem Td {xs ys:List Tm} {k:Nat} (h:xs.length≤k) (h':k<ys.length):Tm.FE (xs.drop k) (ys.drop k)=-1:=by
 rw [zC h',zD h,Tm.FE]
theorem MD {xs ys:List Tm} {k:Nat} (h:xs.length≤k) (h':ys.length≤k):Tm.FE (xs.drop k) (ys.drop k)=0:=by
 rw [zD h',zD h,Tm.FE]
theorem HE {p:Nat→Int→Bool} {s:ByteArray} (h:CW p s s.size=true) (hs:0<s.size):p 0 (FZ s 0)=true:=by
 unfold CW at h
 rw [z5] at h
 exact h 0 (yH.2 hs)
theorem R0 {s:ByteArray} (h:AY s=true):Hj s=true:=by
 have h0:=h
 unfold AY inB at h
 rw [zB,zB,decide_eq_true_eq,decide_eq_true_eq] at h
 have hs:0<s.size:=by omega
 have h1:=HE h.1 hs
 unfold Ga at h1
 unfold Hj
 rw [h0]
 simp at h1
 simp [hs,h1]
theorem ME {s:ByteArray} (hs:0<s.size) (h:Nl (FZ s 0)=false):Hj s=true:=by
 have hv:AY s=false:=by
  rw [Bool.eq_false_iff]
  intro hv
  unfold AY at hv
  rw [zB] at hv
  have h1:=HE hv.1 hs
  unfold Ga at h1
  rw [h] at h1
  simp at h1
 unfold Hj
 rw [hv,h]
 simp [hs]
theorem R1 {s:ByteArray} (h:CU s=true):Hj s=true:=by
 unfold CU inB at h
 rw [zB,zB,zB,decide_eq_true_eq,decide_eq_true_eq] at h
 have hs:0<s.size:=by omega
 refine ME hs ?_
 have h1:=HE h.1.1 hs
 unfold Ha at h1
 simp at h1
 have h2:=h1.1
 unfold Oz at h2
 unfold Nl
 simp at h2 ⊢
 omega
theorem R2 {s:ByteArray} (h:s.toList=[61]):Hj s=true:=by
 have hs:s.size=1:=by
  have:=congrArg List.length h
  rw [ByteArray.toList_eq] at this
  simpa using this
 refine ME (by omega) ?_
 unfold FZ
 rw [h]
 rfl
mutual
theorem Tm.MG:∀ x:Tm,x.names=true→x.cok=true
 | .mk n xs,h=>by
  rw [Tm.names] at h
  rw [Tm.cok,zB]
  split at h
  ·rename_i hv
   have:xs=[]:=by
    rw [beq_iff_eq] at h
    exact zK h
   subst this
   exact ⟨R0 hv,rfl⟩
  ·rw [zB,zB] at h
   exact ⟨R1 h.1.1,Tm.HF xs h.2⟩
theorem Tm.HF:∀ xs:List Tm,Tm.D9 xs=true→Tm.Nu xs=true
 | [],_=>rfl
 | x :: xs,h=>by
  rw [Tm.D9,zB] at h
  rw [Tm.Nu,zB]
  exact ⟨Tm.MG x h.1,Tm.HF xs h.2⟩
end
theorem Tm.Gf {x:Tm} (h:x.atom=true):x.cok=true:=by
 unfold Tm.atom at h
 rcases he:x.eqn with _ | _
 ·rw [he,if_neg (by simp),zB] at h
  unfold Tm.valid at h
  rw [zB] at h
  exact Tm.MG x h.2.2
 ·rw [he,if_pos rfl,zB,zB] at h
  unfold Tm.eqn at he
  rw [Ah] at he
  rw [Tm.Lb,zB]
  exact ⟨R2 (by rw [he,ByteArray.toList_eq]),Tm.HF _ h.2⟩
theorem R4 {s:ByteArray} {k:Nat} (h:k<s.size):FK s k=FZ s k:=by
 rw [←Dg h]
 unfold FK
 rw [show s[k]?=some s[k] from getElem?_pos s k h]; rfl
theorem R5 {s:ByteArray} (h:Hj s=true):0<s.size∧(dec (65≤FK s 0)&&dec (FK s 0≤90))=AY s:=by
 unfold Hj at h
 rw [zB,decide_eq_true_eq,beq_iff_eq] at h
 refine ⟨h.1,?_⟩
 rw [←h.2,R4 h.1,IN,IN]
 unfold Nl
 rfl
theorem Lc (a:ByteArray):strLt a a=false:=by
 unfold strLt
 have key:∀ l:List UInt8,Op.bytesLess l l=false:=by
  intro l
  induction l with
  | nil=>rfl
  | cons x l ih=>simp [Op.bytesLess,ih]
 exact key _
def Eb:SC:=(.seq (.reg [⟨some 2,none,.mv (.c (.bool false))⟩]) (.seq (.reg [⟨some 3,none,.mv (.t 0)⟩,⟨some 4,none,.mv (.t 0)⟩,⟨some 5,none,.bin .neq false (.t 3) (.t 4)⟩,⟨some 2,none,.mv (.t 5)⟩]) .ret))
theorem HG:Aj Try.prog 74=some ⟨6,Eb,[(.tmp 2)]⟩:=by kernel_rfl
theorem BX:modes 74=⟨[],.asis,none,false⟩:=by unfold modes; rfl
def F1:SC:=(.seq (.reg [⟨some 2,none,.mv (.c (.bool false))⟩]) (.seq (.reg [⟨some 3,none,.mv (.t 0)⟩,⟨some 4,none,.mv (.t 0)⟩,⟨some 5,none,.bin .neq false (.t 3) (.t 4)⟩,⟨some 2,none,.mv (.t 5)⟩]) .ret))
theorem JL:Aj Try.prog 73=some ⟨6,F1,[(.tmp 2)]⟩:=by kernel_rfl
theorem CB:modes 73=⟨[],.asis,none,false⟩:=by unfold modes; rfl
def BE:SC:=(.seq (.reg [⟨some 4,none,.mv (.c (.int .i64 0))⟩]) (.seq (.reg [⟨some 7,none,.mv (.t 0)⟩,⟨some 8,none,.call 74 [(.t 7)]⟩,⟨some 5,none,.mv (.t 8)⟩]) (.seq (.reg [⟨some 9,none,.mv (.t 1)⟩,⟨some 10,none,.call 74 [(.t 9)]⟩,⟨some 6,none,.mv (.t 10)⟩]) (.seq (.seq (.reg [⟨some 11,none,.mv (.t 5)⟩]) (.cond (.t 11) (.seq (.seq (.reg [⟨some 12,none,.mv (.t 6)⟩]) (.cond (.t 12) (.seq (.reg [⟨some 4,none,.mv (.c (.int .i64 0))⟩]) .ret) .skip)) (.seq (.reg [⟨some 4,none,.mv (.c (.int .i64 (-(0+1))))⟩]) .ret)) .skip)) (.seq (.seq (.reg [⟨some 13,none,.mv (.t 6)⟩]) (.cond (.t 13) (.seq (.reg [⟨some 4,none,.mv (.c (.int .i64 1))⟩]) .ret) .skip)) (.seq (.seq (.reg [⟨some 14,none,.mv (.t 0)⟩,⟨some 15,none,.mv (.t 1)⟩,⟨some 16,none,.bin .lss false (.t 14) (.t 15)⟩]) (.cond (.t 16) (.seq (.reg [⟨some 4,none,.mv (.c (.int .i64 (-(0+1))))⟩]) .ret) .skip)) (.seq (.seq (.reg [⟨some 17,none,.mv (.t 0)⟩,⟨some 18,none,.mv (.t 1)⟩,⟨some 19,none,.bin .gtr false (.t 17) (.t 18)⟩]) (.cond (.t 19) (.seq (.reg [⟨some 4,none,.mv (.c (.int .i64 1))⟩]) .ret) .skip)) (.seq (.reg [⟨some 4,none,.mv (.c (.int .i64 0))⟩]) .ret))))))))
theorem Ct:Aj Try.prog 59=some ⟨20,BE,[(.tmp 4)]⟩:=by kernel_rfl
theorem AT:modes 59=⟨[],.asis,none,false⟩:=by unfold modes; rfl
def Cn:SC:=(.seq (.reg [⟨some 4,none,.mv (.c (.int .i64 0))⟩]) (.seq (.reg [⟨some 7,none,.mv (.t 0)⟩,⟨some 8,none,.call 73 [(.t 7)]⟩,⟨some 5,none,.mv (.t 8)⟩]) (.seq (.reg [⟨some 9,none,.mv (.t 1)⟩,⟨some 10,none,.call 73 [(.t 9)]⟩,⟨some 6,none,.mv (.t 10)⟩]) (.seq (.seq (.reg [⟨some 11,none,.mv (.t 5)⟩]) (.cond (.t 11) (.seq (.seq (.reg [⟨some 12,none,.mv (.t 6)⟩]) (.cond (.t 12) (.seq (.reg [⟨some 4,none,.mv (.c (.int .i64 0))⟩]) .ret) .skip)) (.seq (.reg [⟨some 4,none,.mv (.c (.int .i64 (-(0+1))))⟩]) .ret)) .skip)) (.seq (.seq (.reg [⟨some 13,none,.mv (.t 6)⟩]) (.cond (.t 13) (.seq (.reg [⟨some 4,none,.mv (.c (.int .i64 1))⟩]) .ret) .skip)) (.seq (.seq (.reg [⟨some 14,none,.mv (.t 0)⟩,⟨some 15,none,.mv (.t 1)⟩,⟨some 16,none,.bin .lss false (.t 14) (.t 15)⟩]) (.cond (.t 16) (.seq (.reg [⟨some 4,none,.mv (.c (.int .i64 (-(0+1))))⟩]) .ret) .skip)) (.seq (.seq (.reg [⟨some 17,none,.mv (.t 0)⟩,⟨some 18,none,.mv (.t 1)⟩,⟨some 19,none,.bin .gtr false (.t 17) (.t 18)⟩]) (.cond (.t 19) (.seq (.reg [⟨some 4,none,.mv (.c (.int .i64 1))⟩]) .ret) .skip)) (.seq (.reg [⟨some 4,none,.mv (.c (.int .i64 0))⟩]) .ret))))))))
theorem CO:Aj Try.prog 56=some ⟨20,Cn,[(.tmp 4)]⟩:=by kernel_rfl
theorem AZ:modes 56=⟨[],.asis,none,false⟩:=by unfold modes; rfl
def Im:SC:=(.seq (.reg [⟨some 2,none,.mv (.c (.int .i64 0))⟩]) (.seq (.reg [⟨some 3,none,.mv (.c (.int .i64 0))⟩]) (.seq (.seq (.reg [⟨some 6,none,.mv (.t 0)⟩,⟨some 7,none,.len false (.t 6)⟩,⟨some 8,none,.mv (.c (.int .i64 0))⟩]) (.block 0 (.loop [0,0,0,1,0,0,1,1,1,0,0,0,0,0,0,0,0,0] (.seq (.reg [⟨some 9,none,.bin .lss false (.t 8) (.t 7)⟩]) (.seq (.cond (.t 9) .skip (.exit 0)) (.seq (.block 1 (.seq (.reg [⟨some 10,none,.iaddr 1 (.t 6) (.t 8)⟩,⟨some 11,none,.load false 1 (.t 10)⟩,⟨some 5,none,.mv (.t 11)⟩]) (.seq (.reg [⟨some 12,none,.mv (.t 5)⟩,⟨some 13,none,.mv (.t 3)⟩,⟨some 14,none,.bin .neq false (.t 12) (.t 13)⟩]) (.cond (.t 14) (.seq (.reg [⟨some 15,none,.mv (.t 5)⟩,⟨some 2,none,.mv (.t 15)⟩]) .ret) .skip)))) (.reg [⟨some 16,none,.bin .add false (.t 8) (.c (.int .i64 1))⟩,⟨some 8,none,.mv (.t 16)⟩]))))))) (.seq (.reg [⟨some 17,none,.mv (.t 3)⟩,⟨some 2,none,.mv (.t 17)⟩]) .ret))))
theorem Nv:Aj Try.prog 54=some ⟨18,Im,[(.tmp 2)]⟩:=by kernel_rfl
theorem CP:modes 54=⟨[],.asis,none,false⟩:=by unfold modes; rfl
theorem OE (a:ByteArray):E 74 [.str a] []=some (.bool false,[]):=by
 refine Ab HG BX (of_decide_eq_true rfl) ?_
 simp (disch:=omega) only [Eb,go_sem,Aa]
theorem OF (a:Int):E 73 [.int .i64 a] []=some (.bool false,[]):=by
 refine Ab JL CB (of_decide_eq_true rfl) ?_
 simp (disch:=omega) only [F1,go_sem,Aa]
theorem Ld (a b:ByteArray):E 59 [.str a,.str b] []=some (.int .i64 (Fw a b),[]):=by
 have h1:=OE a
 have h2:=OE b
 unfold Fw
 cases h3:strLt a b
 ·cases h4:dec (a=b)
  ·refine Ab Ct AT (of_decide_eq_true rfl) ?_
   simp (disch:=omega) only [BE,go_sem,Aa,h1,h2,h3,h4,BX]
  ·refine Ab Ct AT (of_decide_eq_true rfl) ?_
   simp (disch:=omega) only [BE,go_sem,Aa,h1,h2,h3,h4,BX]
 ·refine Ab Ct AT (of_decide_eq_true rfl) ?_
  simp (disch:=omega) only [BE,go_sem,Aa,h1,h2,h3,BX]
theorem HH (a b:Int):E 56 [.int .i64 a,.int .i64 b] []=some (.int .i64 (HD a b),[]):=by
 have h1:=OF a
 have h2:=OF b
 unfold HD
 cases h3:dec (a<b)
 ·cases h4:dec (b<a)
  ·refine Ab CO AZ (of_decide_eq_true rfl) ?_
   simp (disch:=omega) only [Cn,go_sem,Aa,h1,h2,h3,h4,CB]
  ·refine Ab CO AZ (of_decide_eq_true rfl) ?_
   simp (disch:=omega) only [Cn,go_sem,Aa,h1,h2,h3,h4,CB]
 ·refine Ab CO AZ (of_decide_eq_true rfl) ?_
  simp (disch:=omega) only [Cn,go_sem,Aa,h1,h2,h3,CB]
def orL:List Int→Int
 | []=>0
 | x :: xs=>if x=0 then orL xs else x
theorem VY (xs:List Int) (hl:xs.length≤1099511627776):E 54 [.arr (xs.map fun n=>[D.int n])] []=some (.int .i64 (orL xs),[]):=by
 refine Ab Nv CP (of_decide_eq_true rfl) ?_
 simp (disch:=omega) only [Im,go_sem,Aa]
 refine go_loop (α:=Int) (fun a=>⟨slots 18 0 [(3,.int .i64 0),(6,.arr (xs.map fun n=>[D.int n])),(7,.int .i64 xs.length),(8,.int .i64 a)],[]⟩) (fun a=>∃ k:Nat,a=k∧k≤(xs).length∧orL (xs.drop k)=orL xs) (fun a=>(xs).length-(a).toNat) 0 ⟨0,rfl,zI _,by rw [zG]⟩ (by simp (disch:=omega) only [go_sem,Aa]) ?_
 rintro i ⟨k,hi,hk,hR⟩
 have hni:i.toNat=k:=by omega
 have hni1:(i+1).toNat=k+1:=by omega
 rcases zA k (xs).length with hlt | hge
 ·have hg:=get_at (fun n=>[D.int n]) hlt
  rw [zC hlt,orL] at hR
  by_cases h0:xs[k]=0
  ·rw [if_pos h0] at hR
   simp (disch:=omega) only [go_sem,Aa,hni,hg,h0]
   exact ⟨i+1,⟨k+1,by omega,hlt,hR⟩,by omega,by first | trivial | rfl⟩
  ·rw [if_neg h0] at hR
   simp (disch:=omega) only [go_sem,Aa,hni,hg,h0]
   exact hR
 ·rw [zD hge,orL] at hR
  simp (disch:=omega) only [go_sem,Aa,hni]
  exact hR
theorem Te (a b:Int):E 54 [.arr [[.int a],[.int b]]] []=some (.int .i64 (orZ a b),[]):=by
 have h:=VY [a,b] (by simp)
 have e:orL [a,b]=orZ a b:=by
  simp only [orL,orZ]
  split
  ·split <;> omega
  ·rfl
 rw [e] at h
 exact h
def Io:SC:=(.seq (.reg [⟨some 1,none,.boxv 45 2 (.t 0)⟩,⟨some 2,none,.mv (.c (.bool false))⟩]) (.seq (.reg [⟨some 3,none,.faddr 0 (.t 1)⟩,⟨some 4,none,.load false 1 (.t 3)⟩,⟨some 5,none,.idx (.t 4) (.c (.int .i64 0))⟩,⟨some 6,none,.call 58 [(.t 5)]⟩,⟨some 2,none,.mv (.t 6)⟩]) .ret))
theorem Nw:Aj Try.prog 37=some ⟨7,Io,[(.tmp 2)]⟩:=by kernel_rfl
theorem Br:modes 37=⟨[],.asis,none,false⟩:=by unfold modes; rfl
theorem R6 (n:Int):E 58 [.int .u8 n] []=some (.bool (dec (65≤n)&&dec (n≤90)),[]):=by
 cases h1:dec (65≤n)
 ·refine Ab Ge Ea (of_decide_eq_true rfl) ?_
  simp (disch:=omega) only [DZ,go_sem,Aa,h1]
 ·refine Ab Ge Ea (of_decide_eq_true rfl) ?_
  simp (disch:=omega) only [DZ,go_sem,Aa,h1]
theorem Kh (x:Tm) (h:x.cok=true):E 37 [x.sv] []=some (.bool (AY x.name),[]):=by
 rw [Tm.Lb,zB] at h
 obtain ⟨h1,h2⟩:=R5 h.1
 have h3:=R6 (FK x.name 0)
 rw [h2] at h3
 refine Ab Nw Br (of_decide_eq_true rfl) ?_
 simp (disch:=omega) only [Io,go_sem,Aa,h3,Ea]
theorem PS:∀ x y:List UInt8,Op.bytesLess x y=true→Op.bytesLess y x=false
 | [],[],h=>by simp [Op.bytesLess] at h
 | [],_ :: _,_=>rfl
 | _ :: _,[],h=>by simp [Op.bytesLess] at h
 | a :: x,b :: y,h=>by
  simp only [Op.bytesLess,yN,decide_eq_true_eq,zB,beq_iff_eq] at h
  simp only [Op.bytesLess,zV,decide_eq_false_iff_not]
  rcases h with h | ⟨rfl,h⟩
  ·have h2:¬ b<a:=by intro h3; exact absurd (UInt8.lt_trans h h3) (UInt8.lt_irrefl _)
   have h3:(b == a)=false:=by
    rw [beq_eq_false_iff_ne]; rintro rfl; exact UInt8.lt_irrefl _ h
   exact ⟨h2,by rw [h3]; rfl⟩
  ·exact ⟨UInt8.lt_irrefl _,by rw [PS x y h]; simp⟩
theorem Le:∀ x y:List UInt8,Op.bytesLess x y=false→Op.bytesLess y x=false→x=y
 | [],[],_,_=>rfl
 | [],_ :: _,h,_=>by simp [Op.bytesLess] at h
 | _ :: _,[],_,h=>by simp [Op.bytesLess] at h
 | a :: x,b :: y,h,k=>by
  simp only [Op.bytesLess,zV,decide_eq_false_iff_not] at h k
  have hab:a=b:=by
   have h1:=h.1; have h2:=k.1
   rw [UInt8.lt_iff_toNat_lt] at h1 h2
   exact UInt8.toNat_inj.1 (by omega)
  subst hab
  have h1:Op.bytesLess x y=false:=by simpa using h.2
  have h2:Op.bytesLess y x=false:=by simpa using k.2
  rw [Le x y h1 h2]
theorem OG {a b:ByteArray} (h:strLt a b=false) (h':strLt b a=false):a=b:=Mm (Le _ _ h h')
theorem Lf:∀ x y z:List UInt8,Op.bytesLess x y=true→Op.bytesLess y z=true→Op.bytesLess x z=true
 | _,_,[],_,h=>by simp [Op.bytesLess] at h
 | [],[],_ :: _,h,_=>by simp [Op.bytesLess] at h
 | [],_ :: _,_ :: _,_,_=>rfl
 | _ :: _,[],_ :: _,h,_=>by simp [Op.bytesLess] at h
 | a :: x,b :: y,c :: z,h,k=>by
  simp only [Op.bytesLess,yN,decide_eq_true_eq,zB,beq_iff_eq] at h k ⊢
  rcases h with h | ⟨rfl,h⟩
  ·rcases k with k | ⟨rfl,k⟩
   ·exact .inl (UInt8.lt_trans h k)
   ·exact .inl h
  ·rcases k with k | ⟨rfl,k⟩
   ·exact .inl k
   ·exact .inr ⟨rfl,Lf x y z h k⟩
theorem OH {a b c:ByteArray} (h:strLt a b=true) (k:strLt b c=true):strLt a c=true:=Lf _ _ _ h k
theorem OI {a b:ByteArray} (h:strLt a b=true):¬ a=b:=by rintro rfl; rw [Lc] at h; cases h
theorem wrap_u64 {n:Int} (h0:0≤n) (h1:n≤18446744073709551615):IntKind.u64.wrap n=n:=NN (by
 have e1:IntKind.u64.min=0:=by decide
 have e2:IntKind.u64.max=18446744073709551615:=by decide
 unfold inK
 rw [e1,e2]
 exact ⟨h0,h1⟩)
noncomputable def B3 (a b:Tl):Bool:=strLt a.name b.name || (dec (a.name=b.name)&&dec (a.arity<b.arity))
theorem ET {a b:Tl}:B3 a b=true ↔ strLt a.name b.name=true∨(a.name=b.name∧a.arity<b.arity):=by
 unfold B3
 rw [yN,zB,Ah,Ah]
theorem Ip {a b c:Tl} (h1:B3 a b=true) (h2:B3 b c=true):B3 a c=true:=by
 rw [ET] at *
 rcases h1 with h1 | ⟨h1,h1'⟩
 ·rcases h2 with h2 | ⟨h2,h2'⟩
  ·exact .inl (OH h1 h2)
  ·rw [←h2]; exact .inl h1
 ·rcases h2 with h2 | ⟨h2,h2'⟩
  ·rw [h1]; exact .inl h2
  ·exact .inr ⟨h1.trans h2,by omega⟩
noncomputable def B4 (t x:Tl):Bool:=dec (t.name=x.name)&&dec (t.arity=x.arity)
theorem Ci {t x:Tl}:B4 t x=true ↔ t.name=x.name∧t.arity=x.arity:=by unfold B4; rw [zB,Ah,Ah]
theorem Di {a b:Tl} (h:B3 a b=true) (h':B4 a b=true):False:=by
 rw [ET] at h
 rw [Ci] at h'
 rcases h with h | ⟨_,h⟩
 ·exact OI h h'.1
 ·omega
theorem PT {a b:Tl} (h:B3 a b=true) (h':B3 b a=true):False:=Di (Ip h h') (Ci.2 ⟨rfl,rfl⟩)
theorem MH {a b:Tl} (h:B3 a b=false) (h':B4 a b=false):B3 b a=true:=by
 rw [ET]
 cases h1:strLt b.name a.name with
 | true=>exact .inl rfl
 | false =>
  refine .inr ?_
  cases h2:strLt a.name b.name with
  | true=>rw [ET.2 (.inl h2)] at h; cases h
  | false =>
   have e:a.name=b.name:=OG h2 h1
   refine ⟨e.symm,?_⟩
   have n1:¬ a.arity<b.arity:=fun h3=>by rw [ET.2 (.inr ⟨e,h3⟩)] at h; cases h
   have n2:¬ a.arity=b.arity:=fun h3=>by rw [Ci.2 ⟨e,h3⟩] at h'; cases h'
   omega
noncomputable def Au:List Tl→Tl→Nat
 | [],_=>0
 | t :: ts,x=>if B3 t x=true then Au ts x+1 else 0
theorem Iq (x:Tl):∀ ts:List Tl,Au ts x≤ts.length
 | []=>zL _
 | t :: ts=>by
  have:=Iq x ts
  rw [Au]
  split
  ·simp only [zQ]; omega
  ·exact zI _
noncomputable def Cf (ts:List Tl) (x:Tl):List Tl:=ts.take (Au ts x)++x :: ts.drop (Au ts x)
theorem OJ (x:Tl):Cf [] x=[x]:=rfl
theorem OK {t x:Tl} (ts:List Tl) (h:B3 t x=true):Cf (t :: ts) x=t :: Cf ts x:=by
 unfold Cf
 rw [Au,if_pos h]; rfl
theorem QC {t x:Tl} (ts:List Tl) (h:B3 t x=false):Cf (t :: ts) x=x :: t :: ts:=by
 unfold Cf
 rw [Au,if_neg (by rw [h]; simp)]; rfl
theorem Ja (x:Tl):∀ ts:List Tl,(Cf ts x).Perm (x :: ts)
 | []=>List.Perm.refl _
 | t :: ts=>by
  cases h:B3 t x with
  | true =>
   rw [OK ts h]
   exact ((Ja x ts).cons t).trans (List.Perm.swap x t ts)
  | false=>rw [QC ts h]
theorem Ec {x y:Tl} {ts:List Tl}:y∈Cf ts x ↔ y=x∨y∈ts:=by rw [(Ja x ts).mem_iff,zS]
theorem Gg (x:Tl) (ts:List Tl):(Cf ts x).length=ts.length+1:=by rw [(Ja x ts).length_eq]; rfl
theorem Nx (x:Tl):∀ ts:List Tl,ts.Pairwise (fun a b=>B3 a b=true)→(∀ t∈ts,B4 t x=false)→(Cf ts x).Pairwise fun a b=>B3 a b=true
 | [],_,_=>by rw [OJ]; simp
 | t :: ts,h,hn=>by
  obtain ⟨h1,h2⟩:=z8.1 h
  cases hk:B3 t x with
  | true =>
   rw [OK ts hk,z8]
   refine ⟨fun y hy=>?_,Nx x ts h2 fun y hy=>hn y (by simp [hy])⟩
   rcases Ec.1 hy with rfl | hy
   ·exact hk
   ·exact h1 y hy
  | false =>
   rw [QC ts hk,z8]
   have hx:=MH hk (hn t (by simp))
   refine ⟨fun y hy=>?_,h⟩
   rcases zS.1 hy with rfl | hy
   ·exact hx
   ·exact Ip hx (h1 y hy)
noncomputable def Cu (s:List Tl × Bool) (x:Tl):List Tl × Bool:=match s.1.find? (fun t=>B4 t x) with
 | some t=>(s.1,s.2 || (dec (3 < x.arity) || !(t.pred == x.pred)))
 | none=>(Cf s.1 x,s.2 || dec (3 < x.arity))
noncomputable def A7 (s:List Tl × Bool) (S:List Tl):List Tl × Bool:=S.foldl Cu s
theorem GJ (s:List Tl × Bool) (a b:List Tl):A7 s (a++b)=A7 (A7 s a) b:=List.foldl_append
structure SgInv (S:List Tl) (s:List Tl × Bool):Prop where
 up:s.1.Pairwise fun a b=>B3 a b=true
 sub:∀ t∈s.1,t∈S
 cov:∀ x∈S,∃ t∈s.1,B4 t x=true
 fl:s.2=false ↔ ∀ x∈S,x.arity≤3∧x∈s.1
theorem MJ {ts:List Tl} (h:ts.Pairwise fun a b=>B3 a b=true) {a b:Tl} (ha:a∈ts) (hb:b∈ts) (hk:B4 a b=true):a=b:=by
 obtain ⟨i,hi,rfl⟩:=yO ha
 obtain ⟨j,hj,rfl⟩:=yO hb
 rw [List.pairwise_iff_getElem] at h
 rcases yU i j with h1 | h1 | h1
 ·exact (Di (h i j hi hj h1) hk).elim
 ·subst h1; rfl
 ·have h2:=Ci.1 hk
  exact (Di (h j i hj hi h1) (Ci.2 ⟨h2.1.symm,h2.2.symm⟩)).elim
theorem SgInv.start:SgInv [] ([],false):=⟨yW,fun t h=>h,(fun x h=>by cases h),by simp⟩
theorem SgInv.put {S:List Tl} {s:List Tl × Bool} (h:SgInv S s) (hS:∀ t∈S,t.vals=[]) {x:Tl} (hx:x.vals=[]):SgInv (S++[x]) (Cu s x):=by
 have hmem:∀ y,y∈S++[x] ↔ y∈S∨y=x:=fun y=>by simp
 cases hf:s.1.find? (fun t=>B4 t x) with
 | some t =>
  have hts:t∈s.1:=List.mem_of_find?_eq_some hf
  have htk:B4 t x=true:=by simpa using List.find?_some hf
  have e:Cu s x=(s.1,s.2 || (dec (3<x.arity) || !(t.pred == x.pred))):=by unfold Cu; rw [hf]
  rw [e]
  refine ⟨h.up,fun y hy=>(hmem y).2 (.inl (h.sub y hy)),fun y hy=>?_,?_⟩
  ·rcases (hmem y).1 hy with hy | rfl
   ·exact h.cov y hy
   ·exact ⟨t,hts,htk⟩
  ·show (s.2 || (dec (3<x.arity) || !(t.pred == x.pred)))=false ↔ _
   rw [zV,zV,h.fl,Bi,Bool.not_eq_false',beq_iff_eq]
   constructor
   ·rintro ⟨h1,h2,h3⟩ y hy
    rcases (hmem y).1 hy with hy | rfl
    ·exact h1 y hy
    ·have hk:=Ci.1 htk
     have hv:=hS t (h.sub t hts)
     have:y=t:=by
      obtain ⟨n1,a1,p1,v1⟩:=t
      obtain ⟨n2,a2,p2,v2⟩:=y
      simp only at hk h3 hv hx
      rw [hk.1,hk.2,h3,hv,hx]
     exact ⟨by omega,by rw [this]; exact hts⟩
   ·intro h1
    obtain ⟨h2,h3⟩:=h1 x ((hmem x).2 (.inr rfl))
    refine ⟨fun y hy=>h1 y ((hmem y).2 (.inl hy)),by omega,?_⟩
    rw [MJ h.up hts h3 htk]
 | none =>
  have hnk:∀ t∈s.1,B4 t x=false:=fun t ht=>by
   have:=yR.1 hf t ht
   simpa using this
  have e:Cu s x=(Cf s.1 x,s.2 || dec (3<x.arity)):=by unfold Cu; rw [hf]
  rw [e]
  refine ⟨Nx x s.1 h.up hnk,fun y hy=>?_,fun y hy=>?_,?_⟩
  ·rcases Ec.1 hy with rfl | hy
   ·exact (hmem y).2 (.inr rfl)
   ·exact (hmem y).2 (.inl (h.sub y hy))
  ·rcases (hmem y).1 hy with hy | rfl
   ·obtain ⟨t,h1,h2⟩:=h.cov y hy
    exact ⟨t,Ec.2 (.inr h1),h2⟩
   ·exact ⟨y,Ec.2 (.inl rfl),Ci.2 ⟨rfl,rfl⟩⟩
  ·show (s.2 || dec (3<x.arity))=false ↔ _
   rw [zV,h.fl,Bi]
   constructor
   ·rintro ⟨h1,h2⟩ y hy
    rcases (hmem y).1 hy with hy | rfl
    ·exact ⟨(h1 y hy).1,Ec.2 (.inr (h1 y hy).2)⟩
    ·exact ⟨by omega,Ec.2 (.inl rfl)⟩
   ·intro h1
    refine ⟨fun y hy=>?_,by have:=(h1 x ((hmem x).2 (.inr rfl))).1; omega⟩
    obtain ⟨h2,h3⟩:=h1 y ((hmem y).2 (.inl hy))
    refine ⟨h2,?_⟩
    rcases Ec.1 h3 with rfl | h3
    ·obtain ⟨t,h4,h5⟩:=h.cov y hy
     rw [hnk t h4] at h5; cases h5
    ·exact h3
theorem SgInv.run:∀ (T S:List Tl) (s:List Tl × Bool),SgInv S s→(∀ t∈S,t.vals=[])→(∀ t∈T,t.vals=[])→SgInv (S++T) (A7 s T)
 | [],S,s,h,_,_=>by rw [y4]; exact h
 | x :: T,S,s,h,hS,hT=>by
  have h1:=h.put hS (hT x (by simp))
  have h2:=SgInv.run T (S++[x]) (Cu s x) h1 (fun t ht=>by
   rcases yD.1 ht with ht | ht
   ·exact hS t ht
   ·rw [List.mem_singleton.1 ht]; exact hT x (by simp)) fun t ht=>hT t (by simp [ht])
  rw [yV] at h2
  exact h2
theorem Tf {S:List Tl} (hS:∀ t∈S,t.vals=[]):SgInv S (A7 ([],false) S):=by
 have:=SgInv.run S [] ([],false) SgInv.start (fun t h=>by cases h) hS
 exact this
theorem QD {ts:List Tl} (h:ts.Pairwise fun a b=>B3 a b=true):ts.Nodup:=h.imp fun {a b} hab e=>by subst e; exact Di hab (Ci.2 ⟨rfl,rfl⟩)
theorem PU {S S':List Tl} {s s':List Tl × Bool} (hm:∀ x,x∈S ↔ x∈S') (h:SgInv S s) (h':SgInv S' s') (hf:s.2=false):s'.2=false∧s.1=s'.1:=by
 have h1:=h.fl.1 hf
 have hf':s'.2=false:=h'.fl.2 fun x hx=>by
  obtain ⟨h2,h3⟩:=h1 x ((hm x).2 hx)
  obtain ⟨t,h4,h5⟩:=h'.cov x hx
  have h6:=(h1 t ((hm t).2 (h'.sub t h4))).2
  exact ⟨h2,by rw [←MJ h.up h6 h3 h5]; exact h4⟩
 have h2:=h'.fl.1 hf'
 refine ⟨hf',?_⟩
 have hp:s.1.Perm s'.1:=(List.perm_ext_iff_of_nodup (QD h.up) (QD h'.up)).2 fun x=>⟨fun hx=>(h2 x ((hm x).1 (h.sub x hx))).2,fun hx=>(h1 x ((hm x).2 (h'.sub x hx))).2⟩
 exact List.Perm.eq_of_pairwise (le:=fun a b=>B3 a b=true) (fun a b _ _ hab hba=>(PT hab hba).elim) h.up h'.up hp
theorem Uz {S S':List Tl} (hS:∀ t∈S,t.vals=[]) (hm:∀ x,x∈S ↔ x∈S'):(A7 ([],false) S).2=(A7 ([],false) S').2∧((A7 ([],false) S).2=false→(A7 ([],false) S).1=(A7 ([],false) S').1):=by
 have hS':∀ t∈S',t.vals=[]:=fun t ht=>hS t ((hm t).2 ht)
 have h:=Tf hS
 have h':=Tf hS'
 refine ⟨?_,fun hf=>(PU hm h h' hf).2⟩
 cases hf:(A7 ([],false) S).2 with
 | false=>exact (PU hm h h' hf).1.symm
 | true =>
  cases hf':(A7 ([],false) S').2 with
  | true=>rfl
  | false =>
   have:=(PU (fun x=>(hm x).symm) h' h hf').1
   rw [hf] at this; cases this
def Bw (t:Tm) (p:Bool):Tl:=⟨t.name,t.args.length,p,[]⟩
mutual
noncomputable def Tm.sgI:Tm→Bool→List Tl
 | .mk n args,p=>Tm.EU args++(bif dec (n=⟨#[61]⟩) || AY n then [] else [⟨n,args.length,p,[]⟩])
noncomputable def Tm.EU:List Tm→List Tl
 | []=>[]
 | x :: xs=>Tm.sgI x false++Tm.EU xs
end
mutual
noncomputable def Tm.sgR:Tm→Bool→List Tl
 | .mk n args,p=>bif AY n then [] else (bif p&&dec (n=⟨#[61]⟩) then [] else [⟨n,args.length,p,[]⟩])++Tm.B9 args
noncomputable def Tm.B9:List Tm→List Tl
 | []=>[]
 | x :: xs=>Tm.sgR x false++Tm.B9 xs
end
theorem Tm.Jb (x:Tm) (p:Bool):x.sgI p=Tm.EU x.args++(bif dec (x.name=⟨#[61]⟩) || AY x.name then [] else [Bw x p]):=by
 obtain ⟨n,a⟩:=x
 rw [Tm.sgI]; rfl
theorem Tm.PV (x:Tm) (p:Bool):x.sgR p=bif AY x.name then [] else (bif p&&dec (x.name=⟨#[61]⟩) then [] else [Bw x p])++Tm.B9 x.args:=by
 obtain ⟨n,a⟩:=x
 rw [Tm.sgR]; rfl
theorem Tm.EV {y:Tl}:∀ {xs:List Tm},y∈Tm.EU xs ↔ ∃ x∈xs,y∈x.sgI false
 | []=>by simp [Tm.EU]
 | x :: xs=>by rw [Tm.EU,yD,Tm.EV (xs:=xs)]; simp
theorem Tm.Lg {y:Tl}:∀ {xs:List Tm},y∈Tm.B9 xs ↔ ∃ x∈xs,y∈x.sgR false
 | []=>by simp [Tm.B9]
 | x :: xs=>by rw [Tm.B9,yD,Tm.Lg (xs:=xs)]; simp
theorem R7:AY ⟨#[61]⟩=false:=by kernel_rfl
theorem R8:CU ⟨#[61]⟩=false:=by kernel_rfl
theorem PW {x:Tm} (h:x.names=true):dec (x.name=⟨#[61]⟩)=false:=by
 refine AG fun e=>?_
 rw [Tm.ER,e,if_neg (by rw [R7]; simp),R8] at h
 simp at h
theorem Ki (x:Tm) (h:x.names=true) (p:Bool) (y:Tl):y∈x.sgI p ↔ y∈x.sgR p:=by
 have ih:∀ z∈x.args,(y∈z.sgI false ↔ y∈z.sgR false):=fun z hz=>Ki z (Tm.IZ h hz) false y
 rw [Tm.Jb,Tm.PV,PW h,z2,zY,cond_false]
 cases hv:AY x.name with
 | true =>
  rw [Tm.Rx h hv]
  simp [Tm.EU]
 | false =>
  rw [cond_false,cond_false,yD,yD,Tm.EV,Tm.Lg]
  constructor
  ·rintro (⟨z,hz,h1⟩ | h1)
   ·exact .inr ⟨z,hz,(ih z hz).1 h1⟩
   ·exact .inl h1
  ·rintro (h1 | ⟨z,hz,h1⟩)
   ·exact .inr h1
   ·exact .inl ⟨z,hz,(ih z hz).2 h1⟩
termination_by SizeOf.sizeOf x
decreasing_by exact Tm.Av hz
theorem U0 (x:Tm) (h:x.expr=true) (y:Tl):y∈x.sgI true ↔ y∈x.sgR true:=by
 rcases Tm.HC h with h1 | ⟨h1,h2⟩
 ·exact Ki x h1 true y
 ·have he:dec (x.name=⟨#[61]⟩)=true:=h1
  have hv:=Tm.Uy h1
  rw [Tm.Jb,Tm.PV,he,hv,z7,cond_true,cond_false,zH,cond_true,y4,y5,Tm.EV,Tm.Lg]
  exact ⟨fun ⟨z,hz,k⟩=>⟨z,hz,(Ki z (Tm.KY h hz) false y).1 k⟩,fun ⟨z,hz,k⟩=>⟨z,hz,(Ki z (Tm.KY h hz) false y).2 k⟩⟩
def VU (res:RM) (n0:Nat) (rs:List RX) (Q:SV × List Ob→Prop) (x:X) (st:St):Prop:=∃ out,Ur res n0 rs out x st∧Q out
theorem exq {α:Type} {a:α} {Q:α→Prop}:(∃ out,some a=some out∧Q out)=Q a:=propext ⟨fun ⟨o,h,q⟩=>by obtain rfl:=zJ h; exact q,fun q=>⟨a,rfl,q⟩⟩
theorem V7 {res:RM} {n0:Nat} {rs:List RX} {Q:SV × List Ob→Prop} {sl:List SV} {ob:List Ob}:VU res n0 rs Q .ret ⟨sl,ob⟩=∃ out,O6 res n0 ob (L9 ⟨sl,ob⟩ rs)=some out∧Q out:=rfl
theorem V8 {res:RM} {n0:Nat} {rs:List RX} {Q:SV × List Ob→Prop} {sl:List SV} {ob:List Ob}:VU res n0 rs Q .normal ⟨sl,ob⟩=∃ out,O6 res n0 ob (L9 ⟨sl,ob⟩ rs)=some out∧Q out:=rfl
attribute [go_sem] V7 V8 exq
noncomputable def R9 (a b:Tl):Int:=orZ (Fw a.name b.name) (HD a.arity b.arity)
theorem OL (x y:Tl):dec (R9 x y<0)=B3 x y:=by
 symm
 unfold R9 B3 Fw
 cases h1:strLt x.name y.name with
 | true =>
  rw [z7,cond_true,orZ,if_neg (by omega)]
  exact (AM (by omega)).symm
 | false =>
  rw [z2,cond_false]
  cases h2:dec (x.name=y.name) with
  | false =>
   rw [zO,cond_false,orZ,if_neg (by omega)]
   exact (AG (by omega)).symm
  | true =>
   rw [zZ,cond_true,orZ,if_pos rfl,HD]
   cases h3:dec (x.arity<y.arity) with
   | true=>rw [cond_true]; exact (AM (by omega)).symm
   | false =>
    rw [cond_false]
    cases dec (y.arity<x.arity) with
    | true=>rw [cond_true]; exact (AG (by omega)).symm
    | false=>rw [cond_false]; exact (AG (by omega)).symm
theorem RA (x y:Tl):dec (R9 x y=0)=B4 x y:=by
 unfold R9 B4 Fw
 cases h1:strLt x.name y.name with
 | true =>
  rw [cond_true,orZ,if_neg (by omega),AG (OI h1),zO]
  exact AG (by omega)
 | false =>
  rw [cond_false]
  cases h2:dec (x.name=y.name) with
  | false =>
   rw [cond_false,orZ,if_neg (by omega),zO]
   exact AG (by omega)
  | true =>
   rw [cond_true,orZ,if_pos rfl,zZ,HD]
   cases h3:dec (x.arity<y.arity) with
   | true =>
    have:=Ah.1 h3
    rw [cond_true,AG (p:=x.arity=y.arity) (by omega)]
    exact AG (by omega)
   | false =>
    have:=Bi.1 h3
    rw [cond_false]
    cases h4:dec (y.arity<x.arity) with
    | true =>
     have:=Ah.1 h4
     rw [cond_true,AG (p:=x.arity=y.arity) (by omega)]
     exact AG (by omega)
    | false =>
     have:=Bi.1 h4
     rw [cond_false,AM (p:=x.arity=y.arity) (by omega)]
     exact AM rfl
abbrev upT (ts:List Tl):Prop:=ts.Pairwise fun a b=>B3 a b=true
theorem OM (x:Tl):∀ {ts:List Tl},upT ts→∀ {m:Nat} (h:m<ts.length),(B3 ts[m] x=true ↔ m<Au ts x)
 | [],_,m,h=>absurd h (by simp)
 | t :: ts,hs,m,h=>by
  obtain ⟨h1,h2⟩:=z8.1 hs
  rw [Au]
  cases hk:B3 t x with
  | true =>
   rw [if_pos rfl]
   cases m with
   | zero=>simp [hk]
   | succ m =>
    rw [z6,OM x h2 (by simpa using h)]
    omega
  | false =>
   rw [if_neg (by simp)]
   cases m with
   | zero=>simp [hk]
   | succ m =>
    rw [z6]
    constructor
    ·intro h3
     rw [Ip (h1 _ (zF (by simpa using h))) h3] at hk
     cases hk
    ·intro h3; omega
noncomputable def Fx (ts:List Tl) (x:Tl):Bool:=match ts[Au ts x]? with
 | none=>false
 | some t=>B4 t x
theorem Lh (x:Tl):∀ {ts:List Tl},upT ts→ts.find? (fun t=>B4 t x)=bif Fx ts x then ts[Au ts x]? else none
 | [],_=>rfl
 | t :: ts,hs=>by
  obtain ⟨h1,h2⟩:=z8.1 hs
  cases hk:B3 t x with
  | true =>
   have hq:B4 t x=false:=by
    cases h:B4 t x with
    | false=>rfl
    | true=>exact (Di hk h).elim
   have e:Au (t :: ts) x=Au ts x+1:=by rw [Au,if_pos hk]
   have e2:Fx (t :: ts) x=Fx ts x:=by unfold Fx; rw [e,yG]
   rw [y7,hq,e2,e,yG]
   exact Lh x h2
  | false =>
   have e:Au (t :: ts) x=0:=by rw [Au,if_neg (by rw [hk]; simp)]
   have e2:Fx (t :: ts) x=B4 t x:=by unfold Fx; rw [e]; rfl
   rw [y7,e2,e]
   cases hq:B4 t x with
   | true=>rfl
   | false =>
    rw [cond_false]
    refine yR.2 fun y hy hc=>?_
    have hx:=Ip (MH hk hq) (h1 y hy)
    have h3:=Ci.1 hc
    exact Di hx (Ci.2 ⟨h3.1.symm,h3.2.symm⟩)
theorem Ny {ts:List Tl} {x:Tl} (h:Fx ts x=true):Au ts x<ts.length:=by
 rcases zA (Au ts x) ts.length with h1 | h1
 ·exact h1
 ·unfold Fx at h; rw [List.getElem?_eq_none h1] at h; cases h
theorem ML {a:List Tl} {b:Bool} {x:Tl} (hs:upT a) (h:Fx a x=true) (hlt:Au a x<a.length):Cu (a,b) x=(a,b || (dec (3<x.arity) || !((a[Au a x]).pred == x.pred))):=by
 unfold Cu
 rw [show (a,b).1=a from rfl,Lh x hs,h,cond_true,zM hlt]
theorem MM {a:List Tl} {b:Bool} {x:Tl} (hs:upT a) (h:Fx a x=false):Cu (a,b) x=(Cf a x,b || dec (3<x.arity)):=by
 unfold Cu
 rw [show (a,b).1=a from rfl,Lh x hs,h,cond_false]
theorem ON {s:List Tl × Bool} (hs:upT s.1) (x:Tl):upT (Cu s x).1:=by
 unfold Cu
 cases hf:s.1.find? (fun t=>B4 t x) with
 | some t=>exact hs
 | none=>exact Nx x s.1 hs fun t ht=>by have:=yR.1 hf t ht; simpa using this
theorem MN (s:List Tl × Bool) (x:Tl):s.1.length≤(Cu s x).1.length∧(Cu s x).1.length≤s.1.length+1:=by
 unfold Cu
 cases hf:s.1.find? (fun t=>B4 t x) with
 | some t=>exact ⟨zL _,Nat.le_succ _⟩
 | none=>simp only [Gg]; omega
theorem Ir:∀ (S:List Tl) {s:List Tl × Bool},upT s.1→upT (A7 s S).1
 | [],s,h=>h
 | x :: S,s,h=>Ir S (ON h x)
theorem GK:∀ (S:List Tl) (s:List Tl × Bool),s.1.length≤(A7 s S).1.length∧(A7 s S).1.length≤s.1.length+S.length
 | [],s=>⟨zL _,zL _⟩
 | x :: S,s=>by
  have h1:=MN s x
  have h2:=GK S (Cu s x)
  have e:A7 s (x :: S)=A7 (Cu s x) S:=rfl
  rw [e,zQ]
  omega
mutual
theorem Tm.Kj:∀ (x:Tm) (p:Bool),(x.sgI p).length≤x.nodes
 | .mk n args,p=>by
  have h:=Tm.OO args
  rw [Tm.sgI,yF,Tm.nodes]
  cases (dec (n=⟨#[61]⟩) || AY n) <;> simp only [cond_true,cond_false,z9,zQ] <;> omega
theorem Tm.OO:∀ xs:List Tm,(Tm.EU xs).length≤Tm.A9 xs
 | []=>zL _
 | x :: xs=>by
  have h1:=Tm.Kj x false
  have h2:=Tm.OO xs
  rw [Tm.EU,yF,Tm.A9]
  omega
end
theorem Tm.Nz {x y:Tm} (h:x.cok=true) (hy:y∈x.args):y.cok=true:=by
 rw [Tm.Lb,zB] at h
 have key:∀ xs:List Tm,Tm.Nu xs=true→y∈xs→y.cok=true:=by
  intro xs
  induction xs with
  | nil=>intro _ h; cases h
  | cons z zs ih =>
   intro hh hm
   rw [Tm.Nu,zB] at hh
   rcases zS.1 hm with rfl | hm
   ·exact hh.1
   ·exact ih hh.2 hm
 exact key _ h.2 hy
def D1:SC:=(.seq (.reg [⟨some 2,none,.boxv 57 4 (.t 0)⟩,⟨some 3,none,.boxv 57 4 (.t 1)⟩,⟨some 4,none,.mv (.c (.int .i64 0))⟩]) (.seq (.dreg [[],[0],[],[2],[1,0,3,2],[],[5],[],[7],[6,5,8,7,4,1,0,3,2],[4,1,0,3,2,9,6,5,8,7],[10,4,1,0,3,2,9,6,5,8,7],[11,10,4,1,0,3,2,9,6,5,8,7]] [⟨some 5,none,.faddr 0 (.t 2)⟩,⟨some 6,none,.load false 1 (.t 5)⟩,⟨some 7,none,.faddr 0 (.t 3)⟩,⟨some 8,none,.load false 1 (.t 7)⟩,⟨some 9,none,.call 59 [(.t 6),(.t 8)]⟩,⟨some 10,none,.faddr 1 (.t 2)⟩,⟨some 11,none,.load false 1 (.t 10)⟩,⟨some 12,none,.faddr 1 (.t 3)⟩,⟨some 13,none,.load false 1 (.t 12)⟩,⟨some 14,none,.call 56 [(.t 11),(.t 13)]⟩,⟨some 15,none,.mkrow 3 1 [(.int .i64 0)] 2 [(0,(.t 9)),(1,(.t 14))]⟩,⟨some 16,none,.call 54 [(.t 15)]⟩,⟨some 4,none,.mv (.t 16)⟩]) .ret))
theorem Gh:Aj Try.prog 39=some ⟨17,D1,[(.tmp 4)]⟩:=by kernel_rfl
theorem BF:modes 39=⟨[],.asis,none,false⟩:=by unfold modes; rfl
theorem A8:Hx Try.prog 39=true:=by kernel_rfl
def A4:SC:=(.seq (.reg [⟨some 4,none,.boxv 57 4 (.t 1)⟩,⟨some 6,none,.mv (.c (.int .i64 0))⟩,⟨some 7,none,.mv (.c (.bool false))⟩]) (.seq (.reg [⟨some 12,none,.mv (.t 0)⟩,⟨some 13,none,.len false (.t 12)⟩,⟨some 8,none,.mv (.t 13)⟩]) (.seq (.reg [⟨some 14,none,.mv (.t 8)⟩,⟨some 9,none,.mv (.c (.int .i64 0))⟩,⟨some 10,none,.mv (.t 14)⟩]) (.seq (.block 0 (.loop [1,0,1,0,1,0,0,0,1,1,1,0,0,0,0,0,0,0,0,0,0,0,0,0,0,0,0,0,0,0,0,0,0,0,0,0,0,0,0,0,0,0,0,0,0,0,0,0,0] (.seq (.seq (.reg [⟨some 15,none,.mv (.t 9)⟩,⟨some 16,none,.mv (.t 10)⟩,⟨some 17,none,.bin .lss false (.t 15) (.t 16)⟩]) (.cond (.t 17) .skip (.exit 0))) (.block 1 (.seq (.reg [⟨some 18,none,.mv (.t 9)⟩,⟨some 19,none,.mv (.t 10)⟩,⟨some 20,none,.bin .add false (.t 18) (.t 19)⟩,⟨some 21,none,.conv .u64 (.t 20)⟩,⟨some 22,none,.bin .shr false (.t 21) (.c (.int .u64 1))⟩,⟨some 23,none,.conv .i64 (.t 22)⟩,⟨some 11,none,.mv (.t 23)⟩]) (.seq (.dreg [[],[],[],[1,2],[3,1,2],[],[0,4,3,1,2,5],[6,0,4,3,1,2,5]] [⟨some 24,none,.mv (.t 2)⟩,⟨some 25,none,.mv (.t 0)⟩,⟨some 26,none,.mv (.t 11)⟩,⟨some 27,none,.iaddr 4 (.t 25) (.t 26)⟩,⟨some 28,none,.load true 4 (.t 27)⟩,⟨some 29,none,.load true 4 (.t 4)⟩,⟨some 30,none,.callv (.t 24) [(.t 28),(.t 29)]⟩,⟨some 31,none,.bin .lss false (.t 30) (.c (.int .i64 0))⟩]) (.cond (.t 31) (.reg [⟨some 32,none,.mv (.t 11)⟩,⟨some 33,none,.bin .add false (.t 32) (.c (.int .i64 1))⟩,⟨some 9,none,.mv (.t 33)⟩]) (.reg [⟨some 34,none,.mv (.t 11)⟩,⟨some 10,none,.mv (.t 34)⟩])))))))) (.seq (.dreg [[],[],[],[1,2],[3,1,2],[4,3,1,2],[4,3,1,2],[4,3,1,2],[6,4,3,1,2,7],[8,6,4,3,1,2,7],[4,3,1,2],[5,4,3,1,2,9,8,6,7,10],[11,5,4,3,1,2,9,8,6,7,10],[4,3,1,2,12,11,5,9,8,6,7,10],[0,11,5,4,3,1,2,9,8,6,7,10],[13,4,3,1,2,12,11,5,9,8,6,7,10,14,0]] [⟨some 35,none,.mv (.t 9)⟩,⟨some 36,none,.mv (.t 9)⟩,⟨some 37,none,.mv (.t 8)⟩,⟨some 38,none,.bin .lss false (.t 36) (.t 37)⟩,⟨some 39,none,.mv (.t 38)⟩,⟨(some 40),(some (39,true)),(.mv (.t 2))⟩,⟨(some 41),(some (39,true)),(.mv (.t 0))⟩,⟨(some 42),(some (39,true)),(.mv (.t 9))⟩,⟨(some 43),(some (39,true)),(.iaddr 4 (.t 41) (.t 42))⟩,⟨(some 44),(some (39,true)),(.load true 4 (.t 43))⟩,⟨(some 45),(some (39,true)),(.load true 4 (.t 4))⟩,⟨(some 46),(some (39,true)),(.callv (.t 40) [(.t 44),(.t 45)])⟩,⟨(some 47),(some (39,true)),(.bin .eql false (.t 46) (.c (.int .i64 0)))⟩,⟨some 48,none,.pick (.t 39) (.t 47) (.c (.bool false))⟩,⟨some 6,none,.mv (.t 35)⟩,⟨some 7,none,.mv (.t 48)⟩]) .ret)))))
theorem Bl:Aj Try.prog 38=some ⟨49,A4,[(.tmp 6),(.tmp 7)]⟩:=by kernel_rfl
theorem Ad:modes 38=⟨[],.asis,none,false⟩:=by unfold modes; rfl
theorem Li (t x:Tl):E 39 [.agg [.str t.name,.int .i64 t.arity,.bool t.pred,.arr (t.vals.map fun n=>[D.int n])],.agg [.str x.name,.int .i64 x.arity,.bool x.pred,.arr []]] []=some (.int .i64 (R9 t x),[]):=by
 have h1:=Ld t.name x.name
 have h2:=HH t.arity x.arity
 have h3:=Te (Fw t.name x.name) (HD t.arity x.arity)
 unfold R9
 refine Ab Gh BF (of_decide_eq_true rfl) ?_
 simp (disch:=omega) only [D1,go_sem,Aa,h1,h2,h3,AT,AZ,CP]
theorem Tl.getD {ts:List Tl} {m:Nat} (h:m<ts.length):(ts.map Tl.d)[m]?=some [D.str ts[m].name,D.int ts[m].arity,D.bool ts[m].pred,D.arr (ts[m].vals.map fun n=>[D.int n])]:=by
 rw [zT,zM h,yK,Tl.d_eq]
theorem Tl.VV {ts:List Tl} {m:Nat} (h:m<ts.length):(ts.map Tl.o)[m]?=some [OT.str ts[m].name,OT.int ts[m].arity,OT.bool ts[m].pred,OT.ow (ts[m].vals.map fun n=>[OT.int n])]:=by
 rw [zT,zM h,yK,Tl.o_eq]
theorem UE (ts:List Tl) (x:Tl) (hl:ts.length≤1099511627776) (hs:upT ts):E 38 [.arr (ts.map Tl.d),.agg [.str x.name,.int .i64 x.arity,.bool x.pred,.arr []],.fn 39 []] []=some (.tup [.int .i64 (Au ts x:Nat),.bool (Fx ts x)],[]):=by
 have hlow:=Iq x ts
 obtain ⟨L,hL⟩:∃ L:Int,L=(Au ts x:Nat):=⟨_,rfl⟩
 rw [←hL]
 refine Ab Bl Ad (of_decide_eq_true rfl) ?_
 simp (disch:=omega) only [A4,go_sem,Aa]
 refine go_loop (α:=Int × Int) (fun a=>⟨slots 49 0 [(0,.arr (ts.map Tl.d)),(2,.fn 39 []),(4,.ptr 0 0),(8,.int .i64 ts.length),(9,.int .i64 a.1),(10,.int .i64 a.2)],[.box 57 [.str x.name,.int .i64 x.arity,.bool x.pred,.arr []]]⟩) (fun a=>0≤a.1∧a.1≤L∧L≤a.2∧a.2≤ts.length) (fun a=>(a.2-a.1).toNat) (0,ts.length) ⟨by simp,by dsimp only; omega,by dsimp only; omega,by dsimp only; omega⟩ (by simp (disch:=omega) only [go_sem,Aa]) ?_
 rintro ⟨i,j⟩ ⟨h0,h1,h2,h3⟩
 dsimp only at h0 h1 h2 h3
 rcases yP i j with hij | hij
 ·obtain ⟨m,hm⟩:∃ m:Nat,(i+j) / 2=(m:Int):=⟨((i+j) / 2).toNat,by omega⟩
  have hlt:m<ts.length:=by omega
  have hg:=Tl.getD hlt
  have hc:=Li ts[m] x
  have hw:IntKind.u64.wrap (i+j)=i+j:=wrap_u64 (by omega) (by omega)
  have hi:=OM x hs hlt
  obtain ⟨M,hM⟩:∃ M:Int,(i+j) / 2=M:=⟨_,rfl⟩
  have hni:M.toNat=m:=by omega
  cases hq:B3 ts[m] x with
  | true =>
   have hi2:=hi.1 hq
   simp (disch:=omega) only [go_sem,Aa,hw,hni,hg,hc,A8,BF,OL,hq,hM]
   exact ⟨(M+1,j),⟨by dsimp only; omega,by dsimp only; omega,by dsimp only; omega,by dsimp only; omega⟩,by dsimp only; omega,by first | trivial | rfl⟩
  | false =>
   have hi2:¬ m<Au ts x:=by rw [←hi,hq]; simp
   simp (disch:=omega) only [go_sem,Aa,hw,hni,hg,hc,A8,BF,OL,hq,hM]
   exact ⟨(i,M),⟨by dsimp only; omega,by dsimp only; omega,by dsimp only; omega,by dsimp only; omega⟩,by dsimp only; omega,by first | trivial | rfl⟩
 ·obtain rfl:i=L:=by omega
  rcases zA (Au ts x) ts.length with hlt | hge
  ·have hg:=Tl.getD hlt
   have hni:i.toNat=Au ts x:=by omega
   have hc:=Li ts[Au ts x] x
   have hh:Fx ts x=B4 ts[Au ts x] x:=by unfold Fx; rw [zM hlt]
   rw [hh]
   simp (disch:=omega) only [go_sem,Aa,hni,hg,hc,A8,BF,RA]
  ·have hh:Fx ts x=false:=by unfold Fx; rw [List.getElem?_eq_none hge]
   rw [hh]
   simp (disch:=omega) only [go_sem,Aa]
theorem Am:modes 40=⟨[true,false,true],.asis,some O4,false⟩:=by unfold modes; rfl
theorem Tg (a:List Tl) (n:ByteArray) (ar:Int) (p:Bool) (hl:a.length≤1048576):E 40 [.ref 0,.int .i64 (Au a ⟨n,ar,p,[]⟩:Nat),.ref 1] [.row 57 4 (a.map Tl.o),.row 57 4 [[.str n,.int ar,.bool p,.ow []]]]=some (.ref 2,[.gone,.gone,.row 57 4 ((Cf a ⟨n,ar,p,[]⟩).map Tl.o)]):=by
 rw [PL (g:=O4) (congrArg FM.ext Am)]
 unfold O4
 simp only
 have h:=Iq ⟨n,ar,p,[]⟩ a
 have e:(⟨n,ar,p,[]⟩:Tl).o=[OT.str n,OT.int ar,OT.bool p,OT.ow []]:=by rw [Tl.o_eq]; rfl
 rw [AM ⟨by trivial,by trivial,by trivial,by omega,by rw [y6]; omega,by rw [y6]; exact hl⟩,cond_true,yA]
 unfold Cf
 rw [yM,zE,List.map_take,List.map_drop,e]
theorem V9 (n:ByteArray) (ar:Int) (p:Bool):E 40 [.nil,.int .i64 0,.ref 0] [.row 57 4 [[.str n,.int ar,.bool p,.ow []]]]=some (.ref 1,[.gone,.row 57 4 [[.str n,.int ar,.bool p,.ow []]]]):=by
 rw [PL (g:=O4) (congrArg FM.ext Am)]
 unfold O4
 simp only
 rw [AM ⟨by trivial,by trivial⟩,cond_true]
theorem Tl.ful:∀ ts:List Tl,OT.At (ts.map Tl.o)=true
 | []=>rfl
 | x :: xs=>by
  have h:∀ l:List Int,OT.At (l.map fun n=>[OT.int n])=true:=by
   intro l
   induction l with
   | nil=>rfl
   | cons y l ih=>simp [OT.At,OT.C3,OT.full,ih]
  rw [zE,Tl.o_eq]; simp [OT.At,OT.C3,OT.full,h,Tl.ful xs]
theorem Tl.ers:∀ ts:List Tl,OT.erss (ts.map Tl.o)=ts.map Tl.d
 | []=>rfl
 | x :: xs=>by
  have h:∀ l:List Int,OT.erss (l.map fun n=>[OT.int n])=l.map fun n=>[D.int n]:=by
   intro l
   induction l with
   | nil=>rfl
   | cons y l ih=>simp [OT.erss,OT.ers,OT.er,ih]
  rw [zE,zE,Tl.o_eq,Tl.d_eq]; simp [OT.erss,OT.ers,OT.er,h,Tl.ers xs]
theorem UF:(false == true)=false:=rfl
theorem UG:(true == false)=false:=rfl
theorem QE (x:Tm) (p:Bool) (s0 s:List Tl × Bool) (h:s=A7 s0 (Tm.EU x.args)):A7 s0 (x.sgI p)=bif x.eqn || AY x.name then s else Cu s (Bw x p):=by
 rw [Tm.Jb,GJ,← h]
 show A7 s (bif x.eqn || AY x.name then [] else [Bw x p])=_
 cases (x.eqn || AY x.name) <;> rfl
def Ck:SC:=(.seq (.reg [⟨some 4,none,.boxv 45 2 (.t 1)⟩]) (.seq (.seq (.reg [⟨some 11,none,.faddr 1 (.t 4)⟩,⟨some 12,none,.load false 1 (.t 11)⟩,⟨some 13,none,.len false (.t 12)⟩,⟨some 14,none,.mv (.c (.int .i64 0))⟩]) (.block 0 (.loop [1,0,1,0,1,0,0,0,0,0,0,0,1,1,1,0,0,0,0,0,0,0,0,0,0,0,0,0,0,0,0,0,0,0,0,0,0,0,0,0,0,0,0,0,0,0,0,0,0,0,0,0,0,0,0,0,0,0,0,0,0,0,0,0,0,0,0,0,0,0,0,0,0,0,0,0,0,0,0,0,0,0,0] (.seq (.reg [⟨some 15,none,.bin .lss false (.t 14) (.t 13)⟩]) (.seq (.cond (.t 15) .skip (.exit 0)) (.seq (.block 1 (.seq (.reg [⟨some 16,none,.iaddr 2 (.t 12) (.t 14)⟩,⟨some 17,none,.load true 2 (.t 16)⟩,⟨(some 7),none,(.alloc 45 [(.str ⟨#[]⟩),.nil])⟩,⟨none,none,(.store 2 (.t 7) (.t 17))⟩]) (.reg [⟨some 18,none,.mv (.t 0)⟩,⟨some 19,none,.load true 2 (.t 7)⟩,⟨some 20,none,.call 20 [(.t 18),(.t 19),(.c (.bool false))]⟩]))) (.reg [⟨some 21,none,.bin .add false (.t 14) (.c (.int .i64 1))⟩,⟨some 14,none,.mv (.t 21)⟩]))))))) (.seq (.seq (.reg [⟨some 22,none,.load true 2 (.t 4)⟩,⟨some 23,none,.call 36 [(.t 22)]⟩,⟨some 24,none,.mv (.t 23)⟩,⟨(some 25),(some (24,false)),(.load true 2 (.t 4))⟩,⟨(some 26),(some (24,false)),(.call 37 [(.t 25)])⟩,⟨some 27,none,.pick (.t 24) (.c (.bool true)) (.t 26)⟩]) (.cond (.t 27) .ret .skip)) (.seq (.reg [⟨some 28,none,.mv (.t 0)⟩,⟨some 29,none,.mv (.t 0)⟩,⟨some 30,none,.nilchk (.t 29)⟩,⟨some 31,none,.faddr 1 (.t 30)⟩,⟨some 32,none,.load false 1 (.t 31)⟩,⟨some 33,none,.mv (.t 32)⟩,⟨(some 34),(some (33,false)),(.faddr 1 (.t 4))⟩,⟨(some 35),(some (33,false)),(.load false 1 (.t 34))⟩,⟨(some 36),(some (33,false)),(.len false (.t 35))⟩,⟨(some 37),(some (33,false)),(.bin .gtr false (.t 36) (.c (.int .i64 3)))⟩,⟨some 38,none,.pick (.t 33) (.c (.bool true)) (.t 37)⟩,⟨some 39,none,.nilchk (.t 28)⟩,⟨some 40,none,.faddr 1 (.t 39)⟩,⟨none,none,(.store 1 (.t 40) (.t 38))⟩]) (.seq (.reg [⟨some 41,none,.faddr 0 (.t 4)⟩,⟨some 42,none,.load false 1 (.t 41)⟩,⟨some 43,none,.faddr 1 (.t 4)⟩,⟨some 44,none,.load false 1 (.t 43)⟩,⟨some 45,none,.len false (.t 44)⟩,⟨some 46,none,.mv (.t 2)⟩,⟨(some 47),none,(.build [(.str ⟨#[]⟩),(.int .i64 0),(.bool false),.nil] [(0,(1,(.t 42))),(1,(1,(.t 45))),(2,(1,(.t 46)))])⟩,⟨(some 8),none,(.alloc 57 [(.str ⟨#[]⟩),(.int .i64 0),(.bool false),.nil])⟩,⟨none,none,(.store 4 (.t 8) (.t 47))⟩]) (.seq (.dreg [[],[0],[1,0],[2,1,0],[],[3,2,1,0,4],[5,3,2,1,0,4],[6,5,3,2,1,0,4],[6,5,3,2,1,0,4],[7,6,5,3,2,1,0,4],[8,6,5,3,2,1,0,4,9,7]] [⟨some 49,none,.mv (.t 0)⟩,⟨some 50,none,.nilchk (.t 49)⟩,⟨some 51,none,.faddr 0 (.t 50)⟩,⟨some 52,none,.load false 1 (.t 51)⟩,⟨some 53,none,.load true 4 (.t 8)⟩,⟨some 54,none,.call 38 [(.t 52),(.t 53),(.c (.fn 39 []))]⟩,⟨some 48,none,.mv (.t 54)⟩,⟨some 55,none,.ext (.t 48) 0⟩,⟨some 56,none,.ext (.t 48) 1⟩,⟨some 9,none,.mv (.t 55)⟩,⟨some 10,none,.mv (.t 56)⟩]) (.seq (.reg [⟨some 57,none,.mv (.t 10)⟩,⟨some 58,none,.un .not (.t 57)⟩]) (.cond (.t 58) (.dreg [[],[],[1],[2,1],[3,2,1],[],[],[6],[4,3,2,1,5,7,6],[0,1,2,3,4,5,6,7,8],[9,0,1,2,3,4,5,6,7,8],[10,9,0,1,2,3,4,5,6,7,8]] [⟨some 59,none,.mv (.t 0)⟩,⟨some 60,none,.mv (.t 0)⟩,⟨some 61,none,.nilchk (.t 60)⟩,⟨some 62,none,.faddr 0 (.t 61)⟩,⟨some 63,none,.load false 1 (.t 62)⟩,⟨some 64,none,.mv (.t 9)⟩,⟨some 65,none,.load true 4 (.t 8)⟩,⟨(some 66),none,(.mkrow 57 4 [(.str ⟨#[]⟩),(.int .i64 0),(.bool false),.nil] 1 [(0,(.t 65))])⟩,⟨some 67,none,.call 40 [(.t 63),(.t 64),(.t 66)]⟩,⟨some 68,none,.nilchk (.t 59)⟩,⟨some 69,none,.faddr 0 (.t 68)⟩,⟨none,none,(.store 1 (.t 69) (.t 67))⟩]) (.seq (.reg [⟨some 70,none,.mv (.t 0)⟩,⟨some 71,none,.nilchk (.t 70)⟩,⟨some 72,none,.faddr 0 (.t 71)⟩,⟨some 73,none,.load false 1 (.t 72)⟩,⟨some 74,none,.mv (.t 9)⟩,⟨some 75,none,.iaddr 4 (.t 73) (.t 74)⟩,⟨some 76,none,.faddr 2 (.t 75)⟩,⟨some 77,none,.load false 1 (.t 76)⟩,⟨some 78,none,.mv (.t 2)⟩,⟨some 79,none,.bin .neq true (.t 77) (.t 78)⟩]) (.cond (.t 79) (.reg [⟨some 80,none,.mv (.t 0)⟩,⟨some 81,none,.nilchk (.t 80)⟩,⟨some 82,none,.faddr 1 (.t 81)⟩,⟨none,none,(.store 1 (.t 82) (.c (.bool true)))⟩]) .skip))))))))))
theorem CX:Aj Try.prog 20=some ⟨83,Ck,[]⟩:=by kernel_rfl
theorem AD:modes 20=⟨[],.asis,none,false⟩:=by unfold modes; rfl
abbrev SgA (x:Tm):Prop:=∀ f p:Bool,x.nodes≤1048576→E 20 [.ptr 0 0,x.sv,.bool p] [.box 52 [.nil,.bool f]]=some (.tup [],(bif dec (0<(A7 ([],f) (x.sgI p)).1.length) then [.box 52 [.ref 1,.bool (A7 ([],f) (x.sgI p)).2],.row 57 4 ((A7 ([],f) (x.sgI p)).1.map Tl.o)] else [.box 52 [.nil,.bool (A7 ([],f) (x.sgI p)).2]]))
abbrev SgB (x:Tm):Prop:=∀ (l:List Tl) (f p:Bool),upT l→0<l.length→l.length+x.nodes≤1048576→E 20 [.ptr 0 0,x.sv,.bool p] [.box 52 [.ref 1,.bool f],.row 57 4 (l.map Tl.o)]=some (.tup [],(bif dec (l.length<(A7 (l,f) (x.sgI p)).1.length) then [.box 52 [.ref 2,.bool (A7 (l,f) (x.sgI p)).2],.gone,.row 57 4 ((A7 (l,f) (x.sgI p)).1.map Tl.o)] else [.box 52 [.ref 1,.bool (A7 (l,f) (x.sgI p)).2],.row 57 4 ((A7 (l,f) (x.sgI p)).1.map Tl.o)]))
theorem VA (x:Tm) (hc:x.cok=true) (ih:∀ y∈x.args,SgB y):SgB x:=by
 intro l f p hup h0 hn
 have hnd:=Tm.A6 x
 have hpl:=Tm.length_le x.args
 have hgl:dec (l.length<l.length)=false:=AG (by omega)
 have heq:=DG x
 have hvar:=Kh x hc
 have hxs:x.sv=.agg [.str x.name,.arr (x.args.map Tm.d)]:=rfl
 rw [hxs] at heq hvar ⊢
 refine Ab CX AD (of_decide_eq_true rfl) ?_
 simp (disch:=omega) only [Ck,go_sem,Aa,hxs]
 refine go_loop (α:=Int × (List Tl) × (Bool)) (fun a=>⟨slots 83 0 [(0,.ptr 0 0),(2,.bool p),(4,.ptr 2 0),(12,.arr (x.args.map Tm.d)),(13,.int .i64 x.args.length),(14,.int .i64 (a.1))],(bif dec (l.length<(a.2.1).length) then [.box 52 [.ref 3,.bool (a.2.2)],.gone,.box 45 [.str x.name,.arr (x.args.map Tm.d)],.row 57 4 ((a.2.1).map Tl.o)] else [.box 52 [.ref 1,.bool (a.2.2)],.row 57 4 ((a.2.1).map Tl.o),.box 45 [.str x.name,.arr (x.args.map Tm.d)]])⟩) (fun a=>∃ k:Nat,a.1=k∧k≤(x.args).length∧A7 ((a.2.1),(a.2.2)) (Tm.EU (x.args.drop k))=A7 (l,f) (Tm.EU x.args)∧upT (a.2.1)∧(a.2.1).length+Tm.A9 (x.args.drop k)+1≤1048576∧l.length≤(a.2.1).length) (fun a=>(x.args).length-(a.1).toNat) (0,l,f) ⟨0,rfl,zI _,by rw [zG],hup,by rw [zG]; dsimp only; omega,zL _⟩ (by simp (disch:=omega) only [go_sem,Aa,hgl]) ?_
 rintro ⟨i,ac,bf⟩ ⟨k,hi,hk,hR⟩
 dsimp only at hi hR
 have hni:i.toNat=k:=by omega
 have hni1:(i+1).toNat=k+1:=by omega
 rcases zA k (x.args).length with hlt | hge
 ·have hg:=get_at Tm.d hlt
  rw [Tm.d_eq] at hg
  obtain ⟨hR1,hR2,hR3,hR4⟩:=hR
  rw [zC hlt,Tm.EU,GJ] at hR1
  rw [zC hlt,Tm.A9] at hR3
  have hc2:=ih x.args[k] (zF hlt) ac bf false hR2 (by omega) (by omega)
  have hys:(x.args[k]).sv=.agg [.str (x.args[k]).name,.arr ((x.args[k]).args.map Tm.d)]:=rfl
  rw [hys] at hc2
  obtain ⟨a2,b2,hr⟩:∃ a2 b2,(a2,b2)=A7 (ac,bf) ((x.args[k]).sgI false):=⟨_,_,rfl⟩
  have hl2:=GK ((x.args[k]).sgI false) (ac,bf)
  have hu2:=Ir ((x.args[k]).sgI false) (s:=(ac,bf)) hR2
  have hs2:=Tm.Kj x.args[k] false
  rw [←hr] at hc2 hR1 hl2 hu2
  dsimp only at hc2 hR1 hl2 hu2
  rcases zA l.length ac.length with q1 | q1 <;> rcases zA ac.length a2.length with q2 | q2
  all_goals
   first
    |rw [AM q2] at hc2
    |rw [AG (yI.2 q2)] at hc2
   simp only [cond_true,cond_false] at hc2
   simp (disch:=omega) only [go_sem,Aa,hni,hg,hc2,AD]
   refine ⟨(i+1,a2,b2),⟨k+1,by dsimp only; omega,hlt,hR1,hu2,by dsimp only; omega,by dsimp only; omega⟩,by dsimp only; omega,?_⟩
   first | done | simp (disch:=omega) only [go_sem,Aa]
 ·rw [zD hge,Tm.EU] at hR
  obtain ⟨hR1,hR2,hR3,hR4⟩:=hR
  have hR1:(ac,bf)=A7 (l,f) (Tm.EU x.args):=hR1
  have hen:=QE x p (l,f) (ac,bf) hR1
  rw [hen]
  cases he:x.eqn with
  | true =>
   rw [he] at heq
   simp only [z7,cond_true]
   rcases zA l.length ac.length with q1 | q1
   all_goals simp (disch:=omega) only [go_sem,Aa,hni,heq,Ao]
  | false =>
   rw [he] at heq
   cases hv:AY x.name with
   | true =>
    rw [hv] at hvar
    simp only [y2,cond_true]
    rcases zA l.length ac.length with q1 | q1
    all_goals simp (disch:=omega) only [go_sem,Aa,hni,heq,hvar,Ao,Br]
   | false =>
    rw [hv] at hvar
    simp only [Bool.or_self,cond_false]
    have hful:=Tl.ful ac
    have hers:=Tl.ers ac
    have hbs:E 38 [.arr (ac.map Tl.d),.agg [.str x.name,.int .i64 (x.args.length:Nat),.bool p,.arr []],.fn 39 []] []=some (.tup [.int .i64 (Au ac (Bw x p):Nat),.bool (Fx ac (Bw x p))],[]):=UE ac (Bw x p) (by omega) hR2
    have hins:E 40 [.ref 0,.int .i64 (Au ac (Bw x p):Nat),.ref 1] [.row 57 4 (ac.map Tl.o),.row 57 4 [[.str x.name,.int x.args.length,.bool p,.ow []]]]=some (.ref 2,[.gone,.gone,.row 57 4 ((Cf ac (Bw x p)).map Tl.o)]):=Tg ac x.name x.args.length p (by omega)
    have hsa:(Bw x p).arity=x.args.length:=rfl
    have hsp:(Bw x p).pred=p:=rfl
    generalize hsy:Bw x p=sy at *
    cases hh:Fx ac sy with
    | true =>
     rw [hh] at hbs
     have hlo:=Ny hh
     have hgo:=Tl.VV hlo
     have hnl:((Au ac sy:Nat):Int).toNat=Au ac sy:=yA _
     rw [ML hR2 hh hlo,hsa,hsp]
     generalize hpr:(ac[Au ac sy]).pred=pr at *
     rcases zA l.length ac.length with q1 | q1 <;> cases bf <;> cases pr <;> cases p
     all_goals simp (disch:=omega) only [go_sem,Aa,hni,heq,hvar,hbs,hful,hers,Ao,Br,Ad,Am,A8,hgo,hnl,UF,UG]
    | false =>
     rw [hh] at hbs
     have hil:=Gg sy ac
     rw [MM hR2 hh,hsa]
     have hgr:dec (l.length<(Cf ac sy).length)=true:=AM (by omega)
     rcases zA l.length ac.length with q1 | q1 <;> cases bf
     all_goals simp (disch:=omega) only [go_sem,Aa,hni,heq,hvar,hbs,hful,hers,Ao,Br,Ad,Am,A8,hins,hgr]
theorem VB (x:Tm) (hc:x.cok=true) (ihA:∀ y∈x.args,SgA y) (ih:∀ y∈x.args,SgB y):SgA x:=by
 intro f p hn
 have hnd:=Tm.A6 x
 have hpl:=Tm.length_le x.args
 have hgl:dec (0<([]:List Tl).length)=false:=AG (by simp)
 have hm0:([]:List Tl).map Tl.o=[]:=rfl
 have hm1:([]:List Tl).map Tl.d=[]:=rfl
 have heq:=DG x
 have hvar:=Kh x hc
 have hxs:x.sv=.agg [.str x.name,.arr (x.args.map Tm.d)]:=rfl
 rw [hxs] at heq hvar ⊢
 refine Ab CX AD (of_decide_eq_true rfl) ?_
 simp (disch:=omega) only [Ck,go_sem,Aa,hxs]
 refine go_loop (α:=Int × (List Tl) × (Bool)) (fun a=>⟨slots 83 0 [(0,.ptr 0 0),(2,.bool p),(4,.ptr 1 0),(12,.arr (x.args.map Tm.d)),(13,.int .i64 x.args.length),(14,.int .i64 (a.1))],(bif dec (0<(a.2.1).length) then [.box 52 [.ref 2,.bool (a.2.2)],.box 45 [.str x.name,.arr (x.args.map Tm.d)],.row 57 4 ((a.2.1).map Tl.o)] else [.box 52 [.nil,.bool (a.2.2)],.box 45 [.str x.name,.arr (x.args.map Tm.d)]])⟩) (fun a=>∃ k:Nat,a.1=k∧k≤(x.args).length∧A7 ((a.2.1),(a.2.2)) (Tm.EU (x.args.drop k))=A7 ([],f) (Tm.EU x.args)∧upT (a.2.1)∧(a.2.1).length+Tm.A9 (x.args.drop k)+1≤1048576) (fun a=>(x.args).length-(a.1).toNat) (0,[],f) ⟨0,rfl,zI _,by rw [zG],yW,by rw [zG]; simp only [z9]; omega⟩ (by simp (disch:=omega) only [go_sem,Aa,hgl]) ?_
 rintro ⟨i,ac,bf⟩ ⟨k,hi,hk,hR⟩
 dsimp only at hi hR
 have hni:i.toNat=k:=by omega
 have hni1:(i+1).toNat=k+1:=by omega
 rcases zA k (x.args).length with hlt | hge
 ·have hg:=get_at Tm.d hlt
  rw [Tm.d_eq] at hg
  obtain ⟨hR1,hR2,hR3⟩:=hR
  rw [zC hlt,Tm.EU,GJ] at hR1
  rw [zC hlt,Tm.A9] at hR3
  have hcA:=ihA x.args[k] (zF hlt) bf false (by omega)
  have hcB:=fun h0=>ih x.args[k] (zF hlt) ac bf false hR2 h0 (by omega)
  have hys:(x.args[k]).sv=.agg [.str (x.args[k]).name,.arr ((x.args[k]).args.map Tm.d)]:=rfl
  rw [hys] at hcA hcB
  obtain ⟨a2,b2,hr⟩:∃ a2 b2,(a2,b2)=A7 (ac,bf) ((x.args[k]).sgI false):=⟨_,_,rfl⟩
  have hl2:=GK ((x.args[k]).sgI false) (ac,bf)
  have hu2:=Ir ((x.args[k]).sgI false) (s:=(ac,bf)) hR2
  have hs2:=Tm.Kj x.args[k] false
  rw [←hr] at hcB hR1 hl2 hu2
  dsimp only at hcB hR1 hl2 hu2
  rcases zA 0 ac.length with q1 | q1
  ·have hc2:=hcB q1
   rcases zA ac.length a2.length with q2 | q2
   all_goals
    have q3:0<a2.length:=by omega
    first
     |rw [AM q2] at hc2
     |rw [AG (yI.2 q2)] at hc2
    simp only [cond_true,cond_false] at hc2
    simp (disch:=omega) only [go_sem,Aa,hni,hg,hc2,AD]
    refine ⟨(i+1,a2,b2),⟨k+1,by dsimp only; omega,hlt,hR1,hu2,by dsimp only; omega⟩,by dsimp only; omega,?_⟩
    first | done | simp (disch:=omega) only [go_sem,Aa]
  ·obtain rfl:ac=[]:=zK (by omega)
   have hc2:=hcA
   rw [←hr] at hc2
   dsimp only at hc2
   rcases zA 0 a2.length with q2 | q2
   all_goals
    first
     |rw [AM q2] at hc2
     |rw [AG (yI.2 q2)] at hc2
    simp only [cond_true,cond_false] at hc2
    simp (disch:=omega) only [go_sem,Aa,hni,hg,hc2,AD]
    refine ⟨(i+1,a2,b2),⟨k+1,by dsimp only; omega,hlt,hR1,hu2,by dsimp only; omega⟩,by dsimp only; omega,?_⟩
    first | done | simp (disch:=omega) only [go_sem,Aa]
 ·rw [zD hge,Tm.EU] at hR
  obtain ⟨hR1,hR2,hR3⟩:=hR
  have hR1:(ac,bf)=A7 ([],f) (Tm.EU x.args):=hR1
  have hen:=QE x p ([],f) (ac,bf) hR1
  rw [hen]
  cases he:x.eqn with
  | true =>
   rw [he] at heq
   simp only [z7,cond_true]
   rcases zA 0 ac.length with q1 | q1
   all_goals simp (disch:=omega) only [go_sem,Aa,hni,heq,Ao]
  | false =>
   rw [he] at heq
   cases hv:AY x.name with
   | true =>
    rw [hv] at hvar
    simp only [y2,cond_true]
    rcases zA 0 ac.length with q1 | q1
    all_goals simp (disch:=omega) only [go_sem,Aa,hni,heq,hvar,Ao,Br]
   | false =>
    rw [hv] at hvar
    simp only [Bool.or_self,cond_false]
    have hful:=Tl.ful ac
    have hers:=Tl.ers ac
    have hbs:E 38 [.arr (ac.map Tl.d),.agg [.str x.name,.int .i64 (x.args.length:Nat),.bool p,.arr []],.fn 39 []] []=some (.tup [.int .i64 (Au ac (Bw x p):Nat),.bool (Fx ac (Bw x p))],[]):=UE ac (Bw x p) (by omega) hR2
    have hins:E 40 [.ref 0,.int .i64 (Au ac (Bw x p):Nat),.ref 1] [.row 57 4 (ac.map Tl.o),.row 57 4 [[.str x.name,.int x.args.length,.bool p,.ow []]]]=some (.ref 2,[.gone,.gone,.row 57 4 ((Cf ac (Bw x p)).map Tl.o)]):=Tg ac x.name x.args.length p (by omega)
    have hsa:(Bw x p).arity=x.args.length:=rfl
    have hsp:(Bw x p).pred=p:=rfl
    generalize hsy:Bw x p=sy at *
    cases hh:Fx ac sy with
    | true =>
     rw [hh] at hbs
     have q1:0<ac.length:=by have:=Ny hh; omega
     have hlo:=Ny hh
     have hgo:=Tl.VV hlo
     have hnl:((Au ac sy:Nat):Int).toNat=Au ac sy:=yA _
     rw [ML hR2 hh hlo,hsa,hsp]
     generalize hpr:(ac[Au ac sy]).pred=pr at *
     cases bf <;> cases pr <;> cases p
     all_goals simp (disch:=omega) only [go_sem,Aa,hni,heq,hvar,hbs,hful,hers,Ao,Br,Ad,Am,A8,hgo,hnl,UF,UG]
    | false =>
     rw [hh] at hbs
     have hil:=Gg sy ac
     rw [MM hR2 hh,hsa]
     have hgr:dec (0<(Cf ac sy).length)=true:=AM (by omega)
     rcases zA 0 ac.length with q1 | q1
     ·cases bf
      all_goals simp (disch:=omega) only [go_sem,Aa,hni,heq,hvar,hbs,hful,hers,Ao,Br,Ad,Am,A8,hins,hgr]
     ·obtain rfl:ac=[]:=zK (by omega)
      have hl0:Au [] sy=0:=rfl
      have hin:(Cf [] sy).map Tl.o=[[.str x.name,.int x.args.length,.bool p,.ow []]]:=by
       rw [←hsy,OJ,zE,yZ,Tl.o_eq]; rfl
      have hnn:=V9 x.name x.args.length p
      rw [hl0,hm1,Int.natCast_zero] at hbs
      rw [hin]
      cases bf
      all_goals simp (disch:=omega) only [go_sem,Aa,hni,heq,hvar,hbs,hful,hers,Ao,Br,Ad,Am,A8,hnn,hgr,hm0,hm1,Int.natCast_zero]
def A1:SC:=(.seq (.reg [⟨some 6,none,.mv (.c (.int .i64 0))⟩]) (.seq (.seq (.reg [⟨some 11,none,.mv (.t 0)⟩,⟨some 12,none,.len false (.t 11)⟩,⟨some 13,none,.mv (.c (.int .i64 0))⟩]) (.block 0 (.loop [1,1,1,0,0,0,0,0,0,0,0,1,1,1,0,0,0,0,0,0,0,0,0,0,0,0,0,0,0,0,0,0,0,0,0,0,0,0,0] (.seq (.reg [⟨some 14,none,.bin .lss false (.t 13) (.t 12)⟩]) (.seq (.cond (.t 14) .skip (.exit 0)) (.seq (.block 1 (.seq (.reg [⟨some 15,none,.mv (.t 13)⟩,⟨some 16,none,.iaddr 2 (.t 11) (.t 13)⟩,⟨some 17,none,.load true 2 (.t 16)⟩,⟨(some 8),none,(.alloc 45 [(.str ⟨#[]⟩),.nil])⟩,⟨some 7,none,.mv (.t 15)⟩,⟨none,none,(.store 2 (.t 8) (.t 17))⟩]) (.seq (.seq (.reg [⟨some 18,none,.mv (.t 7)⟩,⟨some 19,none,.mv (.t 1)⟩,⟨some 20,none,.len false (.t 19)⟩,⟨some 21,none,.bin .geq false (.t 18) (.t 20)⟩]) (.cond (.t 21) (.seq (.reg [⟨some 6,none,.mv (.c (.int .i64 1))⟩]) .ret) .skip)) (.seq (.reg [⟨some 22,none,.mv (.t 1)⟩,⟨some 23,none,.mv (.t 7)⟩,⟨some 24,none,.iaddr 2 (.t 22) (.t 23)⟩,⟨some 25,none,.load true 2 (.t 24)⟩,⟨(some 9),none,(.alloc 45 [(.str ⟨#[]⟩),.nil])⟩,⟨none,none,(.store 2 (.t 9) (.t 25))⟩]) (.seq (.reg [⟨some 26,none,.mv (.t 2)⟩,⟨some 27,none,.load true 2 (.t 8)⟩,⟨some 28,none,.load true 2 (.t 9)⟩,⟨some 29,none,.callv (.t 26) [(.t 27),(.t 28)]⟩,⟨some 10,none,.mv (.t 29)⟩]) (.seq (.reg [⟨some 30,none,.mv (.t 10)⟩,⟨some 31,none,.bin .neq false (.t 30) (.c (.int .i64 0))⟩]) (.cond (.t 31) (.seq (.reg [⟨some 32,none,.mv (.t 10)⟩,⟨some 6,none,.mv (.t 32)⟩]) .ret) .skip))))))) (.reg [⟨some 33,none,.bin .add false (.t 13) (.c (.int .i64 1))⟩,⟨some 13,none,.mv (.t 33)⟩]))))))) (.seq (.seq (.reg [⟨some 34,none,.mv (.t 0)⟩,⟨some 35,none,.len false (.t 34)⟩,⟨some 36,none,.mv (.t 1)⟩,⟨some 37,none,.len false (.t 36)⟩,⟨some 38,none,.bin .lss false (.t 35) (.t 37)⟩]) (.cond (.t 38) (.seq (.reg [⟨some 6,none,.mv (.c (.int .i64 (-(0+1))))⟩]) .ret) .skip)) (.seq (.reg [⟨some 6,none,.mv (.c (.int .i64 0))⟩]) .ret))))
theorem Bh:Aj Try.prog 72=some ⟨39,A1,[(.tmp 6)]⟩:=by kernel_rfl
theorem A2:modes 72=⟨[],.asis,none,false⟩:=by unfold modes; rfl
def C2:SC:=(.seq (.reg [⟨some 2,none,.boxv 45 2 (.t 0)⟩,⟨some 3,none,.boxv 45 2 (.t 1)⟩,⟨some 4,none,.mv (.c (.int .i64 0))⟩]) (.seq (.dreg [[],[0],[],[2,1,0],[1,0,3,2],[3,2,1,0,4]] [⟨some 8,none,.load true 2 (.t 2)⟩,⟨some 9,none,.call 37 [(.t 8)]⟩,⟨some 10,none,.load true 2 (.t 3)⟩,⟨some 11,none,.call 37 [(.t 10)]⟩,⟨some 5,none,.mv (.t 9)⟩,⟨some 6,none,.mv (.t 11)⟩]) (.seq (.block 0 (.seq (.reg [⟨some 13,none,.mv (.t 5)⟩,⟨some 14,none,.mv (.t 13)⟩,⟨(some 15),(some (14,true)),(.mv (.t 6))⟩,⟨(some 16),(some (14,true)),(.un .not (.t 15))⟩,⟨some 17,none,.pick (.t 14) (.t 16) (.c (.bool false))⟩,⟨some 12,none,.mv (.t 17)⟩]) (.cond (.t 12) (.seq (.reg [⟨some 4,none,.mv (.c (.int .i64 (-(0+1))))⟩]) .ret) (.seq (.reg [⟨some 19,none,.mv (.t 6)⟩,⟨some 20,none,.mv (.t 19)⟩,⟨(some 21),(some (20,true)),(.mv (.t 5))⟩,⟨(some 22),(some (20,true)),(.un .not (.t 21))⟩,⟨some 23,none,.pick (.t 20) (.t 22) (.c (.bool false))⟩,⟨some 18,none,.mv (.t 23)⟩]) (.cond (.t 18) (.seq (.reg [⟨some 4,none,.mv (.c (.int .i64 1))⟩]) .ret) .skip))))) (.seq (.seq (.dreg [[],[0],[],[2],[1,0,3,2],[],[5],[6,5],[],[8],[9,8],[7,6,5,10,9,8,4,1,0,3,2],[4,1,0,3,2,11,7,6,5,10,9,8],[12,4,1,0,3,2,11,7,6,5,10,9,8],[13,12,4,1,0,3,2,11,7,6,5,10,9,8]] [⟨some 24,none,.faddr 0 (.t 2)⟩,⟨some 25,none,.load false 1 (.t 24)⟩,⟨some 26,none,.faddr 0 (.t 3)⟩,⟨some 27,none,.load false 1 (.t 26)⟩,⟨some 28,none,.call 59 [(.t 25),(.t 27)]⟩,⟨some 29,none,.faddr 1 (.t 2)⟩,⟨some 30,none,.load false 1 (.t 29)⟩,⟨some 31,none,.len false (.t 30)⟩,⟨some 32,none,.faddr 1 (.t 3)⟩,⟨some 33,none,.load false 1 (.t 32)⟩,⟨some 34,none,.len false (.t 33)⟩,⟨some 35,none,.call 56 [(.t 31),(.t 34)]⟩,⟨some 36,none,.mkrow 3 1 [(.int .i64 0)] 2 [(0,(.t 28)),(1,(.t 35))]⟩,⟨some 37,none,.call 54 [(.t 36)]⟩,⟨some 7,none,.mv (.t 37)⟩]) (.seq (.reg [⟨some 38,none,.mv (.t 7)⟩,⟨some 39,none,.bin .neq false (.t 38) (.c (.int .i64 0))⟩]) (.cond (.t 39) (.seq (.reg [⟨some 40,none,.mv (.t 7)⟩,⟨some 4,none,.mv (.t 40)⟩]) .ret) .skip))) (.seq (.reg [⟨some 41,none,.faddr 1 (.t 2)⟩,⟨some 42,none,.load false 1 (.t 41)⟩,⟨some 43,none,.faddr 1 (.t 3)⟩,⟨some 44,none,.load false 1 (.t 43)⟩,⟨some 45,none,.call 72 [(.t 42),(.t 44),(.c (.fn 55 []))]⟩,⟨some 4,none,.mv (.t 45)⟩]) .ret)))))
theorem DA:Aj Try.prog 55=some ⟨46,C2,[(.tmp 4)]⟩:=by kernel_rfl
theorem BN:modes 55=⟨[],.asis,none,false⟩:=by unfold modes; rfl
theorem GQ:Hx Try.prog 55=true:=by kernel_rfl
theorem LI (fid:Nat) (xs ys:List Tm) (hl:xs.length≤1099511627776) (hl':ys.length≤1099511627776) (hg:Hx Try.prog fid=true) (hm:(modes fid).hand=[]) (hE:∀ x∈xs,∀ y∈ys,E fid [x.sv,y.sv] []=some (.int .i64 (x.cmp y),[])):E 72 [.arr (xs.map Tm.d),.arr (ys.map Tm.d),.fn fid []] []=some (.int .i64 (Tm.FE xs ys),[]):=by
 refine Ab Bh A2 (of_decide_eq_true rfl) ?_
 simp (disch:=omega) only [A1,go_sem,Aa]
 refine go_loop (α:=Int) (fun a=>⟨slots 39 0 [(0,.arr (xs.map Tm.d)),(1,.arr (ys.map Tm.d)),(2,.fn fid []),(11,.arr (xs.map Tm.d)),(12,.int .i64 xs.length),(13,.int .i64 a)],[]⟩) (fun a=>∃ k:Nat,a=k∧k≤(xs).length∧k≤ys.length∧Tm.FE (xs.drop k) (ys.drop k)=Tm.FE xs ys) (fun a=>(xs).length-(a).toNat) 0 ⟨0,rfl,zI _,zI _,by rw [zG,zG]⟩ (by simp (disch:=omega) only [go_sem,Aa]) ?_
 rintro i ⟨k,hi,hk,hR⟩
 have hni:i.toNat=k:=by omega
 have hni1:(i+1).toNat=k+1:=by omega
 rcases zA k (xs).length with hlt | hge
 ·obtain ⟨hk',hR⟩:=hR
  have hgx:=get_at Tm.d hlt
  rw [Tm.d_eq] at hgx
  rcases zA k ys.length with hlt' | hge'
  ·have hgy:=get_at Tm.d hlt'
   rw [Tm.d_eq] at hgy
   have hc:=hE xs[k] (zF hlt) ys[k] (zF hlt')
   rw [MC hlt hlt'] at hR
   by_cases h0:xs[k].cmp ys[k]=0
   ·rw [orZ,if_pos h0] at hR
    rw [h0] at hc
    simp (disch:=omega) only [go_sem,Aa,hni,hgx,hgy,hc,hg,hm]
    exact ⟨i+1,⟨k+1,by omega,hlt,hlt',hR⟩,by omega,by first | trivial | rfl⟩
   ·rw [orZ,if_neg h0] at hR
    simp (disch:=omega) only [go_sem,Aa,hni,hgx,hgy,hc,hg,hm,h0]
    exact hR
  ·rw [PR hlt hge'] at hR
   simp (disch:=omega) only [go_sem,Aa,hni,hgx]
   exact hR
 ·obtain ⟨hk',hR⟩:=hR
  obtain rfl:k=xs.length:=by omega
  rcases zA xs.length ys.length with hlt' | hge'
  ·rw [Td (zL _) hlt'] at hR
   simp (disch:=omega) only [go_sem,Aa,hni]
   exact hR
  ·rw [MD (zL _) hge'] at hR
   simp (disch:=omega) only [go_sem,Aa,hni]
   exact hR
abbrev RB (f:FuncId) (x y:Tm):Prop:=x.cok=true→y.cok=true→x.nodes≤1099511627776→y.nodes≤1099511627776→E f [x.sv,y.sv] []=some (.int .i64 (x.cmp y),[])
theorem JM (x:Tm) (ih:∀ x'∈x.args,∀ y,RB 55 x' y) (y:Tm):RB 55 x y:=by
 intro hx hy hnx hny
 have lx:=Tm.length_le x.args
 have ly:=Tm.length_le y.args
 have nx:=Tm.A6 x
 have ny:=Tm.A6 y
 have h1:=Kh x hx
 have h2:=Kh y hy
 have h3:=Ld x.name y.name
 have h4:=HH x.args.length y.args.length
 have h5:=Te (Fw x.name y.name) (HD x.args.length y.args.length)
 rw [Tm.Lb,zB] at hx hy
 have h6:=LI 55 x.args y.args (by omega) (by omega) GQ (by rw [BN]) fun x' hx' y' hy'=>ih x' hx' y' (Tm.Il hx.2 hx') (Tm.Il hy.2 hy') (by have:=Tm.CJ hx'; omega) (by have:=Tm.CJ hy'; omega)
 rw [Tm.Tc]
 cases vx:AY x.name <;> rw [vx] at h1 <;> cases vy:AY y.name <;> rw [vy] at h2
 all_goals
  simp only [xB,y8,zP,zY,zZ,zO,if_true,if_false,yE]
  by_cases h0:orZ (Fw x.name y.name) (HD x.args.length y.args.length)=0
  ·rw [h0] at h5
   try rw [h0]
   refine Ab DA BN (of_decide_eq_true rfl) ?_
   simp (disch:=omega) only [C2,go_sem,Aa,h1,h2,h3,h4,h5,h6,Br,AT,AZ,CP,A2]
   try rfl
  ·try rw [orZ.eq_1 (orZ _ _) _,if_neg h0]
   refine Ab DA BN (of_decide_eq_true rfl) ?_
   simp (disch:=omega) only [C2,go_sem,Aa,h0,h1,h2,h3,h4,h5,Br,AT,AZ,CP]
theorem Gi (x y:Tm):RB 55 x y:=JM x (fun x' hx' y'=>Gi x' y') y
termination_by SizeOf.sizeOf x
decreasing_by exact Tm.Av hx'
def Dn:SC:=(.seq (.reg [⟨some 4,none,.mv (.c (.int .i64 0))⟩]) (.seq (.block 0 (.seq (.reg [⟨some 6,none,.mv (.t 0)⟩,⟨some 7,none,.mv (.t 1)⟩,⟨some 8,none,.bin .lss false (.t 6) (.t 7)⟩,⟨some 5,none,.mv (.t 8)⟩]) (.cond (.t 5) (.seq (.reg [⟨some 4,none,.mv (.c (.int .i64 (-(0+1))))⟩]) .ret) (.seq (.reg [⟨some 10,none,.mv (.t 0)⟩,⟨some 11,none,.mv (.t 1)⟩,⟨some 12,none,.bin .gtr false (.t 10) (.t 11)⟩,⟨some 9,none,.mv (.t 12)⟩]) (.cond (.t 9) (.seq (.reg [⟨some 4,none,.mv (.c (.int .i64 1))⟩]) .ret) .skip))))) (.seq (.reg [⟨some 4,none,.mv (.c (.int .i64 0))⟩]) .ret)))
theorem E6:Aj Try.prog 66=some ⟨13,Dn,[(.tmp 4)]⟩:=by kernel_rfl
theorem Do:modes 66=⟨[],.asis,none,false⟩:=by unfold modes; rfl
def Bm:SC:=(.seq (.reg [⟨some 2,none,.boxv 45 2 (.t 0)⟩,⟨some 3,none,.boxv 45 2 (.t 1)⟩,⟨some 4,none,.mv (.c (.int .i64 0))⟩]) (.seq (.dreg [[],[0],[1,0],[],[3],[4,3,2,1,0],[2,1,0,5,4,3],[5,4,3,2,1,0,6]] [⟨some 9,none,.faddr 0 (.t 2)⟩,⟨some 10,none,.load false 1 (.t 9)⟩,⟨some 11,none,.call 30 [(.t 10)]⟩,⟨some 12,none,.faddr 0 (.t 3)⟩,⟨some 13,none,.load false 1 (.t 12)⟩,⟨some 14,none,.call 30 [(.t 13)]⟩,⟨some 5,none,.mv (.t 11)⟩,⟨some 6,none,.mv (.t 14)⟩]) (.seq (.block 0 (.seq (.reg [⟨some 16,none,.mv (.t 5)⟩,⟨some 17,none,.mv (.t 16)⟩,⟨(some 18),(some (17,true)),(.mv (.t 6))⟩,⟨(some 19),(some (17,true)),(.un .not (.t 18))⟩,⟨some 20,none,.pick (.t 17) (.t 19) (.c (.bool false))⟩,⟨some 15,none,.mv (.t 20)⟩]) (.cond (.t 15) (.seq (.reg [⟨some 4,none,.mv (.c (.int .i64 (-(0+1))))⟩]) .ret) (.seq (.reg [⟨some 22,none,.mv (.t 5)⟩,⟨some 23,none,.un .not (.t 22)⟩,⟨some 24,none,.mv (.t 23)⟩,⟨(some 25),(some (24,true)),(.mv (.t 6))⟩,⟨some 26,none,.pick (.t 24) (.t 25) (.c (.bool false))⟩,⟨some 21,none,.mv (.t 26)⟩]) (.cond (.t 21) (.seq (.reg [⟨some 4,none,.mv (.c (.int .i64 1))⟩]) .ret) (.seq (.reg [⟨some 28,none,.faddr 0 (.t 2)⟩,⟨some 29,none,.load false 1 (.t 28)⟩,⟨some 30,none,.faddr 0 (.t 3)⟩,⟨some 31,none,.load false 1 (.t 30)⟩,⟨some 32,none,.bin .neq false (.t 29) (.t 31)⟩,⟨some 27,none,.mv (.t 32)⟩]) (.cond (.t 27) (.seq (.reg [⟨some 33,none,.faddr 0 (.t 2)⟩,⟨some 34,none,.load false 1 (.t 33)⟩,⟨some 35,none,.faddr 0 (.t 3)⟩,⟨some 36,none,.load false 1 (.t 35)⟩,⟨some 37,none,.call 66 [(.t 34),(.t 36)]⟩,⟨some 4,none,.mv (.t 37)⟩]) .ret) (.seq (.reg [⟨some 39,none,.faddr 1 (.t 2)⟩,⟨some 40,none,.load false 1 (.t 39)⟩,⟨some 41,none,.len false (.t 40)⟩,⟨some 42,none,.faddr 1 (.t 3)⟩,⟨some 43,none,.load false 1 (.t 42)⟩,⟨some 44,none,.len false (.t 43)⟩,⟨some 45,none,.bin .lss false (.t 41) (.t 44)⟩,⟨some 38,none,.mv (.t 45)⟩]) (.cond (.t 38) (.seq (.reg [⟨some 4,none,.mv (.c (.int .i64 (-(0+1))))⟩]) .ret) (.seq (.reg [⟨some 47,none,.faddr 1 (.t 2)⟩,⟨some 48,none,.load false 1 (.t 47)⟩,⟨some 49,none,.len false (.t 48)⟩,⟨some 50,none,.faddr 1 (.t 3)⟩,⟨some 51,none,.load false 1 (.t 50)⟩,⟨some 52,none,.len false (.t 51)⟩,⟨some 53,none,.bin .gtr false (.t 49) (.t 52)⟩,⟨some 46,none,.mv (.t 53)⟩]) (.cond (.t 46) (.seq (.reg [⟨some 4,none,.mv (.c (.int .i64 1))⟩]) .ret) .skip))))))))))) (.seq (.seq (.reg [⟨some 7,none,.mv (.c (.int .i64 0))⟩]) (.block 1 (.loop [0,0,1,1,0,0,0,1,0,0,0,0,0,0,0,0,0,0,0,0,0,0,0,0,0,0,0,0,0,0,0,0,0,0,0,0,0,0,0,0,0,0,0,0,0,0,0,0,0,0,0,0,0,0,0,0,0,0,0,0,0,0,0,0,0,0,0,0,0,0,0,0,0,0,0] (.seq (.seq (.reg [⟨some 54,none,.mv (.t 7)⟩,⟨some 55,none,.faddr 1 (.t 2)⟩,⟨some 56,none,.load false 1 (.t 55)⟩,⟨some 57,none,.len false (.t 56)⟩,⟨some 58,none,.bin .lss false (.t 54) (.t 57)⟩]) (.cond (.t 58) .skip (.exit 1))) (.seq (.block 2 (.seq (.dreg [[],[0],[],[1,0,2],[3,1,0,2],[],[5],[],[6,5,7],[8,6,5,7],[4,3,1,0,2,9,8,6,5,7],[10,4,3,1,0,2,9,8,6,5,7]] [⟨some 61,none,.faddr 1 (.t 2)⟩,⟨some 62,none,.load false 1 (.t 61)⟩,⟨some 63,none,.mv (.t 7)⟩,⟨some 64,none,.iaddr 2 (.t 62) (.t 63)⟩,⟨some 65,none,.load true 2 (.t 64)⟩,⟨some 66,none,.faddr 1 (.t 3)⟩,⟨some 67,none,.load false 1 (.t 66)⟩,⟨some 68,none,.mv (.t 7)⟩,⟨some 69,none,.iaddr 2 (.t 67) (.t 68)⟩,⟨some 70,none,.load true 2 (.t 69)⟩,⟨some 71,none,.call 49 [(.t 65),(.t 70)]⟩,⟨some 8,none,.mv (.t 71)⟩]) (.seq (.reg [⟨some 72,none,.mv (.t 8)⟩,⟨some 73,none,.bin .neq false (.t 72) (.c (.int .i64 0))⟩]) (.cond (.t 73) (.seq (.reg [⟨some 74,none,.mv (.t 8)⟩,⟨some 4,none,.mv (.t 74)⟩]) .ret) .skip)))) (.reg [⟨some 59,none,.mv (.t 7)⟩,⟨some 60,none,.bin .add false (.t 59) (.c (.int .i64 1))⟩,⟨some 7,none,.mv (.t 60)⟩])))))) (.seq (.reg [⟨some 4,none,.mv (.c (.int .i64 0))⟩]) .ret)))))
theorem B5:Aj Try.prog 49=some ⟨75,Bm,[(.tmp 4)]⟩:=by kernel_rfl
theorem AB:modes 49=⟨[],.asis,none,false⟩:=by unfold modes; rfl
theorem Th (a b:ByteArray):E 66 [.str a,.str b] []=some (.int .i64 (Fw a b),[]):=by
 unfold Fw
 cases h3:strLt a b
 ·cases h4:dec (a=b)
  ·refine Ab E6 Do (of_decide_eq_true rfl) ?_
   simp (disch:=omega) only [Dn,go_sem,Aa,h3,h4]
  ·refine Ab E6 Do (of_decide_eq_true rfl) ?_
   simp (disch:=omega) only [Dn,go_sem,Aa,h3,h4]
 ·refine Ab E6 Do (of_decide_eq_true rfl) ?_
  simp (disch:=omega) only [Dn,go_sem,Aa,h3]
theorem U1 {a b:ByteArray} (h:¬ a=b):Fw a b≠0:=by
 unfold Fw
 rw [AG h]
 cases strLt a b <;> simp
theorem U2 (a:ByteArray):Fw a a=0:=by
 unfold Fw
 rw [Lc,AM rfl]; rfl
theorem N0 (x:Tm) (ih:∀ x'∈x.args,∀ y,RB 49 x' y) (y:Tm):RB 49 x y:=by
 intro hx hy hnx hny
 have lx:=Tm.length_le x.args
 have ly:=Tm.length_le y.args
 have nx:=Tm.A6 x
 have ny:=Tm.A6 y
 have h1:=Kg x.name
 have h2:=Kg y.name
 have h3:=Th x.name y.name
 rw [Tm.Lb,zB] at hx hy
 rw [Tm.Tc]
 cases vx:AY x.name <;> rw [vx] at h1 <;> cases vy:AY y.name <;> rw [vy] at h2
 case' false.true =>
           refine Ab B5 AB (of_decide_eq_true rfl) ?_
           simp (disch:=omega) only [Bm,go_sem,Aa,h1,h2,Aq]
 case' true.false =>
           refine Ab B5 AB (of_decide_eq_true rfl) ?_
           simp (disch:=omega) only [Bm,go_sem,Aa,h1,h2,Aq]
 case' false.false=>skip
 case' true.true=>skip
 all_goals (try trivial)
 all_goals
  simp only [xB,y8,zP,zY,zZ,zO,if_true,if_false,yE]
  by_cases h0:x.name=y.name
  ·rw [show Fw x.name y.name=0 by rw [h0]; exact U2 _]
   unfold HD
   rcases zA x.args.length y.args.length with h4 | h4
   ·rw [AM (by omega)]
    refine Ab B5 AB (of_decide_eq_true rfl) ?_
    simp (disch:=omega) only [Bm,go_sem,Aa,h0,h1,h2,Aq]
    rfl
   ·rcases zA y.args.length x.args.length with h5 | h5
    ·rw [AG (by omega),AM (by omega)]
     refine Ab B5 AB (of_decide_eq_true rfl) ?_
     simp (disch:=omega) only [Bm,go_sem,Aa,h0,h1,h2,Aq]
     rfl
    ·rw [AG (by omega),AG (by omega)]
     refine Ab B5 AB (of_decide_eq_true rfl) ?_
     simp (disch:=omega) only [Bm,go_sem,Aa,h0,h1,h2,Aq]
     refine go_loop (α:=Int) (fun a=>⟨slots 75 0 [(2,.ptr 0 0),(3,.ptr 1 0),(7,.int .i64 a)],[.box 45 [.str x.name,.arr (x.args.map Tm.d)],.box 45 [.str y.name,.arr (y.args.map Tm.d)]]⟩) (fun a=>∃ k:Nat,a=k∧k≤(x.args).length∧Tm.FE (x.args.drop k) (y.args.drop k)=Tm.FE x.args y.args) (fun a=>(x.args).length-(a).toNat) 0 ⟨0,rfl,zI _,by rw [zG,zG]⟩ (by simp (disch:=omega) only [go_sem,Aa,h0]) ?_
     rintro i ⟨k,hi,hk,hR⟩
     have hni:i.toNat=k:=by omega
     have hni1:(i+1).toNat=k+1:=by omega
     rcases zA k (x.args).length with hlt | hge
     ·have hlt':k<y.args.length:=by omega
      have hgx:=get_at Tm.d hlt
      rw [Tm.d_eq] at hgx
      have hgy:=get_at Tm.d hlt'
      rw [Tm.d_eq] at hgy
      have hc:=ih x.args[k] (zF hlt) y.args[k] (Tm.Il hx.2 (zF hlt)) (Tm.Il hy.2 (zF hlt')) (by have:=Tm.Dz x.args k hlt; omega) (by have:=Tm.Dz y.args k hlt'; omega)
      rw [MC hlt hlt'] at hR
      by_cases hz:x.args[k].cmp y.args[k]=0
      ·rw [orZ,if_pos hz] at hR
       rw [hz] at hc
       simp (disch:=omega) only [go_sem,Aa,hni,hgx,hgy,hc,AB]
       exact ⟨i+1,⟨k+1,by omega,hlt,hR⟩,by omega,by first | trivial | rfl | simp only [h0,and_self]⟩
      ·rw [orZ,if_neg hz] at hR
       simp (disch:=omega) only [go_sem,Aa,hni,hgx,hgy,hc,hz,AB]
       exact hR
     ·rw [MD hge (by omega)] at hR
      simp (disch:=omega) only [go_sem,Aa,hni]
      exact hR
  ·have h6:=U1 h0
   rw [show orZ (orZ (Fw x.name y.name) (HD x.args.length y.args.length)) (Tm.FE x.args y.args)=Fw x.name y.name by unfold orZ; rw [if_neg h6,if_neg h6]]
   refine Ab B5 AB (of_decide_eq_true rfl) ?_
   simp (disch:=omega) only [Bm,go_sem,Aa,h0,h1,h2,h3,Aq,Do]
theorem JC (x y:Tm):RB 49 x y:=N0 x (fun x' hx' y'=>JC x' y') y
termination_by SizeOf.sizeOf x
decreasing_by exact Tm.Av hx'
noncomputable def RC (xs:List Lt) (k:Nat):Bool:=match xs[k]? with
 | none=>true
 | some x=>x.atom.atom&&(match k with
  | 0=>true
  | j+1=>match xs[j]? with
   | none=>true
   | some y=>decide (y.cmp x < 0))
noncomputable def FF (xs:List Lt):Nat→Bool
 | 0=>true
 | k+1=>FF xs k&&RC xs k
theorem RD {xs:List Lt} {k n:Nat} (h:FF xs k=false) (hn:k≤n):FF xs n=false:=by
 induction n with
 | zero =>
      obtain rfl:k=0:=by omega
      exact h
 | succ n ih =>
  rcases zA n k with h1 | h1
  ·obtain rfl:k=n+1:=by omega
   exact h
  ·rw [FF,ih h1]; rfl
theorem EW {xs:List Lt} (h:0<xs.length):RC xs 0=xs[0].atom.atom:=by
 unfold RC
 rw [zM h]
 simp
theorem Dj {xs:List Lt} {j:Nat} (h:j+1<xs.length):RC xs (j+1)=(xs[j+1].atom.atom&&decide (xs[j].cmp xs[j+1]<0)):=by
 unfold RC
 rw [zM h]
 simp only [zM (show j<xs.length by omega)]
theorem Jc {xs:List Lt} {k j:Nat} (h:FF xs k=true) (hj:j<k) (hl:j<xs.length):xs[j].atom.atom=true:=by
 induction k with
 | zero=>omega
 | succ k ih =>
  rw [FF,zB] at h
  rcases zA j k with h1 | h1
  ·exact ih h.1 h1
  ·obtain rfl:j=k:=by omega
   cases j with
   | zero=>rw [←EW hl]; exact h.2
   | succ j =>
    have:=h.2
    rw [Dj hl,zB] at this
    exact this.1
noncomputable def Cl.ok (x:Cl):Bool:=decide (x.lits.length≤8)&&FF x.lits x.lits.length
theorem Cl.N1 {x:Cl} {k:Nat} (h:FF x.lits k=true) (h':RC x.lits k=false) (hk:k<x.lits.length):x.ok=false:=by
 have:FF x.lits x.lits.length=false:=RD (k:=k+1) (by rw [FF,h,h']; rfl) (by omega)
 unfold Cl.ok
 rw [this,zY]
def Cl.tame (x:Cl):Prop:=x.lits.length≤1099511627776∧∀ y∈x.lits,y.atom.nodes≤1099511627776
theorem Cl.GM {x:Cl} (h:x.tame) {k:Nat} (hk:k<x.lits.length):x.lits[k].atom.nodes≤1099511627776:=h.2 _ (zF hk)
def Gj:SC:=(.seq (.reg [⟨some 2,none,.mv (.c (.int .i64 0))⟩]) (.seq (.seq (.reg [⟨some 3,none,.mv (.t 0)⟩]) (.cond (.t 3) (.seq (.reg [⟨some 2,none,.mv (.c (.int .i64 1))⟩]) .ret) .skip)) (.seq (.reg [⟨some 2,none,.mv (.c (.int .i64 0))⟩]) .ret)))
theorem JD:Aj Try.prog 57=some ⟨4,Gj,[(.tmp 2)]⟩:=by kernel_rfl
theorem Gk:modes 57=⟨[],.asis,none,false⟩:=by unfold modes; rfl
def CQ:SC:=(.seq (.reg [⟨some 2,none,.boxv 47 3 (.t 0)⟩,⟨some 3,none,.boxv 47 3 (.t 1)⟩,⟨some 4,none,.mv (.c (.int .i64 0))⟩]) (.seq (.dreg [[],[0],[],[2],[1,0,3,2],[],[5],[6,5,4,1,0,3,2],[],[8],[9,8,7,6,5,4,1,0,3,2],[7,6,5,4,1,0,3,2,10,9,8],[4,1,0,3,2,11,7,6,5,10,9,8],[12,4,1,0,3,2,11,7,6,5,10,9,8],[13,12,4,1,0,3,2,11,7,6,5,10,9,8]] [⟨some 5,none,.faddr 1 (.t 2)⟩,⟨some 6,none,.load true 2 (.t 5)⟩,⟨some 7,none,.faddr 1 (.t 3)⟩,⟨some 8,none,.load true 2 (.t 7)⟩,⟨some 9,none,.call 55 [(.t 6),(.t 8)]⟩,⟨some 10,none,.faddr 0 (.t 2)⟩,⟨some 11,none,.load false 1 (.t 10)⟩,⟨some 12,none,.call 57 [(.t 11)]⟩,⟨some 13,none,.faddr 0 (.t 3)⟩,⟨some 14,none,.load false 1 (.t 13)⟩,⟨some 15,none,.call 57 [(.t 14)]⟩,⟨some 16,none,.call 56 [(.t 12),(.t 15)]⟩,⟨some 17,none,.mkrow 3 1 [(.int .i64 0)] 2 [(0,(.t 9)),(1,(.t 16))]⟩,⟨some 18,none,.call 54 [(.t 17)]⟩,⟨some 4,none,.mv (.t 18)⟩]) .ret))
theorem Fy:Aj Try.prog 35=some ⟨19,CQ,[(.tmp 4)]⟩:=by kernel_rfl
theorem Ba:modes 35=⟨[],.asis,none,false⟩:=by unfold modes; rfl
def CR:SC:=(.seq (.reg [⟨some 2,none,.boxv 47 3 (.t 0)⟩,⟨some 3,none,.boxv 47 3 (.t 1)⟩,⟨some 4,none,.mv (.c (.int .i64 0))⟩]) (.seq (.reg [⟨some 6,none,.faddr 1 (.t 2)⟩,⟨some 7,none,.load true 2 (.t 6)⟩,⟨some 8,none,.faddr 1 (.t 3)⟩,⟨some 9,none,.load true 2 (.t 8)⟩,⟨some 10,none,.call 49 [(.t 7),(.t 9)]⟩,⟨some 5,none,.mv (.t 10)⟩]) (.seq (.block 0 (.seq (.reg [⟨some 12,none,.mv (.t 5)⟩,⟨some 13,none,.bin .neq false (.t 12) (.c (.int .i64 0))⟩,⟨some 11,none,.mv (.t 13)⟩]) (.cond (.t 11) (.seq (.reg [⟨some 14,none,.mv (.t 5)⟩,⟨some 4,none,.mv (.t 14)⟩]) .ret) (.seq (.reg [⟨some 16,none,.faddr 0 (.t 2)⟩,⟨some 17,none,.load false 1 (.t 16)⟩,⟨some 18,none,.un .not (.t 17)⟩,⟨some 19,none,.mv (.t 18)⟩,⟨(some 20),(some (19,true)),(.faddr 0 (.t 3))⟩,⟨(some 21),(some (19,true)),(.load false 1 (.t 20))⟩,⟨some 22,none,.pick (.t 19) (.t 21) (.c (.bool false))⟩,⟨some 15,none,.mv (.t 22)⟩]) (.cond (.t 15) (.seq (.reg [⟨some 4,none,.mv (.c (.int .i64 (-(0+1))))⟩]) .ret) (.seq (.reg [⟨some 24,none,.faddr 0 (.t 2)⟩,⟨some 25,none,.load false 1 (.t 24)⟩,⟨some 26,none,.mv (.t 25)⟩,⟨(some 27),(some (26,true)),(.faddr 0 (.t 3))⟩,⟨(some 28),(some (26,true)),(.load false 1 (.t 27))⟩,⟨(some 29),(some (26,true)),(.un .not (.t 28))⟩,⟨some 30,none,.pick (.t 26) (.t 29) (.c (.bool false))⟩,⟨some 23,none,.mv (.t 30)⟩]) (.cond (.t 23) (.seq (.reg [⟨some 4,none,.mv (.c (.int .i64 1))⟩]) .ret) .skip))))))) (.seq (.reg [⟨some 4,none,.mv (.c (.int .i64 0))⟩]) .ret))))
theorem Er:Aj Try.prog 29=some ⟨31,CR,[(.tmp 4)]⟩:=by kernel_rfl
theorem Bx:modes 29=⟨[],.asis,none,false⟩:=by unfold modes; rfl
def CY:SC:=(.seq (.reg [⟨some 1,none,.boxv 47 3 (.t 0)⟩,⟨some 2,none,.mv (.c (.bool false))⟩]) (.seq (.reg [⟨some 3,none,.faddr 1 (.t 1)⟩,⟨some 4,none,.load true 2 (.t 3)⟩,⟨some 5,none,.call 53 [(.t 4)]⟩,⟨some 2,none,.mv (.t 5)⟩]) .ret))
theorem FG:Aj Try.prog 34=some ⟨6,CY,[(.tmp 2)]⟩:=by kernel_rfl
theorem Bj:modes 34=⟨[],.asis,none,false⟩:=by unfold modes; rfl
def D2:SC:=(.seq (.reg [⟨some 1,none,.boxv 41 1 (.t 0)⟩,⟨some 2,none,.mv (.c (.bool false))⟩]) (.seq (.seq (.reg [⟨some 5,none,.faddr 0 (.t 1)⟩,⟨some 6,none,.load false 1 (.t 5)⟩,⟨some 7,none,.len false (.t 6)⟩,⟨some 8,none,.mv (.c (.int .i64 0))⟩]) (.block 0 (.loop [0,1,0,0,0,0,1,1,1,0,0,0,0,0,0,0,0,0,0,0,0,0,0,0,0,0,0,0,0,0,0,0,0,0,0,0] (.seq (.reg [⟨some 9,none,.bin .lss false (.t 8) (.t 7)⟩]) (.seq (.cond (.t 9) .skip (.exit 0)) (.seq (.block 1 (.seq (.reg [⟨some 10,none,.mv (.t 8)⟩,⟨some 11,none,.iaddr 3 (.t 6) (.t 8)⟩,⟨some 12,none,.load true 3 (.t 11)⟩,⟨(some 4),none,(.alloc 47 [(.bool false),(.str ⟨#[]⟩),.nil])⟩,⟨some 3,none,.mv (.t 10)⟩,⟨none,none,(.store 3 (.t 4) (.t 12))⟩]) (.seq (.dreg [[],[0],[1,0],[2,1,0],[3,2,1,0],[4,3,2,1,0],[5,4,3,2,1,0],[6,5,4,3,2,1,0],[7,6,5,4,3,2,1,0],[6,5,4,3,2,1,0],[9,6,5,4,3,2,1,0],[8,7,6,5,4,3,2,1,0,10,9],[11,8,7,6,5,4,3,2,1,0,10,9],[6,5,4,3,2,1,0],[12,11,8,7,6,5,4,3,2,1,0,10,9,13],[14,12,11,8,7,6,5,4,3,2,1,0,10,9,13],[6,5,4,3,2,1,0,15,14,12,11,8,7,10,9,13],[3,2,1,0,16,6,5,4,15,14,12,11,8,7,10,9,13]] [⟨some 13,none,.load true 3 (.t 4)⟩,⟨some 14,none,.call 34 [(.t 13)]⟩,⟨some 15,none,.un .not (.t 14)⟩,⟨some 16,none,.mv (.t 15)⟩,⟨(some 17),(some (16,false)),(.mv (.t 3))⟩,⟨(some 18),(some (16,false)),(.bin .gtr false (.t 17) (.c (.int .i64 0)))⟩,⟨(some 19),(some (16,false)),(.mv (.t 18))⟩,⟨(some 20),(some (19,true)),(.faddr 0 (.t 1))⟩,⟨(some 21),(some (19,true)),(.load false 1 (.t 20))⟩,⟨(some 22),(some (19,true)),(.mv (.t 3))⟩,⟨(some 23),(some (19,true)),(.bin .sub false (.t 22) (.c (.int .i64 1)))⟩,⟨(some 24),(some (19,true)),(.iaddr 3 (.t 21) (.t 23))⟩,⟨(some 25),(some (19,true)),(.load true 3 (.t 24))⟩,⟨(some 26),(some (19,true)),(.load true 3 (.t 4))⟩,⟨(some 27),(some (19,true)),(.call 35 [(.t 25),(.t 26)])⟩,⟨(some 28),(some (19,true)),(.bin .geq false (.t 27) (.c (.int .i64 0)))⟩,⟨(some 29),(some (16,false)),(.pick (.t 19) (.t 28) (.c (.bool false)))⟩,⟨some 30,none,.pick (.t 16) (.c (.bool true)) (.t 29)⟩]) (.cond (.t 30) (.seq (.reg [⟨some 2,none,.mv (.c (.bool false))⟩]) .ret) .skip)))) (.reg [⟨some 31,none,.bin .add false (.t 8) (.c (.int .i64 1))⟩,⟨some 8,none,.mv (.t 31)⟩]))))))) (.seq (.reg [⟨some 32,none,.faddr 0 (.t 1)⟩,⟨some 33,none,.load false 1 (.t 32)⟩,⟨some 34,none,.len false (.t 33)⟩,⟨some 35,none,.bin .leq false (.t 34) (.c (.int .i64 8))⟩,⟨some 2,none,.mv (.t 35)⟩]) .ret)))
theorem Gl:Aj Try.prog 19=some ⟨36,D2,[(.tmp 2)]⟩:=by kernel_rfl
theorem D3:modes 19=⟨[],.asis,none,false⟩:=by unfold modes; rfl
def E7:SC:=(.seq (.reg [⟨some 1,none,.boxv 41 1 (.t 0)⟩,⟨some 2,none,.mv (.c (.bool false))⟩]) (.seq (.seq (.reg [⟨some 4,none,.faddr 0 (.t 1)⟩,⟨some 5,none,.load false 1 (.t 4)⟩,⟨some 6,none,.len false (.t 5)⟩,⟨some 7,none,.bin .gtr false (.t 6) (.c (.int .i64 8))⟩]) (.cond (.t 7) (.seq (.reg [⟨some 2,none,.mv (.c (.bool false))⟩]) .ret) .skip)) (.seq (.seq (.reg [⟨some 3,none,.mv (.c (.int .i64 0))⟩]) (.block 0 (.loop [0,1,0,1,0,0,0,0,0,0,0,0,0,0,0,0,0,0,0,0,0,0,0,0,0,0,0,0,0,0,0,0,0,0,0,0,0,0,0,0,0,0] (.seq (.seq (.reg [⟨some 8,none,.mv (.t 3)⟩,⟨some 9,none,.faddr 0 (.t 1)⟩,⟨some 10,none,.load false 1 (.t 9)⟩,⟨some 11,none,.len false (.t 10)⟩,⟨some 12,none,.bin .lss false (.t 8) (.t 11)⟩]) (.cond (.t 12) .skip (.exit 0))) (.seq (.block 1 (.seq (.dreg [[],[0],[],[1,0,2],[3,1,0,2],[4,3,1,0,2],[5,4,3,1,0,2],[6,5,4,3,1,0,2],[7,6,5,4,3,1,0,2],[8,7,6,5,4,3,1,0,2],[9,8,7,6,5,4,3,1,0,2],[10,9,8,7,6,5,4,3,1,0,2],[11,10,9,8,7,6,5,4,3,1,0,2],[12,11,10,9,8,7,6,5,4,3,1,0,2],[11,10,9,8,7,6,5,4,3,1,0,2],[14,11,10,9,8,7,6,5,4,3,1,0,2],[13,12,11,10,9,8,7,6,5,4,3,1,0,2,15,14],[16,13,12,11,10,9,8,7,6,5,4,3,1,0,2,15,14],[11,10,9,8,7,6,5,4,3,1,0,2],[18,11,10,9,8,7,6,5,4,3,1,0,2],[11,10,9,8,7,6,5,4,3,1,0,2],[19,18,11,10,9,8,7,6,5,4,3,1,0,2,20],[21,19,18,11,10,9,8,7,6,5,4,3,1,0,2,20],[17,16,13,12,11,10,9,8,7,6,5,4,3,1,0,2,15,14,22,21,19,18,20],[23,17,16,13,12,11,10,9,8,7,6,5,4,3,1,0,2,15,14,22,21,19,18,20],[11,10,9,8,7,6,5,4,3,1,0,2,24,23,17,16,13,12,15,14,22,21,19,18,20],[8,7,6,5,4,3,1,0,2,25,11,10,9,24,23,17,16,13,12,15,14,22,21,19,18,20]] [⟨some 15,none,.faddr 0 (.t 1)⟩,⟨some 16,none,.load false 1 (.t 15)⟩,⟨some 17,none,.mv (.t 3)⟩,⟨some 18,none,.iaddr 3 (.t 16) (.t 17)⟩,⟨some 19,none,.faddr 1 (.t 18)⟩,⟨some 20,none,.load true 2 (.t 19)⟩,⟨some 21,none,.call 28 [(.t 20)]⟩,⟨some 22,none,.un .not (.t 21)⟩,⟨some 23,none,.mv (.t 22)⟩,⟨(some 24),(some (23,false)),(.mv (.t 3))⟩,⟨(some 25),(some (23,false)),(.bin .gtr false (.t 24) (.c (.int .i64 0)))⟩,⟨(some 26),(some (23,false)),(.mv (.t 25))⟩,⟨(some 27),(some (26,true)),(.faddr 0 (.t 1))⟩,⟨(some 28),(some (26,true)),(.load false 1 (.t 27))⟩,⟨(some 29),(some (26,true)),(.mv (.t 3))⟩,⟨(some 30),(some (26,true)),(.bin .sub false (.t 29) (.c (.int .i64 1)))⟩,⟨(some 31),(some (26,true)),(.iaddr 3 (.t 28) (.t 30))⟩,⟨(some 32),(some (26,true)),(.load true 3 (.t 31))⟩,⟨(some 33),(some (26,true)),(.faddr 0 (.t 1))⟩,⟨(some 34),(some (26,true)),(.load false 1 (.t 33))⟩,⟨(some 35),(some (26,true)),(.mv (.t 3))⟩,⟨(some 36),(some (26,true)),(.iaddr 3 (.t 34) (.t 35))⟩,⟨(some 37),(some (26,true)),(.load true 3 (.t 36))⟩,⟨(some 38),(some (26,true)),(.call 29 [(.t 32),(.t 37)])⟩,⟨(some 39),(some (26,true)),(.bin .geq false (.t 38) (.c (.int .i64 0)))⟩,⟨(some 40),(some (23,false)),(.pick (.t 26) (.t 39) (.c (.bool false)))⟩,⟨some 41,none,.pick (.t 23) (.c (.bool true)) (.t 40)⟩]) (.cond (.t 41) (.seq (.reg [⟨some 2,none,.mv (.c (.bool false))⟩]) .ret) .skip))) (.reg [⟨some 13,none,.mv (.t 3)⟩,⟨some 14,none,.bin .add false (.t 13) (.c (.int .i64 1))⟩,⟨some 3,none,.mv (.t 14)⟩])))))) (.seq (.reg [⟨some 2,none,.mv (.c (.bool true))⟩]) .ret))))
theorem Hk:Aj Try.prog 14=some ⟨42,E7,[(.tmp 2)]⟩:=by kernel_rfl
theorem Dp:modes 14=⟨[],.asis,none,false⟩:=by unfold modes; rfl
theorem Ti (b:Bool):E 57 [.bool b] []=some (.int .i64 (JB b),[]):=by
 cases b
 ·refine Ab JD Gk (of_decide_eq_true rfl) ?_
  simp (disch:=omega) only [Gj,go_sem,Aa]
  rfl
 ·refine Ab JD Gk (of_decide_eq_true rfl) ?_
  simp (disch:=omega) only [Gj,go_sem,Aa]
  rfl
theorem Is (x y:Lt) (hx:x.atom.cok=true) (hy:y.atom.cok=true) (hnx:x.atom.nodes≤1099511627776) (hny:y.atom.nodes≤1099511627776):E 35 [x.sv,y.sv] []=some (.int .i64 (x.cmp y),[]):=by
 have h1:=Gi x.atom y.atom hx hy hnx hny
 have h2:=Ti x.pos
 have h3:=Ti y.pos
 have h4:=HH (JB x.pos) (JB y.pos)
 have h5:=Te (x.atom.cmp y.atom) (HD (JB x.pos) (JB y.pos))
 unfold Lt.cmp
 refine Ab Fy Ba (of_decide_eq_true rfl) ?_
 simp (disch:=omega) only [CQ,go_sem,Aa,h1,h2,h3,h4,h5,BN,Gk,AZ,CP]
theorem N2 (x y:Lt) (hx:x.atom.cok=true) (hy:y.atom.cok=true) (hnx:x.atom.nodes≤1099511627776) (hny:y.atom.nodes≤1099511627776):E 29 [x.sv,y.sv] []=some (.int .i64 (x.cmp y),[]):=by
 have h1:=JC x.atom y.atom hx hy hnx hny
 unfold Lt.cmp
 by_cases h0:x.atom.cmp y.atom=0
 ·rw [h0] at h1 ⊢
  cases hp:x.pos <;> cases hq:y.pos
  all_goals
   simp only [JB,HD,orZ,if_true,if_false,yE]
   refine Ab Er Bx (of_decide_eq_true rfl) ?_
   simp (disch:=omega) only [CR,go_sem,Aa,h1,hp,hq,AB]
 ·rw [orZ,if_neg h0]
  refine Ab Er Bx (of_decide_eq_true rfl) ?_
  simp (disch:=omega) only [CR,go_sem,Aa,h1,h0,AB]
theorem Jd (x:Lt) (hn:x.atom.nodes≤1099511627776):E 34 [x.sv] []=some (.bool x.atom.atom,[]):=by
 have h:=LH x.atom hn
 refine Ab FG Bj (of_decide_eq_true rfl) ?_
 simp (disch:=omega) only [CY,go_sem,Aa,h,AR]
theorem JN (x:Cl) (hn:x.tame):E 19 [x.sv] []=some (.bool x.ok,[]):=by
 have hl:=hn.1
 refine Ab Gl D3 (of_decide_eq_true rfl) ?_
 simp (disch:=omega) only [D2,go_sem,Aa]
 refine go_loop (α:=Int) (fun a=>⟨slots 36 0 [(1,.ptr 0 0),(6,.arr (x.lits.map Lt.d)),(7,.int .i64 x.lits.length),(8,.int .i64 a)],[.box 41 [.arr (x.lits.map Lt.d)]]⟩) (fun a=>∃ k:Nat,a=k∧k≤(x.lits).length∧FF x.lits k=true) (fun a=>(x.lits).length-(a).toNat) 0 ⟨0,rfl,zI _,by rw [FF]⟩ (by simp (disch:=omega) only [go_sem,Aa]) ?_
 rintro i ⟨k,hi,hk,hR⟩
 have hni:i.toNat=k:=by omega
 have hni1:(i+1).toNat=k+1:=by omega
 rcases zA k (x.lits).length with hlt | hge
 ·have hg:=get_at Lt.d hlt
  rw [Lt.d_eq] at hg
  have hv:=Jd x.lits[k] (Cl.GM hn hlt)
  cases ha:x.lits[k].atom.atom <;> rw [ha] at hv
  ·have e:x.ok=false:=Cl.N1 hR (by cases k with | zero=>rw [EW hlt,ha] | succ j=>rw [Dj hlt,ha,zO]) hlt
   rw [e]
   simp (disch:=omega) only [go_sem,Aa,hni,hg,hv,Bj,Ba]
  ·cases k with
   | zero =>
    obtain rfl:i=0:=hi
    simp (disch:=omega) only [go_sem,Aa,hni,hg,hv,Bj,Ba]
    exact ⟨1,⟨1,rfl,hlt,by rw [FF,hR,EW hlt,ha]; rfl⟩,by omega,by first | trivial | rfl⟩
   | succ j =>
    have hj:j<x.lits.length:=by omega
    have hg2:=get_at Lt.d hj
    rw [Lt.d_eq] at hg2
    have hni2:(i-1).toNat=j:=by omega
    have hc:=Is x.lits[j] x.lits[j+1] (Tm.Gf (Jc hR (by omega) (by omega))) (Tm.Gf ha) (Cl.GM hn hj) (Cl.GM hn hlt)
    rcases yP (x.lits[j].cmp x.lits[j+1]) 0 with hq | hq
    ·simp (disch:=omega) only [go_sem,Aa,hni,hg,hv,Bj,Ba,hni2,hg2,hc]
     exact ⟨i+1,⟨j+1+1,by omega,hlt,by rw [FF,hR,Dj hlt,ha,decide_eq_true hq]; rfl⟩,by omega,by first | trivial | rfl⟩
    ·have e:x.ok=false:=Cl.N1 hR (by rw [Dj hlt,ha,decide_eq_false (by omega)]; rfl) hlt
     rw [e]
     simp (disch:=omega) only [go_sem,Aa,hni,hg,hv,Bj,Ba,hni2,hg2,hc]
 ·obtain rfl:k=x.lits.length:=by omega
  simp (disch:=omega) only [go_sem,Aa,hni]
  unfold Cl.ok
  rw [hR,zP,IN]
  exact decide_eq_decide.2 (by omega)
theorem Tj (x:Cl) (hn:x.tame):E 14 [x.sv] []=some (.bool x.ok,[]):=by
 have hl:=hn.1
 rcases zA 8 x.lits.length with h8 | h8
 ·have e:x.ok=false:=by unfold Cl.ok; rw [decide_eq_false (by omega),zO]
  rw [e]
  refine Ab Hk Dp (of_decide_eq_true rfl) ?_
  simp (disch:=omega) only [E7,go_sem,Aa]
 refine Ab Hk Dp (of_decide_eq_true rfl) ?_
 simp (disch:=omega) only [E7,go_sem,Aa]
 refine go_loop (α:=Int) (fun a=>⟨slots 42 0 [(1,.ptr 0 0),(3,.int .i64 a)],[.box 41 [.arr (x.lits.map Lt.d)]]⟩) (fun a=>∃ k:Nat,a=k∧k≤(x.lits).length∧FF x.lits k=true) (fun a=>(x.lits).length-(a).toNat) 0 ⟨0,rfl,zI _,by rw [FF]⟩ (by simp (disch:=omega) only [go_sem,Aa]) ?_
 rintro i ⟨k,hi,hk,hR⟩
 have hni:i.toNat=k:=by omega
 have hni1:(i+1).toNat=k+1:=by omega
 rcases zA k (x.lits).length with hlt | hge
 ·have hg:=get_at Lt.d hlt
  rw [Lt.d_eq] at hg
  have hv:=Ta x.lits[k].atom (Cl.GM hn hlt)
  cases ha:x.lits[k].atom.atom <;> rw [ha] at hv
  ·have e:x.ok=false:=Cl.N1 hR (by cases k with | zero=>rw [EW hlt,ha] | succ j=>rw [Dj hlt,ha,zO]) hlt
   rw [e]
   simp (disch:=omega) only [go_sem,Aa,hni,hg,hv,AX,Bx]
  ·cases k with
   | zero =>
    obtain rfl:i=0:=hi
    simp (disch:=omega) only [go_sem,Aa,hni,hg,hv,AX,Bx]
    exact ⟨1,⟨1,rfl,hlt,by rw [FF,hR,EW hlt,ha]; rfl⟩,by omega,by first | trivial | rfl⟩
   | succ j =>
    have hj:j<x.lits.length:=by omega
    have hg2:=get_at Lt.d hj
    rw [Lt.d_eq] at hg2
    have hni2:(i-1).toNat=j:=by omega
    have hc:=N2 x.lits[j] x.lits[j+1] (Tm.Gf (Jc hR (by omega) (by omega))) (Tm.Gf ha) (Cl.GM hn hj) (Cl.GM hn hlt)
    rcases yP (x.lits[j].cmp x.lits[j+1]) 0 with hq | hq
    ·simp (disch:=omega) only [go_sem,Aa,hni,hg,hv,AX,Bx,hni2,hg2,hc]
     exact ⟨i+1,⟨j+1+1,by omega,hlt,by rw [FF,hR,Dj hlt,ha,decide_eq_true hq]; rfl⟩,by omega,by first | trivial | rfl⟩
    ·have e:x.ok=false:=Cl.N1 hR (by rw [Dj hlt,ha,decide_eq_false (by omega)]; rfl) hlt
     rw [e]
     simp (disch:=omega) only [go_sem,Aa,hni,hg,hv,AX,Bx,hni2,hg2,hc]
 ·obtain rfl:k=x.lits.length:=by omega
  simp (disch:=omega) only [go_sem,Aa,hni]
  unfold Cl.ok
  rw [hR,decide_eq_true h8]; rfl
theorem N3 (x:Tm) (hc:x.cok=true):SgB x:=VA x hc fun y hy=>N3 y (Tm.Nz hc hy)
termination_by SizeOf.sizeOf x
decreasing_by exact Tm.Av hy
theorem QF (x:Tm) (hc:x.cok=true):SgA x:=VB x hc (fun y hy=>QF y (Tm.Nz hc hy)) fun y hy=>N3 y (Tm.Nz hc hy)
termination_by SizeOf.sizeOf x
decreasing_by exact Tm.Av hy
noncomputable def JO:List Lt→List Tl
 | []=>[]
 | l :: ls=>l.atom.sgI true++JO ls
noncomputable def GR:List Cl→List Tl
 | []=>[]
 | c :: cs=>JO c.lits++GR cs
noncomputable def Gm (cs:List Cl):List Tl × Bool:=A7 ([],false) (GR cs)
noncomputable def Hm (cs:List Cl):Option (List Tl):=bif dec (30<cs.length) || cs.any (fun c=>!c.ok) then none else bif (Gm cs).2 || dec (12<(Gm cs).1.length) then none else some (Gm cs).1
theorem Cl.Tk {c:Cl} (h:c.ok=true):c.lits.length≤8:=by
 unfold Cl.ok at h
 rw [zB,decide_eq_true_eq] at h
 exact h.1
theorem Cl.QG {c:Cl} (h:c.ok=true) {k:Nat} (hk:k<c.lits.length):c.lits[k].atom.atom=true:=by
 unfold Cl.ok at h
 rw [zB] at h
 exact Jc h.2 hk hk
theorem Tm.GN {x:Tm} (h:x.atom=true):x.expr=true:=by unfold Tm.expr; rw [h,y2]
def Bb:SC:=(.seq (.reg [⟨some 4,none,.mv (.c (.int .i64 0))⟩]) (.seq (.seq (.reg [⟨some 6,none,.mv (.t 0)⟩,⟨some 7,none,.len false (.t 6)⟩,⟨some 8,none,.mv (.c (.int .i64 0))⟩]) (.block 0 (.loop [1,1,0,0,0,0,0,1,1,0,0,0,0,0,0,0,0,0,0] (.seq (.reg [⟨some 9,none,.bin .lss false (.t 8) (.t 7)⟩]) (.seq (.cond (.t 9) .skip (.exit 0)) (.seq (.block 1 (.seq (.reg [⟨some 10,none,.mv (.t 8)⟩,⟨some 5,none,.mv (.t 10)⟩]) (.seq (.reg [⟨some 11,none,.mv (.t 1)⟩,⟨some 12,none,.mv (.t 0)⟩,⟨some 13,none,.mv (.t 5)⟩,⟨some 14,none,.iaddr 1 (.t 12) (.t 13)⟩,⟨some 15,none,.load true 1 (.t 14)⟩,⟨some 16,none,.callv (.t 11) [(.t 15)]⟩]) (.cond (.t 16) (.seq (.reg [⟨some 17,none,.mv (.t 5)⟩,⟨some 4,none,.mv (.t 17)⟩]) .ret) .skip)))) (.reg [⟨some 18,none,.bin .add false (.t 8) (.c (.int .i64 1))⟩,⟨some 8,none,.mv (.t 18)⟩]))))))) (.seq (.reg [⟨some 4,none,.mv (.c (.int .i64 (-(0+1))))⟩]) .ret)))
theorem BY:Aj Try.prog 33=some ⟨19,Bb,[(.tmp 4)]⟩:=by kernel_rfl
theorem Be:modes 33=⟨[],.asis,none,false⟩:=by unfold modes; rfl
def AP:SC:=(.seq (.reg [⟨some 4,none,.mv (.c (.bool false))⟩]) (.seq (.reg [⟨some 5,none,.mv (.t 0)⟩,⟨some 6,none,.mv (.t 1)⟩,⟨some 7,none,.call 33 [(.t 5),(.t 6)]⟩,⟨some 8,none,.bin .geq false (.t 7) (.c (.int .i64 0))⟩,⟨some 4,none,.mv (.t 8)⟩]) .ret))
theorem BM:Aj Try.prog 17=some ⟨9,AP,[(.tmp 4)]⟩:=by kernel_rfl
theorem A3:modes 17=⟨[],.asis,none,false⟩:=by unfold modes; rfl
theorem LJ (fid:Nat) (p:Cl→Bool) (xs:List Cl) (hl:xs.length≤1099511627776) (hg:Hx Try.prog fid=true) (hm:(modes fid).hand=[]) (hE:∀ x∈xs,E fid [x.sv] []=some (.bool (p x),[])):E 33 [.arr (xs.map Cl.d),.fn fid []] []=some (.int .i64 (DE p xs 0),[]):=by
 refine Ab BY Be (of_decide_eq_true rfl) ?_
 simp (disch:=omega) only [Bb,go_sem,Aa]
 refine go_loop (α:=Int) (fun a=>⟨slots 19 0 [(0,.arr (xs.map Cl.d)),(1,.fn fid []),(7,.int .i64 xs.length),(8,.int .i64 a)],[]⟩) (fun a=>∃ k:Nat,a=k∧k≤(xs).length∧DE p (xs.drop k) a=DE p xs 0) (fun a=>(xs).length-(a).toNat) 0 ⟨0,rfl,zI _,by rw [zG]⟩ (by simp (disch:=omega) only [go_sem,Aa]) ?_
 rintro i ⟨k,hi,hk,hR⟩
 have hni:i.toNat=k:=by omega
 have hni1:(i+1).toNat=k+1:=by omega
 rcases zA k (xs).length with hlt | hge
 ·have hg':=get_at Cl.d hlt
  rw [Cl.d_eq] at hg'
  have hc:=hE xs[k] (zF hlt)
  rw [zC hlt,DE] at hR
  cases hp:p xs[k] with
  | true =>
   rw [hp] at hc hR
   simp (disch:=omega) only [go_sem,Aa,hni,hg',hc,hg,hm]
   simpa using hR
  | false =>
   rw [hp] at hc hR
   simp (disch:=omega) only [go_sem,Aa,hni,hg',hc,hg,hm]
   exact ⟨i+1,⟨k+1,by omega,hlt,by simpa using hR⟩,by omega,by first | trivial | rfl⟩
 ·rw [zD hge,DE] at hR
  simp (disch:=omega) only [go_sem,Aa,hni]
  exact hR
theorem Je (fid:Nat) (p:Cl→Bool) (xs:List Cl) (hl:xs.length≤1099511627776) (hg:Hx Try.prog fid=true) (hm:(modes fid).hand=[]) (hE:∀ x∈xs,E fid [x.sv] []=some (.bool (p x),[])):E 17 [.arr (xs.map Cl.d),.fn fid []] []=some (.bool (xs.any p),[]):=by
 have h:=LJ fid p xs hl hg hm hE
 refine Ab BM A3 (of_decide_eq_true rfl) ?_
 simp (disch:=omega) only [AP,go_sem,Aa,h,Be]
 rw [OA]
def D4:SC:=(.seq (.reg [⟨some 1,none,.boxv 41 1 (.t 0)⟩,⟨some 2,none,.mv (.c (.bool false))⟩]) (.seq (.reg [⟨some 3,none,.load true 1 (.t 1)⟩,⟨some 4,none,.call 19 [(.t 3)]⟩,⟨some 5,none,.un .not (.t 4)⟩,⟨some 2,none,.mv (.t 5)⟩]) .ret))
theorem Gn:Aj Try.prog 18=some ⟨6,D4,[(.tmp 2)]⟩:=by kernel_rfl
theorem D5:modes 18=⟨[],.asis,none,false⟩:=by unfold modes; rfl
theorem Gp:Hx Try.prog 18=true:=by kernel_rfl
def BZ:SC:=(.seq (.reg [⟨some 2,none,.mv (.c .nil)⟩,⟨some 3,none,.mv (.c (.bool false))⟩]) (.seq (.seq (.reg [⟨some 9,none,.mv (.t 0)⟩,⟨some 10,none,.len false (.t 9)⟩,⟨some 11,none,.bin .gtr false (.t 10) (.c (.int .i64 30))⟩,⟨some 12,none,.mv (.t 11)⟩,⟨(some 13),(some (12,false)),(.mv (.t 0))⟩,⟨(some 14),(some (12,false)),(.call 17 [(.t 13),(.c (.fn 18 []))])⟩,⟨some 15,none,.pick (.t 12) (.c (.bool true)) (.t 14)⟩]) (.cond (.t 15) (.seq (.reg [⟨some 2,none,.mv (.c .nil)⟩,⟨some 3,none,.mv (.c (.bool false))⟩]) .ret) .skip)) (.seq (.reg [⟨some 16,none,.build [.nil,(.bool false)] []⟩,⟨some 17,none,.boxv 52 2 (.t 16)⟩,⟨some 4,none,.mv (.t 17)⟩]) (.seq (.seq (.reg [⟨some 18,none,.mv (.t 0)⟩,⟨some 19,none,.len false (.t 18)⟩,⟨some 20,none,.mv (.c (.int .i64 0))⟩]) (.block 0 (.loop [0,0,0,0,1,0,0,0,0,0,0,0,0,0,0,0,0,0,1,1,1,0,0,0,0,0,0,0,0,0,0,0,0,0,0,0,0,0,0,0,0,0,0,0,0,0,0,0,0,0,0,0,0] (.seq (.reg [⟨some 21,none,.bin .lss false (.t 20) (.t 19)⟩]) (.seq (.cond (.t 21) .skip (.exit 0)) (.seq (.block 1 (.seq (.reg [⟨some 22,none,.iaddr 1 (.t 18) (.t 20)⟩,⟨some 23,none,.load true 1 (.t 22)⟩,⟨some 6,none,.alloc 41 [.nil]⟩,⟨none,none,(.store 1 (.t 6) (.t 23))⟩]) (.seq (.reg [⟨some 24,none,.faddr 0 (.t 6)⟩,⟨some 25,none,.load false 1 (.t 24)⟩,⟨some 26,none,.len false (.t 25)⟩,⟨some 27,none,.mv (.c (.int .i64 0))⟩]) (.block 2 (.loop [0,0,0,0,1,0,0,0,0,0,0,0,0,0,0,0,0,0,1,1,1,0,0,0,0,1,1,1,0,0,0,0,0,0,0,0,0,0,0,0,0,0,0,0,0,0,0,0,0,0,0,0,0] (.seq (.reg [⟨some 28,none,.bin .lss false (.t 27) (.t 26)⟩]) (.seq (.cond (.t 28) .skip (.exit 2)) (.seq (.block 3 (.seq (.reg [⟨some 29,none,.iaddr 3 (.t 25) (.t 27)⟩,⟨some 30,none,.load true 3 (.t 29)⟩,⟨(some 8),none,(.alloc 47 [(.bool false),(.str ⟨#[]⟩),.nil])⟩,⟨none,none,(.store 3 (.t 8) (.t 30))⟩]) (.reg [⟨some 31,none,.mv (.t 4)⟩,⟨some 32,none,.faddr 1 (.t 8)⟩,⟨some 33,none,.load true 2 (.t 32)⟩,⟨some 34,none,.call 20 [(.t 31),(.t 33),(.c (.bool true))]⟩]))) (.reg [⟨some 35,none,.bin .add false (.t 27) (.c (.int .i64 1))⟩,⟨some 27,none,.mv (.t 35)⟩]))))))))) (.reg [⟨some 36,none,.bin .add false (.t 20) (.c (.int .i64 1))⟩,⟨some 20,none,.mv (.t 36)⟩]))))))) (.seq (.seq (.reg [⟨some 37,none,.mv (.t 4)⟩,⟨some 38,none,.nilchk (.t 37)⟩,⟨some 39,none,.faddr 1 (.t 38)⟩,⟨some 40,none,.load false 1 (.t 39)⟩,⟨some 41,none,.mv (.t 40)⟩,⟨(some 42),(some (41,false)),(.mv (.t 4))⟩,⟨(some 43),(some (41,false)),(.nilchk (.t 42))⟩,⟨(some 44),(some (41,false)),(.faddr 0 (.t 43))⟩,⟨(some 45),(some (41,false)),(.load false 1 (.t 44))⟩,⟨(some 46),(some (41,false)),(.len false (.t 45))⟩,⟨(some 47),(some (41,false)),(.bin .gtr false (.t 46) (.c (.int .i64 12)))⟩,⟨some 48,none,.pick (.t 41) (.c (.bool true)) (.t 47)⟩]) (.cond (.t 48) (.seq (.reg [⟨some 2,none,.mv (.c .nil)⟩,⟨some 3,none,.mv (.c (.bool false))⟩]) .ret) .skip)) (.seq (.reg [⟨some 49,none,.mv (.t 4)⟩,⟨some 50,none,.nilchk (.t 49)⟩,⟨some 51,none,.faddr 0 (.t 50)⟩,⟨some 52,none,.load false 1 (.t 51)⟩,⟨some 2,none,.mv (.t 52)⟩,⟨some 3,none,.mv (.c (.bool true))⟩]) .ret))))))
theorem CG:Aj Try.prog 7=some ⟨53,BZ,[(.tmp 2),(.tmp 3)]⟩:=by kernel_rfl
theorem AS:modes 7=⟨[],.own [some (57,4),none],none,false⟩:=by unfold modes; rfl
theorem VC (c:Cl) (hc:c.tame):E 18 [c.sv] []=some (.bool (!c.ok),[]):=by
 have h1:=JN c hc
 have hsv:c.sv=.agg [.arr (c.lits.map Lt.d)]:=rfl
 rw [hsv] at h1
 rw [hsv]
 refine Ab Gn D5 (of_decide_eq_true rfl) ?_
 simp (disch:=omega) only [D4,go_sem,Aa,h1,D3]
theorem It (cs:List Cl) (hl:cs.length≤1048576) (hx:∀ x∈cs,x.tame):E 7 [.arr (cs.map Cl.d)] []=some (.tup [.ref 0,.bool (Hm cs).isSome],[.row 57 4 (((Hm cs).getD []).map Tl.o)]):=by
 have hm0:([]:List Tl).map Tl.o=[]:=rfl
 have hgl:dec (0<([]:List Tl).length)=false:=AG (by simp)
 have hany:=Je 18 (fun c=>!c.ok) cs (by omega) Gp (by rw [D5]) fun x h=>VC x (hx x h)
 unfold Hm
 rcases zA 30 cs.length with h30 | h30
 ·have hq:dec ((30:Int)<(cs.length:Int))=true:=AM (by omega)
  rw [AM h30,z7,cond_true]
  refine Ab CG AS (of_decide_eq_true rfl) ?_
  simp (disch:=omega) only [BZ,go_sem,Aa,hq]
  first | done | rfl | exact ⟨rfl,rfl⟩
 have hq:dec ((30:Int)<(cs.length:Int))=false:=AG (by omega)
 rw [AG (yI.2 h30),z2]
 cases hall:cs.any fun c=>!c.ok with
 | true =>
  rw [hall] at hany
  rw [cond_true]
  refine Ab CG AS (of_decide_eq_true rfl) ?_
  simp (disch:=omega) only [BZ,go_sem,Aa,hq,hany,A3]
  first | done | rfl | exact ⟨rfl,rfl⟩
 | false =>
 rw [hall] at hany
 rw [cond_false]
 have hok:∀ c∈cs,c.ok=true:=fun c hc=>by
  have:=List.any_eq_false.1 hall c hc
  simpa using this
 refine Ab CG AS (of_decide_eq_true rfl) ?_
 simp (disch:=omega) only [BZ,go_sem,Aa,hq,hany,A3]
 refine go_loop (α:=Int × (List Tl) × (Bool)) (fun a=>⟨slots 53 0 [(4,.ptr 0 0),(18,.arr (cs.map Cl.d)),(19,.int .i64 cs.length),(20,.int .i64 (a.1))],(bif dec (0<(a.2.1).length) then [.box 52 [.ref 1,.bool (a.2.2)],.row 57 4 ((a.2.1).map Tl.o)] else [.box 52 [.nil,.bool (a.2.2)]])⟩) (fun a=>∃ k:Nat,a.1=k∧k≤(cs).length∧A7 ((a.2.1),(a.2.2)) (GR (cs.drop k))=A7 ([],false) (GR cs)∧upT (a.2.1)∧(a.2.1).length+240*(cs.length-k)≤7200) (fun a=>(cs).length-(a.1).toNat) (0,[],false) ⟨0,rfl,zI _,by rw [zG],yW,by simp only [z9]; omega⟩ (by simp (disch:=omega) only [go_sem,Aa,hgl]) ?_
 rintro ⟨i,ac,bf⟩ ⟨k,hi,hk,hR⟩
 dsimp only at hi hR
 have hni:i.toNat=k:=by omega
 have hni1:(i+1).toNat=k+1:=by omega
 rcases zA k (cs).length with hlt | hge
 ·have hg:=get_at Cl.d hlt
  rw [Cl.d_eq] at hg
  obtain ⟨hR1,hR2,hR3⟩:=hR
  rw [zC hlt,GR] at hR1
  have hck:=hok _ (zF hlt)
  obtain ⟨c,hcd⟩:∃ c,c=cs[k]:=⟨_,rfl⟩
  rw [←hcd] at hg hR1 hck
  have hc8:=Cl.Tk hck
  obtain ⟨rest,hrest⟩:∃ r,r=GR (cs.drop (k+1)):=⟨_,rfl⟩
  obtain ⟨full,hfull⟩:∃ r,r=A7 ([],false) (GR cs):=⟨_,rfl⟩
  obtain ⟨left,hleft⟩:∃ n:Nat,n=240*(cs.length-(k+1)):=⟨_,rfl⟩
  have hleft0:240*(cs.length-k)=240+left:=by omega
  rw [←hrest,← hfull] at hR1
  rw [hleft0] at hR3
  obtain ⟨io,hio⟩:∃ io,io=i:=⟨_,rfl⟩
  subst hio
  obtain ⟨ko,hko⟩:∃ ko,ko=k:=⟨_,rfl⟩
  subst hko
  obtain ⟨a0,ha0⟩:∃ a0,a0=ac:=⟨_,rfl⟩
  subst ha0
  obtain ⟨b0,hb0⟩:∃ b0,b0=bf:=⟨_,rfl⟩
  subst hb0
  have hlto:=hlt
  have hio1:=hni1
  have hR1o:A7 (a0,b0) (JO c.lits++rest)=full:=hR1
  clear hR1
  rcases zA 0 a0.length with q0 | q0
  all_goals
   simp (disch:=omega) only [go_sem,Aa,hni,hg]
   refine go_loop (α:=Int × (List Tl) × (Bool)) (fun a=>⟨slots 53 0 [(4,.ptr 0 0),(18,.arr (cs.map Cl.d)),(19,.int .i64 cs.length),(20,.int .i64 io),(25,.arr (c.lits.map Lt.d)),(26,.int .i64 c.lits.length),(27,.int .i64 (a.1))],(bif dec (0<(a.2.1).length) then [.box 52 [.ref 1,.bool (a.2.2)],.row 57 4 ((a.2.1).map Tl.o)] else [.box 52 [.nil,.bool (a.2.2)]])⟩) (fun a=>∃ k:Nat,a.1=k∧k≤(c.lits).length∧A7 ((a.2.1),(a.2.2)) (JO (c.lits.drop k)++rest)=full∧upT (a.2.1)∧(a.2.1).length+(30*(c.lits.length-k)+left)≤7200) (fun a=>(c.lits).length-(a.1).toNat) (0,a0,b0) ⟨0,rfl,zI _,by rw [zG]; exact hR1o,hR2,by dsimp only; omega⟩ (by simp (disch:=omega) only [go_sem,Aa]) ?_
   rintro ⟨i,ac,bf⟩ ⟨k,hi,hk,hR⟩
   dsimp only at hi hR
   have hni:i.toNat=k:=by omega
   have hni1:(i+1).toNat=k+1:=by omega
   rcases zA k (c.lits).length with hlt | hge
   ·have hgt:=get_at Lt.d hlt
    rw [Lt.d_eq] at hgt
    obtain ⟨hR1,hR2',hR3'⟩:=hR
    rw [zC hlt,JO,yV,GJ] at hR1
    have hat:=Cl.QG hck hlt
    have hcok:=Tm.Gf hat
    have hnod:=Tm.KX (Tm.GN hat)
    have hys:(c.lits[k]).atom.sv=.agg [.str (c.lits[k]).atom.name,.arr ((c.lits[k]).atom.args.map Tm.d)]:=rfl
    have hcA:=QF (c.lits[k]).atom hcok bf true (by omega)
    have hcB:=fun h0=>N3 (c.lits[k]).atom hcok ac bf true hR2' h0 (by omega)
    rw [hys] at hcA hcB
    obtain ⟨a2,b2,hr⟩:∃ a2 b2,(a2,b2)=A7 (ac,bf) ((c.lits[k]).atom.sgI true):=⟨_,_,rfl⟩
    have hl2:=GK ((c.lits[k]).atom.sgI true) (ac,bf)
    have hu2:=Ir ((c.lits[k]).atom.sgI true) (s:=(ac,bf)) hR2'
    have hs2:=Tm.Kj (c.lits[k]).atom true
    rw [←hr] at hcB hR1 hl2 hu2
    dsimp only at hcB hR1 hl2 hu2
    rcases zA 0 ac.length with q1 | q1
    ·have hc2:=hcB q1
     rcases zA ac.length a2.length with q2 | q2
     all_goals
      have q3:0<a2.length:=by omega
      first
       |rw [AM q2] at hc2
       |rw [AG (yI.2 q2)] at hc2
      simp only [cond_true,cond_false] at hc2
      simp (disch:=omega) only [go_sem,Aa,hni,hgt,hc2,AD]
      refine ⟨(i+1,a2,b2),⟨k+1,by dsimp only; omega,hlt,hR1,hu2,by dsimp only; omega⟩,by dsimp only; omega,?_⟩
      first | done | simp (disch:=omega) only [go_sem,Aa]
    ·obtain rfl:ac=[]:=zK (by omega)
     have hc2:=hcA
     rw [←hr] at hc2
     dsimp only at hc2
     rcases zA 0 a2.length with q2 | q2
     all_goals
      first
       |rw [AM q2] at hc2
       |rw [AG (yI.2 q2)] at hc2
      simp only [cond_true,cond_false] at hc2
      simp (disch:=omega) only [go_sem,Aa,hni,hgt,hc2,AD]
      refine ⟨(i+1,a2,b2),⟨k+1,by dsimp only; omega,hlt,hR1,hu2,by dsimp only; omega⟩,by dsimp only; omega,?_⟩
      first | done | simp (disch:=omega) only [go_sem,Aa]
   ·rw [zD hge,JO,y5] at hR
    obtain ⟨hR1,hR2',hR3'⟩:=hR
    rcases zA 0 ac.length with q1 | q1
    all_goals
     simp (disch:=omega) only [go_sem,Aa,hni]
     refine ⟨(io+1,ac,bf),⟨ko+1,by dsimp only; omega,hlto,by dsimp only; rw [←hrest,← hfull]; exact hR1,hR2',by dsimp only; omega⟩,by dsimp only; omega,?_⟩
     first | done | simp (disch:=omega) only [go_sem,Aa]
 ·rw [zD hge,GR] at hR
  obtain ⟨hR1,hR2,hR3⟩:=hR
  have hR1:(ac,bf)=A7 ([],false) (GR cs):=hR1
  have hsr:Gm cs=(ac,bf):=hR1.symm
  rw [hsr]
  dsimp only
  have hfu:=Tl.ful ac
  cases bf with
  | true =>
   rcases zA 0 ac.length with q1 | q1
   all_goals
    rw [z7,cond_true]
    simp (disch:=omega) only [go_sem,Aa,hni,hfu]
    first | done | rfl | exact ⟨rfl,rfl⟩
  | false =>
   rw [z2]
   rcases zA 12 ac.length with q2 | q2
   ·have q1:0<ac.length:=by omega
    have q3:dec ((12:Int)<(ac.length:Int))=true:=AM (by omega)
    rw [AM q2,cond_true]
    simp (disch:=omega) only [go_sem,Aa,hni,hfu,q3]
    first | done | rfl | exact ⟨rfl,rfl⟩
   ·have q3:dec ((12:Int)<(ac.length:Int))=false:=AG (by omega)
    rw [AG (yI.2 q2),cond_false]
    rcases zA 0 ac.length with q1 | q1
    ·simp (disch:=omega) only [go_sem,Aa,hni,hfu,q3]
     first | done | rfl | exact ⟨rfl,rfl⟩
    ·obtain rfl:ac=[]:=zK (by omega)
     simp (disch:=omega) only [go_sem,Aa,hni,hfu,hm0]
     first | done | rfl | exact ⟨rfl,rfl⟩
noncomputable def GS (a:List Tl) (x:Tl):Bool:=(match a.find? (fun t=>B4 t x) with
 | some t=>!(t.pred == x.pred)
 | none=>false) || dec (3 < x.arity)
noncomputable def HI (a:List Tl) (x:Tl):List Tl:=match a.find? (fun t=>B4 t x) with
 | some _=>a
 | none=>Cf a x
noncomputable def Ar:List Tl→List Tl→List Tl × Bool
 | a,[]=>(a,true)
 | a,x :: S=>bif GS a x then (a,false) else Ar (HI a x) S
theorem Iu (a:List Tl) (b:Bool) (x:Tl):Cu (a,b) x=(HI a x,b || GS a x):=by
 unfold Cu HI GS
 show (match a.find? (fun t=>B4 t x) with
  | some t=>(a,b || (dec (3 < x.arity) || !(t.pred == x.pred)))
  | none=>(Cf a x,b || dec (3 < x.arity)))=_
 cases a.find? (fun t=>B4 t x) with
 | some t=>simp only [Bool.or_comm (dec (3 < x.arity))]
 | none=>simp only [z2]
theorem Lj:∀ (S:List Tl) (a:List Tl),(A7 (a,true) S).2=true
 | [],a=>rfl
 | x :: S,a=>by
  have e:A7 (a,true) (x :: S)=A7 (Cu (a,true) x) S:=rfl
  rw [e,Iu,z7]
  exact Lj S _
theorem MO:∀ (S:List Tl) (a:List Tl),(Ar a S).2=!(A7 (a,false) S).2∧((Ar a S).2=true→(Ar a S).1=(A7 (a,false) S).1)
 | [],a=>⟨rfl,fun _=>rfl⟩
 | x :: S,a=>by
  have e:A7 (a,false) (x :: S)=A7 (Cu (a,false) x) S:=rfl
  rw [e,Iu,z2,Ar]
  cases GS a x with
  | true=>rw [cond_true,Lj]; exact ⟨rfl,fun h=>by cases h⟩
  | false=>rw [cond_false]; exact MO S _
theorem By:∀ (S:List Tl) (a:List Tl) (S':List Tl),Ar a (S++S')=bif (Ar a S).2 then Ar (Ar a S).1 S' else Ar a S
 | [],a,S'=>rfl
 | x :: S,a,S'=>by
  rw [yC,Ar,Ar]
  cases GS a x with
  | true=>rfl
  | false=>rw [cond_false,cond_false]; exact By S _ S'
theorem N4 {a:List Tl} (hs:upT a) (x:Tl):upT (HI a x):=by
 have:=ON (s:=(a,false)) hs x
 rw [Iu] at this
 exact this
theorem Tn (a:List Tl) (x:Tl):(HI a x).length≤a.length+1:=by
 have:=(MN (a,false) x).2
 rw [Iu] at this
 exact this
theorem BQ:∀ (S:List Tl) {a:List Tl},upT a→upT (Ar a S).1
 | [],a,h=>h
 | x :: S,a,h=>by
  rw [Ar]
  cases GS a x with
  | true=>exact h
  | false=>exact BQ S (N4 h x)
theorem B7:∀ (S:List Tl) (a:List Tl),(Ar a S).1.length≤a.length+S.length
 | [],a=>zL _
 | x :: S,a=>by
  rw [Ar]
  cases GS a x with
  | true=>simp
  | false =>
   have h1:=Tn a x
   have h2:=B7 S (HI a x)
   rw [cond_false,zQ]
   omega
mutual
theorem Tm.CS:∀ (x:Tm) (p:Bool),(x.sgR p).length≤x.nodes
 | .mk n args,p=>by
  have h:=Tm.OP args
  rw [Tm.sgR,Tm.nodes]
  cases AY n with
  | true=>simp
  | false =>
   rw [cond_false,yF]
   cases (p&&dec (n=⟨#[61]⟩)) <;> simp only [cond_true,cond_false,z9,zQ] <;> omega
theorem Tm.OP:∀ xs:List Tm,(Tm.B9 xs).length≤Tm.A9 xs
 | []=>zL _
 | x :: xs=>by
  have h1:=Tm.CS x false
  have h2:=Tm.OP xs
  rw [Tm.B9,yF,Tm.A9]
  omega
end
theorem Lk {α:Type} (p:α→Bool):∀ (xs:List α) (i:Int),(xs.find? p=none∧DE p xs i=-1)∨∃ (k:Nat) (h:k<xs.length),xs.find? p=some xs[k]∧DE p xs i=i+k
 | [],i=>.inl ⟨rfl,by rw [DE]⟩
 | x :: xs,i=>by
  rw [y7,DE]
  cases hp:p x with
  | true=>exact .inr ⟨0,by simp,rfl,by simp⟩
  | false =>
   rw [if_neg (by simp)]
   rcases Lk p xs (i+1) with ⟨h1,h2⟩ | ⟨k,h,h1,h2⟩
   ·exact .inl ⟨h1,h2⟩
   ·exact .inr ⟨k+1,by simpa using h,h1,by rw [h2]; omega⟩
theorem MP {xs:List Tl} {x:Tl} {k:Nat} (h:k+Au (xs.drop k) x=Au xs x) (hk:k<xs.length):(B3 xs[k] x=true∧k+1+Au (xs.drop (k+1)) x=Au xs x)∨(B3 xs[k] x=false∧k=Au xs x):=by
 rw [zC hk,Au] at h
 cases hq:B3 xs[k] x with
 | true=>rw [hq,if_pos rfl] at h; exact .inl ⟨rfl,by omega⟩
 | false=>rw [hq,if_neg (by simp)] at h; exact .inr ⟨rfl,by omega⟩
theorem Tl.Kk (xs:List Tl) (k:Nat):((xs.map Tl.d).take k).map (fun x=>x.map D.ot)=(xs.take k).map fun b=>b.d.map D.ot:=by
 rw [←List.map_take,List.map_map]; rfl
theorem Tl.Kl (xs:List Tl) (k:Nat):((xs.map Tl.d).drop k).map (fun x=>x.map D.ot)=(xs.drop k).map fun b=>b.d.map D.ot:=by
 rw [←List.map_drop,List.map_map]; rfl
theorem Tl.al4 (xs:List Tl):((xs.map fun b=>b.d.map D.ot).all fun l=>l.length == 4)=true:=by
 rw [List.all_map,z5]
 intro x _
 show ((x.d.map D.ot).length == 4)=true
 rw [Tl.d_eq]; rfl
theorem Tl.U3 (xs:List Tl):((xs.map Tl.d).all fun l=>l.length == 4)=true:=by
 rw [List.all_map,z5]
 intro x _
 show (x.d.length == 4)=true
 rw [Tl.d_eq]; rfl
theorem Tl.dfu:∀ xs:List Tl,OT.At (xs.map fun b=>b.d.map D.ot)=true
 | []=>rfl
 | x :: xs=>by rw [zE,Tl.d_eq]; simp [OT.At,OT.C3,OT.full,D.ot,Tl.dfu xs]
theorem Tl.der:∀ xs:List Tl,OT.erss (xs.map fun b=>b.d.map D.ot)=xs.map Tl.d
 | []=>rfl
 | x :: xs=>by rw [zE,zE,Tl.d_eq]; simp [OT.erss,OT.ers,OT.er,D.ot,Tl.der xs]
theorem HJ:∀ a b:List (List OT),OT.At (a++b)=(OT.At a&&OT.At b)
 | [],b=>by simp [OT.At]
 | x :: a,b=>by rw [yC,OT.At,OT.At,HJ a b,Bool.and_assoc]
theorem Ll:∀ a b:List (List OT),OT.erss (a++b)=OT.erss a++OT.erss b
 | [],b=>by simp [OT.erss]
 | x :: a,b=>by rw [yC,OT.erss,OT.erss,Ll a b,yC]
def Gq:SC:=(.seq (.reg [⟨some 6,none,.mv (.c (.int .i64 0))⟩]) (.seq (.seq (.reg [⟨some 7,none,.mv (.c (.int .i64 0))⟩]) (.block 0 (.loop [1,1,1,0,0,0,0,1,0,0,0,0,0,0,0,0,0,0,0,0,0,0,0,0,0,0,0,0,0,0,0] (.seq (.seq (.reg [⟨some 8,none,.mv (.t 7)⟩,⟨some 9,none,.mv (.t 0)⟩,⟨some 10,none,.len false (.t 9)⟩,⟨some 11,none,.bin .lss false (.t 8) (.t 10)⟩]) (.cond (.t 11) .skip (.exit 0))) (.seq (.block 1 (.seq (.reg [⟨some 14,none,.mv (.t 0)⟩,⟨some 15,none,.mv (.t 7)⟩,⟨some 16,none,.iaddr 4 (.t 14) (.t 15)⟩,⟨some 17,none,.faddr 0 (.t 16)⟩,⟨some 18,none,.load false 1 (.t 17)⟩,⟨some 19,none,.mv (.t 1)⟩,⟨some 20,none,.bin .eql false (.t 18) (.t 19)⟩,⟨some 21,none,.mv (.t 20)⟩,⟨(some 22),(some (21,true)),(.mv (.t 0))⟩,⟨(some 23),(some (21,true)),(.mv (.t 7))⟩,⟨(some 24),(some (21,true)),(.iaddr 4 (.t 22) (.t 23))⟩,⟨(some 25),(some (21,true)),(.faddr 1 (.t 24))⟩,⟨(some 26),(some (21,true)),(.load false 1 (.t 25))⟩,⟨(some 27),(some (21,true)),(.mv (.t 2))⟩,⟨(some 28),(some (21,true)),(.bin .eql false (.t 26) (.t 27))⟩,⟨some 29,none,.pick (.t 21) (.t 28) (.c (.bool false))⟩]) (.cond (.t 29) (.seq (.reg [⟨some 30,none,.mv (.t 7)⟩,⟨some 6,none,.mv (.t 30)⟩]) .ret) .skip))) (.reg [⟨some 12,none,.mv (.t 7)⟩,⟨some 13,none,.bin .add false (.t 12) (.c (.int .i64 1))⟩,⟨some 7,none,.mv (.t 13)⟩])))))) (.seq (.reg [⟨some 6,none,.mv (.c (.int .i64 (-(0+1))))⟩]) .ret)))
theorem Lm:Aj Try.prog 31=some ⟨31,Gq,[(.tmp 6)]⟩:=by kernel_rfl
theorem AI:modes 31=⟨[],.asis,none,false⟩:=by unfold modes; rfl
def AC:SC:=(.seq (.reg [⟨some 4,none,.boxv 45 2 (.t 1)⟩,⟨some 6,none,.mv (.c .nil)⟩,⟨some 7,none,.mv (.c (.bool false))⟩]) (.seq (.seq (.reg [⟨some 13,none,.faddr 0 (.t 4)⟩,⟨some 14,none,.load false 1 (.t 13)⟩,⟨some 15,none,.call 30 [(.t 14)]⟩]) (.cond (.t 15) (.seq (.reg [⟨some 16,none,.mv (.t 0)⟩,⟨some 6,none,.mv (.t 16)⟩,⟨some 7,none,.mv (.c (.bool true))⟩]) .ret) .skip)) (.seq (.reg [⟨some 8,none,.mv (.c (.bool true))⟩]) (.seq (.seq (.reg [⟨some 17,none,.mv (.t 2)⟩,⟨some 18,none,.un .not (.t 17)⟩,⟨some 19,none,.mv (.t 18)⟩,⟨(some 20),(some (19,false)),(.faddr 0 (.t 4))⟩,⟨(some 21),(some (19,false)),(.load false 1 (.t 20))⟩,⟨(some 22),(some (19,false)),(.bin .neq false (.t 21) (.c (.str ⟨#[61]⟩)))⟩,⟨some 23,none,.pick (.t 19) (.c (.bool true)) (.t 22)⟩]) (.cond (.t 23) (.seq (.reg [⟨some 24,none,.mv (.t 0)⟩,⟨some 25,none,.faddr 0 (.t 4)⟩,⟨some 26,none,.load false 1 (.t 25)⟩,⟨some 27,none,.faddr 1 (.t 4)⟩,⟨some 28,none,.load false 1 (.t 27)⟩,⟨some 29,none,.len false (.t 28)⟩,⟨some 30,none,.call 31 [(.t 24),(.t 26),(.t 29)]⟩,⟨some 9,none,.mv (.t 30)⟩]) (.seq (.seq (.reg [⟨some 31,none,.mv (.t 9)⟩,⟨some 32,none,.bin .geq false (.t 31) (.c (.int .i64 0))⟩,⟨some 33,none,.mv (.t 32)⟩,⟨(some 34),(some (33,true)),(.mv (.t 0))⟩,⟨(some 35),(some (33,true)),(.mv (.t 9))⟩,⟨(some 36),(some (33,true)),(.iaddr 4 (.t 34) (.t 35))⟩,⟨(some 37),(some (33,true)),(.faddr 2 (.t 36))⟩,⟨(some 38),(some (33,true)),(.load false 1 (.t 37))⟩,⟨(some 39),(some (33,true)),(.mv (.t 2))⟩,⟨(some 40),(some (33,true)),(.bin .neq true (.t 38) (.t 39))⟩,⟨some 41,none,.pick (.t 33) (.t 40) (.c (.bool false))⟩,⟨some 42,none,.mv (.t 41)⟩,⟨(some 43),(some (42,false)),(.faddr 1 (.t 4))⟩,⟨(some 44),(some (42,false)),(.load false 1 (.t 43))⟩,⟨(some 45),(some (42,false)),(.len false (.t 44))⟩,⟨(some 46),(some (42,false)),(.bin .gtr false (.t 45) (.c (.int .i64 3)))⟩,⟨some 47,none,.pick (.t 42) (.c (.bool true)) (.t 46)⟩]) (.cond (.t 47) (.seq (.reg [⟨some 48,none,.mv (.t 0)⟩,⟨some 6,none,.mv (.t 48)⟩,⟨some 7,none,.mv (.c (.bool false))⟩]) .ret) .skip)) (.seq (.reg [⟨some 49,none,.mv (.t 9)⟩,⟨some 50,none,.bin .lss false (.t 49) (.c (.int .i64 0))⟩]) (.cond (.t 50) (.seq (.reg [⟨some 10,none,.mv (.c (.int .i64 0))⟩]) (.seq (.block 0 (.loop [1,0,1,0,1,0,0,0,0,0,1,0,0,0,0,0,0,0,0,0,0,0,0,0,0,0,0,0,0,0,0,0,0,0,0,0,0,0,0,0,0,0,0,0,0,0,0,0,0,0,0,0,0,0,0,0,0,0,0,0,0,0,0,0,0,0,0,0,0,0,0,0,0,0,0,0,0,0,0,0,0,0,0,0,0,0,0,0,0,0,0,0,0,0,0,0,0,0,0,0,0,0,0,0,0,0,0,0,0,0,0,0,0,0,0,0,0,0,0,0,0,0,0,0,0,0,0,0] (.seq (.seq (.dreg [[],[],[1],[0,2,1],[3,0,2,1],[4,3,0,2,1],[4,3,0,2,1],[5,4,3,0,2,1,6],[7,5,4,3,0,2,1,6],[8,7,5,4,3,0,2,1,6],[4,3,0,2,1],[10,4,3,0,2,1],[9,8,7,5,4,3,0,2,1,6,11,10],[12,9,8,7,5,4,3,0,2,1,6,11,10],[13,12,9,8,7,5,4,3,0,2,1,6,11,10],[13,12,9,8,7,5,4,3,0,2,1,6,11,10],[14,13,12,9,8,7,5,4,3,0,2,1,6,11,10,15],[16,14,13,12,9,8,7,5,4,3,0,2,1,6,11,10,15],[17,16,14,13,12,9,8,7,5,4,3,0,2,1,6,11,10,15],[13,12,9,8,7,5,4,3,0,2,1,6,11,10],[19,13,12,9,8,7,5,4,3,0,2,1,6,11,10],[18,17,16,14,13,12,9,8,7,5,4,3,0,2,1,6,11,10,15,20,19],[21,18,17,16,14,13,12,9,8,7,5,4,3,0,2,1,6,11,10,15,20,19],[22,21,18,17,16,14,13,12,9,8,7,5,4,3,0,2,1,6,11,10,15,20,19],[22,21,18,17,16,14,13,12,9,8,7,5,4,3,0,2,1,6,11,10,15,20,19],[23,22,21,18,17,16,14,13,12,9,8,7,5,4,3,0,2,1,6,11,10,15,20,19,24],[25,23,22,21,18,17,16,14,13,12,9,8,7,5,4,3,0,2,1,6,11,10,15,20,19,24],[26,25,23,22,21,18,17,16,14,13,12,9,8,7,5,4,3,0,2,1,6,11,10,15,20,19,24],[22,21,18,17,16,14,13,12,9,8,7,5,4,3,0,2,1,6,11,10,15,20,19],[28,22,21,18,17,16,14,13,12,9,8,7,5,4,3,0,2,1,6,11,10,15,20,19],[29,28,22,21,18,17,16,14,13,12,9,8,7,5,4,3,0,2,1,6,11,10,15,20,19],[27,26,25,23,22,21,18,17,16,14,13,12,9,8,7,5,4,3,0,2,1,6,11,10,15,20,19,24,30,29,28],[22,21,18,17,16,14,13,12,9,8,7,5,4,3,0,2,1,6,11,10,15,20,19,31,27,26,25,23,24,30,29,28],[13,12,9,8,7,5,4,3,0,2,1,6,11,10,32,22,21,18,17,16,14,15,20,19,31,27,26,25,23,24,30,29,28],[4,3,0,2,1,33,13,12,9,8,7,5,6,11,10,32,22,21,18,17,16,14,15,20,19,31,27,26,25,23,24,30,29,28]] [⟨some 51,none,.mv (.t 10)⟩,⟨some 52,none,.mv (.t 0)⟩,⟨some 53,none,.len false (.t 52)⟩,⟨some 54,none,.bin .lss false (.t 51) (.t 53)⟩,⟨some 55,none,.mv (.t 54)⟩,⟨(some 56),(some (55,true)),(.mv (.t 0))⟩,⟨(some 57),(some (55,true)),(.mv (.t 10))⟩,⟨(some 58),(some (55,true)),(.iaddr 4 (.t 56) (.t 57))⟩,⟨(some 59),(some (55,true)),(.faddr 0 (.t 58))⟩,⟨(some 60),(some (55,true)),(.load false 1 (.t 59))⟩,⟨(some 61),(some (55,true)),(.faddr 0 (.t 4))⟩,⟨(some 62),(some (55,true)),(.load false 1 (.t 61))⟩,⟨(some 63),(some (55,true)),(.bin .lss false (.t 60) (.t 62))⟩,⟨(some 64),(some (55,true)),(.mv (.t 63))⟩,⟨(some 65),(some (64,false)),(.mv (.t 0))⟩,⟨(some 66),(some (64,false)),(.mv (.t 10))⟩,⟨(some 67),(some (64,false)),(.iaddr 4 (.t 65) (.t 66))⟩,⟨(some 68),(some (64,false)),(.faddr 0 (.t 67))⟩,⟨(some 69),(some (64,false)),(.load false 1 (.t 68))⟩,⟨(some 70),(some (64,false)),(.faddr 0 (.t 4))⟩,⟨(some 71),(some (64,false)),(.load false 1 (.t 70))⟩,⟨(some 72),(some (64,false)),(.bin .eql false (.t 69) (.t 71))⟩,⟨(some 73),(some (64,false)),(.mv (.t 72))⟩,⟨(some 74),(some (73,true)),(.mv (.t 0))⟩,⟨(some 75),(some (73,true)),(.mv (.t 10))⟩,⟨(some 76),(some (73,true)),(.iaddr 4 (.t 74) (.t 75))⟩,⟨(some 77),(some (73,true)),(.faddr 1 (.t 76))⟩,⟨(some 78),(some (73,true)),(.load false 1 (.t 77))⟩,⟨(some 79),(some (73,true)),(.faddr 1 (.t 4))⟩,⟨(some 80),(some (73,true)),(.load false 1 (.t 79))⟩,⟨(some 81),(some (73,true)),(.len false (.t 80))⟩,⟨(some 82),(some (73,true)),(.bin .lss false (.t 78) (.t 81))⟩,⟨(some 83),(some (64,false)),(.pick (.t 73) (.t 82) (.c (.bool false)))⟩,⟨(some 84),(some (55,true)),(.pick (.t 64) (.c (.bool true)) (.t 83))⟩,⟨some 85,none,.pick (.t 55) (.t 84) (.c (.bool false))⟩]) (.cond (.t 85) .skip (.exit 0))) (.block 1 (.reg [⟨some 86,none,.mv (.t 10)⟩,⟨some 87,none,.bin .add false (.t 86) (.c (.int .i64 1))⟩,⟨some 10,none,.mv (.t 87)⟩]))))) (.seq (.reg [⟨some 88,none,.faddr 0 (.t 4)⟩,⟨some 89,none,.load false 1 (.t 88)⟩,⟨some 90,none,.faddr 1 (.t 4)⟩,⟨some 91,none,.load false 1 (.t 90)⟩,⟨some 92,none,.len false (.t 91)⟩,⟨some 93,none,.mv (.t 2)⟩,⟨(some 94),none,(.build [(.str ⟨#[]⟩),(.int .i64 0),(.bool false),.nil] [(0,(1,(.t 89))),(1,(1,(.t 92))),(2,(1,(.t 93)))])⟩,⟨(some 11),none,(.alloc 57 [(.str ⟨#[]⟩),(.int .i64 0),(.bool false),.nil])⟩,⟨none,none,(.store 4 (.t 11) (.t 94))⟩]) (.dreg [[],[],[],[1,2],[0,3,1,2],[],[5],[4,0,3,1,2,6,5],[],[],[8,9],[7,4,0,3,1,2,6,5,10,8,9],[11,7,4,0,3,1,2,6,5,10,8,9]] [⟨(some 95),none,(.mkrow 57 4 [(.str ⟨#[]⟩),(.int .i64 0),(.bool false),.nil] 0 [])⟩,⟨some 96,none,.mv (.t 0)⟩,⟨some 97,none,.mv (.t 10)⟩,⟨some 98,none,.slice false 4 (.t 96) none (some (.t 97))⟩,⟨(some 99),none,(.append 57 4 56 [(.str ⟨#[]⟩),(.int .i64 0),(.bool false),.nil] (.t 95) (.t 98))⟩,⟨some 100,none,.load true 4 (.t 11)⟩,⟨(some 101),none,(.mkrow 57 4 [(.str ⟨#[]⟩),(.int .i64 0),(.bool false),.nil] 1 [(0,(.t 100))])⟩,⟨(some 102),none,(.append 57 4 56 [(.str ⟨#[]⟩),(.int .i64 0),(.bool false),.nil] (.t 99) (.t 101))⟩,⟨some 103,none,.mv (.t 0)⟩,⟨some 104,none,.mv (.t 10)⟩,⟨some 105,none,.slice false 4 (.t 103) (some (.t 104)) none⟩,⟨(some 106),none,(.append 57 4 56 [(.str ⟨#[]⟩),(.int .i64 0),(.bool false),.nil] (.t 102) (.t 105))⟩,⟨some 0,none,.mv (.t 106)⟩])))) .skip)))) .skip)) (.seq (.seq (.reg [⟨some 12,none,.mv (.c (.int .i64 0))⟩]) (.block 2 (.loop [1,0,0,0,1,0,0,0,0,0,0,0,1,0,0,0,0,0,0,0,0,0,0,0,0,0,0,0,0,0,0,0,0,0,0,0,0,0,0,0,0,0,0,0,0,0,0,0,0,0,0,0,0,0,0,0,0,0,0,0,0,0,0,0,0,0,0,0,0,0,0,0,0,0,0,0,0,0,0,0,0,0,0,0,0,0,0,0,0,0,0,0,0,0,0,0,0,0,0,0,0,0,0,0,0,0,0,0,0,0,0,0,0,0,0,0,0,0,0,0,0,0,0,0,0,0,0,0] (.seq (.seq (.reg [⟨some 107,none,.mv (.t 12)⟩,⟨some 108,none,.faddr 1 (.t 4)⟩,⟨some 109,none,.load false 1 (.t 108)⟩,⟨some 110,none,.len false (.t 109)⟩,⟨some 111,none,.bin .lss false (.t 107) (.t 110)⟩]) (.cond (.t 111) .skip (.exit 2))) (.seq (.block 3 (.seq (.reg [⟨some 115,none,.mv (.t 0)⟩,⟨some 116,none,.faddr 1 (.t 4)⟩,⟨some 117,none,.load false 1 (.t 116)⟩,⟨some 118,none,.mv (.t 12)⟩,⟨some 119,none,.iaddr 2 (.t 117) (.t 118)⟩,⟨some 120,none,.load true 2 (.t 119)⟩,⟨some 121,none,.call 15 [(.t 115),(.t 120),(.c (.bool false))]⟩,⟨some 114,none,.mv (.t 121)⟩,⟨some 122,none,.ext (.t 114) 0⟩,⟨some 123,none,.ext (.t 114) 1⟩,⟨some 0,none,.mv (.t 122)⟩,⟨some 8,none,.mv (.t 123)⟩]) (.seq (.reg [⟨some 124,none,.mv (.t 8)⟩,⟨some 125,none,.un .not (.t 124)⟩]) (.cond (.t 125) (.seq (.reg [⟨some 126,none,.mv (.t 0)⟩,⟨some 6,none,.mv (.t 126)⟩,⟨some 7,none,.mv (.c (.bool false))⟩]) .ret) .skip)))) (.reg [⟨some 112,none,.mv (.t 12)⟩,⟨some 113,none,.bin .add false (.t 112) (.c (.int .i64 1))⟩,⟨some 12,none,.mv (.t 113)⟩])))))) (.seq (.reg [⟨some 127,none,.mv (.t 0)⟩,⟨some 6,none,.mv (.t 127)⟩,⟨some 7,none,.mv (.c (.bool true))⟩]) .ret))))))
theorem AL:Aj Try.prog 15=some ⟨128,AC,[(.tmp 6),(.tmp 7)]⟩:=by kernel_rfl
theorem Ae:modes 15=⟨[],.frl [7],none,false⟩:=by unfold modes; rfl
theorem MQ (ts:List Tl) (x:Tl) (hl:ts.length≤1099511627776):E 31 [.arr (ts.map Tl.d),.str x.name,.int .i64 x.arity] []=some (.int .i64 (DE (fun t=>B4 t x) ts 0),[]):=by
 refine Ab Lm AI (of_decide_eq_true rfl) ?_
 simp (disch:=omega) only [Gq,go_sem,Aa]
 refine go_loop (α:=Int) (fun a=>⟨slots 31 0 [(0,.arr (ts.map Tl.d)),(1,.str x.name),(2,.int .i64 x.arity),(7,.int .i64 a)],[]⟩) (fun a=>∃ k:Nat,a=k∧k≤(ts).length∧DE (fun t=>B4 t x) (ts.drop k) a=DE (fun t=>B4 t x) ts 0) (fun a=>(ts).length-(a).toNat) 0 ⟨0,rfl,zI _,by rw [zG]⟩ (by simp (disch:=omega) only [go_sem,Aa]) ?_
 rintro i ⟨k,hi,hk,hR⟩
 have hni:i.toNat=k:=by omega
 have hni1:(i+1).toNat=k+1:=by omega
 rcases zA k (ts).length with hlt | hge
 ·have hg:=Tl.getD hlt
  rw [zC hlt,DE] at hR
  have hsk:B4 ts[k] x=(dec (ts[k].name=x.name)&&dec (ts[k].arity=x.arity)):=rfl
  cases h1:dec (ts[k].name=x.name) with
  | false =>
   rw [hsk,h1,zO,if_neg (by simp)] at hR
   simp (disch:=omega) only [go_sem,Aa,hni,hg,h1]
   exact ⟨i+1,⟨k+1,by omega,hlt,hR⟩,by omega,by first | trivial | rfl⟩
  | true =>
   rw [hsk,h1,zZ] at hR
   cases h2:dec (ts[k].arity=x.arity) with
   | false =>
    rw [h2,if_neg (by simp)] at hR
    simp (disch:=omega) only [go_sem,Aa,hni,hg,h1,h2]
    exact ⟨i+1,⟨k+1,by omega,hlt,hR⟩,by omega,by first | trivial | rfl⟩
   | true =>
    rw [h2,if_pos rfl] at hR
    simp (disch:=omega) only [go_sem,Aa,hni,hg,h1,h2]
    exact hR
 ·rw [zD hge,DE] at hR
  simp (disch:=omega) only [go_sem,Aa,hni]
  exact hR
end Go.Proofs.Ytmhjhclgihoaeaa
