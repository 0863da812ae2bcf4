/-
  Texts of this claim, one behind the other, each built on those ahead of it. No condition.
-/
import Derived.Test.YtkjpmfmjebkkiaaGreatK34a
import Derived.Laws.IdiomRangeMap
import Derived.CallsIn
import Derived.ControlIn
import Derived.OrdersIn
import Derived.TacticsIn
import Derived.RangeFuncCalls
import Derived.RangeFuncBox
import Derived.RangeFuncLeaves
import Derived.RangeFuncKeeps
import Derived.RangeFuncFrom
set_option maxHeartbeats 16000000
open Option.some renaming inj → zB, injEq → zD
open Option renaming map_eq_some_iff → zC
open Bool renaming and_eq_true → zE, not_eq_true' → zL
open Nat renaming lt_or_ge → zF, le_refl → zJ, zero_add → zP, add_lt_add_iff_right → zT, add_right_cancel_iff → z7, add_sub_add_right → yC
open List renaming getElem?_eq_getElem → zG, append_nil → zK, mem_append → zM, all_eq_true → zN, mem_cons → zO, length_cons → zQ, map_cons → zR, getElem_mem → zS, mem_of_getElem? → zV, size_toArray → zX, getD_eq_getElem?_getD → zZ, getElem?_eq_some_iff → z6, mem_singleton → z8, nodup_append → yA, mem_append_right → yD, getElem?_eq_none → yE, filter_cons → yF, map_append → yG, mem_map → yH, length_append → yJ, getElem?_append_left → yK, append_assoc → yL, cons_append → yM, not_mem_nil → yN, map_nil → yO, nodup_cons → yP, length_map → yQ, nodup_nil → yR
open Prod.mk renaming injEq → zH
open Array renaming getD_eq_getD_getElem? → zI, getElem?_eq_getElem → zU, replicate → zW, getElem?_eq_some_iff → zY, getElem?_setIfInBounds_ne → yB, ext' → yI
set_option maxRecDepth 100000
set_option linter.unusedSimpArgs false
set_option linter.unusedVariables false
set_option linter.unusedSectionVars false
namespace Go.Proofs.YtkjpmfmjebkkiaaGreat
open Go.RowKit
variable [Flag]
def Rb:Obj→Bool
 | .cells _ _ _=>false
 | _=>true
theorem FY {P:Program} {w:World} {r:Nat} {o:Obj} (hb:w.heap[r]?=some o) (hc:Rb o=true):(getObj r).run P w=.ok o w:=by
 simp only [getObj,Sem.run,hb]
 cases o <;> first | rfl | cases hc
theorem Ux {P:Program} {w:World} {r:Nat} {o:Obj} (o':Obj) (hb:w.heap[r]?=some o) (hc:Rb o=true):(setObj r o').run P w=.ok () { w with heap:=w.heap.setIfInBounds r o' }:=by
 simp only [setObj,Sem.run,hb]
 cases o <;> first | rfl | cases hc
theorem run_next_at {P:Program} {w:World} (ty:TypeId) {bi bm clock:Nat} {seen:Array Nat} {es:Array MapEntry} (hi:w.heap[bi]?=some (.mapIter (some bm) clock seen clock)) (hb:w.heap[bm]?=some (.map es clock)) (hold:∀ x∈es.toList,x.born<clock) :
  ((∀ e,e∈es.toList→e.born∈seen)∧(Instr.next (.pointer (some ⟨bi,0,none⟩)) false ty).run P w=.ok (.tuple #[.bool false]) w) ∨
  ∃ e,e∈es.toList∧e.born ∉ seen∧∃ n:Nat,(Instr.next (.pointer (some ⟨bi,0,none⟩)) false ty).run P w=.ok (.tuple #[.bool true,e.key,e.val]) { w.drewN n with heap:=w.heap.setIfInBounds bi (.mapIter (some bm) clock (seen.push e.born) clock) }:=by
 have hleft:∀ x,x∈(Array.filter (fun e=>!seen.contains e.born) es).toList ↔ x∈es.toList∧x.born ∉ seen:=fun x=>by simp
 simp only [Instr.next,Sem.run_bind,FY hi rfl,FY hb rfl,Result.andThen,next_test_false seen es clock clock hold (zJ _),Bool.false_eq_true,if_false]
 have hmem:∀ x∈(Array.filter (fun e=>!seen.contains e.born) es).toList,x.born<clock:=fun x hx=>hold x ((hleft x).1 hx).1
 generalize hL:Array.filter (fun e=>!seen.contains e.born) es=L at hmem hleft ⊢
 have e1:L.filter (fun x=>decide (x.born<clock))=L:=Array.filter_eq_self.2 (fun x hx=>by simpa using hmem x (by simpa using hx))
 have e2:L.filter (fun x=>decide (x.born ≥ clock))=#[]:=by
  rw [Array.filter_eq_empty_iff]
  intro x hx
  have:=hmem x (by simpa using hx)
  simp
  omega
 simp only [e1,e2,Array.append_empty]
 by_cases h0:L.size=0
 ·left
  have:L=#[]:=Array.eq_empty_of_size_eq_zero h0
  subst this
  refine ⟨fun e he=>?_,?_⟩
  ·exact Classical.byContradiction fun hn=>by have:=(hleft e).2 ⟨he,hn⟩; simp at this
  ·simp [choose,Sem.run,Question.forced]
 ·right
  have hne:L.isEmpty=false:=by simp [Array.isEmpty,h0]
  simp only [hne,Bool.false_eq_true,if_false,Array.empty_append,Array.size_map]
  have hch:∃ (j:Nat) (n:Nat),j<L.size∧(choose (Question.mapNext L.size)).run P w=.ok j (w.drewN n):=by
   by_cases hf:L.size≤1
   ·exact ⟨0,0,by omega,by simp [choose,Sem.run,Question.forced,hf,World.drewN]⟩
   ·exact ⟨_,1,Nat.mod_lt _ (by omega),by
     simp only [choose,Sem.run,Question.forced,decide_eq_true_eq,hf,if_false,Question.cut]
     rfl⟩
  obtain ⟨j,n,hj,hrun⟩:=hch
  have hm:=(hleft L[j]).1 (by simp)
  refine ⟨L[j],hm.1,hm.2,n,?_⟩
  have hi':(w.drewN n).heap[bi]?=some (.mapIter (some bm) clock seen clock):=hi
  simp only [hrun,Array.getElem?_map,zU hj,Option.map_some,Sem.run_bind,Ux _ hi' rfl,Result.andThen]
  rfl
section
variable {P:Program} {c:Ctx} {ops:Array Oper} {s:Fst} {K:Kont} {o:Oper} {p:Nat}
theorem After.VH {I:Nat→Prop} {V:Nat→Option Value} {B:Nat→Nat→Prop} {w:World} {ob:Nat→Ob} (h:Wf w I V B ob) {p:Nat} (hp:ob p=.free) {ks:Bool} {m:MF} {x:Obj}
  (hx:ItO (w.alloc x) I (fun b=>b=w.heap.size) ks m [] none (.pointer (some ⟨w.heap.size,0,none⟩))) :
  After w I V B ob [(p,.it ks m [] none)] (w.alloc x) I (fun g=>if g=p then some (.pointer (some ⟨w.heap.size,0,none⟩)) else V g) (fun g b=>if g=p then b=w.heap.size else B g b):=by
 have hVp:=h.fr p hp
 have hV:VLe V (fun g=>if g=p then some (.pointer (some ⟨w.heap.size,0,none⟩)) else V g):=fun g u hu=>by
  by_cases e:g=p
  ·subst e; rw [hVp] at hu; cases hu
  ·simp only [e,if_false]; exact hu
 have ht:∀ g,As [(p,Ob.it ks m [] none)] g ↔ g=p:=fun g=>by simp [As]
 have hu:A3 ob [(p,.it ks m [] none)] p=.it ks m [] none:=by simp [A3,A7]
 refine After.mk' h rfl (TapeOk.mk' rfl rfl) rfl (by simp) (fun b hb _=>Below.heap_alloc w _ b hb) hV (fun g hg=>?_) (fun g hg hl'=>?_) (fun g b hg hl' hb=>?_) (fun g g' b hg hg' _ _ _ _=>?_) (fun g hg hf=>?_)
 ·have hg:¬ g=p:=fun e=>hg ((ht g).2 e)
  exact ⟨by funext b; simp only [hg,if_false],fun hf=>by simp only [hg,if_false]; exact h.fr g hf⟩
 ·obtain rfl:=(ht g).1 hg
  refine ⟨_,by simp only [if_true]; rfl,?_⟩
  rw [hu]
  simp only [if_true]
  exact hx
 ·obtain rfl:=(ht g).1 hg
  simp only [if_true] at hb
  subst hb
  exact .inl ⟨zJ _,by simp⟩
 ·rw [(ht g).1 hg,(ht g').1 hg']
 ·obtain rfl:=(ht g).1 hg
  rw [hu] at hf; cases hf
theorem Y7 {I:Nat→Prop} {V:Nat→Option Value} {B:Nat→Nat→Prop} {a:Act} {w:World} (hr:RepI c I V B s a w) {g:Nat} {ks:Bool} {m:MF} {seen:List MK} {cur:Option (MK × MV)} (hg:s.ob g=.it ks m seen cur) {v:Value} (hv:RepV w I V (.ptr g 0) v):V g=some v∧ItO w I (B g) ks m seen cur v:=by
 obtain ⟨val,h1,h2⟩:=hr.wf.obj g (by rw [hg]; trivial)
 rw [hg] at h2
 simp only [RepV] at hv
 obtain ⟨b,h3,h4⟩:=hv
 have h2':=h2
 obtain ⟨b',h5,_⟩:=h2'
 rw [h1,h5] at h3
 have e:b'=b:=by injection h3 with h3; injection h3 with h3; injection h3 with h3; injection h3
 subst e
 rw [h4,← h5]
 exact ⟨h1,h2⟩
theorem X7 {t:TypeId} {x:Operand} {q:Bool × TypeId} (hop:o.op=.range t x) (hq:C7 P t=some q) (hd:AA c.nt o.dst=true) (hp:s.ob p=.free) (h:eOp P (.mkit (trX x)) s.sl s.ob p K):Good P c o ops s K:=by
 obtain ⟨kt,d,hu,_,_⟩:=DY hq
 simp only [eOp] at h
 split at h
 ·rename_i ks m he
  refine ⟨_,_,_,h,fun s' ha hrd hup=>BG hd fun I V B a w hr=>?_⟩
  have hx:=Aq hr x
  rw [ha.ev (y:=x) (by simp [hop,Op.operands]),he] at hx
  simp only [RepV] at hx
  have hnew:∀ y:Obj,(w.alloc y).heap[w.heap.size]?=some y:=fun y=>(MapKept.heap_alloc w y).1
  rcases hx with ⟨h1,h2⟩ | ⟨r,es,clock,h1,h2,h3,h4⟩
  ·refine ⟨.pointer (some ⟨w.heap.size,0,none⟩),w.alloc (.mapIter none 0 #[] 0),_,_,_,?_,After.VH hr.wf (by rw [hup p (by simp),hp]) ⟨w.heap.size,rfl,fun _=>Iff.rfl,.inl ⟨hnew _,h2,rfl⟩⟩,?_⟩
   ·simp only [execOp,hop,h1]
    exact AH (run_range_nilMap w t kt q.2 hu)
   ·simp only [RepV,if_true]
    exact ⟨w.heap.size,rfl,rfl⟩
  ·have hlt:r<w.heap.size:=(zY.1 h3).1
   have hk:KeepS I w (w.alloc (.mapIter (some r) clock #[] clock)):=⟨by simp,fun b _ hb=>Below.heap_alloc w _ b hb⟩
   refine ⟨.pointer (some ⟨w.heap.size,0,none⟩),w.alloc (.mapIter (some r) clock #[] clock),_,_,_,?_,After.VH hr.wf (by rw [hup p (by simp),hp]) ⟨w.heap.size,rfl,fun _=>Iff.rfl,.inr ⟨r,es,clock,#[],hnew _,h2,by rw [Below.heap_alloc w _ r hlt]; exact h3,h4.mono hk fun _ h=>h,fun e he=>by simp,fun k x hc=>by cases hc⟩⟩,?_⟩
   ·simp only [execOp,hop,h1]
    exact AH (run_range_map w t kt q.2 r es clock hu h3)
   ·simp only [RepV,if_true]
    exact ⟨w.heap.size,rfl,rfl⟩
 ·exact h.elim
theorem MKR.sv {w:World} {I:Nat→Prop} {V:Nat→Option Value} {k:MK} {v:Value} (h:MKR k v):RepV w I V (MK.sv k) v:=by
 cases k <;> simpa only [MK.sv,RepV,MKR] using h
theorem X8 {x:Operand} (hop:o.op=.entry x) (hd:AA c.nt o.dst=true) (h:eOp P (.mcur (trX x)) s.sl s.ob p K):Good P c o ops s K:=by
 simp only [eOp] at h
 split at h
 ·rename_i g off he
  split at h
  ·rename_i ks m seen k mv hob
   obtain ⟨rfl,hK⟩:=h
   refine Aw hd hK fun s' ha hrd I V B a w hr=>?_
   have hx:=Aq hr x
   rw [ha.ev (by simp [hop,Op.operands]),he] at hx
   obtain ⟨_,b,h1,_,h3⟩:=Y7 hr (by rw [hrd g (by simp),hob]) hx
   rcases h3 with ⟨_,_,h3⟩ | ⟨r,es,clock,sn,h3,_,h5,h6,_,h8⟩
   ·cases h3
   ·obtain ⟨e,g1,g2,g3,g4⟩:=h8 k mv rfl
    refine ⟨.tuple #[e.key,e.val],?_,?_⟩
    ·simp only [execOp,hop,h1]
     refine AH ?_
     have hf:es.find? (·.born == e.born)=some e:=by rw [←Array.find?_toList]; exact find_born e es.toList ((MapKept.stamped_iff _ _).1 h6.st).2.1 g1
     simp [Instr.entry,FY h3 rfl,FY h5 rfl,g2,hf,Result.andThen]
    ·simp only [RepV]
     refine ⟨[e.key,e.val],rfl,?_⟩
     simp only [RepVs]
     exact ⟨_,_,rfl,g3.sv,_,_,rfl,g4.sv,rfl⟩
  ·exact h.elim
 ·exact h.elim
theorem After.X9 {I:Nat→Prop} {V:Nat→Option Value} {B:Nat→Nat→Prop} {w:World} {ob:Nat→Ob} (h:Wf w I V B ob) {g:Nat} {ks:Bool} {m:MF} {seen:List MK} {cur:Option (MK × MV)} (hg:ob g=.it ks m seen cur) {bi r:Nat} {es:Array MapEntry} {clock:Nat} {sn:Array Nat}
  (hV:V g=some (.pointer (some ⟨bi,0,none⟩))) (hB:∀ x,B g x ↔ x=bi) (hi:w.heap[bi]?=some (.mapIter (some r) clock sn clock)) (hIr:I r) (hb:w.heap[r]?=some (.map es clock)) (hent:EntR w I ks m es clock)
  (hsn:∀ e,e∈es.toList→(e.born∈sn ↔ ∃ k,k∈seen∧MKR k e.key)) {e:MapEntry} (he:e∈es.toList) {k:MK} {x:MV} (hk:MKR k e.key) (hx:MVR w I x e.val) (n:Nat) :
  After w I V B ob [(g,.it ks m (k :: seen) (some (k,x)))] { w.drewN n with heap:=w.heap.setIfInBounds bi (.mapIter (some r) clock (sn.push e.born) clock) } I V B:=by
 have ht:∀ g',As [(g,Ob.it ks m (k :: seen) (some (k,x)))] g' ↔ g'=g:=fun g'=>by simp [As]
 have hu:A3 ob [(g,.it ks m (k :: seen) (some (k,x)))] g=.it ks m (k :: seen) (some (k,x)):=by simp [A3,A7]
 have hlive:(ob g).live:=by rw [hg]; trivial
 obtain ⟨hs1,hs2⟩:=MapKept.heap_set (o':=Obj.mapIter (some r) clock (sn.push e.born) clock) hi
 have hnI:∀ b,I b→b≠bi:=fun b hI e'=>h.dI g b hlive ((hB b).2 e') hI
 have hkp:KeepS I w { w.drewN n with heap:=w.heap.setIfInBounds bi (.mapIter (some r) clock (sn.push e.born) clock) }:=⟨by simp,fun b hI _=>hs2 b (hnI b hI)⟩
 refine After.mk' h rfl (TapeOk.le rfl (Nat.le_add_right _ _)) rfl (by simp) (fun b' hb' hno=>hs2 b' fun e=>hno g ((ht g).2 rfl) hlive ((hB b').2 e)) (VLe.refl _) (fun g' hg'=>⟨rfl,fun hf=>h.fr g' hf⟩) (fun g' hg' hl'=>?_) (fun g' b' hg' hl' hb'=>?_) (fun g1 g2 b hg hg' _ _ _ _=>?_) (fun g' hg' hf=>?_)
 ·obtain rfl:=(ht g').1 hg'
  refine ⟨_,hV,?_⟩
  rw [hu]
  refine ⟨bi,rfl,hB,.inr ⟨r,es,clock,sn.push e.born,hs1,hIr,?_,hent.mono hkp fun _ h=>h,fun e' he'=>?_,fun k' x' hc=>?_⟩⟩
  ·rw [hs2 r (hnI r hIr)]; exact hb
  ·rw [Array.mem_push,hsn e' he']
   constructor
   ·rintro (⟨k',h1,h2⟩ | h1)
    ·exact ⟨k',by simp [h1],h2⟩
    ·have:e'=e:=by
      have h1':=find_born e es.toList ((MapKept.stamped_iff _ _).1 hent.st).2.1 he
      have h2':=find_born e' es.toList ((MapKept.stamped_iff _ _).1 hent.st).2.1 he'
      rw [h1] at h2'
      rw [h1'] at h2'
      exact (zB h2').symm
     subst this
     exact ⟨k,by simp,hk⟩
   ·rintro ⟨k',h1,h2⟩
    rcases zO.1 h1 with rfl | h1
    ·right
     have hkey:e'.key=e.key:=h2.val hk
     have hp:=((MapKept.stamped_iff _ _).1 hent.st).2.2
     obtain ⟨i,hi',rfl⟩:=List.getElem_of_mem he
     obtain ⟨j,hj',rfl⟩:=List.getElem_of_mem he'
     rw [List.pairwise_iff_getElem] at hp
     rcases Nat.lt_trichotomy i j with h5 | h5 | h5
     ·exact absurd hkey.symm (hp i j hi' hj' h5)
     ·subst h5; rfl
     ·exact absurd hkey (hp j i hj' hi' h5)
    ·exact .inl ⟨k',h1,h2⟩
  ·obtain ⟨rfl,rfl⟩:k=k'∧x=x':=by simpa using hc
   exact ⟨e,he,by simp,hk,hx.mono hkp fun _ h=>h⟩
 ·obtain rfl:=(ht g').1 hg'
  exact .inr ⟨g',hg',hlive,hb'⟩
 ·rw [(ht g1).1 hg,(ht g2).1 hg']
 ·obtain rfl:=(ht g').1 hg'
  rw [hu] at hf; cases hf
theorem Uy {I:Nat→Prop} {V:Nat→Option Value} {B:Nat→Nat→Prop} {a:Act} {w:World} (hr:RepI c I V B s a w) {it:Operand} {g:Nat} {ks:Bool} {m:MF} {seen:List MK} {cur:Option (MK × MV)} (he:Ar s.sl (trX it)=.ptr g 0) (hg:s.ob g=.it ks m seen cur) (ty:TypeId) :
  ((∀ k x,m k=some x→k∈seen)∧(Instr.next (a.eval it) false ty).run P w=.ok (.tuple #[.bool false]) w) ∨
  ∃ k x w' u v,m k=some x∧k ∉ seen∧(Instr.next (a.eval it) false ty).run P w=.ok (.tuple #[.bool true,u,v]) w'∧After w I V B s.ob [(g,.it ks m (k :: seen) (some (k,x)))] w' I V B:=by
 have hx:=Aq hr it
 rw [he] at hx
 obtain ⟨hV,b,h1,hB,h3⟩:=Y7 hr hg hx
 rcases h3 with ⟨h3,h4,_⟩ | ⟨r,es,clock,sn,h3,h4,h5,h6,h7,_⟩
 ·refine .inl ⟨fun k x hk=>(by rw [h4 k] at hk; cases hk),?_⟩
  rw [h1]
  simp [Instr.next,FY h3 rfl,Result.andThen]
 ·rw [h1] at hV ⊢
  rcases run_next_at (P:=P) ty h3 h5 h6.st.1 with ⟨g1,g2⟩ | ⟨e,g1,g2,n,g3⟩
  ·refine .inl ⟨fun k x hk=>?_,g2⟩
   obtain ⟨e,he1,he2⟩:=h6.all k x hk
   obtain ⟨k',hk1,hk2⟩:=(h7 e he1).1 (g1 e he1)
   rw [he2.inj hk2]; exact hk1
  ·obtain ⟨k,x,hk1,_,hk3,hk4⟩:=h6.ent e g1
   refine .inr ⟨k,x,_,e.key,e.val,hk3,fun hs=>g2 ((h7 e g1).2 ⟨k,hs,hk1⟩),g3,?_⟩
   exact After.X9 hr.wf hg hV hB h3 h4 h5 h6 h7 g1 hk1 hk4 n
end
section
variable {P:Program} {c:Ctx} {ops:Array Oper} {s:Fst} {K:Kont} {p:Nat}
theorem VI:∀ {o:Oper} {so:SOp},Cc P o=some so→AA c.nt o.dst=true→s.ob p=.free→eOp P so s.sl s.ob p K→Good P c o ops s K:=by
 intro o so ho hd hp h
 obtain ⟨dst,op,ty,pos,after,guard⟩:=o
 cases op with
 | move x=>simp only [Cc,zD] at ho; subst ho; exact TD (.inl rfl) hd h
 | assign x=>simp only [Cc,zD] at ho; subst ho; exact TD (.inr rfl) hd h
 | pick x y z=>simp only [Cc,zD] at ho; subst ho; exact Xx rfl hd h
 | alloc t =>
  simp only [Cc] at ho
  obtain ⟨z,hz,rfl⟩:=zC.1 ho
  exact V5 rfl hz hd hp h
 | box t x =>
  simp only [Cc] at ho
  obtain ⟨i,hi,rfl⟩:=zC.1 ho
  exact YH rfl hd hp h
 | build t parts =>
  simp only [Cc] at ho
  split at ho
  ·rename_i fs z hu hz
   split at ho
   ·cases ho
   ·rename_i hall
    obtain ⟨qs,hq,rfl⟩:=zC.1 ho
    refine VF rfl hu hz hq (fun f hf=>?_) hd h
    simp only [Bool.not_eq_true,Bool.not_eq_false',zN] at hall
    exact Option.isSome_iff_exists.1 (hall f hf)
  ·cases ho
 | buildSlice t len parts =>
  simp only [Cc] at ho
  split at ho
  ·rename_i e hu
   split at ho
   ·rename_i i z hi hz
    split at ho
    ·rename_i hc
     obtain rfl:=zB ho
     simp only [zE,decide_eq_true_eq,beq_iff_eq,zN] at hc
     exact VE rfl hu hi hz hc.1.1.1 hc.1.1.2 hc.1.2 hc.2 hd hp h
    ·cases ho
   ·cases ho
  ·cases ho
 | load t x =>
  simp only [Cc] at ho
  split at ho
  ·rename_i g i hg hi
   split at ho
   ·rename_i h1
    obtain rfl:=zB ho
    exact Xy rfl hg hi h1 hd hp h
   ·cases ho
  ·cases ho
 | store t x y =>
  simp only [Cc] at ho
  obtain ⟨i,hi,rfl⟩:=zC.1 ho
  simp only [eOp] at h
  split at h
  ·rename_i g off he
   split at h
   ·rename_i t0 l vs hob hc
    exact Qa rfl hi hd he hob hc h.1.1 h.1.2 h.2
   ·exact h.elim
  ·rename_i g sz k off he
   split at h
   ·rename_i t0 sz' es vs hob hc
    split at h
    ·rename_i ls hls
     obtain ⟨⟨rfl,h1,h2,h3⟩,l,hl,hK⟩:=h
     exact Qc rfl hi hd he hob hc hls h1 h2 h3 hl hK
    ·exact h.elim
   ·rename_i es hs vs hob hc
    obtain ⟨v,z,rfl,h1,h2,l,hl,⟨h3,h4⟩,hK⟩:=h
    exact Ow rfl hi hd he hob hc h1 h2 hl h3 h4 hK
   ·exact h.elim
  ·exact h.elim
 | nilCheck x=>simp only [Cc,zD] at ho; subst ho; exact YL rfl hd h
 | binOp op t x y t'=>simp only [Cc,zD] at ho; subst ho; exact YK rfl hd h
 | unOp op t x=>simp only [Cc,zD] at ho; subst ho; exact Z9 rfl hd h
 | convert sr ds x =>
  simp only [Cc] at ho
  split at ho
  ·rename_i d k h1 h2
   obtain rfl:=zB ho
   exact X1 rfl h1 h2 hd h
  ·cases ho
 | makeFunc fn first caps =>
  cases fn <;> simp only [Cc] at ho <;> try (cases ho; done)
  rename_i f
  split at ho
  ·rename_i hf
   obtain rfl:=zB ho
   have:first=#[]:=by simpa using hf
   subst this
   exact X2 rfl hd h
  ·cases ho
 | makeSlice t l cp =>
  simp only [Cc] at ho
  split at ho
  ·rename_i e hu
   split at ho
   ·rename_i i z hi hz
    split at ho
    ·rename_i hc
     obtain rfl:=zB ho
     simp only [zE,decide_eq_true_eq,beq_iff_eq] at hc
     exact SB rfl hc.1.1 hu hi hz hc.1.2 hc.2 hd hp h
    ·cases ho
   ·cases ho
  ·cases ho
 | slice t x lo hi mx =>
  cases mx <;> simp only [Cc] at ho <;> try (cases ho; done)
  split at ho
  ·rename_i hu
   obtain rfl:=zB ho
   exact Qb rfl hu hd h
  ·rename_i e hu
   obtain ⟨i,hi',rfl⟩:=zC.1 ho
   exact VB rfl hu hi' hd hp h
  ·cases ho
 | fieldAddr t x k =>
  simp only [Cc] at ho
  split at ho
  ·rename_i off n g hf
   split at ho
   ·cases ho
   ·rename_i hn
    obtain rfl:=zB ho
    exact V6 rfl hf hn hd h
  ·cases ho
 | field t x k =>
  simp only [Cc] at ho
  split at ho
  ·rename_i off n g hf
   split at ho
   ·rename_i h1
    obtain rfl:=zB ho
    exact V7 rfl hf h1 hd h
   ·cases ho
  ·cases ho
 | indexAddr t x i =>
  simp only [Cc] at ho
  split at ho
  ·rename_i e hu
   obtain ⟨j,hj,rfl⟩:=zC.1 ho
   exact V9 rfl hu hj hd h
  ·cases ho
 | index t x i =>
  simp only [Cc] at ho
  split at ho
  ·rename_i hu
   obtain rfl:=zB ho
   exact YJ rfl hu hd h
  ·cases ho
 | extract x k=>simp only [Cc,zD] at ho; subst ho; exact YI rfl hd h
 | makeMap t hint =>
  simp only [Cc] at ho
  obtain ⟨q,hq,rfl⟩:=zC.1 ho
  exact VG rfl hq hd hp h
 | mapUpdate t m k v =>
  simp only [Cc] at ho
  obtain ⟨q,hq,rfl⟩:=zC.1 ho
  exact TJ (.inl rfl) hq hd h
 | insert t m k v =>
  simp only [Cc] at ho
  obtain ⟨q,hq,rfl⟩:=zC.1 ho
  exact TJ (.inr rfl) hq hd h
 | range t x =>
  simp only [Cc] at ho
  obtain ⟨q,hq,rfl⟩:=zC.1 ho
  exact X7 rfl hq hd hp h
 | entry x=>simp only [Cc,zD] at ho; subst ho; exact X8 rfl hd h
 | makeInterface t x=>simp only [Cc,zD] at ho; subst ho; simp only [eOp,Ar] at h
 | panic x=>simp only [Cc,zD] at ho; subst ho; simp only [eOp,Ar] at h
 | lookup t m k ok =>
  simp only [Cc] at ho
  split at ho
  ·rename_i ks et hq
   split at ho
   ·rename_i z g hz hg
    obtain rfl:=zB ho
    exact X6 rfl hq hz hg hd h
   ·cases ho
  ·cases ho
 | call cl =>
  obtain ⟨callee,args,ts⟩:=cl
  cases callee with
  | value f =>
   cases f with
   | func g =>
    simp only [Cc] at ho
    split at ho
    ·rename_i hg
     obtain rfl:=zB ho
     exact X3 rfl hg hd h
    ·cases ho
   | tmp k=>simp only [Cc,zD] at ho; subst ho; exact MG rfl hd h
   | const v=>simp only [Cc,zD] at ho; subst ho; exact MG rfl hd h
   | global k=>simp only [Cc,zD] at ho; subst ho; exact MG rfl hd h
  | invoke x m=>simp only [Cc] at ho; cases ho
  | builtin b =>
   cases b <;> simp only [Cc] at ho <;> try (cases ho; done)
   case append =>
    split at ho
    ·rename_i x y t t' ha ht
     split at ho
     ·rename_i e hu
      split at ho
      ·rename_i i z hi hz
       split at ho
       ·rename_i hc
        obtain rfl:=zB ho
        simp only [zE,decide_eq_true_eq,beq_iff_eq] at hc
        obtain ⟨⟨rfl,hc1⟩,hc2⟩:=hc
        obtain rfl:args=#[x,y]:=yI ha
        obtain rfl:ts=#[t,t]:=yI ht
        exact Uw rfl hu hi hz hc1 hc2 hd hp h
       ·cases ho
      ·cases ho
     ·cases ho
    ·cases ho
   case len =>
    split at ho
    ·rename_i x t ha ht
     obtain rfl:args=#[x]:=yI ha
     obtain rfl:ts=#[t]:=yI ht
     split at ho
     ·rename_i hu
      obtain rfl:=zB ho
      exact V8 rfl (fun _=>hu) (fun e=>by cases e) hd h
     ·rename_i e hu
      obtain rfl:=zB ho
      exact V8 rfl (fun e=>by cases e) (fun _=>⟨e,hu⟩) hd h
     ·cases ho
    ·cases ho
   case max =>
    split at ho
    ·rename_i x y ha
     obtain rfl:args=#[x,y]:=yI ha
     obtain rfl:=zB ho
     exact OX (mx:=true) rfl hd h
    ·cases ho
   case min =>
    split at ho
    ·rename_i x y ha
     obtain rfl:args=#[x,y]:=yI ha
     obtain rfl:=zB ho
     exact OX (mx:=false) rfl hd h
    ·cases ho
 | _=>simp only [Cc] at ho; cases ho
end
structure St where
 sl:List SV
 ob:List Ob
def gets:List SV→Nat→SV
 | [],_=>.any
 | x :: _,0=>x
 | _ :: r,k+1=>gets r k
def Am:List Ob→Nat→Ob
 | [],_=>.free
 | x :: _,0=>x
 | _ :: r,k+1=>Am r k
def Fh:List SV→Nat→SV→List SV
 | [],_,_=>[]
 | _ :: r,0,y=>y :: r
 | x :: r,k+1,y=>x :: Fh r k y
def St.f (s:St):Fst:=⟨gets s.sl,Am s.ob⟩
def JZ (upd:List (Nat × Ob)):Nat→List Ob→List Ob
 | _,[]=>[]
 | k,o :: r=>(A7 upd k).getD o :: JZ upd (k+1) r
def MS (upd:List (Nat × Ob)):Nat→Nat→List Ob
 | 0,_=>[]
 | n+1,k=>match A7 upd k with
  | some o=>o :: MS upd n (k+1)
  | none=>[]
def C8 (l:List Ob) (upd:List (Nat × Ob)):List Ob:=JZ upd 0 l++MS upd upd.length l.length
def EF (l:List SV) (d:Option Tmp) (x:SV):List SV :=
 match d with
 | some k=>Fh l k x
 | none=>l
def St.app (s:St) (d:Option Tmp) (x:SV) (upd:List (Nat × Ob)):St:=⟨EF s.sl d x,C8 s.ob upd⟩
def okU (n:Nat):List (Nat × Ob)→Prop
 | []=>True
 | (g,_) :: r=>g < n∧okU n r
theorem KR:∀ (l:List SV) (k j:Nat) (x:SV),k<l.length→gets (Fh l k x) j=if k=j then x else gets l j
 | [],k,j,x,h=>absurd h (by simp)
 | y :: r,0,0,x,_=>by simp [Fh,gets]
 | y :: r,0,j+1,x,_=>by simp [Fh,gets]
 | y :: r,k+1,0,x,_=>by simp [Fh,gets]
 | y :: r,k+1,j+1,x,h=>by
  simp only [Fh,gets,z7]
  exact KR r k j x (by simpa using h)
theorem Hx:∀ (l:List SV) (k:Nat) (x:SV),(Fh l k x).length=l.length
 | [],_,_=>rfl
 | _ :: _,0,_=>rfl
 | _ :: r,k+1,x=>by simp [Fh,Hx r k x]
theorem Pb (upd:List (Nat × Ob)):∀ (l:List Ob) (k j:Nat),j<l.length→Am (JZ upd k l) j=(A7 upd (k+j)).getD (Am l j)
 | [],k,j,h=>absurd h (by simp)
 | o :: r,k,0,_=>by simp [JZ,Am]
 | o :: r,k,j+1,h=>by
  simp only [JZ,Am]
  rw [Pb upd r (k+1) j (by simpa using h),show k+1+j=k+(j+1) by omega]
theorem Ka (upd:List (Nat × Ob)):∀ (l:List Ob) (k:Nat),(JZ upd k l).length=l.length
 | [],_=>rfl
 | o :: r,k=>by simp [JZ,Ka upd r (k+1)]
theorem Kb:∀ (l l':List Ob) (j:Nat),Am (l++l') j=if j<l.length then Am l j else Am l' (j-l.length)
 | [],l',j=>by simp
 | o :: r,l',0=>by simp [Am]
 | o :: r,l',j+1=>by
  simp only [yM,Am,zQ,zT,yC]
  exact Kb r l' j
theorem Rc (upd:List (Nat × Ob)):∀ (n k j:Nat),j<(MS upd n k).length→Am (MS upd n k) j=(A7 upd (k+j)).getD .free
 | 0,k,j,h=>absurd h (by simp [MS])
 | n+1,k,j,h=>by
  simp only [MS] at h ⊢
  split
  ·rename_i o ho
   rw [ho] at h
   cases j with
   | zero=>simp [Am,ho]
   | succ j =>
    simp only [Am]
    rw [Rc upd n (k+1) j (by simpa using h),show k+1+j=k+(j+1) by omega]
  ·rename_i ho
   rw [ho] at h
   simp at h
theorem A5:∀ (l:List Ob) (j:Nat),l.length≤j→Am l j=.free
 | [],j,_=>rfl
 | o :: r,0,h=>by simp at h
 | o :: r,j+1,h=>A5 r j (by simpa using h)
theorem Rd {n:Nat}:∀ {upd:List (Nat × Ob)},okU n upd→∀ g,A7 upd g≠none→g<n
 | [],_,g,h=>absurd rfl h
 | (k,o) :: r,h,g,hg=>by
  simp only [okU] at h
  simp only [A7] at hg
  split at hg
  ·rename_i e; subst e; exact h.1
  ·exact Rd h.2 g hg
theorem VJ {l:List Ob} {upd:List (Nat × Ob)} (h:okU (C8 l upd).length upd) (g:Nat):Am (C8 l upd) g=(A7 upd g).getD (Am l g):=by
 unfold C8 at h ⊢
 rw [Kb,Ka]
 by_cases h1:g<l.length
 ·rw [if_pos h1,Pb upd l 0 g h1,zP]
 ·rw [if_neg h1,A5 l g (by omega)]
  rcases zF (g-l.length) (MS upd upd.length l.length).length with h2 | h2
  ·rw [Rc upd _ _ _ h2,show l.length+(g-l.length)=g by omega]
  ·rw [A5 _ _ h2]
   cases hl:A7 upd g with
   | none=>rfl
   | some o =>
    have:=Rd h g (by rw [hl]; simp)
    rw [yJ,Ka] at this
    omega
theorem St.Re {s:St} {d:Option Tmp} {x:SV} {upd:List (Nat × Ob)} (hd:AA s.sl.length d=true) (h:okU (C8 s.ob upd).length upd):(s.app d x upd).f=s.f.app d x upd:=by
 unfold St.app St.f Fst.app Fst.setO Fst.put
 congr 1
 ·funext k
  cases d with
  | none=>simp [EF]
  | some d =>
   simp only [AA,decide_eq_true_eq] at hd
   simp only [EF,zD]
   exact KR _ _ _ _ hd
 ·funext g
  exact VJ h g
structure SOper where
 dst:Option Tmp
 gd:Option (Nat × Bool)
 op:SOp
def Pc (P:Program) (o:SOper) (st:St) (K:Ent→St→Prop):Prop :=
 match o.gd with
 | none=>eOp P o.op (gets st.sl) (Am st.ob) st.ob.length fun x upd rd=>okU (C8 st.ob upd).length upd∧K ⟨true,x,upd,rd⟩ (st.app o.dst x upd)
 | some (k,want)=>match gets st.sl k with
  | .bool b=>(b=want→eOp P o.op (gets st.sl) (Am st.ob) st.ob.length fun x upd rd=>okU (C8 st.ob upd).length upd∧K ⟨true,x,upd,rd⟩ (st.app o.dst x upd))∧(b=!want→K ⟨false,.tup [],[],[]⟩ ⟨EF st.sl o.dst (.tup []),st.ob⟩)
  | .tup l=>l=[]∧K ⟨false,.tup [],[],[]⟩ ⟨EF st.sl o.dst (.tup []),st.ob⟩
  | _=>False
def VK (P:Program):List SOper→St→(List Ent→St→Prop)→Prop
 | [],st,K=>K [] st
 | o :: r,st,K=>Pc P o st fun e st'=>VK P r st' fun es st''=>K (e :: es) st''
def VL (P:Program):List SOper→St→(St→Prop)→Prop
 | [],st,K=>K st
 | o :: r,st,K=>Pc P o st fun _ st'=>VL P r st' K
def VM (ops:Array Oper) (o:Oper):Option (Option (Nat × Bool)) :=
 match o.guard with
 | none=>some none
 | some (j,want)=>((ops[j]?).bind (·.dst)).map fun d=>some (d,want)
def EG (P:Program) (ops:Array Oper) (o:Oper):Option SOper :=
 match VM ops o,Cc P o with
 | some g,some so=>some ⟨o.dst,g,so⟩
 | _,_=>none
section
variable {P:Program} {c:Ctx} {ops:Array Oper}
theorem It {o:Oper} {g:Option (Nat × Bool)} (h:VM ops o=some g) (s:Fst) (b:Bool) (hb:match g with | none=>b=true | some (k,want)=>s.sl k=.bool (b == want)∨(b=false∧s.sl k=.tup [])):Im ops o s b:=by
 unfold VM at h
 unfold Im
 cases hg:o.guard with
 | none=>rw [hg] at h; simp only [zD] at h; subst h; exact hb
 | some q =>
  obtain ⟨j,want⟩:=q
  rw [hg] at h
  simp only at h
  obtain ⟨d,hd,rfl⟩:=zC.1 h
  exact ⟨d,hd,hb⟩
theorem MT {o:Oper} {k:Nat} {want:Bool} (h:VM ops o=some (some (k,want))):k∈o.looksAt ops:=by
 unfold VM at h
 cases hg:o.guard with
 | none=>rw [hg] at h; simp at h
 | some q =>
  obtain ⟨j,w'⟩:=q
  rw [hg] at h
  simp only at h
  obtain ⟨d,hd,h2⟩:=zC.1 h
  simp only [zD,zH] at h2
  obtain ⟨rfl,rfl⟩:=h2
  unfold Oper.looksAt
  refine yD _ ?_
  rw [hg]
  simp only [hd,Option.toList_some,z8]
theorem LB {o:Oper} {so:SOper} {st:St} {K:Ent→St→Prop} (ho:EG P ops o=some so) (hlen:st.sl.length=c.nt) (hd:AA c.nt o.dst=true) (h:Pc P so st K) :
  ∃ e st',K e st'∧PT P c ops o e st.f∧st'.f=st.f.app o.dst e.x e.upd∧st'.sl.length=c.nt:=by
 unfold EG at ho
 split at ho
 ·rename_i g op hg hop
  obtain rfl:=zB ho
  have hp:st.f.ob st.ob.length=.free:=A5 _ _ (zJ _)
  have plen:∀ x,(EF st.sl o.dst x).length=c.nt:=fun x=>by cases o.dst <;> simp [EF,Hx,hlen]
  have main:(∀ s':Fst,(∀ k,k∈o.looksAt ops→s'.sl k=st.f.sl k)→Im ops o s' true)→(eOp P op (gets st.sl) (Am st.ob) st.ob.length fun x upd rd=>okU (C8 st.ob upd).length upd∧K ⟨true,x,upd,rd⟩ (st.app o.dst x upd)) →
    ∃ e st',K e st'∧PT P c ops o e st.f∧st'.f=st.f.app o.dst e.x e.upd∧st'.sl.length=c.nt:=fun hgd h=>by
   obtain ⟨x,upd,rd,⟨hU,hK⟩,hv⟩:=VI (c:=c) (ops:=ops) (s:=st.f) hop hd hp h
   refine ⟨⟨true,x,upd,rd⟩,st.app o.dst x upd,hK,fun s' h1 h2 h3=>⟨hgd s' h1,?_⟩,St.Re (by rw [hlen]; exact hd) hU,plen x⟩
   rw [if_pos rfl]
   exact hv s' h1 h2 h3
  unfold Pc at h
  cases g with
  | none =>
   simp only at h
   exact main (fun s' _=>It hg s' true rfl) h
  | some q =>
   obtain ⟨k,want⟩:=q
   simp only at h
   split at h
   ·rename_i b hb
    by_cases hw:b=want
    ·exact main (fun s' h1=>It hg s' true (by
      simp only
      rw [h1 k (MT hg)]
      left
      show gets st.sl k=_
      rw [hb,hw]; simp)) (h.1 hw)
    ·have hbw:b=!want:=by cases b <;> cases want <;> simp_all
     refine ⟨⟨false,.tup [],[],[]⟩,⟨EF st.sl o.dst (.tup []),st.ob⟩,h.2 hbw,fun s' h1 _ _=>⟨It hg s' false (by
      simp only
      rw [h1 k (MT hg)]
      left
      show gets st.sl k=_
      rw [hb,hbw]; simp),by rw [if_neg (by simp)]; exact ⟨rfl,rfl⟩⟩,?_,plen _⟩
     have:C8 st.ob []=st.ob:=by
      have:∀ (l:List Ob) k,JZ [] k l=l:=by
       intro l
       induction l with
       | nil=>intro k; rfl
       | cons o r ih=>intro k; simp [JZ,A7,ih]
      simp [C8,this,MS]
     have h2:=St.Re (s:=st) (d:=o.dst) (x:=.tup []) (upd:=[]) (by rw [hlen]; exact hd) (by simp [okU])
     unfold St.app at h2
     rw [this] at h2
     exact h2
   ·rename_i l hb
    refine ⟨⟨false,.tup [],[],[]⟩,⟨EF st.sl o.dst (.tup []),st.ob⟩,h.2,fun s' h1 _ _=>⟨It hg s' false (by
     simp only
     rw [h1 k (MT hg)]
     right
     refine ⟨trivial,?_⟩
     show gets st.sl k=_
     rw [hb,h.1]),by rw [if_neg (by simp)]; exact ⟨rfl,rfl⟩⟩,?_,plen _⟩
    have:C8 st.ob []=st.ob:=by
     have:∀ (l:List Ob) k,JZ [] k l=l:=by
      intro l
      induction l with
      | nil=>intro k; rfl
      | cons o r ih=>intro k; simp [JZ,A7,ih]
     simp [C8,this,MS]
    have h2:=St.Re (s:=st) (d:=o.dst) (x:=.tup []) (upd:=[]) (by rw [hlen]; exact hd) (by simp [okU])
    unfold St.app at h2
    rw [this] at h2
    exact h2
   ·exact h.elim
 ·cases ho
theorem Jw:∀ {l:List Oper} {sl:List SOper} {st:St} {K:List Ent→St→Prop},AI (l.map (EG P ops))=some sl→st.sl.length=c.nt→(∀ o∈l,AA c.nt o.dst=true)→VK P sl st K →
  ∃ es st',K es st'∧TextOk P c ops l es st.f∧ID l es st.f=st'.f∧st'.sl.length=c.nt
 | [],sl,st,K,hs,hlen,_,h=>by
  simp only [yO,AI,zD] at hs
  subst hs
  exact ⟨[],st,h,rfl,rfl,hlen⟩
 | o :: l,sl,st,K,hs,hlen,hd,h=>by
  simp only [zR] at hs
  cases ho:EG P ops o with
  | none=>rw [ho] at hs; cases hs
  | some so =>
   rw [ho] at hs
   simp only [AI] at hs
   obtain ⟨sl',hs',rfl⟩:=zC.1 hs
   simp only [VK] at h
   obtain ⟨e,st1,h1,h2,h3,h4⟩:=LB ho hlen (hd o (by simp)) h
   obtain ⟨es,st2,g1,g2,g3,g4⟩:=Jw hs' h4 (fun o' ho'=>hd o' (by simp [ho'])) h1
   refine ⟨e :: es,st2,g1,?_,?_,g4⟩
   ·simp only [TextOk]
    exact ⟨e,es,rfl,h2,by rw [←h3]; exact g2⟩
   ·simp only [ID]
    rw [←h3]; exact g3
theorem Jy:∀ {l:List Oper} {sl:List SOper} {st:St} {K:St→Prop},AI (l.map (EG P ops))=some sl→st.sl.length=c.nt→(∀ o∈l,AA c.nt o.dst=true)→VL P sl st K →
  ∃ es st',K st'∧TextOk P c ops l es st.f∧ID l es st.f=st'.f∧st'.sl.length=c.nt
 | [],sl,st,K,hs,hlen,_,h=>by
  simp only [yO,AI,zD] at hs
  subst hs
  exact ⟨[],st,h,rfl,rfl,hlen⟩
 | o :: l,sl,st,K,hs,hlen,hd,h=>by
  simp only [zR] at hs
  cases ho:EG P ops o with
  | none=>rw [ho] at hs; cases hs
  | some so =>
   rw [ho] at hs
   simp only [AI] at hs
   obtain ⟨sl',hs',rfl⟩:=zC.1 hs
   simp only [VL] at h
   obtain ⟨e,st1,h1,h2,h3,h4⟩:=LB ho hlen (hd o (by simp)) h
   obtain ⟨es,st2,g1,g2,g3,g4⟩:=Jy hs' h4 (fun o' ho'=>hd o' (by simp [ho'])) h1
   refine ⟨e :: es,st2,g1,?_,?_,g4⟩
   ·simp only [TextOk]
    exact ⟨e,es,rfl,h2,by rw [←h3]; exact g2⟩
   ·simp only [ID]
    rw [←h3]; exact g3
end
inductive SC where
 |skip
 |reg (ops:List SOper)
 |dreg (anc:List (List Nat)) (ops:List SOper)
 |seq (a b:SC)
 |cond (c:SX) (a b:SC)
 |block (id:Nat) (b:SC)
 |loop (junk:List Nat) (b:SC)
 |exit (id:Nat)
 |ret
 |next (it:SX) (nx more:Nat)
 |mloop (keep keepO:List Nat) (it:SX) (nx more:Nat) (b:SC)
def wrC:SC→List Nat
 | .reg ops=>ops.filterMap (·.dst)
 | .dreg _ ops=>ops.filterMap (·.dst)
 | .seq a b=>wrC a++wrC b
 | .cond _ a b=>wrC a++wrC b
 | .block _ b=>wrC b
 | .loop j _=>j
 | .next _ a b=>[a,b]
 | _=>[]
def SD (nt:Nat) (ops:Array Oper) (draw:Bool):Option (SX × Nat × Nat) :=
 match ops.toList with
 | [o1,o2]=>match o1.op,o1.dst,o1.guard,o2.op,o2.dst,o2.guard with
  | .next x false,some nx,none,.extract (.tmp k) 0,some more,none=>if draw=false∧k=nx∧nx < nt∧more < nt∧nx≠more then some (trX x,nx,more) else none
  | _,_,_,_,_,_=>none
 | _=>none
theorem Rf {nt:Nat} {ops:Array Oper} {draw:Bool} {q:SX × Nat × Nat} (h:SD nt ops draw=some q):draw=false∧∃ x o1 o2,ops.toList=[o1,o2]∧o1.dst=some q.2.1∧o1.op=.next x false∧o1.guard=none∧o2.dst=some q.2.2∧o2.op=.extract (.tmp q.2.1) 0∧o2.guard=none∧q.1=trX x∧q.2.1<nt∧q.2.2<nt∧q.2.1≠q.2.2:=by
 unfold SD at h
 split at h
 ·rename_i o1 o2 hl
  split at h
  ·rename_i x nx k more h1 h2 h3 h4 h5 h6
   split at h
   ·rename_i hc
    obtain ⟨rfl,rfl,hc1,hc2,hc3⟩:=hc
    obtain rfl:=zB h
    exact ⟨rfl,x,o1,o2,hl,h2,h1,h3,h5,h4,h6,rfl,hc1,hc2,hc3⟩
   ·cases h
  ·cases h
 ·cases h
def trC (P:Program) (nt:Nat):Code→Option SC
 | .skip=>some .skip
 | .region _ ops draw=>match SD nt ops draw with
  | some q=>some (.next q.1 q.2.1 q.2.2)
  | none=>match AI (ops.toList.map (EG P ops)) with
   | some sl=>if ops.toList.all (fun o=>AA nt o.dst&&KL nt ops o) then
     if draw then
      if OR ops.toList (PV ops.toList [])&&decide ((PV ops.toList []).length=ops.toList.length) then some (.dreg (PV ops.toList []) sl) else none
     else some (.reg sl)
    else none
   | none=>none
 | .seq a b=>match trC P nt a,trC P nt b with
  | some x,some y=>some (.seq x y)
  | _,_=>none
 | .cond c a b=>match trC P nt a,trC P nt b with
  | some x,some y=>some (.cond (trX c) x y)
  | _,_=>none
 | .block id b=>(trC P nt b).map (.block id)
 | .loop b=>(trC P nt b).map fun x=>.loop (wrC x).eraseDups x
 | .exit id=>some (.exit id)
 | .ret=>some .ret
 | _=>none
inductive X where
 |normal
 |exit (id:Nat)
 |ret
def X.exit':X→Exit
 | .normal=>.normal
 | .exit id=>.exit id
 | .ret=>.ret
def Run (P:Program) (c:Ctx) (sc:SC) (K:X→St→Prop) (st:St):Prop :=
 ∀ (code:Code),trC P c.nt code=some sc→∀ (a:Act) (w:World) (Q:Exit→Act→World→Prop),st.sl.length=c.nt→Rep c st.f a w →
  (∀ x st' a' w',K x st'→st'.sl.length=c.nt→Rep c st'.f a' w'→Q x.exit' a' w')→code.wp P Q a w
def FB (nx more:Nat) (st:St) (b:Bool) (u:List (Nat × Ob)):St:=(st.app (some nx) .any u).app (some more) (.bool b) []
def sw (P:Program) (c:Ctx):SC→(X→St→Prop)→St→Prop
 | .skip,K,st=>K .normal st
 | .reg ops,K,st=>VL P ops st (K .normal)
 | .dreg anc ops,K,st=>VK P ops st fun es st'=>obB anc [] (IE es) 0=true∧K .normal st'
 | .seq a b,K,st=>sw P c a (fun x st'=>match x with | .normal=>sw P c b K st' | x=>K x st') st
 | .cond cx a b,K,st=>match Ar (gets st.sl) cx with
  | .bool t=>(t=true→sw P c a K st)∧(t=false→sw P c b K st)
  | _=>False
 | .block id b,K,st=>sw P c b (fun x st'=>match x with | .exit i=>if i=id then K .normal st' else K (.exit i) st' | x=>K x st') st
 | .loop j b,K,st=>Run P c (.loop j b) K st
 | .exit id,K,st=>K (.exit id) st
 | .ret,K,st=>K .ret st
 | .next it nx more,K,st=>match Ar (gets st.sl) it with
  | .ptr g o=>match Am st.ob g with
   | .it ks m seen cur=>o=0∧((∀ k x,m k=some x→k∈seen)→K .normal (FB nx more st false []))∧∀ k x,m k=some x→k ∉ seen→K .normal (FB nx more st true [(g,.it ks m (k :: seen) (some (k,x)))])
   | _=>False
  | _=>False
 | .mloop _ _ _ _ _ _,_,_=>False
section
variable {P:Program} {c:Ctx}
theorem FD (hm:P.follows .mixedOrders=true):∀ (sc:SC) (K:X→St→Prop) (st:St),sw P c sc K st→Run P c sc K st
 | .skip,K,st,h=>by
  intro code hc a w Q hl hr hq
  cases code <;> simp only [trC] at hc <;> (try (cases hc; done)) <;> (try (split at hc <;> (try split at hc) <;> (try split at hc) <;> (try split at hc) <;> (try split at hc) <;> cases hc; done)) <;> (try (obtain ⟨_,_,e⟩:=zC.1 hc; cases e; done))
  exact wp_skip (hq _ _ _ _ h hl hr)
 | .exit id,K,st,h=>by
  intro code hc a w Q hl hr hq
  cases code <;> simp only [trC] at hc <;> (try (cases hc; done)) <;> (try (split at hc <;> (try split at hc) <;> (try split at hc) <;> (try split at hc) <;> (try split at hc) <;> cases hc; done)) <;> (try (obtain ⟨_,_,e⟩:=zC.1 hc; cases e; done))
  obtain rfl:=SC.exit.inj (zB hc)
  exact wp_exit (hq _ _ _ _ h hl hr)
 | .ret,K,st,h=>by
  intro code hc a w Q hl hr hq
  cases code <;> simp only [trC] at hc <;> (try (cases hc; done)) <;> (try (split at hc <;> (try split at hc) <;> (try split at hc) <;> (try split at hc) <;> (try split at hc) <;> cases hc; done)) <;> (try (obtain ⟨_,_,e⟩:=zC.1 hc; cases e; done))
  exact wp_ret (hq _ _ _ _ h hl hr)
 | .loop j b,K,st,h=>h
 | .mloop _ _ _ _ _ _,K,st,h=>h.elim
 | .next it nx more,K,st,h=>by
  intro code hc a w Q hl hr hq
  cases code <;> simp only [trC] at hc <;> (try (cases hc; done)) <;> (try (obtain ⟨_,_,e⟩:=zC.1 hc; cases e; done))
  case seq=>split at hc <;> cases hc
  case cond=>split at hc <;> cases hc
  case region id ops draw =>
   split at hc
   ·rename_i q hn
    obtain ⟨rfl,x,o1,o2,hops,d1,p1,g1,d2,p2,g2,e1,l1,l2,l3⟩:=Rf hn
    obtain ⟨rfl,rfl,rfl⟩:=SC.next.inj (zB hc)
    obtain ⟨I,V,B,hr⟩:=hr
    simp only [sw] at h
    split at h
    ·rename_i g o he
     split at h
     ·rename_i ks m seen cur hob
      obtain ⟨rfl,hN,hS⟩:=h
      rw [e1] at he
      have hlt:q.2.1<st.sl.length:=by rw [hl]; exact l1
      have hlt2:q.2.2<st.sl.length:=by rw [hl]; exact l2
      have hgl:g<st.ob.length:=by
       rcases zF g st.ob.length with h1 | h1
       ·exact h1
       ·rw [A5 _ _ h1] at hob; cases hob
      refine wp_region_list ?_
      rw [hops]
      have fin:∀ (b:Bool) (u:List (Nat × Ob)) (w':World) (v:Value),okU (C8 st.ob u).length u→RepI c I V B (st.f.setO u) a w'→(Instr.extract v 0).run P w'=.ok (.bool b) w'→(Instr.next (a.eval x) false o1.type).run P w=.ok v w'→K .normal (FB q.2.1 q.2.2 st b u)→wpList P ops Q [o1,o2] a w:=fun b u w' v hu hr2 hx hrun hK=>by
       have ht:∀ tm,Region.wanted o1 tm=true:=fun tm=>by unfold Region.wanted; rw [g1]
       have ht2:∀ tm,Region.wanted o2 tm=true:=fun tm=>by unfold Region.wanted; rw [g2]
       unfold wpList
       rw [ht,if_pos rfl]
       left
       unfold Oper.wp
       have hx1:(execOp a.eval o1).run P w=.ok (.value v) w':=by simp only [execOp,p1]; exact AH hrun
       rw [hx1,Oper.upon_value]
       have r1:RepI c I V B ((st.f.setO u).put (some q.2.1) .any) (a.put (some q.2.1) v) w':=hr2.put (by simpa [AA] using l1) (by simp [RepV])
       unfold wpList
       rw [ht2,if_pos rfl]
       left
       unfold Oper.wp
       have hv:(a.put o1.dst v).eval (.tmp q.2.1)=v:=by
        rw [d1]
        have:q.2.1<a.tmps.size:=by rw [hr.sz]; exact l1
        simp [Act.eval,Act.put,zI,this]
       have hx2:(execOp (a.put o1.dst v).eval o2).run P w'=.ok (.value (.bool b)) w':=by simp only [execOp,p2]; rw [hv]; exact AH hx
       rw [hx2,Oper.upon_value,d1,d2]
       have r2:=r1.put (d:=some q.2.2) (by simpa [AA] using l2) (x:=.bool b) (v:=.bool b) (by simp [RepV])
       refine hq .normal _ _ _ hK (by simp [FB,St.app,EF,Hx,hl]) ⟨I,V,B,?_⟩
       have e1:(st.app (some q.2.1) .any u).f=st.f.app (some q.2.1) .any u:=St.Re (by simpa [AA] using hlt) hu
       have e2:(FB q.2.1 q.2.2 st b u).f=(st.app (some q.2.1) .any u).f.app (some q.2.2) (.bool b) []:=St.Re (by simpa [AA,St.app,EF,Hx] using hlt2) (by simp [okU])
       rw [e2,e1]
       exact r2
      rcases Uy hr (s:=st.f) he hob o1.type with ⟨h1,h2⟩ | ⟨k,y,w',u,v,h1,h2,h3,h4⟩
      ·refine fin false [] w (.tuple #[.bool false]) (by simp [okU]) ?_ (by simp [Instr.extract]) h2 (hN h1)
       exact hr
      ·refine fin true _ w' (.tuple #[.bool true,u,v]) ?_ (hr.after h4) (by simp [Instr.extract]) h3 (hS k y h1 h2)
       simp [okU,C8,Ka,hgl]
       omega
     ·exact h.elim
    ·exact h.elim
   ·split at hc <;> (try split at hc) <;> (try split at hc) <;> (try split at hc) <;> cases hc
 | .reg sl,K,st,h=>by
  intro code hc a w Q hl hr hq
  cases code <;> simp only [trC] at hc <;> (try (cases hc; done)) <;> (try (obtain ⟨_,_,e⟩:=zC.1 hc; cases e; done))
  case region id ops draw =>
   split at hc
   ·cases hc
   rename_i hnn
   split at hc
   ·rename_i sl' hsl
    split at hc
    ·rename_i hall
     split at hc
     ·split at hc <;> cases hc
     ·rename_i hdr
      obtain rfl:=SC.reg.inj (zB hc)
      have hdr:draw=false:=by simpa using hdr
      subst hdr
      have hall:∀ o∈ops.toList,AA c.nt o.dst=true∧KL c.nt ops o=true:=fun o ho=>by
       have:=(zN.1 hall) o ho
       simpa using this
      obtain ⟨es,st',h1,h2,h3,h4⟩:=Jy (c:=c) hsl hl (fun o ho=>(hall o ho).1) h
      exact wp_region_list (L5 ops.toList es st.f a w hall h2 hr fun a' w' hr'=>hq .normal st' a' w' h1 h4 (by rw [←h3]; exact hr'))
    ·cases hc
   ·cases hc
  case seq=>split at hc <;> cases hc
  case cond=>split at hc <;> cases hc
 | .dreg anc sl,K,st,h=>by
  intro code hc a w Q hl hr hq
  cases code <;> simp only [trC] at hc <;> (try (cases hc; done)) <;> (try (obtain ⟨_,_,e⟩:=zC.1 hc; cases e; done))
  case region id ops draw =>
   split at hc
   ·cases hc
   rename_i hnn
   split at hc
   ·rename_i sl' hsl
    split at hc
    ·rename_i hall
     split at hc
     ·rename_i hdr
      split at hc
      ·rename_i hsb
       obtain ⟨rfl,rfl⟩:=SC.dreg.inj (zB hc)
       have hdr:draw=true:=by simpa using hdr
       subst hdr
       have hall:∀ o∈ops.toList,AA c.nt o.dst=true∧KL c.nt ops o=true:=fun o ho=>by
        have:=(zN.1 hall) o ho
        simpa using this
       rw [zE] at hsb
       obtain ⟨es,st',⟨hob,h1⟩,h2,h3,h4⟩:=Jw (c:=c) hsl hl (fun o ho=>(hall o ho).1) h
       have:=MB (P:=P) (c:=c) (Q:=Q) (l:=ops.toList) (es:=es) (anc:=PV ops.toList []) (id:=id) (a:=a) (w:=w) (s:=st.f) hm hsb.1 rfl hsb.2 hob (by simpa using hall) (by simpa using h2) hr (fun a' w' hr'=>hq .normal st' a' w' h1 h4 (by rw [←h3]; exact hr'))
       simpa using this
      ·cases hc
     ·cases hc
    ·cases hc
   ·cases hc
  case seq=>split at hc <;> cases hc
  case cond=>split at hc <;> cases hc
 | .seq x y,K,st,h=>by
  intro code hc a w Q hl hr hq
  cases code <;> simp only [trC] at hc <;> (try (cases hc; done)) <;> (try (obtain ⟨_,_,e⟩:=zC.1 hc; cases e; done))
  case region=>split at hc <;> (try split at hc) <;> (try split at hc) <;> (try split at hc) <;> (try split at hc) <;> cases hc
  case cond=>split at hc <;> cases hc
  case seq u v =>
   split at hc
   ·rename_i x' y' hx hy
    obtain ⟨rfl,rfl⟩:=SC.seq.inj (zB hc)
    simp only [sw] at h
    refine wp_seq (FD hm _ _ st h u hx a w _ hl hr fun e st' a' w' hk hl' hr'=>?_)
    cases e with
    | normal=>exact FD hm _ _ st' hk v hy a' w' Q hl' hr' hq
    | exit id=>exact hq _ _ _ _ hk hl' hr'
    | ret=>exact hq _ _ _ _ hk hl' hr'
   ·cases hc
 | .cond cx x y,K,st,h=>by
  intro code hc a w Q hl hr hq
  cases code <;> simp only [trC] at hc <;> (try (cases hc; done)) <;> (try (obtain ⟨_,_,e⟩:=zC.1 hc; cases e; done))
  case region=>split at hc <;> (try split at hc) <;> (try split at hc) <;> (try split at hc) <;> (try split at hc) <;> cases hc
  case seq=>split at hc <;> cases hc
  case cond q u v =>
   split at hc
   ·rename_i x' y' hx hy
    obtain ⟨rfl,rfl,rfl⟩:=SC.cond.inj (zB hc)
    simp only [sw] at h
    split at h
    ·rename_i t ht
     have hv:a.eval q=.bool t:=by
      obtain ⟨I,V,B,hr⟩:=hr
      have:=Aq hr q
      have e:Ar st.f.sl (trX q)=.bool t:=ht
      rw [e] at this
      simpa only [RepV] using this
     refine wp_cond_split hv (fun e=>?_) (fun e=>?_)
     ·exact FD hm _ _ st (h.1 e) u hx a w Q hl hr hq
     ·exact FD hm _ _ st (h.2 e) v hy a w Q hl hr hq
    ·exact h.elim
   ·cases hc
 | .block id b,K,st,h=>by
  intro code hc a w Q hl hr hq
  cases code <;> simp only [trC] at hc <;> (try (cases hc; done))
  case region=>split at hc <;> (try split at hc) <;> (try split at hc) <;> (try split at hc) <;> (try split at hc) <;> cases hc
  case seq=>split at hc <;> cases hc
  case cond=>split at hc <;> cases hc
  case loop=>obtain ⟨_,_,e⟩:=zC.1 hc; cases e
  case block id' u =>
   obtain ⟨x',hx,e⟩:=zC.1 hc
   obtain ⟨rfl,rfl⟩:=SC.block.inj e
   simp only [sw] at h
   refine wp_block (FD hm _ _ st h u hx a w _ hl hr fun e st' a' w' hk hl' hr'=>?_)
   cases e with
   | normal=>exact hq .normal st' a' w' hk hl' hr'
   | ret=>exact hq .ret st' a' w' hk hl' hr'
   | exit i =>
    simp only at hk
    simp only [X.exit',Exit.inBlock]
    by_cases hi:i=id'
    ·rw [if_pos hi] at hk ⊢
     exact hq .normal st' a' w' hk hl' hr'
    ·rw [if_neg hi] at hk ⊢
     exact hq (.exit i) st' a' w' hk hl' hr'
def Weak (c:Ctx) (st st':St):Prop:=st.sl.length=c.nt→st'.sl.length=c.nt∧∀ a w,Rep c st.f a w→Rep c st'.f a w
theorem Weak.trans {a b d:St} (h:Weak c a b) (k:Weak c b d):Weak c a d:=fun hl =>
 have h1:=h hl
 have h2:=k h1.1
 ⟨h2.1,fun x w hr=>h2.2 x w (h1.2 x w hr)⟩
theorem Rg {α:Type} {junk:List Nat} {b:SC} {K:X→St→Prop} {st:St} (H:α→St) (μ:α→Nat) (x0:α) (h0:Weak c st (H x0))
  (round:∀ x,Run P c b (fun e st'=>match e with | .normal=>∃ y,μ y < μ x∧Weak c st' (H y) | e=>K e st') (H x)):Run P c (.loop junk b) K st:=by
 intro code hc a w Q hl hr hq
 cases code <;> simp only [trC] at hc <;> (try (cases hc; done))
 case region=>split at hc <;> (try split at hc) <;> (try split at hc) <;> (try split at hc) <;> (try split at hc) <;> cases hc
 case seq=>split at hc <;> cases hc
 case cond=>split at hc <;> cases hc
 case block=>obtain ⟨_,_,e⟩:=zC.1 hc; cases e
 case loop u =>
  obtain ⟨x',hx,e⟩:=zC.1 hc
  obtain ⟨_,rfl⟩:=SC.loop.inj e
  classical
  let I:Act→World→Prop:=fun a w=>∃ x,(H x).sl.length=c.nt∧Rep c (H x).f a w
  let Mx:Act→World→Nat→Prop:=fun a w n=>∃ x,(H x).sl.length=c.nt∧Rep c (H x).f a w∧μ x≤n
  have hex:∀ a w,I a w→∃ n,Mx a w n:=fun a w ⟨x,h1,h2⟩=>⟨μ x,x,h1,h2,zJ _⟩
  have least:∀ (p:Nat→Prop),(∃ n,p n)→∃ n,p n∧∀ m,m<n→¬ p m:=fun p ⟨n,hn⟩=>by
   induction n using Nat.strongRecOn with
   | _ n ih =>
    by_cases h:∃ m,m<n∧p m
    ·obtain ⟨m,h1,h2⟩:=h; exact ih m h1 h2
    ·exact ⟨n,hn,fun m h1 h2=>h ⟨m,h1,h2⟩⟩
  let ν:Act→World→Nat:=fun a w=>if h:∃ n,Mx a w n then Classical.choose (least _ h) else 0
  have hν:∀ a w,(∃ n,Mx a w n)→Mx a w (ν a w)∧∀ m,m < ν a w→¬ Mx a w m:=fun a w h=>by
   have e:ν a w=Classical.choose (least _ h):=dif_pos h
   rw [e]
   exact Classical.choose_spec (least _ h)
  refine wp_loop I ν ?_ ?_
  ·exact ⟨x0,(h0 hl).1,(h0 hl).2 a w hr⟩
  ·intro a1 w1 hI
   obtain ⟨x,h1,h2,h3⟩:=(hν a1 w1 (hex a1 w1 hI)).1
   refine round x u hx a1 w1 _ h1 h2 fun e st' a' w' hk hl' hr'=>?_
   cases e with
   | normal =>
    obtain ⟨y,hy1,hy2⟩:=hk
    have h4:=hy2 hl'
    have hM:Mx a' w' (μ y):=⟨y,h4.1,h4.2 a' w' hr',zJ _⟩
    refine ⟨⟨y,h4.1,h4.2 a' w' hr'⟩,?_⟩
    have h5:=(hν a' w' ⟨_,hM⟩).2
    rcases zF (ν a' w') (ν a1 w1) with h6 | h6
    ·exact h6
    ·exact absurd hM (h5 (μ y) (by omega))
   | exit id=>exact hq _ _ _ _ hk hl' hr'
   | ret=>exact hq _ _ _ _ hk hl' hr'
end
mutual
def SV.ren (σ:Nat→Nat):SV→SV
 | .ref g=>.ref (σ g)
 | .ptr g o=>.ptr (σ g) o
 | .eptr g sz k o=>.eptr (σ g) sz k o
 | .agg l=>.agg (SV.Hg σ l)
 | .tup l=>.tup (SV.Hg σ l)
 | .fn f l=>.fn f (SV.Hg σ l)
 | .any=>.any
 | .int k n=>.int k n
 | .bool b=>.bool b
 | .str s=>.str s
 | .nil=>.nil
 | .arr es=>.arr es
 | .vptr es k o=>.vptr es k o
 | .mp ks m=>.mp ks m
def SV.Hg (σ:Nat→Nat):List SV→List SV
 | []=>[]
 | x :: r=>SV.ren σ x :: SV.Hg σ r
end
def Ob.ren (σ:Nat→Nat):Ob→Ob
 | .box t l=>.box t (SV.Hg σ l)
 | .tree es hs=>.tree es (hs.map fun h=>(h.1,h.2.1,σ h.2.2))
 | o=>o
section
variable {w:World} {I:Nat→Prop} {V:Nat→Option Value} {σ:Nat→Nat}
mutual
theorem RepV.ren:∀ (x:SV) (v:Value),RepV w I V (x.ren σ) v ↔ RepV w I (fun g=>V (σ g)) x v
 | .any,v=>by simp [SV.ren,RepV]
 | .int k n,v=>by simp [SV.ren,RepV]
 | .bool b,v=>by simp [SV.ren,RepV]
 | .str s,v=>by simp [SV.ren,RepV]
 | .nil,v=>by simp [SV.ren,RepV]
 | .arr es,v=>by simp [SV.ren,RepV]
 | .vptr es k o,v=>by simp [SV.ren,RepV]
 | .mp ks m,v=>by simp [SV.ren,RepV]
 | .ref g,v=>by simp [SV.ren,RepV]
 | .ptr g o,v=>by simp [SV.ren,RepV]
 | .eptr g sz k o,v=>by simp [SV.ren,RepV]
 | .agg l,v=>by
  simp only [SV.ren,RepV]
  exact ⟨fun ⟨vs,e,h⟩=>⟨vs,e,(RepVs.ren l vs).1 h⟩,fun ⟨vs,e,h⟩=>⟨vs,e,(RepVs.ren l vs).2 h⟩⟩
 | .tup l,v=>by
  simp only [SV.ren,RepV]
  exact ⟨fun ⟨vs,e,h⟩=>⟨vs,e,(RepVs.ren l vs).1 h⟩,fun ⟨vs,e,h⟩=>⟨vs,e,(RepVs.ren l vs).2 h⟩⟩
 | .fn f l,v=>by
  simp only [SV.ren,RepV]
  exact ⟨fun ⟨vs,e,h⟩=>⟨vs,e,(RepVs.ren l vs).1 h⟩,fun ⟨vs,e,h⟩=>⟨vs,e,(RepVs.ren l vs).2 h⟩⟩
theorem RepVs.ren:∀ (l:List SV) (vs:List Value),RepVs w I V (SV.Hg σ l) vs ↔ RepVs w I (fun g=>V (σ g)) l vs
 | [],vs=>by simp [SV.Hg,RepVs]
 | x :: r,vs=>by
  simp only [SV.Hg,RepVs]
  exact ⟨fun ⟨v,q,e,h1,h2⟩=>⟨v,q,e,(RepV.ren x v).1 h1,(RepVs.ren r q).1 h2⟩,fun ⟨v,q,e,h1,h2⟩=>⟨v,q,e,(RepV.ren x v).2 h1,(RepVs.ren r q).2 h2⟩⟩
end
theorem Ob.Kc (o:Ob):(o.ren σ).live ↔ o.live:=by cases o <;> simp [Ob.ren,Ob.live]
theorem TreeR.ren {S:Nat→Prop} {val:Value} (es:List (List OT)) (hs:List (Nat × Nat × Nat)):TreeR w I V S es (hs.map fun h=>(h.1,h.2.1,σ h.2.2)) val ↔ TreeR w I (fun g=>V (σ g)) S es hs val:=by
 constructor
 ·rintro ⟨t,sz,h1,h2⟩
  exact ⟨t,sz,h1,fun h hh=>h2 (h.1,h.2.1,σ h.2.2) (yH.2 ⟨h,hh,rfl⟩)⟩
 ·rintro ⟨t,sz,h1,h2⟩
  refine ⟨t,sz,h1,fun h hh=>?_⟩
  obtain ⟨q,hq,rfl⟩:=yH.1 hh
  exact h2 q hq
theorem ObR.ren {S:Nat→Prop} {val:Value} (o:Ob):ObR w I V S val (o.ren σ) ↔ ObR w I (fun g=>V (σ g)) S val o:=by
 cases o with
 | free=>simp [Ob.ren,ObR]
 | gone=>simp [Ob.ren,ObR]
 | row t sz es=>simp [Ob.ren,ObR]
 | tree es hs=>exact TreeR.ren es hs
 | mp ks m=>simp [Ob.ren,ObR]
 | it ks m seen cur=>simp [Ob.ren,ObR]
 | shd es=>simp [Ob.ren,ObR]
 | box t l =>
  simp only [Ob.ren,ObR]
  exact ⟨fun ⟨b,vs,h1,h2,h3,h4⟩=>⟨b,vs,h1,h2,h3,(RepVs.ren l vs).1 h4⟩,fun ⟨b,vs,h1,h2,h3,h4⟩=>⟨b,vs,h1,h2,h3,(RepVs.ren l vs).2 h4⟩⟩
end
def sgp:List Nat→Nat→Nat→Nat
 | [],p,g=>p+g
 | x :: _,_,0=>x
 | _ :: r,p,g+1=>sgp r p g
theorem Dd:∀ (m:List Nat) (p g:Nat),sgp m p g=match m[g]? with | some x=>x | none=>p+(g-m.length)
 | [],p,g=>by simp [sgp]
 | x :: r,p,0=>by simp [sgp]
 | x :: r,p,g+1=>by simp only [sgp,List.getElem?_cons_succ,zQ,yC]; exact Dd r p g
def leV (σ:Nat→Nat):SV→SV→Prop
 | .any,_=>True
 | x,y=>x.ren σ=y
def leL (σ:Nat→Nat):List SV→List SV→Prop
 | [],[]=>True
 | x :: xs,y :: ys=>leV σ x y∧leL σ xs ys
 | _,_=>False
def leO (σ:Nat→Nat):Ob→Ob→Prop
 | .gone,_=>True
 | .box t l,.box t' l'=>t=t'∧leL σ l l'
 | .row t sz es,.row t' sz' es'=>t=t'∧sz=sz'∧es=es'
 | .mp ks m,.mp ks' m'=>ks=ks'∧m=m'
 | .it ks m seen cur,.it ks' m' seen' cur'=>ks=ks'∧m=m'∧seen=seen'∧cur=cur'
 | .tree es hs,o=>(Ob.tree es hs).ren σ=o
 | _,_=>False
def Rh (σ:Nat→Nat) (ob:List Ob):Nat→List Ob→Prop
 | _,[]=>True
 | k,o :: r=>leO σ o (Am ob (σ k))∧Rh σ ob (k+1) r
def Ri (σ:Nat→Nat):Nat→Prop
 | 0=>True
 | n+1=>σ n=n∧Ri σ n
def WeakC (n0:Nat) (m:List Nat) (st st':St):Prop :=
 leL (sgp m st.ob.length) st'.sl st.sl∧Rh (sgp m st.ob.length) st.ob 0 st'.ob∧(m.length=st'.ob.length∧m.Nodup)∧Ri (sgp m st.ob.length) n0
section
variable {w:World} {I:Nat→Prop} {V:Nat→Option Value} {B:Nat→Nat→Prop} {σ:Nat→Nat}
theorem Iu {x y:SV} {v:Value} (h:leV σ x y) (hy:RepV w I V y v):RepV w I (fun g=>V (σ g)) x v:=by
 cases x <;> simp only [leV] at h <;> first | (simp [RepV]; done) | (subst h; exact (RepV.ren _ v).1 hy)
theorem TK:∀ {xs ys:List SV} {vs:List Value},leL σ xs ys→RepVs w I V ys vs→RepVs w I (fun g=>V (σ g)) xs vs
 | [],[],vs,_,h=>by simpa [RepVs] using h
 | x :: xs,y :: ys,vs,h,hy=>by
  simp only [leL] at h
  simp only [RepVs] at hy ⊢
  obtain ⟨v,r,e,h1,h2⟩:=hy
  exact ⟨v,r,e,Iu h.1 h1,TK h.2 h2⟩
 | [],_ :: _,_,h,_=>h.elim
 | _ :: _,[],_,h,_=>h.elim
theorem Qe:∀ {xs ys:List SV},leL σ xs ys→xs.length=ys.length
 | [],[],_=>rfl
 | x :: xs,y :: ys,h=>by simp [Qe h.2]
 | [],_ :: _,h=>h.elim
 | _ :: _,[],h=>h.elim
theorem MU:∀ {xs ys:List SV} (k:Nat),leL σ xs ys→leV σ (gets xs k) (gets ys k)
 | [],[],k,_=>by simp [gets,leV]
 | x :: xs,y :: ys,0,h=>h.1
 | x :: xs,y :: ys,k+1,h=>MU k h.2
 | [],_ :: _,_,h=>h.elim
 | _ :: _,[],_,h=>h.elim
theorem XA {S:Nat→Prop} {val:Value} {o o':Ob} (h:leO σ o o') (hl:o.live) (ho:ObR w I V S val o'):ObR w I (fun g=>V (σ g)) S val o:=by
 by_cases ht:∃ es hs,o=.tree es hs
 ·obtain ⟨es,hs,rfl⟩:=ht
  have h:(Ob.tree es hs).ren σ=o':=by cases o' <;> exact h
  subst h
  exact (ObR.ren _).1 ho
 cases o <;> cases o' <;> (try exact absurd ⟨_,_,rfl⟩ ht) <;> simp only [leO] at h <;> first | exact hl.elim | exact h.elim | skip
 ·obtain ⟨rfl,h⟩:=h
  obtain ⟨b,vs,h1,h2,h3,h4⟩:=ho
  exact ⟨b,vs,h1,h2,h3,TK h h4⟩
 ·obtain ⟨rfl,rfl,rfl⟩:=h
  exact ho
 ·obtain ⟨rfl,rfl⟩:=h
  exact ho
 ·obtain ⟨rfl,rfl,rfl,rfl⟩:=h
  exact ho
theorem CU {o o':Ob} (h:leO σ o o') (hl:o.live):o'.live:=by
 by_cases ht:∃ es hs,o=.tree es hs
 ·obtain ⟨es,hs,rfl⟩:=ht
  have h:(Ob.tree es hs).ren σ=o':=by cases o' <;> exact h
  subst h
  trivial
 cases o <;> cases o' <;> (try exact absurd ⟨_,_,rfl⟩ ht) <;> simp only [leO] at h <;> first | exact hl.elim | exact h.elim | trivial
theorem Do {ob:List Ob}:∀ {l:List Ob} {k j:Nat},Rh σ ob k l→j<l.length→leO σ (Am l j) (Am ob (σ (k+j)))
 | [],k,j,_,hj=>absurd hj (by simp)
 | o :: r,k,0,h,_=>h.1
 | o :: r,k,j+1,h,hj=>by
  have:=Do (j:=j) h.2 (by simpa using hj)
  rwa [show k+1+j=k+(j+1) by omega] at this
theorem EB:∀ {n:Nat},Ri σ n→∀ g,g<n→σ g=g
 | 0,_,g,h=>by omega
 | n+1,h,g,hg=>by
  by_cases e:g=n
  ·subst e; exact h.1
  ·exact EB h.2 g (by omega)
theorem WeakC.wf {n0:Nat} {m:List Nat} {st st':St} (h:WeakC n0 m st st') (hw:Wf w I V B (Am st.ob)):Wf w I (fun g=>V (sgp m st.ob.length g)) (fun g=>B (sgp m st.ob.length g)) (Am st'.ob):=by
 obtain ⟨_,hO,⟨hlen,hnd⟩,_⟩:=h
 have hlt:∀ g,(Am st'.ob g).live→g<st'.ob.length:=fun g hl=>by
  rcases zF g st'.ob.length with h1 | h1
  ·exact h1
  ·rw [A5 _ _ h1] at hl; exact hl.elim
 have hle:∀ g,(Am st'.ob g).live→leO (sgp m st.ob.length) (Am st'.ob g) (Am st.ob (sgp m st.ob.length g)):=fun g hl=>by
  have:=Do (j:=g) hO (hlt g hl)
  rwa [zP] at this
 refine ⟨hw.ilt,fun g hl=>?_,fun g b hl hb=>?_,fun g b hl hb=>?_,fun g g' b hl hl' hb hb'=>?_,fun g hf=>?_,hw.gl⟩
 ·obtain ⟨val,h1,h2⟩:=hw.obj _ (CU (hle g hl) hl)
  exact ⟨val,h1,XA (hle g hl) hl h2⟩
 ·exact hw.lt _ b (CU (hle g hl) hl) hb
 ·exact hw.dI _ b (CU (hle g hl) hl) hb
 ·have e:=hw.dO _ _ b (CU (hle g hl) hl) (CU (hle g' hl') hl') hb hb'
  have h1:=hlt g hl
  have h2:=hlt g' hl'
  rw [←hlen] at h1 h2
  rw [Dd,Dd,zG h1,zG h2] at e
  exact (List.getElem_inj hnd).1 e
 ·rcases zF g st'.ob.length with h1 | h1
  ·have:=Do (j:=g) hO h1
   rw [hf] at this
   cases Am st.ob (sgp m st.ob.length (0+g)) <;> exact this.elim
  ·refine hw.fr _ (A5 _ _ ?_)
   rw [Dd,yE (by omega)]
   simp only; omega
theorem XB {c:Ctx} (m:List Nat) {st st':St} (h:WeakC c.m m st st'):Weak c st st':=by
 intro hl
 have hL:=h.1
 refine ⟨(Qe hL).trans hl,fun a w hr=>?_⟩
 obtain ⟨I,V,B,hr⟩:=hr
 have hwf:=h.wf hr.wf
 refine ⟨I,_,_,hr.fr,hr.i0,hr.i1,fun g u hu=>?_,hwf,fun g b hlv hb=>?_,hr.nd,hr.sz,fun k=>?_⟩
 ·have hg:g<c.m:=by
   rcases zF g c.m with h1 | h1
   ·exact h1
   ·rw [c.vm g h1] at hu; cases hu
  rw [EB h.2.2.2 g hg]
  exact hr.v0 g u hu
 ·have hlt:g<st'.ob.length:=by
   rcases zF g st'.ob.length with h1 | h1
   ·exact h1
   ·have:Am st'.ob g=.free:=A5 _ _ h1
    have hlv':(Am st'.ob g).live:=hlv
    rw [this] at hlv'; exact hlv'.elim
  have:=Do (j:=g) h.2.1 hlt
  rw [zP] at this
  exact hr.bh _ b (CU this hlv) hb
 ·exact Iu (MU k hL) (hr.slots k)
end
mutual
def OT.noSh:OT→Bool
 | .sh _=>false
 | .ow es=>OT.AK es
 | _=>true
def OT.BF:List OT→Bool
 | []=>true
 | x :: r=>OT.noSh x&&OT.BF r
def OT.AK:List (List OT)→Bool
 | []=>true
 | x :: r=>OT.BF x&&OT.AK r
end
theorem OT.KS:∀ {l:List OT},OT.BF l=true→∀ x∈l,OT.noSh x=true
 | [],_,x,h=>by cases h
 | y :: r,h,x,hx=>by
  simp only [OT.BF,zE] at h
  rcases zO.1 hx with rfl | hx
  ·exact h.1
  ·exact OT.KS h.2 x hx
theorem OT.Jz:∀ {l:List (List OT)},OT.AK l=true→∀ x∈l,OT.BF x=true
 | [],_,x,h=>by cases h
 | y :: r,h,x,hx=>by
  simp only [OT.AK,zE] at h
  rcases zO.1 hx with rfl | hx
  ·exact h.1
  ·exact OT.Jz h.2 x hx
theorem ORep.noSh {w:World} {I I' S:Nat→Prop} {o:OT} {v:Value} (h:ORep w I S o v) (hn:o.noSh=true):ORep w I' S o v:=by
 induction h with
 | int S n=>exact .int _ n
 | byte S n=>exact .byte _ n
 | bool S b=>exact .bool _ b
 | str S s h=>exact .str _ s h
 | sh S es v h=>simp [OT.noSh] at hn
 | nil S=>exact .nil _
 | hole S v h=>exact .hole _ v h
 | row S t sz es b cap cur Sub hs hb h1 h2 h3 h4 h5 h6 h7 ih =>
  refine .row _ t sz es b cap cur Sub hs hb h1 h2 h3 h4 h5 h6 fun i j hi hj=>ih i j hi hj ?_
  simp only [OT.noSh] at hn
  exact OT.KS (OT.Jz hn _ (zS hi)) _ (zS hj)
theorem RowR.noSh {w:World} {I I' S:Nat→Prop} {t:TypeId} {sz:Nat} {es:List (List OT)} {v:Value} (h:RowR w I S t sz es v) (hn:OT.AK es=true):RowR w I' S t sz es v:=by
 rcases h with h | ⟨b,cap,cur,Sub,rfl,hs,hb,h1,h2,h3,h4,h5,h6,h7⟩
 ·exact .inl h
 ·exact .inr ⟨b,cap,cur,Sub,rfl,hs,hb,h1,h2,h3,h4,h5,h6,fun i j hi hj=>(h7 i j hi hj).noSh (OT.KS (OT.Jz hn _ (zS hi)) _ (zS hj))⟩
mutual
def SV.noSh:SV→Bool
 | .arr _=>false
 | .vptr _ _ _=>false
 | .mp _ _=>false
 | .agg l=>SV.LC l
 | .tup l=>SV.LC l
 | .fn _ l=>SV.LC l
 | _=>true
def SV.LC:List SV→Bool
 | []=>true
 | x :: r=>SV.noSh x&&SV.LC r
end
def Ob.noSh:Ob→Bool
 | .box _ l=>SV.LC l
 | .row _ _ es=>OT.AK es
 | .tree es _=>OT.AK es
 | .mp _ _=>false
 | .it _ _ _ _=>false
 | .shd _=>false
 | _=>true
section
variable {w:World} {I I':Nat→Prop} {V:Nat→Option Value}
mutual
theorem RepV.noSh:∀ (x:SV) (v:Value),x.noSh=true→RepV w I V x v→RepV w I' V x v
 | .any,v,_,_=>by simp [RepV]
 | .int k n,v,_,h=>by simpa [RepV] using h
 | .bool b,v,_,h=>by simpa [RepV] using h
 | .str s,v,_,h=>by simpa [RepV] using h
 | .nil,v,_,h=>by simpa [RepV] using h
 | .arr es,v,hn,_=>by simp [SV.noSh] at hn
 | .vptr es k o,v,hn,_=>by simp [SV.noSh] at hn
 | .mp ks m,v,hn,_=>by simp [SV.noSh] at hn
 | .ref g,v,_,h=>by simpa [RepV] using h
 | .ptr g o,v,_,h=>by simpa [RepV] using h
 | .eptr g sz k o,v,_,h=>by simpa [RepV] using h
 | .agg l,v,hn,h=>by
  simp only [RepV] at h ⊢
  obtain ⟨vs,e,h⟩:=h
  exact ⟨vs,e,RepVs.noSh l vs (by simpa [SV.noSh] using hn) h⟩
 | .tup l,v,hn,h=>by
  simp only [RepV] at h ⊢
  obtain ⟨vs,e,h⟩:=h
  exact ⟨vs,e,RepVs.noSh l vs (by simpa [SV.noSh] using hn) h⟩
 | .fn f l,v,hn,h=>by
  simp only [RepV] at h ⊢
  obtain ⟨vs,e,h⟩:=h
  exact ⟨vs,e,RepVs.noSh l vs (by simpa [SV.noSh] using hn) h⟩
theorem RepVs.noSh:∀ (l:List SV) (vs:List Value),SV.LC l=true→RepVs w I V l vs→RepVs w I' V l vs
 | [],vs,_,h=>by simpa [RepVs] using h
 | x :: r,vs,hn,h=>by
  simp only [SV.LC,zE] at hn
  simp only [RepVs] at h ⊢
  obtain ⟨v,q,e,h1,h2⟩:=h
  exact ⟨v,q,e,RepV.noSh x v hn.1 h1,RepVs.noSh r q hn.2 h2⟩
end
theorem ObR.noSh {S:Nat→Prop} {val:Value} {o:Ob} (h:ObR w I V S val o) (hn:o.noSh=true):ObR w I' V S val o:=by
 cases o with
 | free=>trivial
 | gone=>trivial
 | row t sz es=>exact RowR.noSh h hn
 | tree es hs =>
  obtain ⟨t,sz,h1,h2⟩:=h
  exact ⟨t,sz,RowR.noSh h1 hn,h2⟩
 | mp ks m=>cases hn
 | it ks m seen cur=>cases hn
 | shd es=>cases hn
 | box t l =>
  obtain ⟨b,vs,h1,h2,h3,h4⟩:=h
  exact ⟨b,vs,h1,h2,h3,RepVs.noSh l vs hn h4⟩
end
def HB (B:Nat→Nat→Prop) (ob:List Ob) (b:Nat):Prop:=∃ g,(Am ob g).live∧B g b
structure FunPost (w:World) (I:Nat→Prop) (V:Nat→Option Value) (B:Nat→Nat→Prop) (ob ob':List Ob) (w':World) (I':Nat→Prop) (V':Nat→Option Value) (B':Nat→Nat→Prop):Prop where
 fr:Fr w (HB B ob) w'
 i0:∀ b,I b→I' b
 i1:∀ b,I' b→I b∨w.heap.size≤b∨HB B ob b
 v:VLe V V'
 wf:Wf w' I' V' B' (Am ob')
 bh:∀ g b,(Am ob' g).live→B' g b→HB B ob b∨w.heap.size≤b
def Fun (P:Program) (f:FuncId) (args:List SV) (ob:List Ob) (r:SV) (ob':List Ob):Prop :=
 ∀ (w:World) (I:Nat→Prop) (V:Nat→Option Value) (B:Nat→Nat→Prop) (vs:List Value),Wf w I V B (Am ob)→RepVs w I V args vs →
  Calls P f vs.toArray w (fun e w'=>∃ v I' V' B',e=.returned v∧RepV w' I' V' r v∧FunPost w I V B ob ob' w' I' V' B')
def FZ:List Nat→Nat→Option Nat
 | [],_=>none
 | x :: r,g=>if x=g then some 0 else (FZ r g).map (·+1)
theorem Iv:∀ {m:List Nat} {g i:Nat},FZ m g=some i→m[i]?=some g
 | [],g,i,h=>by cases h
 | x :: r,g,i,h=>by
  simp only [FZ] at h
  split at h
  ·rename_i e; obtain rfl:=zB h; simp [e]
  ·obtain ⟨j,hj,rfl⟩:=zC.1 h
   simpa using Iv hj
mutual
def BI (ob:Nat→Ob) (sel:List Nat):SV→SV
 | .ref g=>match FZ sel g with
  | some i=>.ref i
  | none=>match ob g with
   | .row _ _ es=>bif OT.A2 es then .arr (OT.erss es) else .any
   | .tree es hs=>bif OT.A2 es then .arr (OT.erss es) else .any
   | .mp ks m=>.mp ks m
   | _=>.any
 | .ptr g o=>match FZ sel g with
  | some i=>.ptr i o
  | none=>.any
 | .nil=>.arr []
 | .agg l=>.agg (GP ob sel l)
 | .tup l=>.tup (GP ob sel l)
 | .fn f l=>.fn f (GP ob sel l)
 | .eptr _ _ _ _=>.any
 | .any=>.any
 | .int k n=>.int k n
 | .bool b=>.bool b
 | .str s=>.str s
 | .arr es=>.arr es
 | .vptr es k o=>.vptr es k o
 | .mp ks m=>.mp ks m
def GP (ob:Nat→Ob) (sel:List Nat):List SV→List SV
 | []=>[]
 | x :: r=>BI ob sel x :: GP ob sel r
end
mutual
def AN (sel:List Nat):SV→List Nat
 | .ref g=>match FZ sel g with
  | some _=>[]
  | none=>[g]
 | .agg l=>AM sel l
 | .tup l=>AM sel l
 | .fn _ l=>AM sel l
 | _=>[]
def AM (sel:List Nat):List SV→List Nat
 | []=>[]
 | x :: r=>AN sel x++AM sel r
end
section
variable {w:World} {I J:Nat→Prop} {V:Nat→Option Value} {B:Nat→Nat→Prop} {ob:Nat→Ob} {sel:List Nat} {p:Nat}
theorem Iw {m:List Nat} {g i:Nat} (h:FZ m g=some i):sgp m p i=g:=by rw [Dd,Iv h]
theorem LD (T:Nat→Prop):DRep false w T (.arr []) (.slice none 0 0):=.arr _ 0 [] none 0 (fun _ _=>undef) (fun _ _ _=>False) (zJ _) (by omega) (.inl rfl) (fun i h=>absurd h (by simp)) (fun _ _ _ h=>h.elim) (fun e=>by cases e) (fun i j h=>absurd h (by simp))
variable {Vc:Nat→Option Value}
mutual
theorem Ix (hwf:Wf w I V B ob) (hI:∀ b,I b→J b) (hVc:∀ g i,FZ sel g=some i→Vc i=V g):∀ (x:SV) (v:Value),(∀ g b,g∈AN sel x→(ob g).live→B g b→J b)→RepV w I V x v→RepV w J Vc (BI ob sel x) v
 | .any,v,_,_=>by simp [BI,RepV]
 | .eptr _ _ _ _,v,_,_=>by simp [BI,RepV]
 | .int k n,v,_,h=>by simpa [BI,RepV] using h
 | .bool b,v,_,h=>by simpa [BI,RepV] using h
 | .str s,v,_,h=>by simpa [BI,RepV] using h
 | .nil,v,_,h=>by
  simp only [RepV] at h
  subst h
  simp only [BI,RepV]
  exact LD _
 | .arr es,v,_,h=>by
  simp only [BI,RepV] at h ⊢
  exact h.up hI
 | .mp ks m,v,_,h=>by
  simp only [BI,RepV] at h ⊢
  exact h.mono (KeepS.refl _ _) hI
 | .vptr es k o,v,_,h=>by
  simp only [BI,RepV] at h ⊢
  obtain ⟨b,off,c,h1,h2⟩:=h
  exact ⟨b,off,c,h1.up hI,h2⟩
 | .ref g,v,hU,h=>by
  simp only [BI]
  simp only [AN] at hU
  split
  ·rename_i i hi
   simp only [RepV] at h ⊢
   rw [hVc _ _ hi]; exact h
  ·rename_i hi
   split
   ·rename_i t sz es hob
    rw [hi] at hU
    cases hf:OT.A2 es with
    | false=>simp [RepV]
    | true =>
     obtain ⟨val,h1,h2⟩:=hwf.obj g (by rw [hob]; trivial)
     rw [hob] at h2
     simp only [RepV,cond_true] at h ⊢
     rw [h1] at h
     obtain rfl:=zB h.1
     exact RowR.er h2 (fun b hb=>hU g b (by simp) (by rw [hob]; trivial) hb) hI hf
   ·rename_i es hs hob
    rw [hi] at hU
    cases hf:OT.A2 es with
    | false=>simp [RepV]
    | true =>
     obtain ⟨val,h1,h2⟩:=hwf.obj g (by rw [hob]; trivial)
     rw [hob] at h2
     simp only [RepV,cond_true] at h ⊢
     rw [h1] at h
     obtain rfl:=zB h.1
     obtain ⟨t,sz,h3,_⟩:=h2
     exact RowR.er h3 (fun b hb=>hU g b (by simp) (by rw [hob]; trivial) hb) hI hf
   ·rename_i ks m hob
    rw [hi] at hU
    obtain ⟨val,h1,h2⟩:=hwf.obj g (by rw [hob]; trivial)
    rw [hob] at h2
    simp only [RepV] at h ⊢
    rw [h1] at h
    obtain rfl:=zB h.1
    exact MapO.give h2 (fun b hb=>hU g b (by simp) (by rw [hob]; trivial) hb) hI
   ·simp [RepV]
 | .ptr g o,v,_,h=>by
  simp only [BI]
  split
  ·rename_i i hi
   simp only [RepV] at h ⊢
   rw [hVc _ _ hi]; exact h
  ·simp [RepV]
 | .agg l,v,hU,h=>by
  simp only [BI,RepV] at h ⊢
  obtain ⟨vs,e,h⟩:=h
  exact ⟨vs,e,Ga hwf hI hVc l vs (by simpa only [AN] using hU) h⟩
 | .tup l,v,hU,h=>by
  simp only [BI,RepV] at h ⊢
  obtain ⟨vs,e,h⟩:=h
  exact ⟨vs,e,Ga hwf hI hVc l vs (by simpa only [AN] using hU) h⟩
 | .fn f l,v,hU,h=>by
  simp only [BI,RepV] at h ⊢
  obtain ⟨vs,e,h⟩:=h
  exact ⟨vs,e,Ga hwf hI hVc l vs (by simpa only [AN] using hU) h⟩
theorem Ga (hwf:Wf w I V B ob) (hI:∀ b,I b→J b) (hVc:∀ g i,FZ sel g=some i→Vc i=V g):∀ (l:List SV) (vs:List Value),(∀ g b,g∈AM sel l→(ob g).live→B g b→J b)→RepVs w I V l vs→RepVs w J Vc (GP ob sel l) vs
 | [],vs,_,h=>by simpa [GP,RepVs] using h
 | x :: r,vs,hU,h=>by
  simp only [GP,RepVs] at h ⊢
  obtain ⟨v,q,e,h1,h2⟩:=h
  exact ⟨v,q,e,Ix hwf hI hVc x v (fun g b hg hl hb=>hU g b (by simp only [AM,zM]; exact .inl hg) hl hb) h1,Ga hwf hI hVc r q (fun g b hg hl hb=>hU g b (by simp only [AM,zM]; exact .inr hg) hl hb) h2⟩
end
mutual
theorem Uz:∀ (x:SV) (g:Nat),g∈AN sel x→FZ sel g=none
 | .ref g0,g,h=>by
  simp only [AN] at h
  split at h
  ·cases h
  ·rename_i hp; rw [z8.1 h]; exact hp
 | .agg l,g,h=>EC l g (by simpa only [AN] using h)
 | .tup l,g,h=>EC l g (by simpa only [AN] using h)
 | .fn f l,g,h=>EC l g (by simpa only [AN] using h)
 | .any,g,h=>by simp [AN] at h
 | .eptr _ _ _ _,g,h=>by simp [AN] at h
 | .int k n,g,h=>by simp [AN] at h
 | .bool b,g,h=>by simp [AN] at h
 | .str s,g,h=>by simp [AN] at h
 | .nil,g,h=>by simp [AN] at h
 | .arr es,g,h=>by simp [AN] at h
 | .vptr es k o,g,h=>by simp [AN] at h
 | .mp ks m,g,h=>by simp [AN] at h
 | .ptr _ _,g,h=>by simp [AN] at h
theorem EC:∀ (l:List SV) (g:Nat),g∈AM sel l→FZ sel g=none
 | [],g,h=>by simp [AM] at h
 | x :: r,g,h=>by
  simp only [AM,zM] at h
  rcases h with h | h
  ·exact Uz x g h
  ·exact EC r g h
end
mutual
theorem LE {ob':Nat→Ob}:∀ (x:SV),(∀ g,g∈AN sel x→ob' g=ob g)→BI ob' sel x=BI ob sel x
 | .any,_=>rfl
 | .eptr _ _ _ _,_=>rfl
 | .int k n,_=>rfl
 | .bool b,_=>rfl
 | .str s,_=>rfl
 | .nil,_=>rfl
 | .arr es,_=>rfl
 | .mp ks m,_=>rfl
 | .vptr es k o,_=>rfl
 | .ptr g o,_=>rfl
 | .ref g,h=>by
  simp only [BI]
  simp only [AN] at h
  split
  ·rfl
  ·rename_i hi
   rw [hi] at h
   rw [h g (by simp)]
 | .agg l,h=>by simp only [BI]; rw [Ei l h]
 | .tup l,h=>by simp only [BI]; rw [Ei l h]
 | .fn f l,h=>by simp only [BI]; rw [Ei l h]
theorem Ei {ob':Nat→Ob}:∀ (l:List SV),(∀ g,g∈AM sel l→ob' g=ob g)→GP ob' sel l=GP ob sel l
 | [],_=>rfl
 | x :: r,h=>by
  simp only [GP]
  rw [LE x (fun g hg=>h g (by simp only [AM,zM]; exact .inl hg)),Ei r (fun g hg=>h g (by simp only [AM,zM]; exact .inr hg))]
end
def SV.isNil:SV→Bool
 | .nil=>true
 | .any=>false
 | .int _ _=>false
 | .bool _=>false
 | .str _=>false
 | .arr _=>false
 | .agg _=>false
 | .tup _=>false
 | .ref _=>false
 | .ptr _ _=>false
 | .eptr _ _ _ _=>false
 | .vptr _ _ _=>false
 | .fn _ _=>false
 | .mp _ _=>false
def Rj (b:Bool) (ob:Nat→Ob) (sel:List Nat) (x:SV):SV:=bif b&&x.isNil then .nil else BI ob sel x
def Fj:List Bool→(Nat→Ob)→List Nat→List SV→List SV
 | [],ob,sel,xs=>GP ob sel xs
 | _ :: _,_,_,[]=>[]
 | b :: h,ob,sel,x :: r=>Rj b ob sel x :: Fj h ob sel r
theorem U0 (hwf:Wf w I V B ob) (hI:∀ b,I b→J b) (hVc:∀ g i,FZ sel g=some i→Vc i=V g) (b:Bool) (x:SV) (v:Value) (hU:∀ g b,g∈AN sel x→(ob g).live→B g b→J b) (h:RepV w I V x v):RepV w J Vc (Rj b ob sel x) v:=by
 unfold Rj
 cases hb:b&&x.isNil with
 | false=>exact Ix hwf hI hVc x v hU h
 | true =>
  rw [cond_true]
  rw [zE] at hb
  cases x with
  | nil=>simpa only [RepV] using h
  | _=>cases hb.2
theorem KT (hwf:Wf w I V B ob) (hI:∀ b,I b→J b) (hVc:∀ g i,FZ sel g=some i→Vc i=V g):∀ (hd:List Bool) (l:List SV) (vs:List Value),(∀ g b,g∈AM sel l→(ob g).live→B g b→J b)→RepVs w I V l vs→RepVs w J Vc (Fj hd ob sel l) vs
 | [],l,vs,hU,h=>Ga hwf hI hVc l vs hU h
 | b :: hd,[],vs,_,h=>by simpa [Fj,RepVs] using h
 | b :: hd,x :: r,vs,hU,h=>by
  simp only [Fj,RepVs] at h ⊢
  obtain ⟨v,q,e,h1,h2⟩:=h
  exact ⟨v,q,e,U0 hwf hI hVc b x v (fun g b hg hl hb=>hU g b (by simp only [AM,zM]; exact .inl hg) hl hb) h1,KT hwf hI hVc hd r q (fun g b hg hl hb=>hU g b (by simp only [AM,zM]; exact .inr hg) hl hb) h2⟩
theorem Hy {ob':Nat→Ob}:∀ (hd:List Bool) (l:List SV),(∀ g,g∈AM sel l→ob' g=ob g)→Fj hd ob' sel l=Fj hd ob sel l
 | [],l,h=>Ei l h
 | b :: hd,[],_=>rfl
 | b :: hd,x :: r,h=>by
  simp only [Fj,Rj]
  rw [LE x (fun g hg=>h g (by simp only [AM,zM]; exact .inl hg)),Hy hd r (fun g hg=>h g (by simp only [AM,zM]; exact .inr hg))]
end
mutual
def SV.idsB (n:Nat):SV→Bool
 | .ref g=>decide (g < n)
 | .ptr g _=>decide (g < n)
 | .eptr g _ _ _=>decide (g < n)
 | .agg l=>SV.Gb n l
 | .tup l=>SV.Gb n l
 | .fn _ l=>SV.Gb n l
 | _=>true
def SV.Gb (n:Nat):List SV→Bool
 | []=>true
 | x :: r=>SV.idsB n x&&SV.Gb n r
end
def Ob.idsB (n:Nat):Ob→Bool
 | .box _ l=>SV.Gb n l
 | .tree _ hs=>hs.all fun h=>decide (h.2.2 < n)
 | _=>true
section
variable {w:World} {I:Nat→Prop} {V V':Nat→Option Value} {n:Nat}
mutual
theorem RepV.idsB (hV:∀ g,g<n→V' g=V g):∀ (x:SV) (v:Value),x.idsB n=true→RepV w I V x v→RepV w I V' x v
 | .any,v,_,_=>by simp [RepV]
 | .int k m,v,_,h=>by simpa [RepV] using h
 | .bool b,v,_,h=>by simpa [RepV] using h
 | .str s,v,_,h=>by simpa [RepV] using h
 | .nil,v,_,h=>by simpa [RepV] using h
 | .arr es,v,_,h=>by simpa [RepV] using h
 | .vptr es k o,v,_,h=>by simpa [RepV] using h
 | .mp ks m,v,_,h=>by simpa [RepV] using h
 | .ref g,v,hn,h=>by
  simp only [SV.idsB,decide_eq_true_eq] at hn
  simp only [RepV] at h ⊢
  rw [hV g hn]; exact h
 | .ptr g o,v,hn,h=>by
  simp only [SV.idsB,decide_eq_true_eq] at hn
  simp only [RepV] at h ⊢
  rw [hV g hn]; exact h
 | .eptr g sz k o,v,hn,h=>by
  simp only [SV.idsB,decide_eq_true_eq] at hn
  simp only [RepV] at h ⊢
  rw [hV g hn]; exact h
 | .agg l,v,hn,h=>by
  simp only [RepV] at h ⊢
  obtain ⟨vs,e,h⟩:=h
  exact ⟨vs,e,RepVs.idsB hV l vs (by simpa [SV.idsB] using hn) h⟩
 | .tup l,v,hn,h=>by
  simp only [RepV] at h ⊢
  obtain ⟨vs,e,h⟩:=h
  exact ⟨vs,e,RepVs.idsB hV l vs (by simpa [SV.idsB] using hn) h⟩
 | .fn f l,v,hn,h=>by
  simp only [RepV] at h ⊢
  obtain ⟨vs,e,h⟩:=h
  exact ⟨vs,e,RepVs.idsB hV l vs (by simpa [SV.idsB] using hn) h⟩
theorem RepVs.idsB (hV:∀ g,g<n→V' g=V g):∀ (l:List SV) (vs:List Value),SV.Gb n l=true→RepVs w I V l vs→RepVs w I V' l vs
 | [],vs,_,h=>by simpa [RepVs] using h
 | x :: r,vs,hn,h=>by
  simp only [SV.Gb,zE] at hn
  simp only [RepVs] at h ⊢
  obtain ⟨v,q,e,h1,h2⟩:=h
  exact ⟨v,q,e,RepV.idsB hV x v hn.1 h1,RepVs.idsB hV r q hn.2 h2⟩
end
theorem ObR.idsB {S:Nat→Prop} {val:Value} {o:Ob} (hV:∀ g,g<n→V' g=V g) (hn:o.idsB n=true) (h:ObR w I V S val o):ObR w I V' S val o:=by
 cases o with
 | free=>trivial
 | mp ks m=>exact h
 | it ks m seen cur=>exact h
 | shd es=>exact h
 | gone=>trivial
 | row t sz es=>exact h
 | tree es hs =>
  obtain ⟨t,sz,h1,h2⟩:=h
  refine ⟨t,sz,h1,fun q hq=>?_⟩
  obtain ⟨g1,g2,b,c,v,e,g3,g4,g5⟩:=h2 q hq
  have hb:q.2.2<n:=of_decide_eq_true (zN.1 hn q hq)
  exact ⟨g1,g2,b,c,v,e,g3,by rw [hV _ hb]; exact g4,g5⟩
 | box t l =>
  obtain ⟨b,vs,h1,h2,h3,h4⟩:=h
  exact ⟨b,vs,h1,h2,h3,RepVs.idsB hV l vs hn h4⟩
end
def mkU (σ:Nat→Nat):Nat→List Ob→List (Nat × Ob)
 | _,[]=>[]
 | k,o :: r=>(σ k,o.ren σ) :: mkU σ (k+1) r
def Pd (ob:Nat→Ob) (σ:Nat→Nat):Nat→List Ob→Prop
 | _,[]=>True
 | k,o :: r=>ob (σ k)=o.ren σ∧Pd ob σ (k+1) r
theorem J0 {ob:Nat→Ob} {σ:Nat→Nat}:∀ {l:List Ob} {k j:Nat},Pd ob σ k l→j<l.length→ob (σ (k+j))=(Am l j).ren σ
 | [],k,j,_,h=>absurd h (by simp)
 | o :: r,k,0,h,_=>h.1
 | o :: r,k,j+1,h,hj=>by
  have:=J0 (j:=j) h.2 (by simpa using hj)
  rwa [show k+1+j=k+(j+1) by omega] at this
theorem Kd:∀ {l:List Ob} {j:Nat},j<l.length→Am l j∈l
 | [],j,h=>absurd h (by simp)
 | o :: r,0,_=>by simp [Am]
 | o :: r,j+1,h=>by simp only [Am,zO]; exact .inr (Kd (by simpa using h))
theorem Qf {σ:Nat→Nat}:∀ {l:List Ob} {k g:Nat},g∈(mkU σ k l).map (·.1) ↔ ∃ j,j<l.length∧σ (k+j)=g
 | [],k,g=>by simp [mkU]
 | o :: r,k,g=>by
  simp only [mkU,zR,zO]
  rw [Qf]
  constructor
  ·rintro (h | ⟨j,h1,h2⟩)
   ·exact ⟨0,by simp,h.symm⟩
   ·exact ⟨j+1,by simp; omega,by rw [←h2]; congr 1; omega⟩
  ·rintro ⟨j,h1,h2⟩
   cases j with
   | zero=>exact .inl h2.symm
   | succ j=>exact .inr ⟨j,by simp at h1; omega,by rw [←h2]; congr 1; omega⟩
theorem MW {σ:Nat→Nat}:∀ {l:List Ob} {k j:Nat},(∀ i i',k≤i→i<k+l.length→k≤i'→i' < k+l.length→σ i=σ i'→i=i')→j<l.length→A7 (mkU σ k l) (σ (k+j))=some ((Am l j).ren σ)
 | [],k,j,_,h=>absurd h (by simp)
 | o :: r,k,0,_,_=>by simp [mkU,A7,Am]
 | o :: r,k,j+1,hi,hj=>by
  simp only [mkU,A7]
  simp only [zQ] at hi hj
  rw [if_neg (fun e=>by have:=hi k (k+(j+1)) (zJ _) (by omega) (by omega) (by omega) e; omega)]
  have:=MW (l:=r) (k:=k+1) (j:=j) (fun i i' h1 h2 h3 h4 e=>hi i i' (by omega) (by omega) (by omega) (by omega) e) (by omega)
  rwa [show k+1+j=k+(j+1) by omega] at this
def MX (ob:Nat→Ob) (p:Nat):Prop:=∀ g,p≤g→ob g=.free
theorem GA:∀ {m:List Nat} {g i:Nat},m.Nodup→m[i]?=some g→FZ m g=some i
 | [],g,i,_,h=>by simp at h
 | x :: r,g,i,hn,h=>by
  rw [yP] at hn
  simp only [FZ]
  cases i with
  | zero=>simp only [List.getElem?_cons_zero,zD] at h; rw [if_pos h]
  | succ i =>
   simp only [List.getElem?_cons_succ] at h
   have hne:¬ x=g:=fun e=>hn.1 (e▸zV h)
   rw [if_neg hne,GA hn.2 h]; rfl
theorem CallP.of {P:Program} {f:FuncId} {cas:List SV} {fob:List Ob} {r:SV} {fob':List Ob} (h:Fun P f cas fob r fob') {xs:List SV} {ob:Nat→Ob} {p:Nat} {K:Kont} (sel:List Nat)
  (hargs:∃ hd,Fj hd ob sel xs=cas) (hsel:sel.length=fob.length∧sel.Nodup) (hlt:∀ g,g∈sel→g<p) (hlen:fob.length≤fob'.length) (hob:Pd ob (sgp sel p) 0 fob) (hids:∀ o,o∈fob→o.idsB fob.length=true) (hfree:MX ob p)
  (hsh:AM sel xs=[]∨(r.noSh=true∧∀ o,o∈fob'→o.noSh=true)) (hK:K (r.ren (sgp sel p)) (mkU (sgp sel p) 0 fob') (AM sel xs++sel)):CallP P f xs ob p K:=by
 refine ⟨_,_,_,hK,fun ob' hrd hup w I V B vs hwf hxs=>?_⟩
 obtain ⟨hsl,hsn⟩:=hsel
 have hs1:∀ k,k<fob.length→∃ g,sel[k]?=some g∧sgp sel p k=g∧g<p:=fun k hk=>by
  have:k<sel.length:=by omega
  refine ⟨sel[k],zG this,by rw [Dd,zG this],hlt _ (zS this)⟩
 have hs2:∀ k,fob.length≤k→sgp sel p k=p+(k-fob.length):=fun k hk=>by
  rw [Dd,yE (by omega),hsl]
 have hinj:∀ i j,sgp sel p i=sgp sel p j→i=j:=fun i j e=>by
  rcases zF i fob.length with h1 | h1 <;> rcases zF j fob.length with h2 | h2
  ·obtain ⟨g,g1,g2,g3⟩:=hs1 i h1
   obtain ⟨g',g1',g2',g3'⟩:=hs1 j h2
   have e2:g=g':=by rw [←g2,← g2',e]
   subst e2
   have a1:=GA hsn g1
   have a2:=GA hsn g1'
   rw [a1] at a2
   exact zB a2
  ·obtain ⟨g,g1,g2,g3⟩:=hs1 i h1
   have:=hs2 j h2
   omega
  ·obtain ⟨g,g1,g2,g3⟩:=hs1 j h2
   have:=hs2 i h1
   omega
  ·have:=hs2 i h1
   have:=hs2 j h2
   omega
 have htouch:∀ g,As (mkU (sgp sel p) 0 fob') g ↔ ∃ k,k<fob'.length∧sgp sel p k=g:=fun g=>by
  unfold As
  rw [Qf]
  simp
 have hlook:∀ k,k<fob'.length→A3 ob' (mkU (sgp sel p) 0 fob') (sgp sel p k)=(Am fob' k).ren (sgp sel p):=fun k hk=>by
  have:=MW (σ:=sgp sel p) (l:=fob') (k:=0) (j:=k) (fun i i' _ _ _ _ e=>hinj i i' e) hk
  rw [zP] at this
  unfold A3
  rw [this]; rfl
 have hobk:∀ k,k<fob.length→ob' (sgp sel p k)=(Am fob k).ren (sgp sel p):=fun k hk=>by
  have:=J0 hob hk
  rw [zP] at this
  obtain ⟨g,g1,g2,g3⟩:=hs1 k hk
  rw [←this,g2]
  exact hrd g (yD _ (zV g1))
 have hnew:∀ k,fob.length≤k→k<fob'.length→ob' (sgp sel p k)=.free:=fun k h1 h2=>by
  rw [hup _ ((htouch _).2 ⟨k,h2,rfl⟩)]
  exact hfree _ (by rw [hs2 k h1]; omega)
 have hlv:∀ k,(Am fob k).live→k<fob.length:=fun k hl=>by
  rcases zF k fob.length with h1 | h1
  ·exact h1
  ·rw [A5 _ _ h1] at hl; exact hl.elim
 have hlv':∀ k,(Am fob' k).live→k<fob'.length:=fun k hl=>by
  rcases zF k fob'.length with h1 | h1
  ·exact h1
  ·rw [A5 _ _ h1] at hl; exact hl.elim
 have hlvo:∀ k,(Am fob k).live→(ob' (sgp sel p k)).live:=fun k hl=>by
  rw [hobk k (hlv k hl)]
  exact (Ob.Kc _).2 hl
 have hlent:∀ g,g∈AM sel xs→ob' g=ob g:=fun g hg=>hrd g (List.mem_append_left _ hg)
 let Vc:Nat→Option Value:=fun k=>if k<fob.length then V (sgp sel p k) else none
 let Bc:Nat→Nat→Prop:=fun k=>B (sgp sel p k)
 let J:Nat→Prop:=fun b=>I b∨∃ g,g∈AM sel xs∧(ob' g).live∧B g b
 have notsel:∀ g,g∈AM sel xs→∀ k,k<fob.length→sgp sel p k≠g:=by
  intro g hg k hk e
  have h1:=EC xs g hg
  obtain ⟨g',g1,g2,_⟩:=hs1 k hk
  rw [g2] at e
  subst e
  rw [GA hsn g1] at h1
  cases h1
 have hIJ:∀ b,I b→J b:=fun b hb=>.inl hb
 have hwfc:Wf w J Vc Bc (Am fob):=by
  refine ⟨fun b hb=>?_,fun k hl=>?_,fun k b hl hb=>hwf.lt _ b (hlvo k hl) hb,fun k b hl hb hJ=>?_,fun k k' b hl hl' hb hb'=>hinj _ _ (hwf.dO _ _ b (hlvo k hl) (hlvo k' hl') hb hb'),fun k hf=>?_,hwf.gl.keep (KeepS.refl _ _) hIJ⟩
  ·rcases hb with hb | ⟨g,_,hl,hb⟩
   ·exact hwf.ilt b hb
   ·exact hwf.lt g b hl hb
  ·have hk:=hlv k hl
   obtain ⟨val,h1,h2⟩:=hwf.obj _ (hlvo k hl)
   refine ⟨val,by simp only [Vc,hk,if_true]; exact h1,?_⟩
   rw [hobk k hk] at h2
   have h3:=(ObR.ren _).1 h2
   have h4:=ObR.idsB (n:=fob.length) (V':=Vc) (fun g hg=>by simp only [Vc,hg,if_true]) (hids _ (Kd hk)) h3
   exact h4.keep ⟨zJ _,fun _ _ _=>rfl⟩ hIJ (VLe.refl _) fun _ _ _=>rfl
  ·rcases hJ with hJ | ⟨g,hg,hlg,hgb⟩
   ·exact hwf.dI _ b (hlvo k hl) hb hJ
   ·exact notsel g hg k (hlv k hl) (hwf.dO _ _ b (hlvo k hl) hlg hb hgb)
  ·by_cases hk:k<fob.length
   ·simp only [Vc,hk,if_true]
    refine hwf.fr _ ?_
    rw [hobk k hk,hf]; rfl
   ·simp only [Vc,hk,if_false]
 have hargs':RepVs w J Vc cas vs:=by
  obtain ⟨hd,hargs⟩:=hargs
  rw [←hargs,← Hy (ob:=ob) (ob':=ob') hd xs hlent]
  refine KT hwf hIJ (fun g i hi=>?_) hd xs vs (fun g b hg hl hb=>.inr ⟨g,hg,hl,hb⟩) hxs
  have hlt':i<fob.length:=by rw [←hsl]; exact (z6.1 (Iv hi)).1
  simp only [Vc,hlt',if_true,Iw hi]
 refine (h w J Vc Bc vs hwfc hargs').mono ?_
 rintro e w' ⟨v,I',V',B',rfl,hr,hpost⟩
 obtain ⟨hfr,hi0,hi1,hv,hwf',hbh⟩:=hpost
 have hHB:∀ b,HB Bc fob b→∃ g,As (mkU (sgp sel p) 0 fob') g∧(ob' g).live∧B g b:=fun b ⟨k,hl,hb⟩=>⟨sgp sel p k,(htouch _).2 ⟨k,by have:=hlv k hl; omega,rfl⟩,hlvo k hl,hb⟩
 classical
 let V2:Nat→Option Value:=fun g=>if hg:∃ k,k<fob'.length∧sgp sel p k=g then V' (Classical.choose hg) else V g
 let B2:Nat→Nat→Prop:=fun g=>if hg:∃ k,k<fob'.length∧sgp sel p k=g then B' (Classical.choose hg) else B g
 let I2:Nat→Prop:=fun b=>I b∨(I' b∧¬ ∃ g,g∈AM sel xs∧(ob' g).live∧B g b)
 have hV2:∀ k,k<fob'.length→V2 (sgp sel p k)=V' k:=fun k hk=>by
  have hg:∃ k',k' < fob'.length∧sgp sel p k'=sgp sel p k:=⟨k,hk,rfl⟩
  have:V2 (sgp sel p k)=V' (Classical.choose hg):=dif_pos hg
  rw [this,hinj _ _ (Classical.choose_spec hg).2]
 have hB2:∀ k,k<fob'.length→B2 (sgp sel p k)=B' k:=fun k hk=>by
  have hg:∃ k',k' < fob'.length∧sgp sel p k'=sgp sel p k:=⟨k,hk,rfl⟩
  have:B2 (sgp sel p k)=B' (Classical.choose hg):=dif_pos hg
  rw [this,hinj _ _ (Classical.choose_spec hg).2]
 have hV2n:∀ g,¬ As (mkU (sgp sel p) 0 fob') g→V2 g=V g:=fun g hg=>dif_neg fun h=>hg ((htouch g).2 h)
 have hB2n:∀ g,¬ As (mkU (sgp sel p) 0 fob') g→B2 g=B g:=fun g hg=>dif_neg fun h=>hg ((htouch g).2 h)
 have hI2':∀ b,I2 b→I' b:=fun b hb=>by
  rcases hb with hb | hb
  ·exact hi0 b (hIJ b hb)
  ·exact hb.1
 have hVV:VLe V V2:=fun g u hu=>by
  by_cases hg:As (mkU (sgp sel p) 0 fob') g
  ·obtain ⟨k,hk,rfl⟩:=(htouch g).1 hg
   rw [hV2 k hk]
   by_cases h1:k<fob.length
   ·exact hv k u (by simp only [Vc,h1,if_true]; exact hu)
   ·rw [hwf.fr _ (hnew k (by omega) hk)] at hu; cases hu
  ·rw [hV2n g hg]; exact hu
 have hV'σ:VLe V' (fun k=>V2 (sgp sel p k)):=fun k u hu=>by
  rcases zF k fob'.length with h1 | h1
  ·simp only [hV2 k h1]; exact hu
  ·rw [hwf'.fr k (A5 _ _ h1)] at hu; cases hu
 have kr:KeepS I' w' w':=⟨zJ _,fun _ _ _=>rfl⟩
 have kr2:KeepS I2 w' w':=⟨zJ _,fun _ _ _=>rfl⟩
 have hmove:∀ {b},I' b→AM sel xs=[]→I2 b:=fun {b} hb hn=>.inr ⟨hb,fun ⟨g,hg,_⟩=>by rw [hn] at hg; cases hg⟩
 have hres:RepV w' I2 V2 (r.ren (sgp sel p)) v:=by
  refine (RepV.ren r v).2 ?_
  rcases hsh with hn | ⟨hn,_⟩
  ·exact RepV.mono kr (fun b hb=>hmove hb hn) hV'σ _ _ hr
  ·exact RepV.mono kr2 (fun _ h=>h) hV'σ _ _ (RepV.noSh (I:=I') (I':=I2) r v hn hr)
 have hobr:∀ k,(Am fob' k).live→∃ val,V2 (sgp sel p k)=some val∧ObR w' I2 V2 (B2 (sgp sel p k)) val ((Am fob' k).ren (sgp sel p)):=fun k hl=>by
  have hk:=hlv' k hl
  obtain ⟨val,h1,h2⟩:=hwf'.obj k hl
  refine ⟨val,by rw [hV2 k hk]; exact h1,(ObR.ren _).2 ?_⟩
  rw [hB2 k hk]
  rcases hsh with hn | ⟨_,hn⟩
  ·exact h2.keep kr (fun b hb=>hmove hb hn) hV'σ fun _ _ _=>rfl
  ·exact (ObR.noSh (I':=I2) h2 (hn _ (Kd hk))).keep kr2 (fun _ h=>h) hV'σ fun _ _ _=>rfl
 have hi2:∀ b,I2 b→I b∨w.heap.size≤b∨∃ g,As (mkU (sgp sel p) 0 fob') g∧(ob' g).live∧B g b:=fun b hb=>by
  rcases hb with hb | ⟨hb,hno⟩
  ·exact .inl hb
  ·rcases hi1 b hb with h1 | h1 | h1
   ·rcases h1 with h1 | h1
    ·exact .inl h1
    ·exact (hno h1).elim
   ·exact .inr (.inl h1)
   ·exact .inr (.inr (hHB b h1))
 have hkeep:∀ b,b<w.heap.size→(∀ g,As (mkU (sgp sel p) 0 fob') g→(ob' g).live→¬ B g b)→w'.heap[b]?=w.heap[b]?:=fun b hb hno=>hfr.block b hb fun hH=>by
  obtain ⟨g,h1,h2,h3⟩:=hHB b hH
  exact hno g h1 h2 h3
 have live2:∀ k,k<fob'.length→(A3 ob' (mkU (sgp sel p) 0 fob') (sgp sel p k)).live→(Am fob' k).live:=fun k hk hl=>by
  rw [hlook k hk] at hl
  exact (Ob.Kc _).1 hl
 have hbf:∀ k b,(Am fob' k).live→B' k b→(w.heap.size≤b∧b<w'.heap.size)∨∃ g0,As (mkU (sgp sel p) 0 fob') g0∧(ob' g0).live∧B g0 b:=fun k b hl hb=>by
  rcases hbh k b hl hb with h1 | h1
  ·exact .inr (hHB b h1)
  ·exact .inl ⟨h1,hwf'.lt k b hl hb⟩
 have hwf2:Wf w' I2 V2 B2 (A3 ob' (mkU (sgp sel p) 0 fob')):=by
  refine hwf.upd (As (mkU (sgp sel p) 0 fob')) hfr.size hkeep (fun b hb=>.inl hb) hVV (fun g hg=>⟨Iq hg,hB2n g hg,fun hf=>by rw [hV2n g hg]; exact hwf.fr g hf⟩) hi2 (fun b hb=>hwf'.ilt b (hI2' b hb)) (fun g hg hl=>?_) (fun g b hg hl hb=>?_) (fun g b hg hl hb hI=>?_) (fun g g' b hg hg' hl hl' hb hb'=>?_) (fun g hg hf=>?_)
  ·obtain ⟨k,hk,rfl⟩:=(htouch g).1 hg
   rw [hlook k hk]
   exact hobr k (live2 k hk hl)
  ·obtain ⟨k,hk,rfl⟩:=(htouch g).1 hg
   rw [hB2 k hk] at hb
   exact hbf k b (live2 k hk hl) hb
  ·obtain ⟨k,hk,rfl⟩:=(htouch g).1 hg
   rw [hB2 k hk] at hb
   exact hwf'.dI k b (live2 k hk hl) hb (hI2' b hI)
  ·obtain ⟨k,hk,rfl⟩:=(htouch g).1 hg
   obtain ⟨k',hk',rfl⟩:=(htouch g').1 hg'
   rw [hB2 k hk] at hb
   rw [hB2 k' hk'] at hb'
   rw [hwf'.dO k k' b (live2 k hk hl) (live2 k' hk' hl') hb hb']
  ·obtain ⟨k,hk,rfl⟩:=(htouch g).1 hg
   rw [hV2 k hk]
   rw [hlook k hk] at hf
   refine hwf'.fr k ?_
   cases hq:Am fob' k <;> rw [hq] at hf <;> simp [Ob.ren] at hf ⊢
 refine ⟨v,I2,V2,B2,rfl,hres,⟨hwf2,hfr.os,hfr.tape,hfr.output,hfr.size,hkeep,fun b hb=>.inl hb,hi2,hVV,fun g hg=>hB2n g hg,fun g b hg hl hb=>?_⟩⟩
 obtain ⟨k,hk,rfl⟩:=(htouch g).1 hg
 rw [hB2 k hk] at hb
 exact (hbf k b (live2 k hk hl) hb).imp (fun h=>h.1) id
inductive RX where
 |tmp (t:Nat)
 |cell (a:Nat) (agg:Bool) (n:Nat)
def KU (P:Program) (nt:Nat):ResultVar→Option RX
 | .tmp t=>some (.tmp t)
 | .cell a t=>match Hs P t,P.info? t with
  | some g,some i=>if g || i.size == 1 then some (.cell a g i.size) else none
  | _,_=>none
def rxV (st:St):RX→Option SV
 | .tmp t=>some (gets st.sl t)
 | .cell a agg n=>match gets st.sl a with
  | .ptr g o=>match Am st.ob g with
   | .box _ l=>if o+n≤l.length then some (if agg then .agg ((l.drop o).take n) else l.getD o .any) else none
   | _=>none
  | _=>none
def SE (st:St):List RX→Option (List SV)
 | []=>some []
 | x :: r=>match rxV st x,SE st r with
  | some v,some vs=>some (v :: vs)
  | _,_=>none
def Ox (st:St) (rs:List RX):Option SV :=
 match SE st rs with
 | some [x]=>some x
 | some xs=>some (.tup xs)
 | none=>none
section
variable {P:Program} {c:Ctx}
def XC (tmps:Array Value):ResultVar→Sem Value
 | .tmp t=>pure (tmps.getD t undef)
 | .cell q t=>do loadVar t (← asAddr (tmps.getD q undef))
theorem SF (fn:Func) (tmps:Array Value):results fn tmps=(fn.results.mapM (XC tmps) >>= fun vs=>pure (if h:vs.size=1 then vs[0] else .tuple vs)):=by
 unfold results
 congr 1
theorem XD {a:Act} {w:World} {I:Nat→Prop} {V:Nat→Option Value} {B:Nat→Nat→Prop} {st:St} {rv:ResultVar} {rx:RX} {x:SV} (hr:RepI c I V B st.f a w) (hx:KU P c.nt rv=some rx) (hv:rxV st rx=some x) :
  ∃ v,(XC a.tmps rv).run P w=.ok v w∧RepV w I V x v:=by
 cases rv with
 | tmp t =>
  simp only [KU,zD] at hx
  subst hx
  simp only [rxV,zD] at hv
  subst hv
  exact ⟨_,rfl,hr.slots t⟩
 | cell q t =>
  simp only [KU] at hx
  split at hx
  ·rename_i g i hg hi
   split at hx
   ·rename_i h1
    obtain rfl:=zB hx
    simp only [rxV] at hv
    split at hv
    ·rename_i g0 off he
     split at hv
     ·rename_i t0 l hob
      split at hv
      ·rename_i hn
       obtain rfl:=zB hv
       have hp:=hr.slots q
       have he':st.f.sl q=.ptr g0 off:=he
       rw [he'] at hp
       obtain ⟨b,vs,h2,h3,h4,h5,h6⟩:=S7 hr (show st.f.ob g0=.box t0 l from hob) hp
       have hlen:=h6.len
       have:=Hv (P:=P) (w:=w) hg hi h1 b off ((vs.drop off).take i.size) (by simp; omega) (fun j v hj=>by
        rw [cell_of_row w b _ _ _ _ h5]
        rw [List.getElem?_take] at hj
        split at hj
        ·rw [List.getElem?_drop] at hj; simpa using hj
        ·cases hj)
       refine ⟨_,?_,Hw h6 hn h1⟩
       simp only [XC,Sem.run_bind,h2,asAddr,Sem.run_pure,Result.andThen_ok]
       exact this
      ·cases hv
     ·cases hv
    ·cases hv
   ·cases hx
  ·cases hx
theorem TL {a:Act} {w:World} {I:Nat→Prop} {V:Nat→Option Value} {B:Nat→Nat→Prop} {st:St} (hr:RepI c I V B st.f a w):∀ (rvs:List ResultVar) (rxs:List RX) (xs:List SV),AI (rvs.map (KU P c.nt))=some rxs→SE st rxs=some xs →
  ∃ vs:List Value,(rvs.mapM (XC a.tmps):Sem (List Value)).run P w=.ok vs w∧RepVs w I V xs vs
 | [],rxs,xs,h,hx=>by
  simp only [yO,AI,zD] at h
  subst h
  simp only [SE,zD] at hx
  subst hx
  exact ⟨[],by simp,by simp [RepVs]⟩
 | rv :: rvs,rxs,xs,h,hx=>by
  simp only [zR] at h
  cases h1:KU P c.nt rv with
  | none=>rw [h1] at h; cases h
  | some rx =>
   rw [h1] at h
   simp only [AI] at h
   obtain ⟨rxs',h2,rfl⟩:=zC.1 h
   simp only [SE] at hx
   split at hx
   ·rename_i x xs' h3 h4
    obtain rfl:=zB hx
    obtain ⟨v,g1,g2⟩:=XD (P:=P) hr h1 h3
    obtain ⟨vs,g3,g4⟩:=TL hr rvs rxs' xs' h2 h4
    refine ⟨v :: vs,?_,by simp only [RepVs]; exact ⟨v,vs,rfl,g2,g4⟩⟩
    rw [List.mapM_cons,Sem.run_bind,g1,Result.andThen_ok,Sem.run_bind,g3]
    rfl
   ·cases hx
theorem LF {fn:Func} {a:Act} {w:World} {I:Nat→Prop} {V:Nat→Option Value} {B:Nat→Nat→Prop} {st:St} (hr:RepI c I V B st.f a w) {rxs:List RX} {x:SV} (h:AI (fn.results.toList.map (KU P c.nt))=some rxs) (hx:Ox st rxs=some x) :
  ∃ v,(results fn a.tmps).run P w=.ok v w∧RepV w I V x v:=by
 unfold Ox at hx
 cases hxs:SE st rxs with
 | none=>rw [hxs] at hx; cases hx
 | some xs =>
  rw [hxs] at hx
  obtain ⟨vs,h1,h2⟩:=TL hr _ _ _ h hxs
  have hrun:(results fn a.tmps).run P w=.ok (if h:vs.toArray.size=1 then vs.toArray[0] else .tuple vs.toArray) w:=by
   rw [SF,Sem.run_bind,Array.mapM_eq_mapM_toList,Sem.run_map,h1]
   rfl
  refine ⟨_,hrun,?_⟩
  match xs,vs,h2,hx with
  | [],vs,h2,hx =>
   simp only [zD] at hx
   subst hx
   simp only [RepVs] at h2
   subst h2
   simp only [RepV]
   exact ⟨[],by simp,by simp [RepVs]⟩
  | [y],vs,h2,hx =>
   simp only [zD] at hx
   subst hx
   simp only [RepVs] at h2
   obtain ⟨v,r,rfl,h3,rfl⟩:=h2
   simpa using h3
  | y :: z :: ys,vs,h2,hx =>
   simp only [zD] at hx
   subst hx
   have hlen:=h2.len
   simp only [zQ] at hlen
   simp only [RepV]
   refine ⟨vs,?_,h2⟩
   rw [dif_neg (by rw [zX]; omega)]
def Hz:Nat→List SV
 | 0=>[]
 | n+1=>.any :: Hz n
theorem KV:∀ (n k:Nat),gets (Hz n) k=.any
 | 0,_=>rfl
 | n+1,0=>rfl
 | n+1,k+1=>KV n k
theorem MY:∀ (l l':List SV) (k:Nat),gets (l++l') k=if k<l.length then gets l k else gets l' (k-l.length)
 | [],l',k=>by simp
 | x :: r,l',0=>by simp [gets]
 | x :: r,l',k+1=>by
  simp only [yM,gets,zQ,zT,yC]
  exact MY r l' k
theorem MZ:∀ n,(Hz n).length=n
 | 0=>rfl
 | n+1=>by simp [Hz,MZ n]
theorem RepVs.gets {w:World} {I:Nat→Prop} {V:Nat→Option Value}:∀ {l:List SV} {vs:List Value} (k:Nat),RepVs w I V l vs→k<l.length→RepV w I V (gets l k) (vs.getD k undef)
 | [],vs,k,_,h=>absurd h (by simp)
 | x :: r,vs,0,h,_=>by
  simp only [RepVs] at h
  obtain ⟨v,q,rfl,h1,_⟩:=h
  simpa [Proofs.YtkjpmfmjebkkiaaGreat.gets] using h1
 | x :: r,vs,k+1,h,hk=>by
  simp only [RepVs] at h
  obtain ⟨v,q,rfl,_,h2⟩:=h
  simpa [Proofs.YtkjpmfmjebkkiaaGreat.gets] using RepVs.gets k h2 (by simpa using hk)
def Fin (rs:List RX) (n0:Nat) (r:SV) (ob':List Ob) (e:X) (st:St):Prop :=
 (e=.ret∨e=.normal)∧∃ r0 m,Ox st rs=some r0∧WeakC n0 m ⟨[r0],st.ob⟩ ⟨[r],ob'⟩
theorem YO {f:FuncId} {fn:Func} {code:Code} {sc:SC} {rs:List RX} {args:List SV} {ob:List Ob} {r:SV} {ob':List Ob} (hf:P.funcs[f]?=some fn) (hb:fn.body=some code) (ht:trC P fn.ntmps code=some sc) (hrs:AI (fn.results.toList.map (KU P fn.ntmps))=some rs) (hn:args.length≤fn.ntmps)
  (h:∀ c:Ctx,c.nt=fn.ntmps→c.m=ob.length→Run P c sc (Fin rs ob.length r ob') ⟨args++Hz (fn.ntmps-args.length),ob⟩):Fun P f args ob r ob':=by
 intro w I V B vs hwf hvs
 let c:Ctx:=⟨w,HB B ob,I,V,fn.ntmps,ob.length,fun g hg=>hwf.fr g (A5 _ _ hg)⟩
 have hvl:=hvs.len
 have hrep:Rep c (St.f ⟨args++Hz (fn.ntmps-args.length),ob⟩) { tmps:=vs.toArray++zW (fn.ntmps-vs.toArray.size) undef,defers:=[] } w:=by
  refine ⟨I,V,B,⟨⟨rfl,TapeOk.mk' rfl rfl,rfl,zJ _,fun _ _ _=>rfl⟩,fun _ h=>h,fun _ h=>.inl h,VLe.refl _,hwf,fun g b hl hb=>.inl ⟨g,hl,hb⟩,rfl,?_,fun k=>?_⟩⟩
  ·simp only [Array.size_append,zX,Array.size_replicate]
   show vs.length+(fn.ntmps-vs.length)=fn.ntmps
   omega
  ·show RepV w I V (gets (args++Hz (fn.ntmps-args.length)) k) _
   rw [MY]
   by_cases hk:k<args.length
   ·rw [if_pos hk]
    have:=hvs.gets k hk
    have e:(vs.toArray++zW (fn.ntmps-vs.toArray.size) undef).getD k undef=vs.getD k undef:=by
     rw [zI,Array.getElem?_append_left (by simp; omega)]
     simp [zZ]
    rw [e]; exact this
   ·rw [if_neg hk,KV]; simp [RepV]
 refine calls_of_wp hf hb ?_
 refine h c rfl rfl code ht _ w _ ?_ hrep fun x st' a' w' hk hl' hr'=>?_
 ·simp only [yJ,MZ]
  show args.length+(fn.ntmps-args.length)=fn.ntmps
  omega
 ·obtain ⟨hx,r0,m,hres,hweak⟩:=hk
  obtain ⟨I',V',B',hr'⟩:=hr'
  obtain ⟨v,hrun,hv⟩:=LF hr' hrs hres
  have hwf':=hweak.wf hr'.wf
  have hv':RepV w' I' (fun g=>V' (sgp m st'.ob.length g)) r v:=by
   have h1:=hweak.1
   simp only [leL] at h1
   exact Iu h1.1 hv
  have hpost:FunPost w I V B ob ob' w' I' (fun g=>V' (sgp m st'.ob.length g)) (fun g=>B' (sgp m st'.ob.length g)):=by
   refine ⟨hr'.fr,hr'.i0,fun b hb=>hr'.i1 b hb,fun g u hu=>?_,hwf',fun g b hl hb=>?_⟩
   ·have hg:g<ob.length:=by
     rcases zF g ob.length with h1 | h1
     ·exact h1
     ·rw [hwf.fr g (A5 _ _ h1)] at hu; cases hu
    rw [EB hweak.2.2.2 g hg]
    exact hr'.v0 g u hu
   ·have hlt:g<ob'.length:=by
     rcases zF g ob'.length with h1 | h1
     ·exact h1
     ·rw [A5 _ _ h1] at hl; exact hl.elim
    have h1:=Do (j:=g) hweak.2.1 hlt
    rw [zP] at h1
    exact hr'.bh _ b (CU h1 hl) hb
  have hfin:bodyPost P fn (fun e w'=>∃ v I' V' B',e=.returned v∧RepV w' I' V' r v∧FunPost w I V B ob ob' w' I' V' B') x.exit' a' w':=by
   rcases hx with rfl | rfl
   ·exact bodyPost_ret hrun hr'.nd ⟨v,I',_,_,rfl,hv',hpost⟩
   ·exact bodyPost_end hrun hr'.nd ⟨v,I',_,_,rfl,hv',hpost⟩
  exact hfin
end
def wf (ro:Option Nat):Fence:={ Fence.wide with round:=ro }
theorem SG {ro:Option Nat} {n:Nat} {P:Program} {f:FuncId} {args:Array Value} {w:World} {R:Ending→World→Prop} (h:Calls P f args w R):CallsIn (wf ro) n P f args w R:=by
 have h1:CallsIn Fence.wide n P f args w R:=callsIn_wide.2 h
 exact h1
theorem U1 {ro:Option Nat} {n:Nat} {P:Program} {f:String} {args:Array Value} {w:World} {R:Value→World→Prop} (h:Rows P f args w R):RowsIn (wf ro) n P f args w R:=by
 intro c cs _
 obtain ⟨v,w',r,s⟩:=h c cs
 have h1:=stepsIn_wide.2 s
 exact ⟨v,w',r,h1⟩
def RepD (ds:List Deferred) (c:Ctx) (s:Fst) (a:Act) (w:World):Prop:=a.defers=ds∧Rep c s { a with defers:=[] } w
section
variable {P:Program} {c:Ctx} {ops:Array Oper} {Q:Exit→Act→World→Prop} {ro:Option Nat} {n:Nat} {ds:List Deferred}
theorem XE (a:Act) (d:Option Tmp) (v:Value):{ (({ a with defers:=[] }:Act).put d v) with defers:=a.defers }=a.put d v:=by
 cases d <;> rfl
theorem OpS.inn {o:Oper} {s:Fst} {x:SV} {upd:List (Nat × Ob)} (hd:∀ q,o.op≠.defer q) (h:OpS P c o s x upd) {a:Act} {w:World} {K:Act→World→Prop} (hr:RepD ds c s a w) (hK:∀ a' w',RepD ds c (s.app o.dst x upd) a' w'→K a' w'):o.wpIn (wf ro) n P a w K Q:=by
 obtain ⟨rfl,hr⟩:=hr
 have h0:=h { a with defers:=[] } w (fun b w'=>b.defers=[]∧K { b with defers:=a.defers } w') (fun _ _ _=>False) hr fun b w' hb=>by
  have hbd:b.defers=[]:=by
   obtain ⟨I,V,B,hb⟩:=hb
   exact hb.nd
  refine ⟨hbd,hK _ _ ⟨rfl,?_⟩⟩
  have e:({ ({ b with defers:=a.defers }:Act) with defers:=[] }:Act)=b:=by
   cases b
   simp only at hbd
   subst hbd
   rfl
  rw [e]
  exact hb
 have e1:Act.eval { a with defers:=[] }=a.eval:=by
  funext q
  cases q <;> rfl
 unfold Oper.wp at h0
 rw [e1] at h0
 refine ⟨fun _ _=>trivial,?_⟩
 rw [Oper.semAt_eq _ _ _ hd]
 cases hx:(execOp a.eval o).run P w with
 | ok nx w' =>
  rw [hx] at h0
  cases nx with
  | value v =>
   rw [Oper.upon_value] at h0
   rw [Oper.uponIn_value]
   have:=h0.2
   rwa [XE] at this
  | skip =>
   rw [Oper.upon_skip] at h0
   rw [Oper.uponIn_skip]
   have:=h0.2
   rwa [XE] at this
  | defer d =>
   rw [Oper.upon_defer] at h0
   have:=h0.1
   cases hds:o.dst <;> rw [hds] at this <;> cases this
  | enter f args =>
   rw [Oper.upon_enter] at h0
   rw [Oper.uponIn_enter]
   refine ⟨fun e=>absurd e (by simp [wf,Fence.wide]),(SG h0).mono ?_⟩
   intro e w2 h2
   cases e with
   | returned v =>
    have:=h2.2
    rwa [XE] at this
   | panicked chain=>exact h2.elim
   | outgrown =>
    obtain ⟨_,_,h3⟩:=h2
    exact h3.elim
  | row row args =>
   rw [Oper.upon_row] at h0
   rw [Oper.uponIn_row]
   refine ⟨fun e=>absurd e (by simp [wf,Fence.wide]),(U1 h0).mono ?_⟩
   intro v w2 h2
   have:=h2.2
   rwa [XE] at this
  | _=>exact h0.elim
 | halt x w' =>
  rw [hx] at h0
  cases x <;> exact h0.elim
theorem RepD.putU {s:Fst} {a:Act} {w:World} {d:Option Tmp} (hr:RepD ds c s a w) (hd:AA c.nt d=true):RepD ds c (s.app d (.tup []) []) (a.put d undef) w:=by
 obtain ⟨rfl,I,V,B,hr⟩:=hr
 refine ⟨by cases d <;> rfl,I,V,B,?_⟩
 have h:=RepI.put (s:=s.setO []) (by simpa [Fst.setO,A7] using hr) hd (KK w I V)
 have e:({ (a.put d undef) with defers:=[] }:Act)=({ a with defers:=[] }:Act).put d undef:=by cases d <;> rfl
 rw [e]
 exact h
theorem Ke:∀ (l:List Oper) (es:List Ent) (s:Fst) (a:Act) (w:World),(∀ o∈l,∀ q,o.op≠.defer q)→(∀ o∈l,AA c.nt o.dst=true∧KL c.nt ops o=true)→TextOk P c ops l es s→RepD ds c s a w →
  (∀ a' w',RepD ds c (ID l es s) a' w'→Q .normal a' w')→wpListIn (wf ro) n P ops Q l a w
 | [],es,s,a,w,_,_,ht,hr,hq=>by
  simp only [TextOk] at ht
  subst ht
  exact hq a w hr
 | o :: os,es,s,a,w,hnd,hd,ht,hr,hq=>by
  simp only [TextOk] at ht
  obtain ⟨e,r,rfl,hv,ht⟩:=ht
  obtain ⟨hg,hs⟩:=hv s (fun _ _=>rfl) (fun _ _=>rfl) (fun _ _=>rfl)
  have hd0:=hd o (by simp)
  have hw:=E2 hg hr.2 (Io hd0.2)
  have next:∀ a' w',RepD ds c (s.app o.dst e.x e.upd) a' w'→wpListIn (wf ro) n P ops Q os a' w':=fun a' w' hr' =>
   Ke os r _ a' w' (fun o' ho'=>hnd o' (by simp [ho'])) (fun o' ho'=>hd o' (by simp [ho'])) ht hr' fun a'' w'' h=>hq a'' w'' (by simpa [ID] using h)
  unfold wpListIn
  rw [hw]
  cases he:e.run with
  | true =>
   rw [if_pos rfl]
   rw [he,if_pos rfl] at hs
   exact OpS.inn (hnd o (by simp)) hs hr next
  | false =>
   rw [if_neg (by simp)]
   rw [he,if_neg (by simp)] at hs
   refine ⟨fun _ _=>trivial,next _ _ ?_⟩
   rw [hs.1,hs.2]
   exact hr.putU hd0.1
end
section
variable {P:Program} {c:Ctx} {Q:Exit→Act→World→Prop} {ro:Option Nat} {n:Nat} {ds:List Deferred}
variable {l:List Oper} {es:List Ent} {anc:List (List Nat)}
theorem Rl (hnd:∀ o∈l,∀ q,o.op≠.defer q) (h:Conf l es anc) {s:Fst} (hd:∀ o∈l,AA c.nt o.dst=true∧KL c.nt l.toArray o=true) (ht:TextOk P c l.toArray l es s) (hq:∀ a' w',RepD ds c (ID l es s) a' w'→Q .normal a' w') :
  ∀ (f:Nat) (listed:Array Bool) (a:Act) (w:World),listed.size=l.length→Vx l (fun j=>listed.getD j false)→open_ (fun j=>listed.getD j false) l.length=f→RepD ds c (stD l es s (fun j=>listed.getD j false) l.length) a w →
   wpAnyIn (wf ro) n P .any l.toArray Q f listed a w:=by
 have fin:∀ (listed:Array Bool) (a:Act) (w:World),open_ (fun j=>listed.getD j false) l.length=0→RepD ds c (stD l es s (fun j=>listed.getD j false) l.length) a w→Q .normal a w:=by
  intro listed a w ho hr
  refine hq a w ?_
  have e1:stD l es s (fun j=>listed.getD j false) l.length=stD l es s (fun _=>true) l.length:=by
   unfold stD
   congr 1
   ·funext k; exact C6 _ fun j hj _=>EA ho j hj
   ·funext k; exact C6 _ fun j hj _=>EA ho j hj
  have e0:stD l es s (fun _=>true) 0=s:=by unfold stD; rfl
  have e2:=PU (l0:=l) (es0:=es) (s0:=s) (l:=l) (es:=es) (n:=0) h.len (fun j=>by simp) (fun j=>by simp)
  rw [e0,zP] at e2
  rw [e2,← e1]
  exact hr
 intro f
 induction f with
 | zero =>
  intro listed a w hsz hclo hop hr
  refine ⟨?_,fin listed a w hop hr⟩
  cases hrd:Region.ready .any l.toArray listed with
  | nil=>rfl
  | cons i r =>
   have hi:i∈Region.ready .any l.toArray listed:=by rw [hrd]; simp
   obtain ⟨h1,o,ho,_⟩:=mem_ready.1 hi
   have hlt:i<l.length:=by have:=(zY.1 ho).1; simpa using this
   have:=EA hop i hlt
   have e:listed.getD i true=listed.getD i false:=by simp [zI,zU (show i<listed.size by omega)]
   rw [e,this] at h1; cases h1
 | succ f ih =>
  intro listed a w hsz hclo hop hr
  refine ⟨fun hrd=>?_,fun i hi=>?_⟩
  ·
   exfalso
   obtain ⟨i,hi⟩:∃ i,i∈Region.ready .any l.toArray listed:=by
    have hex:∃ j,j<l.length∧listed.getD j false=false:=by
     refine Classical.byContradiction fun hno=>?_
     have:open_ (fun j=>listed.getD j false) l.length=0:=by
      unfold open_
      rw [List.countP_eq_zero]
      intro j hj
      have hj:=List.mem_range.1 hj
      cases hlj:listed.getD j false with
      | true=>simpa using hlj
      | false=>exact absurd ⟨j,hj,hlj⟩ hno
     omega
    obtain ⟨j,⟨hj1,hj2⟩,hmin⟩:∃ j,(j<l.length∧listed.getD j false=false)∧∀ k,k<j→¬ (k<l.length∧listed.getD k false=false):=by
     obtain ⟨j,hj⟩:=hex
     induction j using Nat.strongRecOn with
     | _ j ih =>
      by_cases hk:∃ k,k<j∧(k<l.length∧listed.getD k false=false)
      ·obtain ⟨k,h1,h2⟩:=hk; exact ih k h1 h2
      ·exact ⟨j,hj,fun k h1 h2=>hk ⟨k,h1,h2⟩⟩
    refine ⟨j,mem_ready.2 ⟨?_,l[j],by simp [hj1],fun e he hb=>?_⟩⟩
    ·simpa [zI,zU (show j<listed.size by omega)] using hj2
    ·have hlt:=(G8 h.slot (zG hj1) (zG hj1)).1 e he hb
     cases hle:listed.getD e.on false with
     | true=>rfl
     | false=>exact absurd ⟨by omega,hle⟩ (hmin e.on hlt)
   rw [hrd] at hi
   cases hi
  ·obtain ⟨h1,o,ho',hE⟩:=mem_ready.1 hi
   have ho:l[i]?=some o:=by simpa using ho'
   have hlt:i<l.length:=(z6.1 ho).1
   have hu:listed.getD i false=false:=by simpa [zI,zU (show i<listed.size by omega)] using h1
   obtain ⟨e,he⟩:∃ e,es[i]?=some e:=⟨es[i]'(by rw [h.len]; exact hlt),zG (by rw [h.len]; exact hlt)⟩
   have e0:stD l es s (fun _=>true) 0=s:=by unfold stD; rfl
   have hv:=TextOk.at_ (l0:=l) (es0:=es) (s0:=s) (l:=l) (es:=es) (n:=0) (by rw [e0]; exact ht) (fun j=>by simp) (fun j=>by simp) i o e ho he
   rw [zP] at hv
   obtain ⟨hg,hs⟩:=hv (stD l es s (fun j=>listed.getD j false) l.length) (fun k hk=>h.slotEq hclo ho he hu hE s hk) (fun g hg=>h.obEq hclo ho he hu hE s (.inl hg)) (fun g hg=>h.obEq hclo ho he hu hE s (.inr hg))
   have hd0:=hd o (zV ho)
   have hw:=E2 hg hr.2 (Io hd0.2)
   have hD':∀ j,(fun j=>(listed.setIfInBounds i true).getD j false) j=(if j=i then true else (fun j=>listed.getD j false) j):=fun j=>by
    simp only [zI]
    by_cases e1:j=i
    ·subst e1; simp [show j<listed.size by omega]
    ·rw [if_neg e1,yB (fun e=>e1 e.symm)]
   have next:∀ a' w',RepD ds c ((stD l es s (fun j=>listed.getD j false) l.length).app o.dst e.x e.upd) a' w'→wpAnyIn (wf ro) n P .any l.toArray Q f (listed.setIfInBounds i true) a' w':=fun a' w' hr'=>by
    refine ih _ a' w' (by simpa using hsz) ?_ ?_ ?_
    ·intro j oj hj hlj e' he' hb
     have hlj:=hD' j▸hlj
     have:=hD' e'.on
     rw [this]
     by_cases e1:e'.on=i
     ·rw [if_pos e1]
     ·rw [if_neg e1]
      by_cases e2:j=i
      ·subst e2
       obtain rfl:o=oj:=zB (ho.symm.trans hj)
       exact hE e' he' hb
      ·rw [if_neg e2] at hlj
       exact hclo j oj hj hlj e' he' hb
    ·have:=QT hD' hu l.length hlt
     omega
    ·rw [h.done hclo ho he hu hE s hD'] at hr'
     exact hr'
   unfold wpOpIn
   rw [ho']
   simp only
   rw [hw]
   cases her:e.run with
   | true =>
    rw [if_pos rfl]
    rw [her,if_pos rfl] at hs
    exact OpS.inn (hnd o (zV ho)) hs hr next
   | false =>
    rw [if_neg (by simp)]
    rw [her,if_neg (by simp)] at hs
    refine ⟨fun _ _=>trivial,next _ _ ?_⟩
    rw [hs.1,hs.2]
    exact hr.putU hd0.1
theorem KW (hnd:∀ o∈l,∀ q,o.op≠.defer q) {id:Nat} {a:Act} {w:World} {s:Fst} (hm:P.follows .mixedOrders=true) (hsl:OR l anc=true) (hanc:PV l []=anc) (hlen:decide (anc.length=l.length)=true) (hob:obB anc [] (IE es) 0=true)
  (hd:∀ o∈l,AA c.nt o.dst=true∧KL c.nt l.toArray o=true) (ht:TextOk P c l.toArray l es s) (hr:RepD ds c s a w) (hq:∀ a' w',RepD ds c (ID l es s) a' w'→Q .normal a' w'):(Code.region id l.toArray true).wpIn (wf ro) n P Q a w:=by
 have hlen:=of_decide_eq_true hlen
 have hconf:Conf l es anc:=⟨by rw [←hanc]; exact PW l [] (fun j=>by simp) (fun j o A _ hA=>by simp at hA),ht.len,fun j hj=>⟨anc[j]'(by omega),zG _⟩,hsl,hob⟩
 refine wpIn_region_any hm ?_
 have e0:∀ j,(zW l.length false).getD j false=false:=fun j=>by
  rw [zI]
  by_cases hj:j<l.length <;> simp [hj]
 refine Rl hnd hconf hd ht hq _ _ a _ (by simp) ?_ ?_ ?_
 ·intro j oj _ hlj
  simp only [zX] at hlj
  rw [e0 j] at hlj; cases hlj
 ·unfold open_
  simp only [zX]
  have:((List.range l.length).countP fun j=>!(zW l.length false).getD j false)=(List.range l.length).length:=by
   rw [List.countP_eq_length]
   intro j _
   rw [e0 j]; rfl
  rw [this]; simp
 ·have e1:stD l es s (fun j=>(zW l.toArray.size false).getD j false) l.length=s:=by
   have:∀ {α:Type} (wr:Nat→Option α) (n:Nat) (v:α),C5 wr (fun j=>(zW l.toArray.size false).getD j false) n v=v:=fun wr n v=>by
    rw [DC 0 n (Nat.zero_le _) (fun j _ _ _=>by simp only [zX]; exact e0 j)]; rfl
   unfold stD
   simp only [this]
  rw [e1]
  exact ⟨hr.1,hr.2.drew 1⟩
end
section
variable {P:Program} {c:Ctx} {ro:Option Nat} {n:Nat} {ds:List Deferred}
theorem U2 {ops:Array Oper} {o:Oper} {so:SOper} (h:EG P ops o=some so):∀ q,o.op≠.defer q:=by
 intro q hq
 unfold EG at h
 have e:Cc P o=none:=by unfold Cc; rw [hq]
 rw [e] at h
 split at h
 ·rename_i h2; cases h2
 ·cases h
theorem J1 {ops:Array Oper}:∀ {l:List Oper} {sl:List SOper},AI (l.map (EG P ops))=some sl→∀ o∈l,∀ q,o.op≠.defer q
 | [],_,_,o,ho=>by cases ho
 | x :: r,sl,h,o,ho=>by
  rw [zR] at h
  cases h1:EG P ops x with
  | none=>rw [h1] at h; cases h
  | some y =>
   rw [h1] at h
   simp only [AI] at h
   obtain ⟨sl',h2,_⟩:=zC.1 h
   rcases zO.1 ho with rfl | ho
   ·exact U2 h1
   ·exact J1 h2 o ho
def Cg:SC→Bool
 | .seq a b=>Cg a&&Cg b
 | .cond _ a b=>Cg a&&Cg b
 | .block _ b=>Cg b
 | .loop _ _=>false
 | .next _ _ _=>false
 | .mloop _ _ _ _ _ _=>false
 | _=>true
def ZS (ro:Option Nat) (n:Nat) (ds:List Deferred) (P:Program) (c:Ctx) (sc:SC) (K:X→St→Prop) (st:St):Prop :=
 ∀ (code:Code),trC P c.nt code=some sc→∀ (a:Act) (w:World) (Q:Exit→Act→World→Prop),st.sl.length=c.nt→RepD ds c st.f a w →
  (∀ x st' a' w',K x st'→st'.sl.length=c.nt→RepD ds c st'.f a' w'→Q x.exit' a' w')→code.wpIn (wf ro) n P Q a w
theorem De (hm:P.follows .mixedOrders=true):∀ (sc:SC) (K:X→St→Prop) (st:St),Cg sc=true→sw P c sc K st→ZS ro n ds P c sc K st
 | .skip,K,st,_,h=>by
  intro code hc a w Q hl hr hq
  cases code <;> simp only [trC] at hc <;> (try (cases hc; done)) <;> (try (split at hc <;> (try split at hc) <;> (try split at hc) <;> (try split at hc) <;> (try split at hc) <;> cases hc; done)) <;> (try (obtain ⟨_,_,e⟩:=zC.1 hc; cases e; done))
  exact wpIn_skip (hq _ _ _ _ h hl hr)
 | .exit id,K,st,_,h=>by
  intro code hc a w Q hl hr hq
  cases code <;> simp only [trC] at hc <;> (try (cases hc; done)) <;> (try (split at hc <;> (try split at hc) <;> (try split at hc) <;> (try split at hc) <;> (try split at hc) <;> cases hc; done)) <;> (try (obtain ⟨_,_,e⟩:=zC.1 hc; cases e; done))
  obtain rfl:=SC.exit.inj (zB hc)
  exact wpIn_exit (hq _ _ _ _ h hl hr)
 | .ret,K,st,_,h=>by
  intro code hc a w Q hl hr hq
  cases code <;> simp only [trC] at hc <;> (try (cases hc; done)) <;> (try (split at hc <;> (try split at hc) <;> (try split at hc) <;> (try split at hc) <;> (try split at hc) <;> cases hc; done)) <;> (try (obtain ⟨_,_,e⟩:=zC.1 hc; cases e; done))
  exact wpIn_ret (hq _ _ _ _ h hl hr)
 | .loop j b,K,st,hf,h=>by cases hf
 | .mloop _ _ _ _ _ _,K,st,hf,h=>by cases hf
 | .next it nx more,K,st,hf,h=>by cases hf
 | .reg sl,K,st,_,h=>by
  intro code hc a w Q hl hr hq
  cases code <;> simp only [trC] at hc <;> (try (cases hc; done)) <;> (try (obtain ⟨_,_,e⟩:=zC.1 hc; cases e; done))
  case region id ops draw =>
   split at hc
   ·cases hc
   rename_i hnn
   split at hc
   ·rename_i sl' hsl
    split at hc
    ·rename_i hall
     split at hc
     ·split at hc <;> cases hc
     ·rename_i hdr
      obtain rfl:=SC.reg.inj (zB hc)
      have hdr:draw=false:=by simpa using hdr
      subst hdr
      have hall:∀ o∈ops.toList,AA c.nt o.dst=true∧KL c.nt ops o=true:=fun o ho=>by
       have:=(zN.1 hall) o ho
       simpa using this
      obtain ⟨es,st',h1,h2,h3,h4⟩:=Jy (c:=c) hsl hl (fun o ho=>(hall o ho).1) h
      exact wpIn_region_list (Ke ops.toList es st.f a w (J1 hsl) hall h2 hr fun a' w' hr'=>hq .normal st' a' w' h1 h4 (by rw [←h3]; exact hr'))
    ·cases hc
   ·cases hc
  case seq=>split at hc <;> cases hc
  case cond=>split at hc <;> cases hc
 | .dreg anc sl,K,st,_,h=>by
  intro code hc a w Q hl hr hq
  cases code <;> simp only [trC] at hc <;> (try (cases hc; done)) <;> (try (obtain ⟨_,_,e⟩:=zC.1 hc; cases e; done))
  case region id ops draw =>
   split at hc
   ·cases hc
   rename_i hnn
   split at hc
   ·rename_i sl' hsl
    split at hc
    ·rename_i hall
     split at hc
     ·rename_i hdr
      split at hc
      ·rename_i hsb
       obtain ⟨rfl,rfl⟩:=SC.dreg.inj (zB hc)
       have hdr:draw=true:=by simpa using hdr
       subst hdr
       have hall:∀ o∈ops.toList,AA c.nt o.dst=true∧KL c.nt ops o=true:=fun o ho=>by
        have:=(zN.1 hall) o ho
        simpa using this
       rw [zE] at hsb
       obtain ⟨es,st',⟨hob,h1⟩,h2,h3,h4⟩:=Jw (c:=c) hsl hl (fun o ho=>(hall o ho).1) h
       have:=KW (P:=P) (c:=c) (Q:=Q) (l:=ops.toList) (es:=es) (anc:=PV ops.toList []) (id:=id) (a:=a) (w:=w) (s:=st.f) (ro:=ro) (n:=n) (ds:=ds) (J1 hsl) hm hsb.1 rfl hsb.2 hob (by simpa using hall) (by simpa using h2) hr (fun a' w' hr'=>hq .normal st' a' w' h1 h4 (by rw [←h3]; exact hr'))
       simpa using this
      ·cases hc
     ·cases hc
    ·cases hc
   ·cases hc
  case seq=>split at hc <;> cases hc
  case cond=>split at hc <;> cases hc
 | .seq x y,K,st,hf,h=>by
  intro code hc a w Q hl hr hq
  simp only [Cg,zE] at hf
  cases code <;> simp only [trC] at hc <;> (try (cases hc; done)) <;> (try (obtain ⟨_,_,e⟩:=zC.1 hc; cases e; done))
  case region=>split at hc <;> (try split at hc) <;> (try split at hc) <;> (try split at hc) <;> (try split at hc) <;> cases hc
  case cond=>split at hc <;> cases hc
  case seq u v =>
   split at hc
   ·rename_i x' y' hx hy
    obtain ⟨rfl,rfl⟩:=SC.seq.inj (zB hc)
    simp only [sw] at h
    refine wpIn_seq (De hm _ _ st hf.1 h u hx a w _ hl hr fun e st' a' w' hk hl' hr'=>?_)
    cases e with
    | normal=>exact De hm _ _ st' hf.2 hk v hy a' w' Q hl' hr' hq
    | exit id=>exact hq _ _ _ _ hk hl' hr'
    | ret=>exact hq _ _ _ _ hk hl' hr'
   ·cases hc
 | .cond cx x y,K,st,hf,h=>by
  intro code hc a w Q hl hr hq
  simp only [Cg,zE] at hf
  cases code <;> simp only [trC] at hc <;> (try (cases hc; done)) <;> (try (obtain ⟨_,_,e⟩:=zC.1 hc; cases e; done))
  case region=>split at hc <;> (try split at hc) <;> (try split at hc) <;> (try split at hc) <;> (try split at hc) <;> cases hc
  case seq=>split at hc <;> cases hc
  case cond q u v =>
   split at hc
   ·rename_i x' y' hx hy
    obtain ⟨rfl,rfl,rfl⟩:=SC.cond.inj (zB hc)
    simp only [sw] at h
    split at h
    ·rename_i t ht
     have hv:a.eval q=.bool t:=by
      obtain ⟨_,I,V,B,hr⟩:=hr
      have:=Aq hr q
      have e:Ar st.f.sl (trX q)=.bool t:=ht
      rw [e] at this
      have e2:Act.eval { a with defers:=[] } q=a.eval q:=by cases q <;> rfl
      rw [e2] at this
      simpa only [RepV] using this
     refine wpIn_cond_split hv (fun e=>?_) (fun e=>?_)
     ·exact De hm _ _ st hf.1 (h.1 e) u hx a w Q hl hr hq
     ·exact De hm _ _ st hf.2 (h.2 e) v hy a w Q hl hr hq
    ·exact h.elim
   ·cases hc
 | .block id b,K,st,hf,h=>by
  intro code hc a w Q hl hr hq
  simp only [Cg] at hf
  cases code <;> simp only [trC] at hc <;> (try (cases hc; done))
  case region=>split at hc <;> (try split at hc) <;> (try split at hc) <;> (try split at hc) <;> (try split at hc) <;> cases hc
  case seq=>split at hc <;> cases hc
  case cond=>split at hc <;> cases hc
  case loop=>obtain ⟨_,_,e⟩:=zC.1 hc; cases e
  case block id' u =>
   obtain ⟨x',hx,e⟩:=zC.1 hc
   obtain ⟨rfl,rfl⟩:=SC.block.inj e
   simp only [sw] at h
   refine wpIn_block (De hm _ _ st hf h u hx a w _ hl hr fun e st' a' w' hk hl' hr'=>?_)
   cases e with
   | normal=>exact hq .normal st' a' w' hk hl' hr'
   | ret=>exact hq .ret st' a' w' hk hl' hr'
   | exit i =>
    simp only at hk
    simp only [X.exit',Exit.inBlock]
    by_cases hi:i=id'
    ·rw [if_pos hi] at hk ⊢
     exact hq .normal st' a' w' hk hl' hr'
    ·rw [if_neg hi] at hk ⊢
     exact hq (.exit i) st' a' w' hk hl' hr'
end
structure At (nt:Nat) (w:World) (I:Nat→Prop) (V:Nat→Option Value) (B:Nat→Nat→Prop) (st:St) (tm:Array Value):Prop where
 wf:Wf w I V B (Am st.ob)
 len:st.sl.length=nt
 sz:tm.size=nt
 sl:∀ k,RepV w I V (gets st.sl k) (tm.getD k undef)
def Gc (w:World) (I:Nat→Prop) (V:Nat→Option Value) (B:Nat→Nat→Prop) (ob:List Ob) (nt:Nat) (h:Wf w I V B (Am ob)):Ctx:=⟨w,HB B ob,I,V,nt,ob.length,fun g hg=>h.fr g (A5 _ _ hg)⟩
section
variable {P:Program} {nt:Nat} {w w':World} {I I':Nat→Prop} {V V':Nat→Option Value} {B B':Nat→Nat→Prop} {st st':St} {tm tm':Array Value}
theorem At.rep (h:At nt w I V B st tm):RepI (Gc w I V B st.ob nt h.wf) I V B st.f { tmps:=tm,defers:=[] } w :=
 ⟨⟨rfl,TapeOk.mk' rfl rfl,rfl,zJ _,fun _ _ _=>rfl⟩,fun _ h=>h,fun _ h=>.inl h,VLe.refl _,h.wf,fun g b hl hb=>.inl ⟨g,hl,hb⟩,rfl,h.sz,h.sl⟩
theorem At.post (h:At nt w I V B st tm) {a:Act} (hr:RepI (Gc w I V B st.ob nt h.wf) I' V' B' st'.f a w') (hl:st'.sl.length=nt):At nt w' I' V' B' st' a.tmps∧FunPost w I V B st.ob st'.ob w' I' V' B' :=
 ⟨⟨hr.wf,hl,hr.sz,hr.slots⟩,hr.fr,hr.i0,hr.i1,hr.v0,hr.wf,hr.bh⟩
theorem FunPost.trans2 {V0 Vk:Nat→Option Value} {ob ob' ob'':List Ob} {w'':World} {I'':Nat→Prop} {V'':Nat→Option Value} {B'':Nat→Nat→Prop} (h:FunPost w I V B ob ob' w' I' V' B') (k:FunPost w' I' Vk B' ob' ob'' w'' I'' V'' B'') (hv:VLe V0 Vk):FunPost w I V0 B ob ob'' w'' I'' V'' B'':=by
 have hb:∀ b,HB B' ob' b→HB B ob b∨w.heap.size≤b:=fun b ⟨g,hl,hg⟩=>h.bh g b hl hg
 have hs:=h.fr.size
 refine ⟨⟨k.fr.os.trans h.fr.os,TapeOk.trans k.fr.tape h.fr.tape,k.fr.output.trans h.fr.output,Nat.le_trans hs k.fr.size,fun b hlt hn=>?_⟩,fun b hb=>k.i0 b (h.i0 b hb),fun b hb'=>?_,hv.trans k.v,k.wf,fun g b hl hb'=>?_⟩
 ·rw [k.fr.block b (by omega) fun hh=>by rcases hb b hh with h1 | h1; exact hn h1; omega]
  exact h.fr.block b hlt hn
 ·rcases k.i1 b hb' with h1 | h1 | h1
  ·exact h.i1 b h1
  ·exact .inr (.inl (by omega))
  ·rcases hb b h1 with h2 | h2
   ·exact .inr (.inr h2)
   ·exact .inr (.inl h2)
 ·rcases k.bh g b hl hb' with h1 | h1
  ·exact hb b h1
  ·exact .inr (by omega)
theorem FunPost.trans {ob ob' ob'':List Ob} {w'':World} {I'':Nat→Prop} {V'':Nat→Option Value} {B'':Nat→Nat→Prop} (h:FunPost w I V B ob ob' w' I' V' B') (k:FunPost w' I' V' B' ob' ob'' w'' I'' V'' B''):FunPost w I V B ob ob'' w'' I'' V'' B'':=h.trans2 k h.v
theorem FunPost.cut {V0:Nat→Option Value} {ob ob':List Ob} (h:FunPost w I V B ob ob' w' I' V' B') (hv:VLe V0 V):FunPost w I V0 B ob ob' w' I' V' B':=⟨h.fr,h.i0,h.i1,hv.trans h.v,h.wf,h.bh⟩
theorem FunPost.refl (h:Wf w I V B (Am st.ob)):FunPost w I V B st.ob st.ob w I V B :=
 ⟨⟨rfl,TapeOk.mk' rfl rfl,rfl,zJ _,fun _ _ _=>rfl⟩,fun _ h=>h,fun _ h=>.inl h,VLe.refl _,h,fun g b hl hb=>.inl ⟨g,hl,hb⟩⟩
theorem FunPost.keepI {V0:Nat→Option Value} {ob ob':List Ob} (h:FunPost w I V0 B ob ob' w' I' V' B') (hw:Wf w I V B (Am ob)):KeepS I w w' :=
 ⟨h.fr.size,fun b hb hl=>h.fr.block b hl fun ⟨g,hg,hB⟩=>hw.dI g b hg hB hb⟩
theorem leg {ro:Option Nat} {n:Nat} {sc:SC} {K:X→St→Prop} {code:Code} {a:Act} {Q:Exit→Act→World→Prop} (hm:P.follows .mixedOrders=true) (h:At nt w I V B st a.tmps) (hc:trC P nt code=some sc) (hf:Cg sc=true)
  (hs:∀ c:Ctx,c.nt=nt→c.m=st.ob.length→sw P c sc K st)
  (hq:∀ x st' a' w' I' V' B',K x st'→a'.defers=a.defers→At nt w' I' V' B' st' a'.tmps→FunPost w I V B st.ob st'.ob w' I' V' B'→Q x.exit' a' w'):code.wpIn (wf ro) n P Q a w:=by
 refine De (c:=Gc w I V B st.ob nt h.wf) (ds:=a.defers) hm sc K st hf (hs _ rfl rfl) code hc a w Q h.len ⟨rfl,I,V,B,h.rep⟩ fun x st' a' w' hk hl' hr'=>?_
 obtain ⟨hd,I',V',B',hr'⟩:=hr'
 obtain ⟨h1,h2⟩:=h.post hr' hl'
 exact hq x st' a' w' I' V' B' hk hd h1 h2
theorem At.weak {m:List Nat} {st0:St} (h:At nt w' I' V' B' st tm) (hw:WeakC st0.ob.length m st st') (hp:FunPost w I V B st0.ob st.ob w' I' V' B') (hV:∀ g,st0.ob.length≤g→V g=none) :
  At nt w' I' (fun g=>V' (sgp m st.ob.length g)) (fun g=>B' (sgp m st.ob.length g)) st' tm∧FunPost w I V B st0.ob st'.ob w' I' (fun g=>V' (sgp m st.ob.length g)) (fun g=>B' (sgp m st.ob.length g)):=by
 have hwf':=hw.wf h.wf
 have hL:=hw.1
 refine ⟨⟨hwf',(Qe hL).trans h.len,h.sz,fun k=>Iu (MU k hL) (h.sl k)⟩,hp.fr,hp.i0,hp.i1,fun g u hu=>?_,hwf',fun g b hl hb=>?_⟩
 ·have hg:g<st0.ob.length:=by
   rcases zF g st0.ob.length with h1 | h1
   ·exact h1
   ·rw [hV g h1] at hu; cases hu
  rw [EB hw.2.2.2 g hg]
  exact hp.v g u hu
 ·have hlt:g<st'.ob.length:=by
   rcases zF g st'.ob.length with h1 | h1
   ·exact h1
   ·rw [A5 _ _ h1] at hl; exact hl.elim
  have h1:=Do (j:=g) hw.2.1 hlt
  rw [zP] at h1
  exact hp.bh _ b (CU h1 hl) hb
end
section
variable {P:Program} {c:Ctx} {K:X→St→Prop} {x:SV} {l:List SV} {ob:List Ob}
theorem U3:C8 ob []=ob:=by
 have:∀ (l:List Ob) k,JZ [] k l=l:=by
  intro l
  induction l with
  | nil=>intro k; rfl
  | cons o r ih=>intro k; simp [JZ,A7,ih]
 simp [C8,this,MS]
theorem Na {l:List Ob} {p:Nat} (h:l.length=p):MX (Am l) p:=fun g hg=>A5 l g (by omega)
end
theorem XF {n:Int}:inK .i64 n ↔ -9223372036854775808≤n∧n≤9223372036854775807:=by
 unfold inK
 simp only [IntKind.min,IntKind.max,IntKind.bits,IntKind.signed]
 simp
def Iy:List Nat→List SV→List SV
 | [],l=>l
 | k :: r,l=>Iy r (Fh l k .any)
def Pe:List (Nat × SV)→List SV→List SV
 | [],l=>l
 | (k,x) :: r,l=>Pe r (Fh l k x)
def IP:List (Nat × Ob)→List Ob→List Ob
 | [],l=>l
 | (k,x) :: r,l=>IP r (setO1 l k x)
where setO1:List Ob→Nat→Ob→List Ob
 | [],_,_=>[]
 | _ :: r,0,y=>y :: r
 | x :: r,k+1,y=>x :: setO1 r k y
def Qg (junk:List Nat) (vals:List (Nat × SV)) (obs:List (Nat × Ob)) (st:St):St:=⟨Pe vals (Iy junk st.sl),IP obs st.ob⟩
section
variable {P:Program} {c:Ctx} {K:X→St→Prop}
theorem Weak.D6 (st:St):Weak c st st:=fun h=>⟨h,fun _ _ hr=>hr⟩
end
theorem Nb:Tryz.prog.follows .mixedOrders=true:=by kernel_rfl
end Go.Proofs.YtkjpmfmjebkkiaaGreat
set_option maxRecDepth 100000
set_option linter.unusedSimpArgs false
set_option linter.unusedVariables false
set_option linter.unusedSectionVars false
namespace Go.Proofs.YtkjpmfmjebkkiaaGreat
open Go.RowKit
noncomputable def dec (p:Prop):Bool:=@decide p (Classical.propDecidable p)
theorem Ap {p:Prop}:dec p=true ↔ p:=by unfold dec; exact ⟨@of_decide_eq_true p (Classical.propDecidable p),@decide_eq_true p (Classical.propDecidable p)⟩
theorem A4 {p:Prop} (h:p):dec p=true:=Ap.2 h
theorem An {p:Prop} (h:¬ p):dec p=false:=by
 cases e:dec p with
 | false=>rfl
 | true=>exact absurd (Ap.1 e) h
theorem H0 {p:Prop} [hp:Decidable p]:dec p=decide p:=by
 cases hp with
 | isTrue h=>rw [A4 h]; rfl
 | isFalse h=>rw [An h]; rfl
theorem BJ {p:Prop}:dec p=false ↔ ¬ p:=by
 constructor
 ·intro h hp
  rw [A4 hp] at h; cases h
 ·exact An
theorem KX {a b:ByteArray} (h:a.toList=b.toList):a=b:=by
 rw [ByteArray.toList_eq,ByteArray.toList_eq] at h
 exact ByteArray.ext (Array.toList_inj.1 h)
theorem U4 (a b:ByteArray):IO a b=dec (a=b):=by
 unfold IO
 cases e:(a.toList == b.toList) with
 | true=>exact (A4 (KX (by simpa using e))).symm
 | false =>
  refine (An fun h=>?_).symm
  subst h; simp at e
abbrev R3:=SV × List (Nat × Ob) × List Nat
abbrev CallF:=FuncId→List SV→List Ob→Option R3
def Gd (x:Nat):List Nat→Bool
 | []=>false
 | y :: r=>(x == y) || Gd x r
def nodupB:List Nat→Bool
 | []=>true
 | x :: r=>!Gd x r&&nodupB r
theorem CV {x:Nat}:∀ {l:List Nat},Gd x l=true ↔ x∈l
 | []=>by simp [Gd]
 | y :: r=>by simp [Gd,CV (l:=r)]
theorem EH:∀ {l:List Nat},nodupB l=true ↔ l.Nodup
 | []=>by simp [nodupB]
 | x :: r=>by
  have:=CV (x:=x) (l:=r)
  simp only [nodupB,zE,zL,yP,EH (l:=r)]
  rw [←this]; simp
noncomputable def H1 (k:IntKind) (r:Int):Option SV :=
 match k with
 | .u64=>some (.int k (k.wrap r))
 | .u32=>some (.int k (k.wrap r))
 | .u8=>some (.int k (k.wrap r))
 | _=>bif dec (inK k r) then some (.int k r) else some (.int k (k.wrap r))
def eqK:IntKind→IntKind→Bool:=fun a b=>decide (a=b)
noncomputable def TM (op:BinOp) (k:IntKind) (a b:Int):Option SV :=
 match op with
 | .add=>H1 k (a+b)
 | .sub=>H1 k (a - b)
 | .mul=>H1 k (a*b)
 | .quo=>bif dec (b=0) then none else H1 k (a.tdiv b)
 | .rem=>bif dec (b=0) then none else some (.int k (a.tmod b))
 | .eql=>some (.bool (dec (a=b)))
 | .neq=>some (.bool (!dec (a=b)))
 | .lss=>some (.bool (dec (a < b)))
 | .leq=>some (.bool (dec (a≤b)))
 | .gtr=>some (.bool (dec (b < a)))
 | .geq=>some (.bool (dec (b≤a)))
 | .shr=>bif dec (b=1) then some (.int k (a / 2)) else bif dec (b=40)&&eqK k .u64 then some (.int k (a / 1099511627776)) else none
 | .and=>some (.int k (bits .and k a b))
 | _=>none
noncomputable def TN (op:BinOp) (a b:ByteArray):Option SV :=
 match op with
 | .add=>bif dec (a.size+b.size≤9223372036854775807) then some (.str (a++b)) else none
 | .eql=>some (.bool (dec (a=b)))
 | .neq=>some (.bool (!dec (a=b)))
 | .lss=>some (.bool (strLt a b))
 | .leq=>some (.bool (strLt a b || dec (a=b)))
 | .gtr=>some (.bool (!(strLt a b || dec (a=b))))
 | .geq=>some (.bool (!strLt a b))
 | _=>none
def VN (op:BinOp) (a b:Bool):Option SV :=
 match op with
 | .eql=>some (.bool (a == b))
 | .neq=>some (.bool (!(a == b)))
 | _=>none
noncomputable def XG (op:BinOp) (tb:Bool) (x y:SV):Option SV :=
 match x,y with
 | .int k a,.int k' b=>bif eqK k k' then TM op k a b else none
 | .str a,.str b=>TN op a b
 | .bool a,.bool b=>bif tb then VN op a b else none
 | _,_=>none
def Ej (x:SV):Option R3:=some (x,[],[])
def TO:Option SV→Option R3
 | some x=>some (x,[],[])
 | none=>none
def VO (g:Nat) (es:List (List OT)) (hs:List (Nat × Nat × Nat)) (k o:Nat) (l:List OT) (p:Nat):OT→Option R3
 | .ow e2=>some (.ref p,[(p,.tree e2 []),(g,.tree (es.set k (l.set o .hole)) ((k,o,p) :: hs))],[])
 | .hole=>none
 | .int n=>some (.int .i64 n,[],[g])
 | .byte n=>some (.int .u8 n,[],[g])
 | .bool b=>some (.bool b,[],[g])
 | .str s=>some (.str s,[],[g])
 | .sh e=>some (.arr e,[],[g])
def ZB (ok agg:Bool) (z:List SV) (rd:List Nat):Option MV→Option R3
 | some x=>some (bif ok then .tup [MV.sv x,.bool true] else MV.sv x,[],rd)
 | none=>some (bif ok then .tup [bif agg then .agg z else z.getD 0 .any,.bool false] else (bif agg then .agg z else z.getD 0 .any),[],rd)
noncomputable def fOp (P:Program) (C:CallF) (so:SOp) (sl:List SV) (ob:List Ob):Option R3 :=
 match so with
 | .mv x=>Ej (Ar (gets sl) x)
 | .pick c a b=>match Ar (gets sl) c with
  | .bool t=>Ej (bif t then Ar (gets sl) a else Ar (gets sl) b)
  | _=>none
 | .alloc t z=>some (.ptr ob.length 0,[(ob.length,.box t z)],[])
 | .boxv t n x=>match (Ar (gets sl) x).cellsN n with
  | some l=>some (.ptr ob.length 0,[(ob.length,.box t l)],[])
  | none=>none
 | .build z parts=>match IN (Ar (gets sl)) z parts with
  | some l=>Ej (.agg l)
  | none=>none
 | .mkrow t sz z len parts=>match CT (Am ob) z with
  | some zl=>match eOp.mkEs (Ar (gets sl)) (Am ob) sz (List.replicate len zl) parts with
   | some es=>bif (AY zl).isEmpty&&nodupB (es.map AY).flatten then some (.ref ob.length,(ob.length,.row t sz (es.map CF)) :: Bt (es.map AY).flatten,(parts.map fun q=>JX (Ar (gets sl) q.2)).flatten) else none
   | none=>none
  | none=>none
 | .load agg n x=>match Ar (gets sl) x with
  | .ptr g o=>match Am ob g with
   | .box _ l=>bif decide (o+n≤l.length) then some (bif agg then .agg ((l.drop o).take n) else l.getD o .any,[],[g]) else none
   | _=>none
  | .vptr es k o=>match es[k]? with
   | some l=>bif decide (o+n≤l.length) then Ej (bif agg then .agg (((l.drop o).take n).map D.sv) else (l.map D.sv).getD o .any) else none
   | none=>none
  | .eptr g sz k o=>match Am ob g with
   | .row _ sz' es=>match es[k]? with
    | some l=>bif (sz == sz')&&decide (o+n≤l.length) then some (bif agg then .agg (((l.drop o).take n).map OT.sv) else (l.map OT.sv).getD o .any,[],[g]) else none
    | none=>none
   | .tree es hs=>match es[k]? with
    | some l=>bif !agg&&(n == 1)&&(l.length == sz)&&decide (o < sz) then match DD hs k o with
     | some q=>some (.ref q,[],[g])
     | none=>match l[o]? with
      | some x=>VO g es hs k o l ob.length x
      | none=>none
     else none
    | none=>none
   | _=>none
  | _=>none
 | .store n x v=>match Ar (gets sl) x with
  | .ptr g o=>match Am ob g with
   | .box t l=>match (Ar (gets sl) v).cellsN n with
    | some vs=>bif decide (o+n≤l.length)&&vs.all SV.one then some (.any,[(g,.box t (splice l o vs))],[]) else none
    | none=>none
   | _=>none
  | .eptr g sz k o=>match Am ob g with
   | .row t sz' es=>match (Ar (gets sl) v).cellsN n with
    | some vs=>match CT (Am ob) vs with
     | some ls=>match es[k]? with
      | some l=>bif (sz == sz')&&decide (o+n≤sz)&&!Gd g (AY ls)&&nodupB (AY ls) then some (.any,(g,.row t sz (es.set k (splice l o (CF ls)))) :: Bt (AY ls),JX (Ar (gets sl) v)) else none
      | none=>none
     | none=>none
    | none=>none
   | .tree es hs=>match (Ar (gets sl) v).cellsN n with
    | some [v]=>match OU v with
     | some x=>match DD hs k o with
      | some _=>none
      | none=>match es[k]? with
       | some l=>bif (l.length == sz)&&decide (o < sz) then some (.any,[(g,.tree (es.set k (splice l o [x])) hs)],[]) else none
       | none=>none
     | none=>none
    | _=>none
   | _=>none
  | _=>none
 | .nilchk x=>match Ar (gets sl) x with
  | .ptr g o=>Ej (.ptr g o)
  | .eptr g sz k o=>Ej (.eptr g sz k o)
  | .vptr es k o=>Ej (.vptr es k o)
  | _=>none
 | .bin op tb x y=>TO (XG op tb (Ar (gets sl) x) (Ar (gets sl) y))
 | .un op x=>match Ar (gets sl) x with
  | .bool b=>match op with
   | .not=>Ej (.bool (!b))
   | _=>none
  | .int k n=>match op with
   | .neg=>bif dec (inK k (0 - n)) then Ej (.int k (0 - n)) else none
   | _=>none
  | _=>none
 | .conv k x=>match Ar (gets sl) x with
  | .int _ n=>TO (H1 k n)
  | _=>none
 | .mkfn f caps=>Ej (.fn f (caps.map (Ar (gets sl))))
 | .mkslice t sz bytes z len=>match Ar (gets sl) len with
  | .int _ n=>match CT (Am ob) z with
   | some zl=>bif dec (0≤n)&&dec ((bytes:Int)*n≤140737488355328)&&dec (n≤9223372036854775807)&&(AY zl).isEmpty then some (.ref ob.length,[(ob.length,.row t sz (List.replicate n.toNat (CF zl)))],[]) else none
   | none=>none
  | _=>none
 | .slice str sz x lo hi=>match Ar (gets sl) x with
  | .str s=>match FV (Ar (gets sl)) lo with
   | some l=>match GO (Ar (gets sl)) s.size hi with
    | some h=>bif dec (0≤l)&&dec (l≤h)&&dec (h≤s.size)&&str then Ej (.str (s.extract l.toNat h.toNat)) else none
    | none=>none
   | none=>none
  | .arr es=>match FV (Ar (gets sl)) lo with
   | some l=>match GO (Ar (gets sl)) es.length hi with
    | some h=>bif dec (0≤l)&&dec (l≤h)&&dec (h≤es.length)&&!str&&es.all (fun e=>(e.length == sz)) then Ej (.arr ((es.take h.toNat).drop l.toNat)) else none
    | none=>none
   | none=>none
  | .ref g=>match Am ob g with
   | .row t sz' es=>match FV (Ar (gets sl)) lo with
    | some l=>match GO (Ar (gets sl)) es.length hi with
     | some h=>bif pfx lo hi then (bif dec (0≤l)&&dec (l≤h)&&dec (h≤es.length)&&!str&&(sz' == sz) then some (.ref ob.length,[(ob.length,.row t sz (es.take h.toNat)),(g,.gone)],[]) else none) else bif dec (0≤l)&&dec (l≤h)&&dec (h≤es.length)&&!str&&(sz' == sz)&&OT.A2 es then some (.arr (((OT.erss es).take h.toNat).drop l.toNat),[(g,.shd (OT.erss es))],[]) else none
     | none=>none
    | none=>none
   | .shd es=>match FV (Ar (gets sl)) lo with
    | some l=>match GO (Ar (gets sl)) es.length hi with
     | some h=>bif dec (0≤l)&&dec (l≤h)&&dec (h≤es.length)&&!str&&es.all (fun e=>(e.length == sz)) then some (.arr ((es.take h.toNat).drop l.toNat),[],[g]) else none
     | none=>none
    | none=>none
   | _=>none
  | _=>none
 | .faddr off x=>match Ar (gets sl) x with
  | .ptr g o=>Ej (.ptr g (o+off))
  | .vptr es k o=>Ej (.vptr es k (o+off))
  | .eptr g sz k o=>Ej (.eptr g sz k (o+off))
  | _=>none
 | .field agg off n x=>match Ar (gets sl) x with
  | .agg l=>bif decide (off+n≤l.length) then Ej (bif agg then .agg ((l.drop off).take n) else l.getD off .any) else none
  | _=>none
 | .iaddr sz x i=>match Ar (gets sl) x with
  | .arr es=>match Ar (gets sl) i with
   | .int _ n=>bif dec (0≤n) then match es[n.toNat]? with
    | some l=>bif (l.length == sz) then Ej (.vptr es n.toNat 0) else none
    | none=>none
    else none
   | _=>none
  | .ref g=>match Ar (gets sl) i with
   | .int _ n=>match Am ob g with
    | .row _ sz' es=>bif (sz == sz')&&dec (0≤n)&&dec (n.toNat < es.length) then some (.eptr g sz n.toNat 0,[],[g]) else none
    | .tree es _=>bif dec (0≤n)&&dec (n.toNat < es.length) then some (.eptr g sz n.toNat 0,[],[g]) else none
    | _=>none
   | _=>none
  | _=>none
 | .idx x i=>match Ar (gets sl) x with
  | .str s=>match Ar (gets sl) i with
   | .int _ n=>bif dec (0≤n)&&dec (n.toNat < s.size) then Ej (.int .u8 (Ht s n.toNat)) else none
   | _=>none
  | _=>none
 | .ext x k=>match Ar (gets sl) x with
  | .tup l=>bif decide (k < l.length) then Ej (l.getD k .any) else none
  | _=>none
 | .call f args=>C f (args.map (Ar (gets sl))) ob
 | .callv x args=>match Ar (gets sl) x with
  | .fn f caps=>bif IF P f then C f (args.map (Ar (gets sl))++caps) ob else none
  | _=>none
 | .len str x=>match Ar (gets sl) x with
  | .str s=>bif str then Ej (.int .i64 s.size) else none
  | .arr es=>bif str then none else Ej (.int .i64 es.length)
  | .nil=>bif str then none else Ej (.int .i64 0)
  | .ref g=>match Am ob g with
   | .row _ _ es=>bif str then none else some (.int .i64 es.length,[],[g])
   | .tree es _=>bif str then none else some (.int .i64 es.length,[],[g])
   | _=>none
  | _=>none
 | .append t sz bytes z x y=>match eOp.addS (Am ob) sz (Ar (gets sl) y) with
  | some (new,gs)=>match Ar (gets sl) x with
   | .nil=>bif dec ((new.length:Int)*bytes≤140737488355328)&&dec (new.length≤9223372036854775807)&&(new.all fun l=>(l.length == sz)) then some (.ref ob.length,(ob.length,.row t sz new) :: Bt gs,[]) else none
   | .ref g=>match Am ob g with
    | .row t' sz' es=>bif (t == t')&&(sz == sz')&&dec (((es.length+new.length:Nat):Int)*bytes≤140737488355328)&&dec (es.length+new.length≤9223372036854775807)&&!Gd g gs&&(new.all fun l=>(l.length == sz)) then some (.ref ob.length,(ob.length,.row t sz (es++new)) :: Bt (g :: gs),[]) else none
    | _=>none
   | _=>none
  | none=>none
 | .minmax mx x y=>match Ar (gets sl) x with
  | .int k a=>match Ar (gets sl) y with
   | .int k' b=>bif eqK k k' then Ej (.int k (bif mx then (bif dec (a < b) then b else a) else (bif dec (b < a) then b else a))) else none
   | _=>none
  | _=>none
 | .mkmap ks hint=>match hint with
  | none=>some (.ref ob.length,[(ob.length,.mp ks nomap)],[])
  | some x=>match Ar (gets sl) x with
   | .int _ _=>some (.ref ob.length,[(ob.length,.mp ks nomap)],[])
   | _=>none
 | .mset ks m k v=>match Ar (gets sl) m with
  | .ref g=>match Am ob g with
   | .mp ks' f=>match svK ks (Ar (gets sl) k) with
    | some q=>match svM (Ar (gets sl) v) with
     | some x=>bif (ks' == ks) then some (.any,[(g,.mp ks (Ov f q x))],[]) else none
     | none=>none
    | none=>none
   | _=>none
  | _=>none
 | .mkit x=>match Ar (gets sl) x with
  | .mp ks m=>some (.ptr ob.length 0,[(ob.length,.it ks m [] none)],[])
  | _=>none
 | .mcur x=>match Ar (gets sl) x with
  | .ptr g o=>match Am ob g with
   | .it _ _ _ (some (k,v))=>bif (o == 0) then some (.tup [MK.sv k,MV.sv v],[],[g]) else none
   | _=>none
  | _=>none
 | .mget ks ok agg z m k=>match TC (Am ob) (Ar (gets sl) m) with
  | some (ks',f,rd)=>match svK ks (Ar (gets sl) k) with
   | some q=>bif (ks' == ks) then ZB ok agg z rd (f q) else none
   | none=>none
  | none=>none
theorem Ao {α:Type} {b:Bool} {x:Option α} {r:α} (h:(bif b then x else none)=some r):b=true∧x=some r:=by
 cases b with
 | true=>exact ⟨rfl,h⟩
 | false=>cases h
theorem Ge {α:Type} {b:Bool} {x:Option α} {r:α} (h:(bif b then none else x)=some r):b=false∧x=some r:=by
 cases b with
 | false=>exact ⟨rfl,h⟩
 | true=>cases h
theorem Bx {x y:SV} {u:List (Nat × Ob)} {rd:List Nat} (h:Ej x=some (y,u,rd)):x=y∧u=[]∧rd=[]:=by
 unfold Ej at h
 simp only [zD,zH] at h
 exact ⟨h.1,h.2.1.symm,h.2.2.symm⟩
theorem Rm {x:Option SV} {y:SV} {u:List (Nat × Ob)} {rd:List Nat} (h:TO x=some (y,u,rd)):x=some y∧u=[]∧rd=[]:=by
 cases x with
 | none=>cases h
 | some x =>
  have:=Bx (x:=x) h
  exact ⟨congrArg some this.1,this.2⟩
theorem Nc {k:IntKind} {r:Int} {x:SV} {K:Kont} (h:H1 k r=some x) (hK:K x [] []):FA k r K:=by
  unfold H1 at h
  unfold FA
  cases k <;> simp only at h ⊢ <;> first
    | (obtain rfl:=zB h; exact hK)
    | (cases hd:dec (inK _ r) with
       | true=>rw [hd] at h; obtain rfl:=zB h; exact ⟨fun _=>hK,fun hn=>absurd (Ap.1 hd) hn⟩
       | false=>rw [hd] at h; obtain rfl:=zB h; exact ⟨fun hi=>absurd hi (BJ.1 hd),fun _=>hK⟩)
theorem XH {op:BinOp} {k:IntKind} {a b:Int} {x:SV} {K:Kont} (h:TM op k a b=some x) (hK:K x [] []):Xu op k a b K:=by
  cases op <;> simp only [TM,Xu] at h ⊢ <;> first
    | exact Nc h hK
    | (obtain ⟨h1,h2⟩:=Ao h; obtain rfl:=zB h2; exact ⟨Ap.1 h1,hK⟩)
    | (cases h0:dec (b=1) with
       | true=>rw [h0,cond_true] at h; obtain rfl:=zB h; exact .inl ⟨Ap.1 h0,hK⟩
       | false =>
         rw [h0,cond_false] at h
         obtain ⟨h1,h2⟩:=Ao h
         rw [zE] at h1
         obtain rfl:=zB h2
         exact .inr ⟨⟨Ap.1 h1.1,of_decide_eq_true h1.2⟩,hK⟩)
    | (obtain ⟨h1,h2⟩:=Ge h; first | exact ⟨BJ.1 h1,Nc h2 hK⟩ | (obtain rfl:=zB h2; exact ⟨BJ.1 h1,hK⟩))
    | (obtain rfl:=zB h; first | exact hK | (rw [H0] at hK; first | exact hK | (simpa [bne,beq_eq_decide] using hK)))
    | cases h
theorem XI {op:BinOp} {a b:ByteArray} {x:SV} {K:Kont} (h:TN op a b=some x) (hK:K x [] []):Xv op a b K:=by
 cases op <;> simp only [TN,Xv,U4] at h ⊢ <;> first
  |(obtain ⟨h1,h2⟩:=Ao h; obtain rfl:=zB h2; exact ⟨Ap.1 h1,hK⟩)
  |(obtain rfl:=zB h; exact hK)
  |cases h
theorem YP {op:BinOp} {tb:Bool} {y z x:SV} {K:Kont} (h:XG op tb y z=some x) (hK:K x [] []):Xw op tb y z K:=by
 unfold XG at h
 unfold Xw
 split at h <;> simp only at h ⊢
 ·obtain ⟨h1,h2⟩:=Ao h
  exact ⟨of_decide_eq_true h1,XH h2 hK⟩
 ·exact XI h hK
 ·obtain ⟨h1,h2⟩:=Ao h
  refine ⟨h1,?_⟩
  cases op <;> simp only [VN,YG] at h2 ⊢ <;> first | (obtain rfl:=zB h2; exact hK) | cases h2
 ·cases h
theorem VP {m:MF} {a b:Int} {x:MV}:Ov m (.int a) x (.int b)=bif dec (b=a) then some x else m (.int b):=by
 by_cases h:b=a
 ·subst h; rw [Ir,A4 rfl]; rfl
 ·rw [Is (fun e=>h (by injection e)),An h]; rfl
theorem VQ {m:MF} {a b:ByteArray} {x:MV}:Ov m (.str a) x (.str b)=bif dec (b=a) then some x else m (.str b):=by
 by_cases h:b=a
 ·subst h; rw [Ir,A4 rfl]; rfl
 ·rw [Is (fun e=>h (by injection e)),An h]; rfl
theorem VR (k:MK):nomap k=none:=rfl
variable [Flag]
theorem C3 {a x:SV} {b u:List (Nat × Ob)} {c rd:List Nat} (h:(some (a,b,c):Option R3)=some (x,u,rd)):a=x∧b=u∧c=rd:=by
 simp only [zD,zH] at h; exact h
theorem TP {α:Type} {l:List (List α)} {n:Nat} (h:(l.all fun e=>(e.length == n))=true):(l.all fun e=>e.length == n)=true:=by
 refine zN.2 fun e he=>?_
 exact beq_iff_eq.2 (eq_of_beq ((zN.1 h) e he))
theorem isEmpty_nil {l:List Nat} (h:l.isEmpty=true):l=[]:=List.isEmpty_iff.1 h
theorem ZC {P:Program} {C:CallF} {so:SOp} {sl:List SV} {ob:List Ob} {x:SV} {u:List (Nat × Ob)} {rd:List Nat} {K:Kont} (h:fOp P C so sl ob=some (x,u,rd))
  (hC:∀ f xs x u rd,C f xs ob=some (x,u,rd)→∀ K:Kont,K x u rd→CallP P f xs (Am ob) ob.length K) (hK:K x u rd):eOp P so (gets sl) (Am ob) ob.length K:=by
 cases so with
 | mv y =>
  obtain ⟨rfl,rfl,rfl⟩:=Bx h
  exact hK
 | pick a b c =>
  simp only [fOp,eOp] at h ⊢
  split at h
  ·obtain ⟨rfl,rfl,rfl⟩:=Bx h
   rename_i t ht
   simp only [ht]
   cases t <;> exact hK
  ·cases h
 | alloc t z =>
  obtain ⟨rfl,rfl,rfl⟩:=C3 h
  exact hK
 | boxv t n y =>
  simp only [fOp,eOp] at h ⊢
  split at h
  ·rename_i l hl
   obtain ⟨rfl,rfl,rfl⟩:=C3 h
   simp only [hl]; exact hK
  ·cases h
 | build z parts =>
  simp only [fOp,eOp] at h ⊢
  split at h
  ·rename_i l hl
   obtain ⟨rfl,rfl,rfl⟩:=Bx h
   simp only [hl]; exact hK
  ·cases h
 | mkrow t sz z len parts =>
  simp only [fOp,eOp] at h ⊢
  split at h
  ·rename_i zl hz
   split at h
   ·rename_i es he
    obtain ⟨h1,h2⟩:=Ao h
    obtain ⟨rfl,rfl,rfl⟩:=C3 h2
    rw [zE] at h1
    simp only [hz,he]
    exact ⟨⟨isEmpty_nil h1.1,EH.1 h1.2⟩,hK⟩
   ·cases h
  ·cases h
 | load agg n y =>
  simp only [fOp,eOp] at h ⊢
  split at h
  ·rename_i g o hy
   simp only [hy]
   split at h
   ·rename_i t l hl
    obtain ⟨h1,h2⟩:=Ao h
    obtain ⟨rfl,rfl,rfl⟩:=C3 h2
    simp only [hl]
    exact ⟨of_decide_eq_true h1,by cases agg <;> exact hK⟩
   ·cases h
  ·rename_i es k o hy
   simp only [hy]
   split at h
   ·rename_i l hl
    obtain ⟨h1,h2⟩:=Ao h
    obtain ⟨rfl,rfl,rfl⟩:=Bx h2
    exact ⟨l,hl,of_decide_eq_true h1,by cases agg <;> exact hK⟩
   ·cases h
  ·rename_i g sz k o hy
   simp only [hy]
   split at h
   ·rename_i t sz' es hl
    split at h
    ·rename_i l hl'
     obtain ⟨h1,h2⟩:=Ao h
     obtain ⟨rfl,rfl,rfl⟩:=C3 h2
     rw [zE] at h1
     simp only [hl]
     exact ⟨eq_of_beq h1.1,l,hl',of_decide_eq_true h1.2,by cases agg <;> exact hK⟩
    ·cases h
   ·rename_i es hs hl
    split at h
    ·rename_i l hl'
     obtain ⟨h1,h2⟩:=Ao h
     simp only [zE,zL,beq_iff_eq,decide_eq_true_eq] at h1
     simp only [hl]
     refine ⟨⟨h1.1.1.1,h1.1.1.2⟩,l,hl',⟨h1.1.2,h1.2⟩,?_⟩
     split at h2
     ·rename_i q hq
      obtain ⟨rfl,rfl,rfl⟩:=C3 h2
      simp only [hq]; exact hK
     ·rename_i hq
      simp only [hq]
      split at h2
      ·rename_i z hz
       refine ⟨z,hz,?_⟩
       cases z <;> simp only [VO,S6] at h2 ⊢ <;> first | (obtain ⟨e1,rfl,rfl⟩:=C3 h2; rw [←e1] at hK; exact hK) | cases h2
      ·cases h2
    ·cases h
   ·cases h
  ·cases h
 | store n y v =>
  simp only [fOp,eOp] at h ⊢
  split at h
  ·rename_i g o hy
   simp only [hy]
   split at h
   ·rename_i t l hl
    split at h
    ·rename_i vs hv
     obtain ⟨h1,h2⟩:=Ao h
     obtain ⟨rfl,rfl,rfl⟩:=C3 h2
     rw [zE] at h1
     simp only [hl,hv]
     exact ⟨⟨of_decide_eq_true h1.1,h1.2⟩,hK⟩
    ·cases h
   ·cases h
  ·rename_i g sz k o hy
   simp only [hy]
   split at h
   ·rename_i t sz' es hl
    split at h
    ·rename_i vs hv
     split at h
     ·rename_i ls hls
      split at h
      ·rename_i l hl'
       obtain ⟨h1,h2⟩:=Ao h
       obtain ⟨rfl,rfl,rfl⟩:=C3 h2
       simp only [zE,zL] at h1
       simp only [hl,hv,hls]
       refine ⟨⟨eq_of_beq h1.1.1.1,of_decide_eq_true h1.1.1.2,fun hm=>?_,EH.1 h1.2⟩,l,hl',hK⟩
       rw [CV.2 hm] at h1
       exact absurd h1.1.2 (by simp)
      ·cases h
     ·cases h
    ·cases h
   ·rename_i es hs hl
    split at h
    ·rename_i v0 hv
     split at h
     ·rename_i z hz
      split at h
      ·cases h
      ·rename_i hh
       split at h
       ·rename_i l hl'
        obtain ⟨h1,h2⟩:=Ao h
        obtain ⟨rfl,rfl,rfl⟩:=C3 h2
        simp only [zE,beq_iff_eq,decide_eq_true_eq] at h1
        simp only [hl,hv]
        exact ⟨v0,z,rfl,hz,hh,l,hl',⟨h1.1,h1.2⟩,hK⟩
       ·cases h
     ·cases h
    ·cases h
   ·cases h
  ·cases h
 | nilchk y =>
  simp only [fOp,eOp] at h ⊢
  split at h
  all_goals first | (rename_i hy; simp only [hy]; obtain ⟨e1,rfl,rfl⟩:=Bx h; rw [e1]; exact hK) | cases h
 | bin op tb y z =>
  simp only [fOp,eOp] at h ⊢
  obtain ⟨h1,rfl,rfl⟩:=Rm h
  exact YP h1 hK
 | un op y =>
  simp only [fOp,eOp] at h ⊢
  split at h
  ·rename_i b hy
   split at h
   ·obtain ⟨rfl,rfl,rfl⟩:=Bx h
    simp only [hy]; exact hK
   ·cases h
  ·rename_i k n hy
   split at h
   ·obtain ⟨h1,h2⟩:=Ao h
    obtain ⟨rfl,rfl,rfl⟩:=Bx h2
    simp only [hy]; exact ⟨Ap.1 h1,hK⟩
   ·cases h
  ·cases h
 | conv k y =>
  simp only [fOp,eOp] at h ⊢
  split at h
  ·rename_i k' n hy
   obtain ⟨h1,rfl,rfl⟩:=Rm h
   simp only [hy]
   exact Nc h1 hK
  ·cases h
 | mkfn f caps =>
  obtain ⟨rfl,rfl,rfl⟩:=Bx h
  exact hK
 | mkslice t sz bytes z len =>
  simp only [fOp,eOp] at h ⊢
  split at h
  ·rename_i k n hn
   split at h
   ·rename_i zl hz
    obtain ⟨h1,h2⟩:=Ao h
    obtain ⟨rfl,rfl,rfl⟩:=C3 h2
    simp only [zE] at h1
    simp only [hn,hz]
    exact ⟨⟨Ap.1 h1.1.1.1,Ap.1 h1.1.1.2,Ap.1 h1.1.2,isEmpty_nil h1.2⟩,hK⟩
   ·cases h
  ·cases h
 | slice str sz y lo hi =>
  simp only [fOp,eOp] at h ⊢
  split at h
  ·rename_i s hy
   split at h
   ·rename_i l hl
    split at h
    ·rename_i q hq
     obtain ⟨h1,h2⟩:=Ao h
     obtain ⟨rfl,rfl,rfl⟩:=Bx h2
     simp only [zE] at h1
     simp only [hy,hl,hq]
     exact ⟨⟨Ap.1 h1.1.1.1,Ap.1 h1.1.1.2,Ap.1 h1.1.2⟩,h1.2,hK⟩
    ·cases h
   ·cases h
  ·rename_i es hy
   split at h
   ·rename_i l hl
    split at h
    ·rename_i q hq
     obtain ⟨h1,h2⟩:=Ao h
     obtain ⟨rfl,rfl,rfl⟩:=Bx h2
     simp only [zE,zL] at h1
     simp only [hy,hl,hq]
     refine ⟨⟨Ap.1 h1.1.1.1.1,Ap.1 h1.1.1.1.2,Ap.1 h1.1.1.2⟩,h1.1.2,fun e he=>?_,hK⟩
     exact eq_of_beq ((zN.1 h1.2) e he)
    ·cases h
   ·cases h
  ·rename_i g hy
   split at h
   ·rename_i t0 sz' es hg
    split at h
    ·rename_i l hl
     split at h
     ·rename_i q hq
      simp only [hy,hg,hl,hq]
      cases hpf:pfx lo hi with
      | true =>
       rw [hpf,cond_true] at h
       obtain ⟨h1,h2⟩:=Ao h
       simp only [zD,zH] at h2
       obtain ⟨rfl,rfl,rfl⟩:=h2
       simp only [zE,zL] at h1
       exact ⟨⟨Ap.1 h1.1.1.1.1,Ap.1 h1.1.1.1.2,Ap.1 h1.1.1.2⟩,h1.1.2,eq_of_beq h1.2,.inr ⟨rfl,hK⟩⟩
      | false =>
       rw [hpf,cond_false] at h
       obtain ⟨h1,h2⟩:=Ao h
       simp only [zD,zH] at h2
       obtain ⟨rfl,rfl,rfl⟩:=h2
       simp only [zE,zL] at h1
       exact ⟨⟨Ap.1 h1.1.1.1.1.1,Ap.1 h1.1.1.1.1.2,Ap.1 h1.1.1.1.2⟩,h1.1.1.2,eq_of_beq h1.1.2,.inl ⟨h1.2,hK⟩⟩
     ·cases h
    ·cases h
   ·rename_i es hg
    split at h
    ·rename_i l hl
     split at h
     ·rename_i q hq
      obtain ⟨h1,h2⟩:=Ao h
      simp only [zD,zH] at h2
      obtain ⟨rfl,rfl,rfl⟩:=h2
      simp only [zE,zL] at h1
      simp only [hy,hg,hl,hq]
      refine ⟨⟨Ap.1 h1.1.1.1.1,Ap.1 h1.1.1.1.2,Ap.1 h1.1.1.2⟩,h1.1.2,fun e he=>?_,hK⟩
      exact eq_of_beq ((zN.1 h1.2) e he)
     ·cases h
    ·cases h
   ·cases h
  ·cases h
 | faddr off y =>
  simp only [fOp,eOp] at h ⊢
  split at h
  all_goals first | (rename_i hy; simp only [hy]; obtain ⟨e1,rfl,rfl⟩:=Bx h; rw [e1]; exact hK) | cases h
 | field agg off n y =>
  simp only [fOp,eOp] at h ⊢
  split at h
  ·rename_i l hy
   obtain ⟨h1,h2⟩:=Ao h
   obtain ⟨rfl,rfl,rfl⟩:=Bx h2
   simp only [hy]
   exact ⟨of_decide_eq_true h1,by cases agg <;> exact hK⟩
  ·cases h
 | iaddr sz y i =>
  simp only [fOp,eOp] at h ⊢
  split at h
  ·rename_i es hy
   split at h
   ·rename_i k n hn
    obtain ⟨h1,h2⟩:=Ao h
    split at h2
    ·rename_i l hl
     obtain ⟨h3,h4⟩:=Ao h2
     obtain ⟨rfl,rfl,rfl⟩:=Bx h4
     simp only [hy,hn]
     exact ⟨Ap.1 h1,l,hl,eq_of_beq h3,hK⟩
    ·cases h2
   ·cases h
  ·rename_i g hy
   split at h
   ·rename_i k n hn
    split at h
    ·rename_i t sz' es hl
     obtain ⟨h1,h2⟩:=Ao h
     obtain ⟨rfl,rfl,rfl⟩:=C3 h2
     simp only [zE] at h1
     simp only [hy,hn,hl]
     exact ⟨⟨eq_of_beq h1.1.1,Ap.1 h1.1.2,Ap.1 h1.2⟩,hK⟩
    ·rename_i es hs hl
     obtain ⟨h1,h2⟩:=Ao h
     obtain ⟨rfl,rfl,rfl⟩:=C3 h2
     simp only [zE] at h1
     simp only [hy,hn,hl]
     exact ⟨⟨Ap.1 h1.1,Ap.1 h1.2⟩,hK⟩
    ·cases h
   ·cases h
  ·cases h
 | idx y i =>
  simp only [fOp,eOp] at h ⊢
  split at h
  ·rename_i s hy
   split at h
   ·rename_i k n hn
    obtain ⟨h1,h2⟩:=Ao h
    obtain ⟨rfl,rfl,rfl⟩:=Bx h2
    simp only [zE] at h1
    simp only [hy,hn]
    exact ⟨⟨Ap.1 h1.1,Ap.1 h1.2⟩,hK⟩
   ·cases h
  ·cases h
 | ext y k =>
  simp only [fOp,eOp] at h ⊢
  split at h
  ·rename_i l hy
   obtain ⟨h1,h2⟩:=Ao h
   obtain ⟨rfl,rfl,rfl⟩:=Bx h2
   simp only [hy]
   exact ⟨of_decide_eq_true h1,hK⟩
  ·cases h
 | call f args=>exact hC f _ x u rd h K hK
 | callv y args =>
  simp only [fOp,eOp] at h ⊢
  split at h
  ·rename_i f caps hy
   obtain ⟨h1,h2⟩:=Ao h
   simp only [hy]
   exact ⟨h1,hC f _ x u rd h2 K hK⟩
  ·cases h
 | len str y =>
  simp only [fOp,eOp] at h ⊢
  split at h
  ·rename_i s hy
   obtain ⟨h1,h2⟩:=Ao h
   obtain ⟨rfl,rfl,rfl⟩:=Bx h2
   simp only [hy]; exact ⟨h1,hK⟩
  ·rename_i es hy
   obtain ⟨h1,h2⟩:=Ge h
   obtain ⟨rfl,rfl,rfl⟩:=Bx h2
   simp only [hy]; exact ⟨h1,hK⟩
  ·rename_i hy
   obtain ⟨h1,h2⟩:=Ge h
   obtain ⟨rfl,rfl,rfl⟩:=Bx h2
   simp only [hy]; exact ⟨h1,hK⟩
  ·rename_i g hy
   split at h
   ·rename_i t sz es hl
    obtain ⟨h1,h2⟩:=Ge h
    obtain ⟨rfl,rfl,rfl⟩:=C3 h2
    simp only [hy,hl]; exact ⟨h1,hK⟩
   ·rename_i es hs hl
    obtain ⟨h1,h2⟩:=Ge h
    obtain ⟨rfl,rfl,rfl⟩:=C3 h2
    simp only [hy,hl]; exact ⟨h1,hK⟩
   ·cases h
  ·cases h
 | append t sz bytes z y w =>
  simp only [fOp,eOp] at h ⊢
  split at h
  ·rename_i new gs ha
   simp only [ha]
   split at h
   ·rename_i hy
    obtain ⟨h1,h2⟩:=Ao h
    obtain ⟨rfl,rfl,rfl⟩:=C3 h2
    simp only [zE] at h1
    simp only [hy]
    exact ⟨⟨Ap.1 h1.1.1,Ap.1 h1.1.2,TP h1.2⟩,hK⟩
   ·rename_i g hy
    split at h
    ·rename_i t' sz' es hl
     obtain ⟨h1,h2⟩:=Ao h
     obtain ⟨rfl,rfl,rfl⟩:=C3 h2
     simp only [zE,zL] at h1
     simp only [hy,hl]
     refine ⟨⟨eq_of_beq h1.1.1.1.1.1,eq_of_beq h1.1.1.1.1.2,Ap.1 h1.1.1.1.2,Ap.1 h1.1.1.2,fun hm=>?_,TP h1.2⟩,hK⟩
     rw [CV.2 hm] at h1
     exact absurd h1.1.2 (by simp)
    ·cases h
   ·cases h
  ·cases h
 | minmax mx y z =>
  simp only [fOp,eOp] at h ⊢
  split at h
  ·rename_i k a hy
   split at h
   ·rename_i k' b hz
    obtain ⟨h1,h2⟩:=Ao h
    obtain ⟨rfl,rfl,rfl⟩:=Bx h2
    simp only [hy,hz]
    refine ⟨of_decide_eq_true h1,?_⟩
    cases mx
    ·by_cases q:b<a
     ·rw [A4 q] at hK; simpa [q] using hK
     ·rw [An q] at hK; simpa [q] using hK
    ·by_cases q:a<b
     ·rw [A4 q] at hK; simpa [q] using hK
     ·rw [An q] at hK; simpa [q] using hK
   ·cases h
  ·cases h
 | mkmap ks hint =>
  simp only [fOp,eOp] at h ⊢
  cases hint with
  | none =>
   obtain ⟨rfl,rfl,rfl⟩:=C3 h
   exact ⟨trivial,hK⟩
  | some y =>
   simp only at h ⊢
   split at h
   ·rename_i k n hy
    obtain ⟨rfl,rfl,rfl⟩:=C3 h
    rw [hy]
    exact ⟨rfl,hK⟩
   ·cases h
 | mset ks m k v =>
  simp only [fOp,eOp] at h ⊢
  split at h
  ·rename_i g hm
   simp only [hm]
   split at h
   ·rename_i ks' f hg
    simp only [hg]
    split at h
    ·rename_i q hq
     split at h
     ·rename_i y hy
      obtain ⟨h1,h2⟩:=Ao h
      obtain ⟨rfl,rfl,rfl⟩:=C3 h2
      exact ⟨eq_of_beq h1,q,y,hq,hy,hK⟩
     ·cases h
    ·cases h
   ·cases h
  ·cases h
 | mkit y =>
  simp only [fOp,eOp] at h ⊢
  split at h
  ·rename_i ks m hy
   obtain ⟨rfl,rfl,rfl⟩:=C3 h
   simp only [hy]; exact hK
  ·cases h
 | mcur y =>
  simp only [fOp,eOp] at h ⊢
  split at h
  ·rename_i g o hy
   simp only [hy]
   split at h
   ·rename_i hg
    obtain ⟨h1,h2⟩:=Ao h
    obtain ⟨rfl,rfl,rfl⟩:=C3 h2
    simp only [hg]
    exact ⟨by simpa using h1,hK⟩
   ·cases h
  ·cases h
 | mget ks ok agg z m k =>
  simp only [fOp,eOp] at h ⊢
  split at h
  ·rename_i ks' f rd' hm
   split at h
   ·rename_i q hq
    obtain ⟨h1,h2⟩:=Ao h
    obtain rfl:=eq_of_beq h1
    refine ⟨f,rd',q,hm,hq,?_⟩
    cases hf:f q with
    | none =>
     rw [hf] at h2
     obtain ⟨rfl,rfl,rfl⟩:=C3 h2
     cases ok <;> cases agg <;> exact hK
    | some y =>
     rw [hf] at h2
     obtain ⟨rfl,rfl,rfl⟩:=C3 h2
     cases ok <;> exact hK
   ·cases h
  ·cases h
def U5 (n:Nat):List (Nat × Ob)→Bool
 | []=>true
 | (g,_) :: r=>decide (g < n)&&U5 n r
theorem Rn {n:Nat}:∀ {u:List (Nat × Ob)},U5 n u=true→okU n u
 | [],_=>trivial
 | (g,o) :: r,h=>by
  simp only [U5,zE] at h
  exact ⟨of_decide_eq_true h.1,Rn h.2⟩
def IG (d:Option Tmp) (st:St):Option R3→Option (Ent × St)
 | some (x,[],rd)=>some (⟨true,x,[],rd⟩,⟨EF st.sl d x,st.ob⟩)
 | some (x,u,rd)=>bif U5 (C8 st.ob u).length u then some (⟨true,x,u,rd⟩,⟨EF st.sl d x,C8 st.ob u⟩) else none
 | none=>none
def SH:Bool→Bool→Bool
 | true,b=>b
 | false,true=>false
 | false,false=>true
noncomputable def IQ (P:Program) (C:CallF) (o:SOper) (st:St):Option (Ent × St) :=
 match o.gd with
 | none=>IG o.dst st (fOp P C o.op st.sl st.ob)
 | some (k,want)=>match gets st.sl k with
  | .bool b=>bif SH b want then IG o.dst st (fOp P C o.op st.sl st.ob) else some (⟨false,.tup [],[],[]⟩,⟨EF st.sl o.dst (.tup []),st.ob⟩)
  | .tup []=>some (⟨false,.tup [],[],[]⟩,⟨EF st.sl o.dst (.tup []),st.ob⟩)
  | _=>none
noncomputable def Nd (P:Program) (C:CallF):List SOper→St→Option St
 | [],st=>some st
 | o :: r,st=>match IQ P C o st with
  | some (_,st')=>Nd P C r st'
  | none=>none
noncomputable def Gf (P:Program) (C:CallF):List SOper→List Ent→St→Option (List Ent × St)
 | [],acc,st=>some (acc,st)
 | o :: r,acc,st=>match IQ P C o st with
  | some (e,st')=>Gf P C r (acc++[e]) st'
  | none=>none
def Gg (P:Program) (C:CallF):Prop:=∀ ob f xs x u rd,C f xs ob=some (x,u,rd)→∀ K:Kont,K x u rd→CallP P f xs (Am ob) ob.length K
section
variable {P:Program} {C:CallF}
theorem YQ {d:Option Tmp} {st st':St} {r:Option R3} {e:Ent} (h:IG d st r=some (e,st')):∃ x u rd,r=some (x,u,rd)∧okU (C8 st.ob u).length u∧e=⟨true,x,u,rd⟩∧st'=st.app d x u:=by
 unfold IG at h
 split at h
 ·rename_i x rd
  simp only [zD,zH] at h
  refine ⟨x,[],rd,rfl,trivial,h.1.symm,?_⟩
  rw [←h.2]
  simp only [St.app,U3]
 ·rename_i x u rd _
  obtain ⟨h1,h2⟩:=Ao h
  simp only [zD,zH] at h2
  exact ⟨x,u,rd,rfl,Rn h1,h2.1.symm,h2.2.symm⟩
 ·cases h
theorem TQ (hC:Gg P C) {o:SOper} {st st':St} {e:Ent} {K:Ent→St→Prop} (h:IQ P C o st=some (e,st')) (hK:K e st'):Pc P o st K:=by
 have run:∀ {e:Ent} {st':St},IG o.dst st (fOp P C o.op st.sl st.ob)=some (e,st')→K e st'→eOp P o.op (gets st.sl) (Am st.ob) st.ob.length fun x upd rd=>okU (C8 st.ob upd).length upd∧K ⟨true,x,upd,rd⟩ (st.app o.dst x upd):=fun h hK=>by
  obtain ⟨x,u,rd,h1,h2,rfl,rfl⟩:=YQ h
  exact ZC h1 (fun f xs x u rd=>hC st.ob f xs x u rd) ⟨h2,hK⟩
 unfold IQ at h
 unfold Pc
 split at h
 ·rename_i hg
  try simp only [hg]
  exact run h hK
 ·rename_i k want hg
  try simp only [hg]
  split at h
  ·rename_i b hb
   simp only [hb]
   cases hw:SH b want with
   | true =>
    rw [hw] at h
    have e:b=want:=by cases b <;> cases want <;> simp [SH] at hw ⊢
    exact ⟨fun _=>run h hK,fun e'=>by subst e; cases b <;> cases e'⟩
   | false =>
    rw [hw] at h
    have e:¬ b=want:=by cases b <;> cases want <;> simp [SH] at hw ⊢
    simp only [cond_false,zD,zH] at h
    obtain ⟨rfl,rfl⟩:=h
    exact ⟨fun e'=>absurd e' e,fun _=>hK⟩
  ·rename_i ht
   simp only [ht,zD,zH] at h ⊢
   obtain ⟨rfl,rfl⟩:=h
   exact ⟨trivial,hK⟩
  ·cases h
theorem VS (hC:Gg P C):∀ {l:List SOper} {st st':St} {K:St→Prop},Nd P C l st=some st'→K st'→VL P l st K
 | [],st,st',K,h,hK=>by
  obtain rfl:=zB h
  exact hK
 | o :: r,st,st',K,h,hK=>by
  simp only [Nd] at h
  split at h
  ·rename_i e st1 h1
   exact TQ hC h1 (VS hC h hK)
  ·cases h
theorem Ro:∀ {l:List SOper} {acc:List Ent} {st:St} {out:List Ent × St},Gf P C l acc st=some out→∃ es,out.1=acc++es∧Gf P C l [] st=some (es,out.2)
 | [],acc,st,out,h=>by
  obtain rfl:=zB h
  exact ⟨[],by simp,rfl⟩
 | o :: r,acc,st,out,h=>by
  simp only [Gf] at h ⊢
  split at h
  ·rename_i e st1 h1
   obtain ⟨es,e1,e2⟩:=Ro h
   have:∃ es',e :: es=es'∧Gf P C r ([]++[e]) st1=some (es',out.2):=by
    have key:∀ (l:List SOper) (a b:List Ent) (s:St) (es:List Ent) (s':St),Gf P C l a s=some (es,s')→Gf P C l (b++a) s=some (b++es,s'):=by
     intro l
     induction l with
     | nil=>intro a b s es s' h; simp only [Gf,zD,zH] at h ⊢; exact ⟨by rw [h.1],h.2⟩
     | cons o r ih =>
      intro a b s es s' h
      simp only [Gf] at h ⊢
      split at h
      ·rename_i e s1 h1
       rw [yL]
       exact ih _ _ _ _ _ h
      ·cases h
    refine ⟨_,rfl,?_⟩
    have:=key r [] [e] st1 es out.2 e2
    simpa using this
   obtain ⟨es',rfl,h3⟩:=this
   exact ⟨e :: es,by rw [e1]; simp,h3⟩
  ·cases h
theorem VT (hC:Gg P C):∀ {l:List SOper} {st st':St} {es:List Ent} {K:List Ent→St→Prop},Gf P C l [] st=some (es,st')→K es st'→VK P l st K
 | [],st,st',es,K,h,hK=>by
  simp only [Gf,zD,zH] at h
  obtain ⟨rfl,rfl⟩:=h
  exact hK
 | o :: r,st,st',es,K,h,hK=>by
  simp only [Gf] at h
  split at h
  ·rename_i e st1 h1
   obtain ⟨es',e1,e2⟩:=Ro h
   simp only at e1
   subst e1
   exact TQ hC h1 (VT hC e2 (by simpa using hK))
  ·cases h
end
mutual
def SV.back (m:List Nat):SV→Option SV
 | .ref g=>match FZ m g with
  | some i=>some (.ref i)
  | none=>none
 | .ptr g o=>match FZ m g with
  | some i=>some (.ptr i o)
  | none=>none
 | .eptr g sz k o=>match FZ m g with
  | some i=>some (.eptr i sz k o)
  | none=>none
 | .agg l=>match SV.LG m l with
  | some l'=>some (.agg l')
  | none=>none
 | .tup l=>match SV.LG m l with
  | some l'=>some (.tup l')
  | none=>none
 | .fn f l=>match SV.LG m l with
  | some l'=>some (.fn f l')
  | none=>none
 | .any=>some .any
 | .int k n=>some (.int k n)
 | .bool b=>some (.bool b)
 | .str s=>some (.str s)
 | .nil=>some .nil
 | .arr es=>some (.arr es)
 | .vptr es k o=>some (.vptr es k o)
 | .mp ks m=>some (.mp ks m)
def SV.LG (m:List Nat):List SV→Option (List SV)
 | []=>some []
 | x :: r=>match SV.back m x with
  | some y=>match SV.LG m r with
   | some r'=>some (y :: r')
   | none=>none
  | none=>none
end
mutual
theorem SV.back_ren {m:List Nat} {p:Nat}:∀ {x y:SV},x.back m=some y→y.ren (sgp m p)=x
 | .ref g,y,h=>by
  simp only [SV.back] at h
  split at h
  ·rename_i i hi
   obtain rfl:=zB h
   simp only [SV.ren,Iw hi]
  ·cases h
 | .ptr g o,y,h=>by
  simp only [SV.back] at h
  split at h
  ·rename_i i hi
   obtain rfl:=zB h
   simp only [SV.ren,Iw hi]
  ·cases h
 | .eptr g sz k o,y,h=>by
  simp only [SV.back] at h
  split at h
  ·rename_i i hi
   obtain rfl:=zB h
   simp only [SV.ren,Iw hi]
  ·cases h
 | .agg l,y,h=>by
  simp only [SV.back] at h
  split at h
  ·rename_i l' hl
   obtain rfl:=zB h
   simp only [SV.ren,SV.Gh hl]
  ·cases h
 | .tup l,y,h=>by
  simp only [SV.back] at h
  split at h
  ·rename_i l' hl
   obtain rfl:=zB h
   simp only [SV.ren,SV.Gh hl]
  ·cases h
 | .fn f l,y,h=>by
  simp only [SV.back] at h
  split at h
  ·rename_i l' hl
   obtain rfl:=zB h
   simp only [SV.ren,SV.Gh hl]
  ·cases h
 | .any,y,h=>by obtain rfl:=zB h; rfl
 | .int k n,y,h=>by obtain rfl:=zB h; rfl
 | .bool b,y,h=>by obtain rfl:=zB h; rfl
 | .str s,y,h=>by obtain rfl:=zB h; rfl
 | .nil,y,h=>by obtain rfl:=zB h; rfl
 | .arr es,y,h=>by obtain rfl:=zB h; rfl
 | .vptr es k o,y,h=>by obtain rfl:=zB h; rfl
 | .mp ks m,y,h=>by obtain rfl:=zB h; rfl
theorem SV.Gh {m:List Nat} {p:Nat}:∀ {x y:List SV},SV.LG m x=some y→SV.Hg (sgp m p) y=x
 | [],y,h=>by obtain rfl:=zB h; rfl
 | x :: r,y,h=>by
  simp only [SV.LG] at h
  split at h
  ·rename_i y1 h1
   split at h
   ·rename_i r' h2
    obtain rfl:=zB h
    simp only [SV.Hg,SV.back_ren h1,SV.Gh h2]
   ·cases h
  ·cases h
end
def Gi (m:List Nat):List (Nat × Nat × Nat)→Option (List (Nat × Nat × Nat))
 | []=>some []
 | (k,o,q) :: r=>match FZ m q with
  | some i=>match Gi m r with
   | some r'=>some ((k,o,i) :: r')
   | none=>none
  | none=>none
theorem IR {m:List Nat} {p:Nat}:∀ {hs hs':List (Nat × Nat × Nat)},Gi m hs=some hs'→hs'.map (fun h=>(h.1,h.2.1,sgp m p h.2.2))=hs
 | [],hs',h=>by obtain rfl:=zB h; rfl
 | (k,o,q) :: r,hs',h=>by
  simp only [Gi] at h
  split at h
  ·rename_i i hi
   split at h
   ·rename_i r' hr
    obtain rfl:=zB h
    simp only [zR,Iw hi,IR hr]
   ·cases h
  ·cases h
def Ob.back (m:List Nat):Ob→Option Ob
 | .box t l=>match SV.LG m l with
  | some l'=>some (.box t l')
  | none=>none
 | .row t sz es=>some (.row t sz es)
 | .tree es hs=>match Gi m hs with
  | some hs'=>some (.tree es hs')
  | none=>none
 | .gone=>some .gone
 | .mp ks m=>some (.mp ks m)
 | .it ks m seen cur=>some (.it ks m seen cur)
 | .shd _=>none
 | .free=>none
theorem Ob.back_ren {m:List Nat} {p:Nat} {x y:Ob} (h:x.back m=some y):y.ren (sgp m p)=x:=by
 cases x with
 | box t l =>
  simp only [Ob.back] at h
  split at h
  ·rename_i l' hl
   obtain rfl:=zB h
   simp only [Ob.ren,SV.Gh hl]
  ·cases h
 | row t sz es=>obtain rfl:=zB h; rfl
 | tree es hs =>
  simp only [Ob.back] at h
  split at h
  ·rename_i hs' hl
   obtain rfl:=zB h
   simp only [Ob.ren,IR hl]
  ·cases h
 | gone=>obtain rfl:=zB h; rfl
 | mp ks m=>obtain rfl:=zB h; rfl
 | it ks m seen cur=>obtain rfl:=zB h; rfl
 | shd es=>cases h
 | free=>cases h
def E3 (m:List Nat) (ob:List Ob):List Nat→Option (List Ob)
 | []=>some []
 | g :: r=>match (Am ob g).back m with
  | some o=>match E3 m ob r with
   | some l=>some (o :: l)
   | none=>none
  | none=>none
theorem LH {m:List Nat} {ob:List Ob}:∀ {l:List Nat} {r:List Ob},E3 m ob l=some r→r.length=l.length
 | [],r,h=>by obtain rfl:=zB h; rfl
 | g :: l,r,h=>by
  simp only [E3] at h
  split at h
  ·split at h
   ·rename_i l' hl
    obtain rfl:=zB h
    simp [LH hl]
   ·cases h
  ·cases h
theorem LI {m:List Nat} {ob:List Ob} {p:Nat}:∀ (l:List Nat) (r:List Ob) (k:Nat),E3 m ob l=some r→(∀ j,j<l.length→sgp m p (k+j)=l.getD j 0)→Pd (Am ob) (sgp m p) k r
 | [],r,k,h,_=>by obtain rfl:=zB h; trivial
 | a :: l,r,k,h,hs=>by
  simp only [E3] at h
  split at h
  ·rename_i o ho
   split at h
   ·rename_i l' hl
    obtain rfl:=zB h
    have h0:=hs 0 (by simp)
    simp only [Nat.add_zero,List.getD_cons_zero] at h0
    refine ⟨by rw [h0,Ob.back_ren ho],LI l l' (k+1) hl fun j hj=>?_⟩
    have:=hs (j+1) (by simpa using hj)
    simpa [Nat.add_assoc,Nat.add_comm 1 j] using this
   ·cases h
  ·cases h
mutual
def SV.refs:SV→List Nat
 | .ref g=>[g]
 | .ptr g _=>[g]
 | .eptr g _ _ _=>[g]
 | .agg l=>SV.Pf l
 | .tup l=>SV.Pf l
 | .fn _ l=>SV.Pf l
 | _=>[]
def SV.Pf:List SV→List Nat
 | []=>[]
 | x :: r=>x.refs++SV.Pf r
end
def Ob.refs:Ob→List Nat
 | .box _ l=>SV.Pf l
 | .tree _ hs=>hs.map (·.2.2)
 | _=>[]
def Ob.liveB:Ob→Bool
 | .free=>false
 | .gone=>false
 | .shd _=>false
 | _=>true
def reach (ob:List Ob):Nat→List Nat→List Nat→List Nat
 | 0,_,acc=>acc
 | _+1,[],acc=>acc
 | n+1,g :: r,acc=>bif Gd g acc || !(Am ob g).liveB then reach ob n r acc else reach ob n (r++(Am ob g).refs) (acc++[g])
mutual
def SV.ptrs:SV→List Nat
 | .ptr g _=>[g]
 | .eptr g _ _ _=>[g]
 | .agg l=>SV.Pg l
 | .tup l=>SV.Pg l
 | .fn _ l=>SV.Pg l
 | _=>[]
def SV.Pg:List SV→List Nat
 | []=>[]
 | x :: r=>x.ptrs++SV.Pg r
end
inductive RM where
 |asis
 |frz
 |late
 |own (l:List (Option (Nat × Nat)))
 |half (l:List (Option (Nat × Nat)))
 |tr (l:List (Option (Nat × Nat)))
 |frl (l:List Nat)
structure FM where
 hand:List Bool
 res:RM
 ext:Option (List SV→List Ob→Option (SV × List Ob))
 tree:Bool
def Gj:List Bool→List SV→List Nat
 | [],xs=>SV.Pg xs
 | _,[]=>[]
 | b :: bs,x :: xs=>(bif b then x.refs else x.ptrs)++Gj bs xs
abbrev FEnv:=FuncId→List SV→List Ob→Option (SV × List Ob)
def Rp (r:SV) (fob:List Ob):Bool:=r.noSh&&fob.all Ob.noSh
def J2 (n:Nat):List Nat→Bool
 | []=>true
 | g :: r=>decide (g < n)&&J2 n r
def GB (n:Nat):List Ob→Bool
 | []=>true
 | o :: r=>o.idsB n&&GB n r
def Fk (sel lent:List Nat) (p:Nat) (r:SV) (fob':List Ob):R3 :=
 bif lent.isEmpty || Rp r fob' then (r.ren (sgp sel p),mkU (sgp sel p) 0 fob',lent++sel)
 else (r.ren (sgp sel p),mkU (sgp sel p) 0 fob'++Bt lent,lent++sel)
def Cp (hd:List Bool) (E:FEnv) (f:FuncId) (xs:List SV) (ob:List Ob) (sel:List Nat):Option R3 :=
 match E3 sel ob sel with
 | some fob=>bif nodupB sel&&J2 ob.length sel&&GB fob.length fob then
   match E f (Fj hd (Am ob) sel xs) fob with
   | some (r,fob')=>bif decide (fob.length≤fob'.length) then some (Fk sel (AM sel xs) ob.length r fob') else none
   | none=>none
   else none
 | none=>none
def CO (gs:List Nat):List (Nat × Ob)→List (Nat × Ob)
 | []=>[]
 | (g,o) :: r=>(g,bif Gd g gs then .gone else o) :: CO gs r
def Rq (u:List (Nat × Ob)):List Nat→Bool
 | []=>true
 | g :: r=>Gd g (u.map (·.1))&&Rq u r
def seen (u:List (Nat × Ob)) (g:Nat):Ob:=(A7 u g).getD .gone
def Rr:R3→Option R3
 | (x,u,rd)=>bif Rq u (AN [] x) then some (BI (seen u) [] x,CO (AN [] x) u,rd) else none
def Fl:RM→Option R3→Option R3
 | .late,some r=>Rr r
 | .late,none=>none
 | _,r=>r
def Ch (M:FuncId→FM) (E:FEnv):CallF:=fun f xs ob=>Fl (M f).res (Cp (M f).hand E f xs ob (reach ob 64 (Gj (M f).hand xs) []))
theorem J3 {n:Nat}:∀ {l:List Nat},J2 n l=true→∀ g∈l,g<n
 | [],_,g,hg=>by cases hg
 | x :: r,h,g,hg=>by
  simp only [J2,zE] at h
  rcases zO.1 hg with rfl | hg
  ·exact of_decide_eq_true h.1
  ·exact J3 h.2 g hg
theorem H2 {n:Nat}:∀ {l:List Ob},GB n l=true→∀ o∈l,o.idsB n=true
 | [],_,g,hg=>by cases hg
 | x :: r,h,g,hg=>by
  simp only [GB,zE] at h
  rcases zO.1 hg with rfl | hg
  ·exact h.1
  ·exact H2 h.2 g hg
theorem KY {l:List (Nat × Ob)} {gs:List Nat} {g:Nat}:A7 (l++Bt gs) g=match A7 l g with | some o=>some o | none=>if g∈gs then some .gone else none:=by
 induction l with
 | nil =>
  simp only [List.nil_append,A7]
  induction gs with
  | nil=>simp [Bt,A7]
  | cons a r ih =>
   simp only [Bt,zR,A7] at ih ⊢
   by_cases h:a=g
   ·subst h; simp
   ·have h':¬ g=a:=fun e=>h e.symm
    simp [h,h',ih]
 | cons x l ih =>
  obtain ⟨a,o⟩:=x
  simp only [yM,A7]
  by_cases h:a=g
  ·simp [h]
  ·simp [h,ih]
theorem CallP.given {P:Program} {f:FuncId} {cas:List SV} {fob:List Ob} {r:SV} {fob':List Ob} (h:Fun P f cas fob r fob') {xs:List SV} {ob:Nat→Ob} {p:Nat} {K:Kont} (sel:List Nat)
  (hargs:∃ hd,Fj hd ob sel xs=cas) (hsel:sel.length=fob.length∧sel.Nodup) (hlt:∀ g,g∈sel→g<p) (hlen:fob.length≤fob'.length) (hob:Pd ob (sgp sel p) 0 fob) (hids:∀ o,o∈fob→o.idsB fob.length=true) (hfree:MX ob p)
  (hK:K (r.ren (sgp sel p)) (mkU (sgp sel p) 0 fob'++Bt (AM sel xs)) (AM sel xs++sel)):CallP P f xs ob p K:=by
 refine ⟨_,_,_,hK,fun ob' hrd hup w I V B vs hwf hxs=>?_⟩
 obtain ⟨hsl,hsn⟩:=hsel
 have hs1:∀ k,k<fob.length→∃ g,sel[k]?=some g∧sgp sel p k=g∧g<p:=fun k hk=>by
  have:k<sel.length:=by omega
  refine ⟨sel[k],zG this,by rw [Dd,zG this],hlt _ (zS this)⟩
 have hs2:∀ k,fob.length≤k→sgp sel p k=p+(k-fob.length):=fun k hk=>by
  rw [Dd,yE (by omega),hsl]
 have hinj:∀ i j,sgp sel p i=sgp sel p j→i=j:=fun i j e=>by
  rcases zF i fob.length with h1 | h1 <;> rcases zF j fob.length with h2 | h2
  ·obtain ⟨g,g1,g2,g3⟩:=hs1 i h1
   obtain ⟨g',g1',g2',g3'⟩:=hs1 j h2
   have e2:g=g':=by rw [←g2,← g2',e]
   subst e2
   have a1:=GA hsn g1
   have a2:=GA hsn g1'
   rw [a1] at a2
   exact zB a2
  ·obtain ⟨g,g1,g2,g3⟩:=hs1 i h1
   have:=hs2 j h2
   omega
  ·obtain ⟨g,g1,g2,g3⟩:=hs1 j h2
   have:=hs2 i h1
   omega
  ·have:=hs2 i h1
   have:=hs2 j h2
   omega
 have htm:∀ g,g∈(mkU (sgp sel p) 0 fob').map (·.1) ↔ ∃ k,k<fob'.length∧sgp sel p k=g:=fun g=>by
  rw [Qf]
  simp
 have htouch:∀ g,As (mkU (sgp sel p) 0 fob'++Bt (AM sel xs)) g ↔ (∃ k,k<fob'.length∧sgp sel p k=g)∨g∈AM sel xs:=fun g=>by
  unfold As
  rw [yG,zM,htm]
  simp [Bt]
 have hlook:∀ k,k<fob'.length→A3 ob' (mkU (sgp sel p) 0 fob'++Bt (AM sel xs)) (sgp sel p k)=(Am fob' k).ren (sgp sel p):=fun k hk=>by
  have:=MW (σ:=sgp sel p) (l:=fob') (k:=0) (j:=k) (fun i i' _ _ _ _ e=>hinj i i' e) hk
  rw [zP] at this
  unfold A3
  rw [KY,this]; rfl
 have hlookg:∀ g,g∈AM sel xs→¬ (A3 ob' (mkU (sgp sel p) 0 fob'++Bt (AM sel xs)) g).live∨∃ k,k<fob'.length∧sgp sel p k=g:=fun g hg=>by
  by_cases h1:∃ k,k<fob'.length∧sgp sel p k=g
  ·exact .inr h1
  ·left
   have h2:A7 (mkU (sgp sel p) 0 fob') g=none:=KO (upd:=mkU (sgp sel p) 0 fob') fun h=>h1 ((htm g).1 h)
   unfold A3
   rw [KY,h2]
   simp only [hg,if_true,Option.getD_some]
   exact fun h=>h
 have hobk:∀ k,k<fob.length→ob' (sgp sel p k)=(Am fob k).ren (sgp sel p):=fun k hk=>by
  have:=J0 hob hk
  rw [zP] at this
  obtain ⟨g,g1,g2,g3⟩:=hs1 k hk
  rw [←this,g2]
  exact hrd g (yD _ (zV g1))
 have hnew:∀ k,fob.length≤k→k<fob'.length→ob' (sgp sel p k)=.free:=fun k h1 h2=>by
  rw [hup _ ((htouch _).2 (.inl ⟨k,h2,rfl⟩))]
  exact hfree _ (by rw [hs2 k h1]; omega)
 have hlv:∀ k,(Am fob k).live→k<fob.length:=fun k hl=>by
  rcases zF k fob.length with h1 | h1
  ·exact h1
  ·rw [A5 _ _ h1] at hl; exact hl.elim
 have hlv':∀ k,(Am fob' k).live→k<fob'.length:=fun k hl=>by
  rcases zF k fob'.length with h1 | h1
  ·exact h1
  ·rw [A5 _ _ h1] at hl; exact hl.elim
 have hlvo:∀ k,(Am fob k).live→(ob' (sgp sel p k)).live:=fun k hl=>by
  rw [hobk k (hlv k hl)]
  exact (Ob.Kc _).2 hl
 have hlent:∀ g,g∈AM sel xs→ob' g=ob g:=fun g hg=>hrd g (List.mem_append_left _ hg)
 let Vc:Nat→Option Value:=fun k=>if k<fob.length then V (sgp sel p k) else none
 let Bc:Nat→Nat→Prop:=fun k=>B (sgp sel p k)
 let J:Nat→Prop:=fun b=>I b∨∃ g,g∈AM sel xs∧(ob' g).live∧B g b
 have notsel:∀ g,g∈AM sel xs→∀ k,k<fob.length→sgp sel p k≠g:=by
  intro g hg k hk e
  have h1:=EC xs g hg
  obtain ⟨g',g1,g2,_⟩:=hs1 k hk
  rw [g2] at e
  subst e
  rw [GA hsn g1] at h1
  cases h1
 have hIJ:∀ b,I b→J b:=fun b hb=>.inl hb
 have hwfc:Wf w J Vc Bc (Am fob):=by
  refine ⟨fun b hb=>?_,fun k hl=>?_,fun k b hl hb=>hwf.lt _ b (hlvo k hl) hb,fun k b hl hb hJ=>?_,fun k k' b hl hl' hb hb'=>hinj _ _ (hwf.dO _ _ b (hlvo k hl) (hlvo k' hl') hb hb'),fun k hf=>?_,hwf.gl.keep (KeepS.refl _ _) hIJ⟩
  ·rcases hb with hb | ⟨g,_,hl,hb⟩
   ·exact hwf.ilt b hb
   ·exact hwf.lt g b hl hb
  ·have hk:=hlv k hl
   obtain ⟨val,h1,h2⟩:=hwf.obj _ (hlvo k hl)
   refine ⟨val,by simp only [Vc,hk,if_true]; exact h1,?_⟩
   rw [hobk k hk] at h2
   have h3:=(ObR.ren _).1 h2
   have h4:=ObR.idsB (n:=fob.length) (V':=Vc) (fun g hg=>by simp only [Vc,hg,if_true]) (hids _ (Kd hk)) h3
   exact h4.keep ⟨zJ _,fun _ _ _=>rfl⟩ hIJ (VLe.refl _) fun _ _ _=>rfl
  ·rcases hJ with hJ | ⟨g,hg,hlg,hgb⟩
   ·exact hwf.dI _ b (hlvo k hl) hb hJ
   ·exact notsel g hg k (hlv k hl) (hwf.dO _ _ b (hlvo k hl) hlg hb hgb)
  ·by_cases hk:k<fob.length
   ·simp only [Vc,hk,if_true]
    refine hwf.fr _ ?_
    rw [hobk k hk,hf]; rfl
   ·simp only [Vc,hk,if_false]
 have hargs':RepVs w J Vc cas vs:=by
  obtain ⟨hd,hargs⟩:=hargs
  rw [←hargs,← Hy (ob:=ob) (ob':=ob') hd xs hlent]
  refine KT hwf hIJ (fun g i hi=>?_) hd xs vs (fun g b hg hl hb=>.inr ⟨g,hg,hl,hb⟩) hxs
  have hlt':i<fob.length:=by rw [←hsl]; exact (z6.1 (Iv hi)).1
  simp only [Vc,hlt',if_true,Iw hi]
 refine (h w J Vc Bc vs hwfc hargs').mono ?_
 rintro e w' ⟨v,I',V',B',rfl,hr,hpost⟩
 obtain ⟨hfr,hi0,hi1,hv,hwf',hbh⟩:=hpost
 have hHB:∀ b,HB Bc fob b→∃ g,As (mkU (sgp sel p) 0 fob'++Bt (AM sel xs)) g∧(ob' g).live∧B g b:=fun b ⟨k,hl,hb⟩=>⟨sgp sel p k,(htouch _).2 (.inl ⟨k,by have:=hlv k hl; omega,rfl⟩),hlvo k hl,hb⟩
 classical
 let V2:Nat→Option Value:=fun g=>if hg:∃ k,k<fob'.length∧sgp sel p k=g then V' (Classical.choose hg) else V g
 let B2:Nat→Nat→Prop:=fun g=>if hg:∃ k,k<fob'.length∧sgp sel p k=g then B' (Classical.choose hg) else B g
 have hV2:∀ k,k<fob'.length→V2 (sgp sel p k)=V' k:=fun k hk=>by
  have hg:∃ k',k' < fob'.length∧sgp sel p k'=sgp sel p k:=⟨k,hk,rfl⟩
  have:V2 (sgp sel p k)=V' (Classical.choose hg):=dif_pos hg
  rw [this,hinj _ _ (Classical.choose_spec hg).2]
 have hB2:∀ k,k<fob'.length→B2 (sgp sel p k)=B' k:=fun k hk=>by
  have hg:∃ k',k' < fob'.length∧sgp sel p k'=sgp sel p k:=⟨k,hk,rfl⟩
  have:B2 (sgp sel p k)=B' (Classical.choose hg):=dif_pos hg
  rw [this,hinj _ _ (Classical.choose_spec hg).2]
 have hV2n:∀ g,¬ (∃ k,k<fob'.length∧sgp sel p k=g)→V2 g=V g:=fun g hg=>dif_neg hg
 have hB2n:∀ g,¬ (∃ k,k<fob'.length∧sgp sel p k=g)→B2 g=B g:=fun g hg=>dif_neg hg
 have hVV:VLe V V2:=fun g u hu=>by
  by_cases hg:∃ k,k<fob'.length∧sgp sel p k=g
  ·obtain ⟨k,hk,rfl⟩:=hg
   rw [hV2 k hk]
   by_cases h1:k<fob.length
   ·exact hv k u (by simp only [Vc,h1,if_true]; exact hu)
   ·rw [hwf.fr _ (hnew k (by omega) hk)] at hu; cases hu
  ·rw [hV2n g hg]; exact hu
 have hV'σ:VLe V' (fun k=>V2 (sgp sel p k)):=fun k u hu=>by
  rcases zF k fob'.length with h1 | h1
  ·simp only [hV2 k h1]; exact hu
  ·rw [hwf'.fr k (A5 _ _ h1)] at hu; cases hu
 have kr:KeepS I' w' w':=⟨zJ _,fun _ _ _=>rfl⟩
 have hres:RepV w' I' V2 (r.ren (sgp sel p)) v:=(RepV.ren r v).2 (RepV.mono kr (fun b hb=>hb) hV'σ _ _ hr)
 have hobr:∀ k,(Am fob' k).live→∃ val,V2 (sgp sel p k)=some val∧ObR w' I' V2 (B2 (sgp sel p k)) val ((Am fob' k).ren (sgp sel p)):=fun k hl=>by
  have hk:=hlv' k hl
  obtain ⟨val,h1,h2⟩:=hwf'.obj k hl
  refine ⟨val,by rw [hV2 k hk]; exact h1,(ObR.ren _).2 ?_⟩
  rw [hB2 k hk]
  exact h2.keep kr (fun b hb=>hb) hV'σ fun _ _ _=>rfl
 let T:Nat→Prop:=As (mkU (sgp sel p) 0 fob'++Bt (AM sel xs))
 have hi2:∀ b,I' b→I b∨w.heap.size≤b∨∃ g,T g∧(ob' g).live∧B g b:=fun b hb=>by
  rcases hi1 b hb with h1 | h1 | h1
  ·rcases h1 with h1 | ⟨g,h1,h2,h3⟩
   ·exact .inl h1
   ·exact .inr (.inr ⟨g,(htouch g).2 (.inr h1),h2,h3⟩)
  ·exact .inr (.inl h1)
  ·exact .inr (.inr (hHB b h1))
 have hkeep:∀ b,b<w.heap.size→(∀ g,T g→(ob' g).live→¬ B g b)→w'.heap[b]?=w.heap[b]?:=fun b hb hno=>hfr.block b hb fun hH=>by
  obtain ⟨g,h1,h2,h3⟩:=hHB b hH
  exact hno g h1 h2 h3
 have live2:∀ k,k<fob'.length→(A3 ob' (mkU (sgp sel p) 0 fob'++Bt (AM sel xs)) (sgp sel p k)).live→(Am fob' k).live:=fun k hk hl=>by
  rw [hlook k hk] at hl
  exact (Ob.Kc _).1 hl
 have liveT:∀ g,T g→(A3 ob' (mkU (sgp sel p) 0 fob'++Bt (AM sel xs)) g).live→∃ k,k<fob'.length∧sgp sel p k=g:=fun g hg hl=>by
  rcases (htouch g).1 hg with h1 | h1
  ·exact h1
  ·rcases hlookg g h1 with h2 | h2
   ·exact absurd hl h2
   ·exact h2
 have hbf:∀ k b,(Am fob' k).live→B' k b→(w.heap.size≤b∧b<w'.heap.size)∨∃ g0,T g0∧(ob' g0).live∧B g0 b:=fun k b hl hb=>by
  rcases hbh k b hl hb with h1 | h1
  ·exact .inr (hHB b h1)
  ·exact .inl ⟨h1,hwf'.lt k b hl hb⟩
 have hwf2:Wf w' I' V2 B2 (A3 ob' (mkU (sgp sel p) 0 fob'++Bt (AM sel xs))):=by
  refine hwf.upd T hfr.size hkeep (fun b hb=>hi0 b (hIJ b hb)) hVV (fun g hg=>⟨Iq hg,hB2n g (fun h=>hg ((htouch g).2 (.inl h))),fun hf=>by rw [hV2n g (fun h=>hg ((htouch g).2 (.inl h)))]; exact hwf.fr g hf⟩) hi2 (fun b hb=>hwf'.ilt b hb) (fun g hg hl=>?_) (fun g b hg hl hb=>?_) (fun g b hg hl hb hI=>?_) (fun g g' b hg hg' hl hl' hb hb'=>?_) (fun g hg hf=>?_)
  ·obtain ⟨k,hk,rfl⟩:=liveT g hg hl
   rw [hlook k hk]
   exact hobr k (live2 k hk hl)
  ·obtain ⟨k,hk,rfl⟩:=liveT g hg hl
   rw [hB2 k hk] at hb
   exact hbf k b (live2 k hk hl) hb
  ·obtain ⟨k,hk,rfl⟩:=liveT g hg hl
   rw [hB2 k hk] at hb
   exact hwf'.dI k b (live2 k hk hl) hb hI
  ·obtain ⟨k,hk,rfl⟩:=liveT g hg hl
   obtain ⟨k',hk',rfl⟩:=liveT g' hg' hl'
   rw [hB2 k hk] at hb
   rw [hB2 k' hk'] at hb'
   rw [hwf'.dO k k' b (live2 k hk hl) (live2 k' hk' hl') hb hb']
  ·by_cases h1:∃ k,k<fob'.length∧sgp sel p k=g
   ·obtain ⟨k,hk,rfl⟩:=h1
    rw [hV2 k hk]
    rw [hlook k hk] at hf
    refine hwf'.fr k ?_
    cases hq:Am fob' k <;> rw [hq] at hf <;> simp [Ob.ren] at hf ⊢
   ·exfalso
    rcases (htouch g).1 hg with h2 | h2
    ·exact h1 h2
    ·have h3:A7 (mkU (sgp sel p) 0 fob') g=none:=KO (upd:=mkU (sgp sel p) 0 fob') fun h=>h1 ((htm g).1 h)
     unfold A3 at hf
     rw [KY,h3] at hf
     simp only [h2,if_true,Option.getD_some] at hf
     cases hf
 refine ⟨v,I',V2,B2,rfl,hres,⟨hwf2,hfr.os,hfr.tape,hfr.output,hfr.size,hkeep,fun b hb=>hi0 b (hIJ b hb),hi2,hVV,fun g hg=>hB2n g fun h=>hg ((htouch g).2 (.inl h)),fun g b hg hl hb=>?_⟩⟩
 obtain ⟨k,hk,rfl⟩:=liveT g hg hl
 rw [hB2 k hk] at hb
 exact (hbf k b (live2 k hk hl) hb).imp (fun h=>h.1) id
theorem U6 {r:SV} {l:List Ob} (h:Rp r l=true):r.noSh=true∧∀ o,o∈l→o.noSh=true:=by
 unfold Rp at h
 rw [zE] at h
 exact ⟨h.1,zN.1 h.2⟩
def Iz (P:Program) (E:FEnv):Prop:=∀ f xs ob r ob',E f xs ob=some (r,ob')→Fun P f xs ob r ob'
theorem BO {P:Program} {E:FEnv} (hE:Iz P E) {hd:List Bool} {f:FuncId} {xs:List SV} {ob:List Ob} {sel:List Nat} {x:SV} {u:List (Nat × Ob)} {rd:List Nat} (h:Cp hd E f xs ob sel=some (x,u,rd)) (K:Kont) (hK:K x u rd):CallP P f xs (Am ob) ob.length K:=by
 unfold Cp at h
 split at h
 ·rename_i fob hfob
  obtain ⟨h1,h2⟩:=Ao h
  split at h2
  ·rename_i r fob' hr
   obtain ⟨h3,h4⟩:=Ao h2
   simp only [zE] at h1
   have hlen:=LH hfob
   have hsel:Pd (Am ob) (sgp sel ob.length) 0 fob:=LI sel fob 0 hfob fun j hj=>by
    rw [zP,Dd,zG hj]
    simp [zZ,zG hj]
   have h4:Fk sel (AM sel xs) ob.length r fob'=(x,u,rd):=zB h4
   unfold Fk at h4
   cases hb:((AM sel xs).isEmpty || Rp r fob') with
   | true =>
    rw [hb] at h4
    simp only [cond_true,zH] at h4
    obtain ⟨rfl,rfl,rfl⟩:=h4
    refine CallP.of (hE f _ _ _ _ hr) sel ⟨hd,rfl⟩ ⟨hlen.symm,EH.1 h1.1.1⟩ (J3 h1.1.2) (of_decide_eq_true h3) hsel (H2 h1.2) (Na rfl) ?_ hK
    rw [Bool.or_eq_true] at hb
    exact hb.imp isEmpty_nil U6
   | false =>
    rw [hb] at h4
    simp only [cond_false,zH] at h4
    obtain ⟨rfl,rfl,rfl⟩:=h4
    exact CallP.given (hE f _ _ _ _ hr) sel ⟨hd,rfl⟩ ⟨hlen.symm,EH.1 h1.1.1⟩ (J3 h1.1.2) (of_decide_eq_true h3) hsel (H2 h1.2) (Na rfl) hK
  ·cases h2
 ·cases h
theorem LJ {gs:List Nat} {g:Nat}:∀ {u:List (Nat × Ob)},A7 (CO gs u) g=if g∈gs then (A7 u g).map (fun _=>.gone) else A7 u g
 | []=>by simp [CO,A7]
 | (a,o) :: u=>by
  rw [CO,A7,A7]
  by_cases h:a=g
  ·subst h
   rw [if_pos rfl,if_pos rfl]
   by_cases hm:a∈gs
   ·rw [if_pos hm,CV.2 hm]; rfl
   ·have:Gd a gs=false:=by
     cases e:Gd a gs with
     | false=>rfl
     | true=>exact absurd (CV.1 e) hm
    rw [if_neg hm,this]; rfl
  ·rw [if_neg h,if_neg h,LJ]
theorem H3 {gs:List Nat}:∀ {u:List (Nat × Ob)},(CO gs u).map (·.1)=u.map (·.1)
 | []=>rfl
 | (a,o) :: u=>by rw [CO,zR,zR,H3]
theorem Ph {u:List (Nat × Ob)}:∀ {l:List Nat},Rq u l=true→∀ g∈l,g∈u.map (·.1)
 | [],_,g,hg=>by cases hg
 | x :: r,h,g,hg=>by
  simp only [Rq,zE] at h
  rcases zO.1 hg with rfl | hg
  ·exact CV.1 h.1
  ·exact Ph h.2 g hg
theorem Rs {u:List (Nat × Ob)} {g:Nat} (h:g∈u.map (·.1)):∃ o,A7 u g=some o:=by
 induction u with
 | nil=>cases h
 | cons q r ih =>
  obtain ⟨a,o⟩:=q
  rw [A7]
  by_cases e:a=g
  ·exact ⟨o,if_pos e⟩
  ·rw [if_neg e]
   simp only [zR,zO] at h
   exact ih (h.resolve_left fun h=>e h.symm)
theorem Wf.less {w:World} {I:Nat→Prop} {V:Nat→Option Value} {B:Nat→Nat→Prop} {ob ob2:Nat→Ob} (h:Wf w I V B ob) (hl:∀ g,ob2 g=ob g∨ob2 g=.gone):Wf w I V B ob2:=by
 have live:∀ g,(ob2 g).live→ob2 g=ob g:=fun g hg=>(hl g).resolve_right fun e=>by rw [e] at hg; exact hg.elim
 refine ⟨h.ilt,fun g hg=>?_,fun g b hg=>?_,fun g b hg=>?_,fun g g' b hg hg'=>?_,fun g hg=>?_,h.gl⟩
 ·have e:=live g hg
  rw [e] at hg ⊢; exact h.obj g hg
 ·rw [live g hg] at hg; exact h.lt g b hg
 ·rw [live g hg] at hg; exact h.dI g b hg
 ·rw [live g hg] at hg; rw [live g' hg'] at hg'; exact h.dO g g' b hg hg'
 ·rcases hl g with e | e
  ·rw [e] at hg; exact h.fr g hg
  ·rw [e] at hg; cases hg
theorem CallOK.late {P:Program} {f:FuncId} {xs:List SV} {ob:Nat→Ob} {x:SV} {u:List (Nat × Ob)} (h:CallOK P f xs ob x u) (hk:∀ g∈AN [] x,g∈u.map (·.1)):CallOK P f xs ob (BI (seen u) [] x) (CO (AN [] x) u):=by
 intro w I V B vs hwf hvs
 refine (h w I V B vs hwf hvs).mono ?_
 rintro e w' ⟨v,I',V',B',rfl,hr,ha⟩
 have hwf':=ha.wf
 have hseen:∀ g,seen u g=A3 ob u g∨seen u g=.gone:=fun g=>by
  unfold seen A3
  cases A7 u g with
  | none=>exact .inr rfl
  | some o=>exact .inl rfl
 have hseenk:∀ g,g∈u.map (·.1)→seen u g=A3 ob u g:=fun g hg=>by
  obtain ⟨o,ho⟩:=Rs hg
  unfold seen A3
  rw [ho]; rfl
 have hnew:∀ g,A3 ob (CO (AN [] x) u) g=if g∈AN [] x then .gone else A3 ob u g:=fun g=>by
  unfold A3
  rw [LJ]
  by_cases hm:g∈AN [] x
  ·obtain ⟨o,ho⟩:=Rs (hk g hm)
   rw [if_pos hm,if_pos hm,ho]; rfl
  ·rw [if_neg hm,if_neg hm]
 have hlive:∀ g,(A3 ob (CO (AN [] x) u) g).live→(A3 ob u g).live∧g ∉ AN [] x:=fun g hl=>by
  rw [hnew g] at hl
  by_cases hm:g∈AN [] x
  ·rw [if_pos hm] at hl; exact hl.elim
  ·rw [if_neg hm] at hl; exact ⟨hl,hm⟩
 have htch:∀ g,As (CO (AN [] x) u) g ↔ As u g:=fun g=>by unfold As; rw [H3]
 let J:Nat→Prop:=fun b=>I' b∨∃ g,g∈AN [] x∧(A3 ob u g).live∧B' g b
 refine ⟨v,J,V',B',rfl,?_,⟨⟨fun b hb=>?_,fun g hg=>?_,fun g b hg hb=>hwf'.lt g b (hlive g hg).1 hb,fun g b hg hb hJ=>?_,fun g g' b hg hg' hb hb'=>hwf'.dO g g' b (hlive g hg).1 (hlive g' hg').1 hb hb',fun g hg=>?_,hwf'.gl.keep (KeepS.refl _ _) fun _ h=>.inl h⟩,ha.os,ha.tape,ha.output,ha.size,fun b hb hno=>ha.block b hb fun g hg=>hno g ((htch g).2 hg),fun b hb=>.inl (ha.i0 b hb),fun b hb=>?_,ha.v,fun g hg=>ha.out g fun h=>hg ((htch g).2 h),fun g b hg hl hb=>?_⟩⟩
 ·exact Ix (hwf'.less hseen) (fun b hb=>.inl hb) (fun g i hi=>by cases hi) x v (fun g b hm hl hb=>.inr ⟨g,hm,by rw [←hseenk g (hk g hm)]; exact hl,hb⟩) hr
 ·rcases hb with hb | ⟨g,_,hl,hb⟩
  ·exact hwf'.ilt b hb
  ·exact hwf'.lt g b hl hb
 ·obtain ⟨h1,h2⟩:=hlive g hg
  rw [hnew g,if_neg h2]
  obtain ⟨val,h3,h4⟩:=hwf'.obj g h1
  exact ⟨val,h3,h4.keep (KeepS.refl _ _) (fun _ h=>.inl h) (VLe.refl _) fun _ _ _=>rfl⟩
 ·obtain ⟨h1,h2⟩:=hlive g hg
  rcases hJ with hJ | ⟨g',hm,hl,hb'⟩
  ·exact hwf'.dI g b h1 hb hJ
  ·rw [hwf'.dO g g' b h1 hl hb hb'] at h2
   exact h2 hm
 ·rw [hnew g] at hg
  by_cases hm:g∈AN [] x
  ·rw [if_pos hm] at hg; cases hg
  ·rw [if_neg hm] at hg; exact hwf'.fr g hg
 ·rcases hb with hb | ⟨g,hm,hl,hb⟩
  ·rcases ha.i1 b hb with h1 | h1 | ⟨g,h1,h2⟩
   ·exact .inl h1
   ·exact .inr (.inl h1)
   ·exact .inr (.inr ⟨g,(htch g).2 h1,h2⟩)
  ·rcases ha.b1 g b (hk g hm) hl hb with h1 | ⟨g0,h1,h2⟩
   ·exact .inr (.inl h1)
   ·exact .inr (.inr ⟨g0,(htch g0).2 h1,h2⟩)
 ·rcases ha.b1 g b ((htch g).1 hg) (hlive g hl).1 hb with h1 | ⟨g0,h1,h2⟩
  ·exact .inl h1
  ·exact .inr ⟨g0,(htch g0).2 h1,h2⟩
theorem Nf {P:Program} {M:FuncId→FM} {E:FEnv} (hE:Iz P E):Gg P (Ch M E):=fun ob f xs x u rd h K hK=>by
 unfold Ch at h
 cases hm:(M f).res with
 | asis=>rw [hm] at h; exact BO hE h K hK
 | frz=>rw [hm] at h; exact BO hE h K hK
 | own l=>rw [hm] at h; exact BO hE h K hK
 | tr l=>rw [hm] at h; exact BO hE h K hK
 | half l=>rw [hm] at h; exact BO hE h K hK
 | frl l=>rw [hm] at h; exact BO hE h K hK
 | late =>
  rw [hm] at h
  cases hq:Cp (M f).hand E f xs ob (reach ob 64 (Gj (M f).hand xs) []) with
  | none=>rw [hq] at h; cases h
  | some q =>
   obtain ⟨x0,u0,rd0⟩:=q
   rw [hq] at h
   have h:Rr (x0,u0,rd0)=some (x,u,rd):=h
   unfold Rr at h
   obtain ⟨h1,h2⟩:=Ao h
   simp only [zD,zH] at h2
   obtain ⟨rfl,rfl,rfl⟩:=h2
   obtain ⟨x1,u1,rd1,⟨rfl,rfl,rfl⟩,hall⟩:=BO hE hq (fun a b c=>a=x0∧b=u0∧c=rd0) ⟨rfl,rfl,rfl⟩
   exact ⟨_,_,_,hK,fun ob' h3 h4=>(hall ob' h3 fun g hg=>h4 g (by rw [H3]; exact hg)).late (Ph h1)⟩
def Kf:Nat→List Nat
 | 0=>[]
 | n+1=>Kf n++[n]
theorem VU {n g:Nat}:g∈Kf n ↔ g<n:=by
 induction n with
 | zero=>simp [Kf]
 | succ n ih=>simp [Kf,ih]; omega
theorem Ng:∀ n,(Kf n).Nodup
 | 0=>yR
 | n+1=>by
  simp only [Kf,yA,Ng n,yP,yN,not_false_eq_true,yR,true_and]
  intro a ha b hb
  simp only [zO,yN,or_false] at hb
  have:=VU.1 ha
  omega
theorem H4:∀ n,(Kf n).length=n
 | 0=>rfl
 | n+1=>by simp [Kf,H4 n]
theorem Rt:∀ {n g:Nat},g<n→(Kf n)[g]?=some g
 | 0,g,h=>absurd h (by omega)
 | n+1,g,h=>by
  simp only [Kf]
  rcases zF g n with h1 | h1
  ·rw [yK (by rw [H4]; exact h1)]
   exact Rt h1
  ·obtain rfl:g=n:=by omega
   rw [List.getElem?_append_right (by rw [H4]; omega),H4]
   simp
theorem KZ (ob:List Ob):∀ (n:Nat) (todo acc:List Nat),∃ t,reach ob n todo acc=acc++t
 | 0,_,acc=>⟨[],by simp [reach]⟩
 | n+1,[],acc=>⟨[],by simp [reach]⟩
 | n+1,g :: r,acc=>by
  simp only [reach]
  cases (Gd g acc || !(Am ob g).liveB) with
  | true=>exact KZ ob n r acc
  | false =>
   obtain ⟨t,h⟩:=KZ ob n (r++(Am ob g).refs) (acc++[g])
   exact ⟨g :: t,by simp only [cond_false,h]; simp⟩
theorem H5 (ob:List Ob):∀ (n:Nat) (todo acc:List Nat),acc.Nodup→(reach ob n todo acc).Nodup
 | 0,_,acc,h=>by simpa [reach] using h
 | n+1,[],acc,h=>by simpa [reach] using h
 | n+1,g :: r,acc,h=>by
  simp only [reach]
  cases hb:(Gd g acc || !(Am ob g).liveB) with
  | true=>exact H5 ob n r acc h
  | false =>
   refine H5 ob n _ _ ?_
   rw [Bool.or_eq_false_iff] at hb
   rw [yA]
   refine ⟨h,by simp,fun a ha b hb' e=>?_⟩
   simp only [zO,yN,or_false] at hb'
   subst hb' e
   have:=CV.2 ha
   rw [hb.1] at this; cases this
def LK (m:List Nat) (ob:List Ob):List Nat→List Ob
 | []=>[]
 | g :: r=>(match (Am ob g).back m with
  | some o=>o
  | none=>.gone) :: LK m ob r
theorem Pi {m:List Nat} {ob:List Ob}:∀ {l:List Nat},(LK m ob l).length=l.length
 | []=>rfl
 | g :: r=>by simp [LK,Pi (l:=r)]
theorem SI {σ:Nat→Nat} {x y:SV} (h:x.ren σ=y):leV σ x y:=by cases x <;> first | exact trivial | exact h
theorem VV {σ:Nat→Nat}:∀ {xs ys:List SV},SV.Hg σ xs=ys→leL σ xs ys
 | [],ys,h=>by simp only [SV.Hg] at h; subst h; trivial
 | x :: xs,ys,h=>by
  simp only [SV.Hg] at h
  subst h
  exact ⟨SI rfl,VV rfl⟩
theorem VW {m:List Nat} {p:Nat} (o:Ob):leO (sgp m p) (match o.back m with | some o'=>o' | none=>.gone) o:=by
 split
 ·rename_i o' h
  have:=Ob.back_ren (p:=p) h
  cases o' with
  | gone=>exact trivial
  | free=>cases o <;> simp [Ob.back] at h <;> (split at h <;> cases h)
  | box t l=>subst this; exact ⟨rfl,VV rfl⟩
  | row t sz es=>subst this; exact ⟨rfl,rfl,rfl⟩
  | mp ks m=>subst this; exact ⟨rfl,rfl⟩
  | it ks m seen cur=>subst this; exact ⟨rfl,rfl,rfl,rfl⟩
  | shd es=>cases o <;> simp [Ob.back] at h <;> (split at h <;> cases h)
  | tree es hs=>subst this; exact rfl
 ·trivial
theorem Ru {m:List Nat} {p:Nat} {ob:List Ob}:∀ {l:List Nat} {k:Nat},(∀ j,j<l.length→sgp m p (k+j)=l.getD j 0)→Rh (sgp m p) ob k (LK m ob l)
 | [],k,_=>trivial
 | g :: r,k,hs=>by
  have h0:=hs 0 (by simp)
  simp only [Nat.add_zero,List.getD_cons_zero] at h0
  refine ⟨by rw [h0]; exact VW _,Ru fun j hj=>?_⟩
  have:=hs (j+1) (by simpa using hj)
  simpa [Nat.add_assoc,Nat.add_comm 1 j] using this
def names (n0:Nat) (ob:List Ob) (todo:List Nat):List Nat:=reach ob 64 todo (Kf n0)
theorem Nh {n0:Nat} {ob:List Ob} {todo:List Nat} {sl sl':List SV} (h:leL (sgp (names n0 ob todo) ob.length) sl' sl):WeakC n0 (names n0 ob todo) ⟨sl,ob⟩ ⟨sl',LK (names n0 ob todo) ob (names n0 ob todo)⟩:=by
 obtain ⟨t,ht⟩:=KZ ob 64 todo (Kf n0)
 refine ⟨h,Ru fun j hj=>?_,⟨Pi.symm,H5 _ _ _ _ (Ng n0)⟩,?_⟩
 ·rw [zP,Dd,zG hj]
  simp [zZ,zG hj]
 ·have key:∀ n,n≤n0→Ri (sgp (names n0 ob todo) ob.length) n:=by
   intro n
   induction n with
   | zero=>intro _; trivial
   | succ n ih =>
    intro hn
    refine ⟨?_,ih (by omega)⟩
    have:(names n0 ob todo)[n]?=some n:=by
     unfold names
     rw [ht,yK (by rw [H4]; omega)]
     exact Rt (by omega)
    show sgp (names n0 ob todo) ob.length n=n
    rw [Dd,this]
  exact key n0 (zJ _)
section
variable {P:Program} {f:FuncId} {args:List SV} {ob:List Ob} {r:SV} {ob':List Ob}
theorem Fun.weak {r2:SV} {ob2:List Ob} {m:List Nat} (h:Fun P f args ob r ob') (hw:WeakC ob.length m ⟨[r],ob'⟩ ⟨[r2],ob2⟩):Fun P f args ob r2 ob2:=by
 intro w I V B vs hwf hvs
 refine (h w I V B vs hwf hvs).mono ?_
 rintro e w' ⟨v,I',V',B',rfl,hr,hp⟩
 refine ⟨v,I',fun g=>V' (sgp m ob'.length g),fun g=>B' (sgp m ob'.length g),rfl,?_,⟨hp.fr,hp.i0,hp.i1,fun g u hu=>?_,hw.wf hp.wf,fun g b hl hb=>?_⟩⟩
 ·have h1:=hw.1
  simp only [leL] at h1
  exact Iu h1.1 hr
 ·have hg:g<ob.length:=by
   rcases zF g ob.length with h1 | h1
   ·exact h1
   ·rw [hwf.fr g (A5 _ _ h1)] at hu; cases hu
  rw [EB hw.2.2.2 g hg]
  exact hp.v g u hu
 ·have hlt:g<ob2.length:=by
   rcases zF g ob2.length with h1 | h1
   ·exact h1
   ·rw [A5 _ _ h1] at hl; exact hl.elim
  have h1:=Do (j:=g) hw.2.1 hlt
  rw [zP] at h1
  exact hp.bh _ b (CU h1 hl) hb
end
def gc (n0:Nat) (r:SV) (ob:List Ob):Option (SV × List Ob) :=
 match r.back (names n0 ob r.refs) with
 | some r'=>some (r',LK (names n0 ob r.refs) ob (names n0 ob r.refs))
 | none=>none
theorem I4 {n0:Nat} {r r':SV} {ob ob':List Ob} (h:gc n0 r ob=some (r',ob')):WeakC n0 (names n0 ob r.refs) ⟨[r],ob⟩ ⟨[r'],ob'⟩:=by
 unfold gc at h
 split at h
 ·rename_i r1 h1
  simp only [zD,zH] at h
  obtain ⟨rfl,rfl⟩:=h
  exact Nh ⟨SI (SV.back_ren h1),trivial⟩
 ·cases h
def EI (gs:List Nat):Nat→List Ob→List Ob
 | _,[]=>[]
 | k,o :: r=>(bif Gd k gs then .gone else o) :: EI gs (k+1) r
theorem Ni {gs:List Nat}:∀ {l:List Ob} {k j:Nat},Am (EI gs k l) j=if j<l.length∧k+j∈gs then .gone else Am l j
 | [],k,j=>by simp [EI,Am]
 | o :: r,k,0=>by
  simp only [EI,Am,zQ,Nat.zero_lt_succ,true_and,Nat.add_zero]
  by_cases h:k∈gs
  ·rw [if_pos h,CV.2 h]; rfl
  ·have:Gd k gs=false:=by
    cases e:Gd k gs with
    | false=>rfl
    | true=>exact absurd (CV.1 e) h
   rw [if_neg h,this]; rfl
 | o :: r,k,j+1=>by
  simp only [EI,Am,zQ,zT]
  rw [Ni (l:=r) (k:=k+1) (j:=j),show k+1+j=k+(j+1) by omega]
section
variable {P:Program} {f:FuncId} {args:List SV} {ob:List Ob} {r:SV} {ob':List Ob}
theorem Fun.give (h:Fun P f args ob r ob'):Fun P f args ob (BI (Am ob') [] r) (EI (AN [] r) 0 ob'):=by
 intro w I V B vs hwf hvs
 refine (h w I V B vs hwf hvs).mono ?_
 rintro e w' ⟨v,I',V',B',rfl,hr,hp⟩
 have hwf':=hp.wf
 let J:Nat→Prop:=fun b=>I' b∨∃ g,g∈AN [] r∧(Am ob' g).live∧B' g b
 have hg:∀ g,Am (EI (AN [] r) 0 ob') g=if g<ob'.length∧g∈AN [] r then .gone else Am ob' g:=fun g=>by
  rw [Ni,zP]
 have hlv:∀ g,(Am (EI (AN [] r) 0 ob') g).live→(Am ob' g).live∧¬ g∈AN [] r:=fun g hl=>by
  rw [hg g] at hl
  split at hl
  ·exact hl.elim
  ·rename_i hn
   refine ⟨hl,fun hm=>hn ⟨?_,hm⟩⟩
   rcases zF g ob'.length with h1 | h1
   ·exact h1
   ·rw [A5 _ _ h1] at hl; exact hl.elim
 refine ⟨v,J,V',B',rfl,?_,⟨hp.fr,fun b hb=>.inl (hp.i0 b hb),fun b hb=>?_,hp.v,?_,fun g b hl hb=>hp.bh g b (hlv g hl).1 hb⟩⟩
 ·exact Ix hwf' (fun b hb=>.inl hb) (fun g i hi=>by cases hi) r v (fun g b hm hl hb=>.inr ⟨g,hm,hl,hb⟩) hr
 ·rcases hb with hb | ⟨g,hm,hl,hb⟩
  ·exact hp.i1 b hb
  ·exact .inr ((hp.bh g b hl hb).symm)
 ·refine hwf'.upd (w':=w') (fun g=>g∈AN [] r) (zJ _) (fun _ _ _=>rfl) (fun b hb=>.inl hb) (VLe.refl _) (fun g hn=>⟨by rw [hg g,if_neg fun h=>hn h.2],rfl,fun hf=>hwf'.fr g hf⟩) (fun b hb=>?_) (fun b hb=>?_) (fun g hm hl=>absurd hm (hlv g hl).2) (fun g b hm hl=>absurd hm (hlv g hl).2) (fun g b hm hl=>absurd hm (hlv g hl).2) (fun g g' b hm hm' hl=>absurd hm (hlv g hl).2) (fun g hm hf=>?_)
  ·rcases hb with hb | ⟨g,hm,hl,hb⟩
   ·exact .inl hb
   ·exact .inr (.inr ⟨g,hm,hl,hb⟩)
  ·rcases hb with hb | ⟨g,hm,hl,hb⟩
   ·exact hwf'.ilt b hb
   ·exact hwf'.lt g b hl hb
  ·rw [hg g] at hf
   split at hf
   ·cases hf
   ·exact hwf'.fr g hf
end
mutual
def SV.own (n:Nat) (l:List (Option (Nat × Nat))):SV→SV × List Ob × List (Option (Nat × Nat))
 | .agg xs=>match SV.Qh n l xs with
  | (ys,os,l')=>(.agg ys,os,l')
 | .tup xs=>match SV.Qh n l xs with
  | (ys,os,l')=>(.tup ys,os,l')
 | .nil=>match l with
  | some (t,sz) :: l'=>(.ref n,[.row t sz []],l')
  | _ :: l'=>(.nil,[],l')
  | []=>(.nil,[],[])
 | .any=>(.any,[],l.drop 1)
 | .int k m=>(.int k m,[],l.drop 1)
 | .bool b=>(.bool b,[],l.drop 1)
 | .str s=>(.str s,[],l.drop 1)
 | .arr es=>(.arr es,[],l.drop 1)
 | .ref g=>(.ref g,[],l.drop 1)
 | .ptr g o=>(.ptr g o,[],l.drop 1)
 | .eptr g sz k o=>(.eptr g sz k o,[],l.drop 1)
 | .vptr es k o=>(.vptr es k o,[],l.drop 1)
 | .mp ks m=>(.mp ks m,[],l.drop 1)
 | .fn f caps=>(.fn f caps,[],l.drop 1)
def SV.Qh (n:Nat) (l:List (Option (Nat × Nat))):List SV→List SV × List Ob × List (Option (Nat × Nat))
 | []=>([],[],l)
 | x :: r=>match SV.own n l x with
  | (y,os,l1)=>match SV.Qh (n+os.length) l1 r with
   | (ys,os',l2)=>(y :: ys,os++os',l2)
end
def More (w:World) (I:Nat→Prop) (V:Nat→Option Value) (B:Nat→Nat→Prop) (ob:List Ob) (V':Nat→Option Value) (B':Nat→Nat→Prop) (ob':List Ob):Prop :=
 Wf w I V' B' (Am ob')∧VLe V V'∧(∀ g,g<ob.length→Am ob' g=Am ob g∧B' g=B g)∧(∀ g b,ob.length≤g→¬ B' g b)
theorem More.refl {w:World} {I:Nat→Prop} {V:Nat→Option Value} {B:Nat→Nat→Prop} {ob:List Ob} (h:Wf w I V B (Am ob)):∃ B',More w I V B ob V B' ob:=by
 have lt:∀ g,(Am ob g).live→g<ob.length:=fun g hl=>by
  rcases zF g ob.length with h1 | h1
  ·exact h1
  ·rw [A5 _ _ h1] at hl; exact hl.elim
 refine ⟨fun g=>if g<ob.length then B g else fun _=>False,⟨h.ilt,fun g hl=>?_,fun g b hl hb=>?_,fun g b hl hb=>?_,fun g g' b hl hl' hb hb'=>?_,h.fr,h.gl⟩,VLe.refl _,fun g hg=>⟨rfl,if_pos hg⟩,fun g b hg hb=>by simp only [if_neg (show ¬ g<ob.length by omega)] at hb⟩
 ·obtain ⟨val,h1,h2⟩:=h.obj g hl
  exact ⟨val,h1,by simp only [if_pos (lt g hl)]; exact h2⟩
 ·simp only [if_pos (lt g hl)] at hb; exact h.lt g b hl hb
 ·simp only [if_pos (lt g hl)] at hb; exact h.dI g b hl hb
 ·simp only [if_pos (lt g hl)] at hb
  simp only [if_pos (lt g' hl')] at hb'
  exact h.dO g g' b hl hl' hb hb'
theorem U7 (ob:List Ob) (o:Ob):Am (ob++[o]) ob.length=o:=by rw [Kb]; simp [Am]
theorem More.one {w:World} {I:Nat→Prop} {V:Nat→Option Value} {B:Nat→Nat→Prop} {ob:List Ob} (h:Wf w I V B (Am ob)) (t sz:Nat):∃ V' B',More w I V B ob V' B' (ob++[.row t sz []])∧V' ob.length=some (.slice none 0 0):=by
 have hn:V ob.length=none:=h.fr _ (A5 _ _ (zJ _))
 have e:∀ g,g≠ob.length→Am (ob++[Ob.row t sz []]) g=Am ob g:=fun g hg=>by
  rw [Kb]
  split
  ·rfl
  ·rename_i h1
   rw [A5 ob g (by omega)]
   obtain ⟨q,hq⟩:∃ q,g-ob.length=q+1:=⟨g-ob.length-1,by omega⟩
   rw [hq]; rfl
 have e0:=U7 ob (.row t sz [])
 have lt:∀ g,(Am (ob++[Ob.row t sz []]) g).live→g=ob.length∨(g<ob.length∧(Am ob g).live):=fun g hl=>by
  by_cases hg:g=ob.length
  ·exact .inl hg
  ·rw [e g hg] at hl
   refine .inr ⟨?_,hl⟩
   rcases zF g ob.length with h1 | h1
   ·exact h1
   ·rw [A5 _ _ h1] at hl; exact hl.elim
 refine ⟨fun g=>if g=ob.length then some (.slice none 0 0) else V g,fun g=>if g<ob.length then B g else fun _=>False,⟨⟨h.ilt,fun g hl=>?_,fun g b hl hb=>?_,fun g b hl hb=>?_,fun g g' b hl hl' hb hb'=>?_,fun g hf=>?_,h.gl⟩,fun g u hu=>?_,fun g hg=>⟨e g (by omega),if_pos hg⟩,fun g b hg hb=>by simp only [if_neg (show ¬ g<ob.length by omega)] at hb⟩,if_pos rfl⟩
 ·rcases lt g hl with rfl | ⟨h1,h2⟩
  ·refine ⟨_,if_pos rfl,?_⟩
   rw [e0]
   exact RowR.nil _ _ _ _ _
  ·obtain ⟨val,h3,h4⟩:=h.obj g h2
   refine ⟨val,by simp only [if_neg (show ¬ g=ob.length by omega)]; exact h3,?_⟩
   rw [e g (by omega)]
   simp only [if_pos h1]
   refine h4.keep ⟨zJ _,fun _ _ _=>rfl⟩ (fun _ h=>h) (fun g u hu=>?_) fun _ _ _=>rfl
   by_cases hg:g=ob.length
   ·subst hg; rw [hn] at hu; cases hu
   ·simp only [if_neg hg]; exact hu
 ·rcases lt g hl with rfl | ⟨h1,h2⟩
  ·simp at hb
  ·simp only [if_pos h1] at hb; exact h.lt g b h2 hb
 ·rcases lt g hl with rfl | ⟨h1,h2⟩
  ·simp at hb
  ·simp only [if_pos h1] at hb; exact h.dI g b h2 hb
 ·rcases lt g hl with rfl | ⟨h1,h2⟩
  ·simp at hb
  ·rcases lt g' hl' with rfl | ⟨h1',h2'⟩
   ·simp at hb'
   ·simp only [if_pos h1] at hb
    simp only [if_pos h1'] at hb'
    exact h.dO g g' b h2 h2' hb hb'
 ·have hg:g≠ob.length:=fun hg=>by subst hg; rw [e0] at hf; cases hf
  simp only [if_neg hg]
  rw [e g hg] at hf
  exact h.fr g hf
 ·by_cases hg:g=ob.length
  ·subst hg; rw [hn] at hu; cases hu
  ·simp only [if_neg hg]; exact hu
theorem More.trans {w:World} {I:Nat→Prop} {V V1 V2:Nat→Option Value} {B B1 B2:Nat→Nat→Prop} {ob ob1 ob2:List Ob} (h:More w I V B ob V1 B1 ob1) (k:More w I V1 B1 ob1 V2 B2 ob2) (hl:ob.length≤ob1.length):More w I V B ob V2 B2 ob2:=by
 refine ⟨k.1,h.2.1.trans k.2.1,fun g hg=>?_,fun g b hg hb=>?_⟩
 ·have h1:=h.2.2.1 g hg
  have h2:=k.2.2.1 g (by omega)
  exact ⟨h2.1.trans h1.1,h2.2.trans h1.2⟩
 ·rcases zF g ob1.length with h1 | h1
  ·rw [(k.2.2.1 g h1).2] at hb; exact h.2.2.2 g b hg hb
  ·exact k.2.2.2 g b h1 hb
section
variable {w:World} {I:Nat→Prop}
mutual
theorem SV.TR:∀ (x:SV) (n:Nat) (l:List (Option (Nat × Nat))) (V:Nat→Option Value) (B:Nat→Nat→Prop) (ob:List Ob) (v:Value),n=ob.length→Wf w I V B (Am ob)→RepV w I V x v→∃ V' B',More w I V B ob V' B' (ob++(SV.own n l x).2.1)∧RepV w I V' (SV.own n l x).1 v
 | .agg xs,n,l,V,B,ob,v,hn,hwf,h=>by
  simp only [RepV] at h
  obtain ⟨vs,rfl,h⟩:=h
  obtain ⟨V',B',h1,h2⟩:=SV.Nj xs n l V B ob vs hn hwf h
  refine ⟨V',B',by simpa only [SV.own] using h1,?_⟩
  simp only [SV.own,RepV]
  exact ⟨vs,rfl,h2⟩
 | .tup xs,n,l,V,B,ob,v,hn,hwf,h=>by
  simp only [RepV] at h
  obtain ⟨vs,rfl,h⟩:=h
  obtain ⟨V',B',h1,h2⟩:=SV.Nj xs n l V B ob vs hn hwf h
  refine ⟨V',B',by simpa only [SV.own] using h1,?_⟩
  simp only [SV.own,RepV]
  exact ⟨vs,rfl,h2⟩
 | .nil,n,l,V,B,ob,v,hn,hwf,h=>by
  have nil:∃ V' B',More w I V B ob V' B' (ob++[])∧RepV w I V' .nil v:=by
   obtain ⟨B',hm⟩:=More.refl hwf
   exact ⟨V,B',by rw [zK]; exact hm,h⟩
  match l with
  | some (t,sz) :: l' =>
   obtain ⟨V',B',h1,h2⟩:=More.one hwf t sz
   refine ⟨V',B',h1,?_⟩
   simp only [RepV] at h
   subst h hn
   simp only [SV.own,RepV]
   exact ⟨h2,rfl⟩
  | none :: l'=>exact nil
  | []=>exact nil
 | .any,n,l,V,B,ob,v,hn,hwf,h=>by obtain ⟨B',hm⟩:=More.refl hwf; exact ⟨V,B',by simp only [SV.own,zK]; exact hm,h⟩
 | .int _ _,n,l,V,B,ob,v,hn,hwf,h=>by obtain ⟨B',hm⟩:=More.refl hwf; exact ⟨V,B',by simp only [SV.own,zK]; exact hm,h⟩
 | .bool _,n,l,V,B,ob,v,hn,hwf,h=>by obtain ⟨B',hm⟩:=More.refl hwf; exact ⟨V,B',by simp only [SV.own,zK]; exact hm,h⟩
 | .str _,n,l,V,B,ob,v,hn,hwf,h=>by obtain ⟨B',hm⟩:=More.refl hwf; exact ⟨V,B',by simp only [SV.own,zK]; exact hm,h⟩
 | .arr _,n,l,V,B,ob,v,hn,hwf,h=>by obtain ⟨B',hm⟩:=More.refl hwf; exact ⟨V,B',by simp only [SV.own,zK]; exact hm,h⟩
 | .ref _,n,l,V,B,ob,v,hn,hwf,h=>by obtain ⟨B',hm⟩:=More.refl hwf; exact ⟨V,B',by simp only [SV.own,zK]; exact hm,h⟩
 | .ptr _ _,n,l,V,B,ob,v,hn,hwf,h=>by obtain ⟨B',hm⟩:=More.refl hwf; exact ⟨V,B',by simp only [SV.own,zK]; exact hm,h⟩
 | .eptr _ _ _ _,n,l,V,B,ob,v,hn,hwf,h=>by obtain ⟨B',hm⟩:=More.refl hwf; exact ⟨V,B',by simp only [SV.own,zK]; exact hm,h⟩
 | .vptr _ _ _,n,l,V,B,ob,v,hn,hwf,h=>by obtain ⟨B',hm⟩:=More.refl hwf; exact ⟨V,B',by simp only [SV.own,zK]; exact hm,h⟩
 | .mp _ _,n,l,V,B,ob,v,hn,hwf,h=>by obtain ⟨B',hm⟩:=More.refl hwf; exact ⟨V,B',by simp only [SV.own,zK]; exact hm,h⟩
 | .fn _ _,n,l,V,B,ob,v,hn,hwf,h=>by obtain ⟨B',hm⟩:=More.refl hwf; exact ⟨V,B',by simp only [SV.own,zK]; exact hm,h⟩
theorem SV.Nj:∀ (xs:List SV) (n:Nat) (l:List (Option (Nat × Nat))) (V:Nat→Option Value) (B:Nat→Nat→Prop) (ob:List Ob) (vs:List Value),n=ob.length→Wf w I V B (Am ob)→RepVs w I V xs vs→∃ V' B',More w I V B ob V' B' (ob++(SV.Qh n l xs).2.1)∧RepVs w I V' (SV.Qh n l xs).1 vs
 | [],n,l,V,B,ob,vs,hn,hwf,h=>by obtain ⟨B',hm⟩:=More.refl hwf; exact ⟨V,B',by simp only [SV.Qh,zK]; exact hm,h⟩
 | x :: xs,n,l,V,B,ob,vs,hn,hwf,h=>by
  simp only [RepVs] at h
  obtain ⟨v,us,rfl,h1,h2⟩:=h
  obtain ⟨V1,B1,m1,r1⟩:=SV.TR x n l V B ob v hn hwf h1
  have h2':=RepVs.mono (w':=w) (I':=I) (V':=V1) ⟨zJ _,fun _ _ _=>rfl⟩ (fun _ h=>h) m1.2.1 xs us h2
  obtain ⟨V2,B2,m2,r2⟩:=SV.Nj xs (n+(SV.own n l x).2.1.length) (SV.own n l x).2.2 V1 B1 (ob++(SV.own n l x).2.1) us (by rw [yJ,hn]) m1.1 h2'
  refine ⟨V2,B2,?_,?_⟩
  ·have:=m1.trans m2 (by simp)
   simpa only [SV.Qh,yL] using this
  ·simp only [SV.Qh,RepVs]
   exact ⟨v,us,rfl,RepV.mono (w':=w) (I':=I) (V':=V2) ⟨zJ _,fun _ _ _=>rfl⟩ (fun _ h=>h) m2.2.1 _ _ r1,r2⟩
end
end
section
variable {P:Program} {f:FuncId} {args:List SV} {ob:List Ob} {r:SV} {ob':List Ob}
theorem Fun.rows (h:Fun P f args ob r ob') (l:List (Option (Nat × Nat))):Fun P f args ob (SV.own ob'.length l r).1 (ob'++(SV.own ob'.length l r).2.1):=by
 intro w I V B vs hwf hvs
 refine (h w I V B vs hwf hvs).mono ?_
 rintro e w' ⟨v,I',V',B',rfl,hr,hp⟩
 obtain ⟨V2,B2,hm,hr2⟩:=SV.TR r ob'.length l V' B' ob' v rfl hp.wf hr
 refine ⟨v,I',V2,B2,rfl,hr2,⟨hp.fr,hp.i0,hp.i1,hp.v.trans hm.2.1,hm.1,fun g b hl hb=>?_⟩⟩
 rcases zF g ob'.length with h1 | h1
 ·obtain ⟨e1,e2⟩:=hm.2.2.1 g h1
  rw [e1] at hl
  rw [e2] at hb
  exact hp.bh g b hl hb
 ·exact absurd hb (hm.2.2.2 g b h1)
end
def toTree:List Ob→List Ob
 | []=>[]
 | .row _ _ es :: r=>.tree es [] :: toTree r
 | .box t l :: r=>.box t l :: toTree r
 | .tree es hs :: r=>.tree es hs :: toTree r
 | .gone :: r=>.gone :: toTree r
 | .mp ks m :: r=>.mp ks m :: toTree r
 | .it ks m seen cur :: r=>.it ks m seen cur :: toTree r
 | .shd es :: r=>.shd es :: toTree r
 | .free :: r=>.free :: toTree r
theorem EJ:∀ l,(toTree l).length=l.length
 | []=>rfl
 | o :: r=>by cases o <;> simp [toTree,EJ r]
theorem GC:∀ (l:List Ob) (g:Nat),Am (toTree l) g=match Am l g with | .row _ _ es=>.tree es [] | o=>o
 | [],g=>rfl
 | o :: r,0=>by cases o <;> rfl
 | o :: r,g+1=>by cases o <;> simp only [toTree,Am] <;> exact GC r g
theorem Ci {l:List Ob} {g:Nat}:(Am (toTree l) g).live ↔ (Am l g).live:=by
 rw [GC]
 cases Am l g <;> exact Iff.rfl
theorem Wf.tree {w:World} {I:Nat→Prop} {V:Nat→Option Value} {B:Nat→Nat→Prop} {ob:List Ob} (hwf:Wf w I V B (Am ob)):Wf w I V B (Am (toTree ob)):=by
 refine ⟨hwf.ilt,fun g hl=>?_,fun g b hl hb=>hwf.lt g b (Ci.1 hl) hb,fun g b hl hb=>hwf.dI g b (Ci.1 hl) hb,fun g g' b hl hl' hb hb'=>hwf.dO g g' b (Ci.1 hl) (Ci.1 hl') hb hb',fun g hf=>?_,hwf.gl⟩
 ·obtain ⟨val,h1,h2⟩:=hwf.obj g (Ci.1 hl)
  refine ⟨val,h1,?_⟩
  rw [GC]
  cases hg:Am ob g <;> rw [hg] at h2 <;> first | exact h2 | exact ⟨_,_,h2,fun q hq=>by cases hq⟩
 ·refine hwf.fr g ?_
  rw [GC] at hf
  cases hg:Am ob g <;> rw [hg] at hf <;> first | rfl | cases hf
theorem Fun.trees {P:Program} {f:FuncId} {args:List SV} {ob:List Ob} {r:SV} {ob':List Ob} (h:Fun P f args ob r ob'):Fun P f args ob r (toTree ob'):=by
 intro w I V B vs hwf hvs
 refine (h w I V B vs hwf hvs).mono ?_
 rintro e w' ⟨v,I',V',B',he,hr,hp⟩
 exact ⟨v,I',V',B',he,hr,⟨hp.fr,hp.i0,hp.i1,hp.v,hp.wf.tree,fun g b hl hb=>hp.bh g b (Ci.1 hl) hb⟩⟩
theorem Fun.tree {P:Program} {f:FuncId} {args:List SV} {ob:List Ob} {r:SV} {ob':List Ob} (h:Fun P f args (toTree ob) r ob'):Fun P f args ob r ob':=by
 intro w I V B vs hwf hvs
 have hwf':Wf w I V B (Am (toTree ob)):=hwf.tree
 have hHB:∀ b,HB B (toTree ob) b ↔ HB B ob b:=fun b=>⟨fun ⟨g,hl,hb⟩=>⟨g,Ci.1 hl,hb⟩,fun ⟨g,hl,hb⟩=>⟨g,Ci.2 hl,hb⟩⟩
 refine (h w I V B vs hwf' hvs).mono ?_
 rintro e w' ⟨v,I',V',B',he,hr,hp⟩
 exact ⟨v,I',V',B',he,hr,⟨⟨hp.fr.os,hp.fr.tape,hp.fr.output,hp.fr.size,fun b hb hn=>hp.fr.block b hb fun h=>hn ((hHB b).1 h)⟩,hp.i0,fun b hb=>(hp.i1 b hb).imp id (fun h=>h.imp id (hHB b).1),hp.v,hp.wf,fun g b hl hb=>(hp.bh g b hl hb).imp (hHB b).1 id⟩⟩
def OT.half:OT→OT
 | .ow es=>.sh (OT.erss es)
 | .int n=>.int n
 | .byte n=>.byte n
 | .bool b=>.bool b
 | .str s=>.str s
 | .sh es=>.sh es
 | .hole=>.hole
def OT.Rv:List OT→List OT
 | []=>[]
 | x :: r=>OT.half x :: OT.Rv r
def OT.GD:List (List OT)→List (List OT)
 | []=>[]
 | x :: r=>OT.Rv x :: OT.GD r
theorem OT.Pj:∀ l:List OT,OT.Rv l=l.map OT.half
 | []=>rfl
 | x :: r=>by simp [OT.Rv,OT.Pj r]
theorem OT.J4:∀ l:List (List OT),OT.GD l=l.map (·.map OT.half)
 | []=>rfl
 | x :: r=>by simp [OT.GD,OT.J4 r,OT.Pj]
def IS:Ob→Ob
 | .row t sz es=>bif OT.A2 es then .row t sz (OT.GD es) else .row t sz es
 | .free=>.free
 | .gone=>.gone
 | .box t l=>.box t l
 | .tree es hs=>.tree es hs
 | .mp ks m=>.mp ks m
 | .it ks m seen cur=>.it ks m seen cur
 | .shd es=>.shd es
def Es:Nat→List Ob→List Ob
 | _,[]=>[]
 | 0,o :: r=>IS o :: Es 0 r
 | n+1,o :: r=>o :: Es n r
theorem DE:∀ (l:List Ob) (n g:Nat),Am (Es n l) g=if n≤g then IS (Am l g) else Am l g
 | [],n,g=>by
  have:Es n []=[]:=by cases n <;> rfl
  rw [this]
  show Ob.free=if n≤g then IS .free else .free
  split <;> rfl
 | o :: r,0,0=>by simp [Es,Am]
 | o :: r,0,g+1=>by
  have:=DE r 0 g
  simp only [Es,Am,Nat.zero_le,if_true] at this ⊢
  exact this
 | o :: r,n+1,0=>by simp [Es,Am]
 | o :: r,n+1,g+1=>by
  have:=DE r n g
  simp only [Es,Am,Nat.add_le_add_iff_right] at this ⊢
  exact this
theorem Nk {o:Ob}:(IS o).live ↔ o.live:=by
 cases o <;> first | exact Iff.rfl | (simp only [IS]; cases OT.A2 _ <;> exact Iff.rfl)
theorem ORep.half {w:World} {I S T:Nat→Prop} {o:OT} {v:Value} (h:ORep w I S o v) (hS:∀ b,S b→T b) (hI:∀ b,I b→T b) (hf:o.full=true):ORep w T (fun _=>False) o.half v:=by
 cases o with
 | int n=>cases h; exact .int _ _
 | byte n=>cases h; exact .byte _ _
 | bool b=>cases h; exact .bool _ _
 | str s=>cases h with | str _ _ hs=>exact .str _ _ hs
 | sh es=>cases h with | sh _ _ _ hs=>exact .sh _ _ _ (hs.up hI)
 | hole=>cases hf
 | ow es=>exact .sh _ _ _ (h.er hS hI hf)
theorem Wf.half {w:World} {I:Nat→Prop} {V:Nat→Option Value} {B:Nat→Nat→Prop} {ob:List Ob} (hwf:Wf w I V B (Am ob)) (n:Nat) :
  ∃ (I':Nat→Prop) (B':Nat→Nat→Prop),Wf w I' V B' (Am (Es n ob))∧(∀ b,I b→I' b)∧(∀ b,I' b→I b∨∃ g,(Am ob g).live∧B g b)∧∀ g b,B' g b→B g b:=by
 classical
 obtain ⟨out,hout⟩:∃ out:Nat→Nat→Prop,out=fun g b=>∃ m c,V g=some (.slice (some ⟨b,0,none⟩) m c):=⟨_,rfl⟩
 obtain ⟨isH,hH⟩:∃ isH:Nat→Prop,isH=fun g=>n≤g∧∃ t sz es,Am ob g=.row t sz es∧OT.A2 es=true:=⟨_,rfl⟩
 have lv:∀ g,(Am (Es n ob) g).live ↔ (Am ob g).live:=fun g=>by
  rw [DE]
  split
  ·exact Nk
  ·exact Iff.rfl
 have Hl:∀ g,isH g→(Am ob g).live:=fun g h=>by
  rw [hH] at h
  obtain ⟨_,t,sz,es,e,_⟩:=h
  rw [e]; trivial
 have Bn:∀ g,¬ isH g→(fun b=>B g b∧(isH g→out g b))=B g:=fun g h=>by
  funext b
  exact propext ⟨fun x=>x.1,fun x=>⟨x,fun h'=>absurd h' h⟩⟩
 refine ⟨fun b=>I b∨∃ g,isH g∧B g b∧¬ out g b,fun g b=>B g b∧(isH g→out g b),⟨fun b hb=>?_,fun g hl=>?_,fun g b hl hb=>hwf.lt g b ((lv g).1 hl) hb.1,fun g b hl hb hI=>?_,fun g g' b hl hl' hb hb'=>hwf.dO g g' b ((lv g).1 hl) ((lv g').1 hl') hb.1 hb'.1,fun g hf=>?_,hwf.gl.keep (KeepS.refl _ _) fun _ h=>.inl h⟩,fun _ h=>.inl h,fun b hb=>?_,fun _ _ h=>h.1⟩
 ·rcases hb with hb | ⟨g,h1,h2,_⟩
  ·exact hwf.ilt b hb
  ·exact hwf.lt g b (Hl g h1) h2
 ·obtain ⟨val,h1,h2⟩:=hwf.obj g ((lv g).1 hl)
  refine ⟨val,h1,?_⟩
  by_cases hg:isH g
  ·have hg':=hg
   rw [hH] at hg'
   obtain ⟨hn,t,sz,es,e,hf⟩:=hg'
   rw [e] at h2
   have h2:RowR w I (B g) t sz es val:=h2
   rw [DE,if_pos hn,e]
   simp only [IS,hf,cond_true]
   show RowR _ _ _ _ _ _ _
   rcases h2 with ⟨rfl,rfl⟩ | ⟨b,cap,cur,Sub,rfl,hS,hb,g1,g2,g3,g4,g5,g6,g7⟩
   ·exact .inl ⟨rfl,rfl⟩
   ·have hlen:(OT.GD es).length=es.length:=by rw [OT.J4,yQ]
    have hob:out g b:=by rw [hout]; exact ⟨_,_,h1⟩
    have hou:∀ x,out g x→x=b:=fun x hx=>by
     rw [hout] at hx
     obtain ⟨m,c,hx⟩:=hx
     rw [h1] at hx
     injection hx with hx
     injection hx with hx
     injection hx with hx
     injection hx with hx
     exact hx.symm
    have get:∀ i (hi:i<es.length) (hi':i<(OT.GD es).length),(OT.GD es)[i]=es[i].map OT.half:=fun i hi hi'=>by
     simp only [OT.J4,List.getElem_map]
    refine .inr ⟨b,cap,cur,fun _ _ _=>False,by rw [hlen],⟨hS,fun _=>hob⟩,hb,by rw [hlen]; exact g1,g2,g3,fun i hi=>?_,fun _ _ _ h=>h.elim,fun _ _ _ _ _ h=>h.elim,fun i j hi hj=>?_⟩
    ·rw [get i (by omega) hi,yQ]; exact g4 i (by omega)
    ·have hi2:i<es.length:=by omega
     have e2:=get i hi2 hi
     have hj2:j<es[i].length:=by rw [e2,yQ] at hj; exact hj
     have e3:(OT.GD es)[i][j]=(es[i][j]).half:=by simp only [e2,List.getElem_map]
     rw [e3]
     refine (g7 i j hi2 hj2).half (fun x hx=>.inr ⟨g,hg,(g5 i j x hx).1,fun ho=>(g5 i j x hx).2 (hou x ho)⟩) (fun x hx=>.inl hx) ?_
     exact OT.KN (OT.Ju hf es[i] (zS hi2)) _ (zS hj2)
  ·have e:Am (Es n ob) g=Am ob g:=by
    rw [DE]
    split
    ·rename_i hn
     cases ho:Am ob g with
     | row t sz es =>
      cases hf:OT.A2 es with
      | true=>exact absurd (by rw [hH]; exact ⟨hn,t,sz,es,ho,hf⟩) hg
      | false=>simp only [IS,hf,cond_false]
     | _=>rfl
    ·rfl
   rw [e,Bn g hg]
   exact ObR.keep h2 (KeepS.refl _ _) (fun _ h=>.inl h) (VLe.refl _) fun _ _ _=>rfl
 ·rcases hI with hI | ⟨g0,k1,k2,k3⟩
  ·exact hwf.dI g b ((lv g).1 hl) hb.1 hI
  ·obtain rfl:=hwf.dO g g0 b ((lv g).1 hl) (Hl g0 k1) hb.1 k2
   exact k3 (hb.2 k1)
 ·refine hwf.fr g ?_
  rw [DE] at hf
  split at hf
  ·cases ho:Am ob g <;> rw [ho] at hf <;> first | rfl | cases hf | (simp only [IS] at hf; cases OT.A2 _ <;> cases hf) | skip
   rename_i t sz es
   simp only [IS] at hf
   cases h:OT.A2 es <;> rw [h] at hf <;> cases hf
  ·exact hf
 ·rcases hb with hb | ⟨g,h1,h2,_⟩
  ·exact .inl hb
  ·exact .inr ⟨g,Hl g h1,h2⟩
theorem Fun.half {P:Program} {f:FuncId} {args:List SV} {ob:List Ob} {r:SV} {ob':List Ob} (h:Fun P f args ob r ob') (n:Nat):Fun P f args ob r (Es n ob'):=by
 intro w I V B vs hwf hvs
 refine (h w I V B vs hwf hvs).mono ?_
 rintro e w' ⟨v,I',V',B',he,hr,hp⟩
 obtain ⟨I2,B2,k1,k2,k3,k4⟩:=hp.wf.half n
 have lv:∀ g,(Am (Es n ob') g).live→(Am ob' g).live:=fun g hl=>by
  rw [DE] at hl
  split at hl
  ·exact Nk.1 hl
  ·exact hl
 refine ⟨v,I2,V',B2,he,RepV.mono (KeepS.refl _ _) k2 (VLe.refl _) _ _ hr,⟨hp.fr,fun b hb=>k2 b (hp.i0 b hb),fun b hb=>?_,hp.v,k1,fun g b hl hb=>hp.bh g b (lv g hl) (k4 g b hb)⟩⟩
 rcases k3 b hb with hb | ⟨g,h1,h2⟩
 ·exact hp.i1 b hb
 ·exact .inr ((hp.bh g b h1 h2).symm)
def order (res:RM) (n0:Nat) (r:SV) (ob:List Ob):Option (SV × List Ob) :=
 match res with
 | .asis=>some (r,ob)
 | .late=>some (r,ob)
 | .frz=>gc n0 (BI (Am ob) [] r) (EI (AN [] r) 0 ob)
 | .frl _=>gc n0 (BI (Am ob) [] r) (EI (AN [] r) 0 ob)
 | .own l=>match SV.own ob.length l r with
  | (r',os,_)=>bif os.isEmpty then some (r,ob) else gc n0 r' (ob++os)
 | .half l=>match SV.own ob.length l r with
  | (r',os,_)=>bif os.isEmpty then some (r,Es n0 ob) else match gc n0 r' (ob++os) with
   | some (r2,ob2)=>some (r2,Es n0 ob2)
   | none=>none
 | .tr l=>match SV.own ob.length l r with
  | (r',os,_)=>bif os.isEmpty then some (r,toTree ob) else match gc n0 r' (ob++os) with
   | some (r2,ob2)=>some (r2,toTree ob2)
   | none=>none
theorem Pk {P:Program} {f:FuncId} {args:List SV} {ob ob1 ob2:List Ob} {r r2:SV} {res:RM} (h:Fun P f args ob r ob1) (ho:order res ob.length r ob1=some (r2,ob2)):Fun P f args ob r2 ob2:=by
 unfold order at ho
 split at ho
 ·simp only [zD,zH] at ho
  obtain ⟨rfl,rfl⟩:=ho
  exact h
 ·simp only [zD,zH] at ho
  obtain ⟨rfl,rfl⟩:=ho
  exact h
 ·exact h.give.weak (I4 ho)
 ·exact h.give.weak (I4 ho)
 ·rename_i l
  split at ho
  rename_i r' os l' he
  cases hb:os.isEmpty with
  | true =>
   rw [hb] at ho
   simp only [cond_true,zD,zH] at ho
   obtain ⟨rfl,rfl⟩:=ho
   exact h
  | false =>
   rw [hb] at ho
   have:=h.rows l
   rw [he] at this
   exact this.weak (I4 ho)
 ·rename_i l
  split at ho
  rename_i r' os l' he
  cases hb:os.isEmpty with
  | true =>
   rw [hb] at ho
   simp only [cond_true,zD,zH] at ho
   obtain ⟨rfl,rfl⟩:=ho
   exact h.half _
  | false =>
   rw [hb] at ho
   simp only [cond_false] at ho
   have:=h.rows l
   rw [he] at this
   cases hg:gc ob.length r' (ob1++os) with
   | none=>rw [hg] at ho; cases ho
   | some q =>
    rw [hg] at ho
    obtain ⟨r3,ob3⟩:=q
    simp only [zD,zH] at ho
    obtain ⟨rfl,rfl⟩:=ho
    exact (this.weak (I4 hg)).half _
 ·rename_i l
  split at ho
  rename_i r' os l' he
  cases hb:os.isEmpty with
  | true =>
   rw [hb] at ho
   simp only [cond_true,zD,zH] at ho
   obtain ⟨rfl,rfl⟩:=ho
   exact h.trees
  | false =>
   rw [hb] at ho
   simp only [cond_false] at ho
   have:=h.rows l
   rw [he] at this
   cases hg:gc ob.length r' (ob1++os) with
   | none=>rw [hg] at ho; cases ho
   | some q =>
    rw [hg] at ho
    obtain ⟨r3,ob3⟩:=q
    simp only [zD,zH] at ho
    obtain ⟨rfl,rfl⟩:=ho
    exact (this.weak (I4 hg)).trees
def Pl (m:List Nat):List Nat→List SV→List SV
 | [],[]=>[]
 | _ :: _,[]=>[]
 | [],_ :: xs=>.any :: Pl m [] xs
 | 0 :: ks,_ :: xs=>.any :: Pl m ks xs
 | (_+1) :: ks,x :: xs=>(match x.back m with | some y=>y | none=>.any) :: Pl m ks xs
def EK:List Nat→List SV→List Nat
 | (_+1) :: ks,x :: xs=>x.refs++EK ks xs
 | 0 :: ks,_ :: xs=>EK ks xs
 | _,_=>[]
def Di:List Ob→Nat→Ob→List Ob
 | [],_,_=>[]
 | _ :: r,0,o=>o :: r
 | x :: r,g+1,o=>x :: Di r g o
def TS (live:List Nat) (ob:List Ob) (g:Nat):Ob→List Ob
 | .tree es ((k,o,q) :: r)=>bif Gd q live || (q == g) then ob else match Am ob q with
  | .tree e2 []=>match es[k]? with
   | some l=>bif decide (o < l.length) then Di (Di ob g (.tree (es.set k (l.set o (.ow e2))) r)) q .gone else ob
   | none=>ob
  | _=>ob
 | _=>ob
def Rw (live:List Nat):Nat→Nat→List Ob→List Ob
 | 0,_,ob=>ob
 | n+1,g,ob=>Rw live n g (TS live ob g (Am ob g))
def TT (live:List Nat):List Nat→List Ob→List Ob
 | [],ob=>ob
 | g :: r,ob=>TT live r (match Am ob g with
  | .tree _ (_ :: _)=>Rw live 8 g ob
  | _=>ob)
def VX (n0:Nat) (keep:List Nat) (sl:List SV) (ob:List Ob):St :=
 ⟨Pl (names n0 ob (EK keep sl)) keep sl,LK (names n0 ob (EK keep sl)) ob (names n0 ob (EK keep sl))⟩
def Nl (n0:Nat) (keep:List Nat) (st:St):St:=VX n0 keep st.sl (TT (EK keep st.sl) (Kf st.ob.length) st.ob)
def VY (n:Nat) (st:St):St :=
 match gets st.sl n with
 | .ref g=>match Am st.ob g with
  | .row _ _ es=>bif OT.A2 es then ⟨st.sl.set n (.arr (OT.erss es)),Di st.ob g .gone⟩ else st
  | _=>st
 | .nil=>⟨st.sl.set n (.arr []),st.ob⟩
 | _=>st
def canon (n0:Nat):List Nat→St→St
 | (n+7) :: ks,st=>canon n0 ks (VY n st)
 | ks,st=>Nl n0 ks st
theorem XJ {n0:Nat} {ks:List Nat} {st:St}:canon n0 (0 :: ks) st=Nl n0 (0 :: ks) st:=rfl
theorem XK {n0:Nat} {ks:List Nat} {st:St}:canon n0 (1 :: ks) st=Nl n0 (1 :: ks) st:=rfl
theorem XL {n0 n:Nat} {ks:List Nat} {st:St}:canon n0 ((n+7) :: ks) st=canon n0 ks (VY n st):=rfl
theorem CG:∀ {l:List Ob} {g j:Nat} {o:Ob},Am (Di l g o) j=if j=g∧g<l.length then o else Am l j
 | [],g,j,o=>by simp [Di,Am]
 | x :: r,0,0,o=>by simp [Di,Am]
 | x :: r,0,j+1,o=>by simp [Di,Am]
 | x :: r,g+1,0,o=>by simp [Di,Am]
 | x :: r,g+1,j+1,o=>by
  simp only [Di,Am,zQ,zT,z7]
  exact CG
theorem Wf.plug {w:World} {I:Nat→Prop} {V:Nat→Option Value} {B:Nat→Nat→Prop} {ob ob':Nat→Ob} (h:Wf w I V B ob) {g q k o:Nat} {es e2:List (List OT)} {r:List (Nat × Nat × Nat)} {l:List OT} (hg:ob g=.tree es ((k,o,q) :: r)) (hq:ob q=.tree e2 []) (hne:q≠g) (hl:es[k]?=some l) (ho:o<l.length)
  (h1:ob' g=.tree (es.set k (l.set o (.ow e2))) r) (h2:ob' q=.gone) (h3:∀ j,j≠g→j≠q→ob' j=ob j):Wf w I V (fun j x=>if j=g then B g x∨B q x else B j x) ob':=by
 have lg:(ob g).live:=by rw [hg]; trivial
 have lq:(ob q).live:=by rw [hq]; trivial
 obtain ⟨val,hV,t,sz,hR,hH⟩:∃ val,V g=some val∧TreeR w I V (B g) es ((k,o,q) :: r) val:=by
  obtain ⟨val,a,b⟩:=h.obj g lg
  rw [hg] at b; exact ⟨val,a,b⟩
 obtain ⟨val2,hV2,t2,sz2,hR2,_⟩:∃ val,V q=some val∧TreeR w I V (B q) e2 [] val:=by
  obtain ⟨val,a,b⟩:=h.obj q lq
  rw [hq] at b; exact ⟨val,a,b⟩
 refine h.upd (w':=w) (fun j=>j=g∨j=q) (zJ _) (fun _ _ _=>rfl) (fun _ h=>h) (VLe.refl _) (fun j hj=>?_) (fun b hb=>.inl hb) h.ilt (fun j hj hlv=>?_) (fun j b hj hlv hb=>?_) (fun j b hj hlv hb hI=>?_) (fun j j' b hj hj' hlv hlv' _ _=>?_) (fun j hj hf=>?_)
 ·have a:¬ j=g:=fun e=>hj (.inl e)
  have b:¬ j=q:=fun e=>hj (.inr e)
  exact ⟨h3 j a b,by funext x; simp only [if_neg a],fun hf=>h.fr j hf⟩
 ·rcases hj with rfl | rfl
  ·refine ⟨val,hV,?_⟩
   rw [h1]
   obtain ⟨g1,g2,b2,c2,v2,e4,g3,g4,g5⟩:=hH (k,o,q) (by simp)
   obtain ⟨b,cap,v,S0,e1,e5,hb1,hb2,hc,_,hS,hnew⟩:=hR.leaf (l:=l) (off:=o) hl (.inr ho) ho
   subst e1
   have hbb:b2=b:=by rw [e4] at e5; simp at e5; exact e5.1
   subst hbb
   rw [hc] at g3
   obtain rfl:=zB g3
   rw [hV2] at g4
   obtain rfl:=zB g4
   refine ⟨t,l.length,(hnew (.ow e2) (B q) hR2.ot (fun x hx hx'=>absurd (h.dO q j x lq lg hx hx') hne)).up fun x hx=>?_,fun p hp=>?_⟩
   ·simp only [if_true]
    exact hx.imp (fun h=>h.1) id
   ·rw [List.length_set]
    exact hH p (by simp [hp])
  ·rw [h2] at hlv; exact hlv.elim
 ·rcases hj with rfl | rfl
  ·simp only [if_true] at hb
   rcases hb with hb | hb
   ·exact .inr ⟨j,.inl rfl,lg,hb⟩
   ·exact .inr ⟨q,.inr rfl,lq,hb⟩
  ·rw [h2] at hlv; exact hlv.elim
 ·rcases hj with rfl | rfl
  ·simp only [if_true] at hb
   rcases hb with hb | hb
   ·exact h.dI j b lg hb hI
   ·exact h.dI q b lq hb hI
  ·rw [h2] at hlv; exact hlv.elim
 ·rcases hj with rfl | rfl
  ·rcases hj' with rfl | rfl
   ·rfl
   ·rw [h2] at hlv'; exact hlv'.elim
  ·rw [h2] at hlv; exact hlv.elim
 ·rcases hj with rfl | rfl
  ·rw [h1] at hf; cases hf
  ·rw [h2] at hf; cases hf
theorem SJ {c:Ctx} {live:List Nat} {sl:List SV} {ob:List Ob} {g:Nat}:Weak c ⟨sl,ob⟩ ⟨sl,TS live ob g (Am ob g)⟩:=by
 cases hgo:Am ob g with
 | free=>exact Weak.D6 _
 | gone=>exact Weak.D6 _
 | box t l=>exact Weak.D6 _
 | row t sz es=>exact Weak.D6 _
 | mp ks m=>exact Weak.D6 _
 | it ks m seen cur=>exact Weak.D6 _
 | shd es=>exact Weak.D6 _
 | tree es hs =>
  cases hs with
  | nil=>exact Weak.D6 _
  | cons h r =>
   obtain ⟨k,o,q⟩:=h
   simp only [TS]
   cases hc:(Gd q live || (q == g)) with
   | true=>exact Weak.D6 _
   | false =>
    simp only [cond_false]
    split
    ·rename_i e2 hq
     split
     ·rename_i l hl
      cases hd:decide (o<l.length) with
      | false=>exact Weak.D6 _
      | true =>
       have ho:=of_decide_eq_true hd
       simp only [cond_true]
       have hne:q≠g:=by
        rw [Bool.or_eq_false_iff] at hc
        simpa using hc.2
       have lt:∀ j,(Am ob j).live→j<ob.length:=fun j hj=>by
        rcases zF j ob.length with h | h
        ·exact h
        ·rw [A5 _ _ h] at hj; exact hj.elim
       have hlg:=lt g (by rw [hgo]; trivial)
       have hlq:=lt q (by rw [hq]; trivial)
       have hsl:∀ (l:List Ob) (j:Nat) (x:Ob),(Di l j x).length=l.length:=by
        intro l
        induction l with
        | nil=>intro j x; rfl
        | cons y r ih=>intro j x; cases j <;> simp [Di,ih]
       have e1:Am (Di (Di ob g (.tree (es.set k (l.set o (.ow e2))) r)) q .gone) g=.tree (es.set k (l.set o (.ow e2))) r:=by
        rw [CG,if_neg (fun h=>hne h.1.symm),CG,if_pos ⟨rfl,hlg⟩]
       have e2':Am (Di (Di ob g (.tree (es.set k (l.set o (.ow e2))) r)) q .gone) q=.gone:=by
        rw [CG,if_pos ⟨rfl,by rw [hsl]; exact hlq⟩]
       have e3:∀ j,j≠g→j≠q→Am (Di (Di ob g (.tree (es.set k (l.set o (.ow e2))) r)) q .gone) j=Am ob j:=fun j h1 h2=>by
        rw [CG,if_neg (fun h=>h2 h.1),CG,if_neg (fun h=>h1 h.1)]
       intro hlen
       refine ⟨hlen,fun a w hr=>?_⟩
       obtain ⟨I,V,B,hr⟩:=hr
       refine ⟨I,V,_,hr.fr,hr.i0,hr.i1,hr.v0,hr.wf.plug (es:=es) (e2:=e2) (ob':=Am (Di (Di ob g (.tree (es.set k (l.set o (.ow e2))) r)) q .gone)) hgo hq hne hl ho e1 e2' e3,fun j b hj hb=>?_,hr.nd,hr.sz,hr.slots⟩
       have hj:(Am (Di (Di ob g (.tree (es.set k (l.set o (.ow e2))) r)) q .gone) j).live:=hj
       by_cases hjg:j=g
       ·subst hjg
        simp only [if_true] at hb
        rcases hb with hb | hb
        ·exact hr.bh j b (by show (Am ob j).live; rw [hgo]; trivial) hb
        ·exact hr.bh q b (by show (Am ob q).live; rw [hq]; trivial) hb
       ·simp only [if_neg hjg] at hb
        by_cases hjq:j=q
        ·subst hjq; rw [e2'] at hj; exact hj.elim
        ·rw [e3 j hjg hjq] at hj
         exact hr.bh j b hj hb
     ·exact Weak.D6 _
    ·exact Weak.D6 _
theorem Nm {c:Ctx} {live:List Nat} {sl:List SV} {g:Nat}:∀ {n:Nat} {ob:List Ob},Weak c ⟨sl,ob⟩ ⟨sl,Rw live n g ob⟩
 | 0,ob=>Weak.D6 _
 | n+1,ob=>Weak.trans SJ Nm
theorem Nn {c:Ctx} {live:List Nat} {sl:List SV}:∀ {gs:List Nat} {ob:List Ob},Weak c ⟨sl,ob⟩ ⟨sl,TT live gs ob⟩
 | [],ob=>Weak.D6 _
 | g :: r,ob=>by
  have h1:Weak c ⟨sl,ob⟩ ⟨sl,match Am ob g with
   | .tree _ (_ :: _)=>Rw live 8 g ob
   | _=>ob⟩:=by
   split
   ·exact Nm
   ·exact Weak.D6 _
  exact Weak.trans h1 (Nn (gs:=r))
theorem Kg {m:List Nat} {p:Nat}:∀ {ks:List Nat} {xs:List SV},leL (sgp m p) (Pl m ks xs) xs
 | [],[]=>trivial
 | _ :: _,[]=>trivial
 | [],x :: xs=>⟨trivial,Kg (ks:=[]) (xs:=xs)⟩
 | 0 :: ks,x :: xs=>⟨trivial,Kg (ks:=ks) (xs:=xs)⟩
 | (k+1) :: ks,x :: xs=>by
  refine ⟨?_,Kg (ks:=ks) (xs:=xs)⟩
  split
  ·rename_i y h
   exact SI (SV.back_ren h)
  ·trivial
theorem Cj {c:Ctx} {keep:List Nat} {st:St}:Weak c st (Nl c.m keep st):=Weak.trans (Nn (sl:=st.sl) (ob:=st.ob)) (XB _ (Nh Kg))
theorem Rx {sl:List SV} {n k:Nat} {x:SV}:gets (sl.set n x) k=if n=k∧n<sl.length then x else gets sl k:=by
 induction sl generalizing n k with
 | nil=>simp [gets]
 | cons y r ih =>
  cases n with
  | zero=>cases k with
   | zero=>simp [gets]
   | succ k=>simp [gets]
  | succ n=>cases k with
   | zero=>simp [gets]
   | succ k=>simp only [List.set_cons_succ,gets,zQ,zT,z7]; exact ih
theorem U8 {c:Ctx} {n:Nat} {st:St}:Weak c st (VY n st):=by
 unfold VY
 split
 ·rename_i g hg
  split
  ·rename_i t sz es hob
   cases hf:OT.A2 es with
   | false=>exact Weak.D6 _
   | true =>
    rw [cond_true]
    intro hlen
    refine ⟨by simpa using hlen,fun a w hr=>?_⟩
    obtain ⟨I,V,B,hr⟩:=hr
    have hl:(Am st.ob g).live:=by rw [hob]; trivial
    have hlt:g<st.ob.length:=by
     rcases zF g st.ob.length with h | h
     ·exact h
     ·rw [A5 _ _ h] at hl; exact hl.elim
    have k:=hr.after (After.frz hr.wf (g:=g) hl)
    have eob:A3 (Am st.ob) [(g,.gone)]=Am (Di st.ob g .gone):=by
     funext j
     rw [CG]
     by_cases e:j=g
     ·subst e; simp [A3,A7,hlt]
     ·have e':¬ g=j:=fun h=>e h.symm
      simp [A3,A7,e,e']
    have kw:Wf w (fun b=>I b∨B g b) V B (A3 (Am st.ob) [(g,.gone)]):=k.wf
    have kb:∀ j b,(A3 (Am st.ob) [(g,.gone)] j).live→B j b→c.H b∨c.w0.heap.size≤b:=k.bh
    rw [eob] at kw kb
    refine ⟨_,V,B,k.fr,k.i0,k.i1,k.v0,kw,kb,k.nd,k.sz,fun j=>?_⟩
    have hs:=k.slots j
    show RepV w _ V (gets (st.sl.set n (.arr (OT.erss es))) j) _
    rw [Rx]
    split
    ·rename_i hj
     obtain ⟨rfl,_⟩:=hj
     have hv:=hr.slots n
     have hv:RepV w I V (gets st.sl n) (a.tmps.getD n undef):=hv
     rw [hg] at hv
     simp only [RepV] at hv
     obtain ⟨val,h1,h2⟩:=hr.wf.obj g hl
     rw [hv.1] at h1
     obtain rfl:=zB h1
     have h2:ObR w I V (B g) _ (Am st.ob g):=h2
     rw [hob] at h2
     simp only [RepV]
     exact RowR.er h2 (fun b hb=>.inr hb) (fun b hb=>.inl hb) hf
    ·exact hs
  ·exact Weak.D6 _
 ·rename_i hg
  intro hlen
  refine ⟨by simpa using hlen,fun a w hr=>?_⟩
  obtain ⟨I,V,B,hr⟩:=hr
  refine ⟨I,V,B,hr.fr,hr.i0,hr.i1,hr.v0,hr.wf,hr.bh,hr.nd,hr.sz,fun j=>?_⟩
  have hs:=hr.slots j
  show RepV w _ V (gets (st.sl.set n (.arr [])) j) _
  rw [Rx]
  split
  ·rename_i hj
   obtain ⟨rfl,_⟩:=hj
   have hv:RepV w I V (gets st.sl n) (a.tmps.getD n undef):=hr.slots n
   rw [hg] at hv
   simp only [RepV] at hv ⊢
   rw [hv]
   exact LD _
  ·exact hs
 ·exact Weak.D6 _
theorem Dj {c:Ctx}:∀ {keep:List Nat} {st:St},Weak c st (canon c.m keep st)
 | [],st=>Cj
 | 0 :: ks,st=>Cj
 | 1 :: ks,st=>Cj
 | 2 :: ks,st=>Cj
 | 3 :: ks,st=>Cj
 | 4 :: ks,st=>Cj
 | 5 :: ks,st=>Cj
 | 6 :: ks,st=>Cj
 | (n+7) :: ks,st=>Weak.trans U8 (Dj (keep:=ks))
def BR (r:Option (X × St)) (k:St→Option (X × St)):Option (X × St) :=
 match r with
 | some (.normal,st)=>k st
 | some (.exit i,st)=>some (.exit i,st)
 | some (.ret,st)=>some (.ret,st)
 | none=>none
def GE (id:Nat) (r:Option (X × St)):Option (X × St) :=
 match r with
 | some (.normal,st)=>some (.normal,st)
 | some (.exit i,st)=>if i=id then some (.normal,st) else some (.exit i,st)
 | some (.ret,st)=>some (.ret,st)
 | none=>none
structure MI where
 keepO:List Nat
 it:SX
 nx:Nat
 more:Nat
abbrev LoopF:=Option MI→List Nat→(St→Option (X × St))→St→Option (X × St)
noncomputable def fr (P:Program) (C:CallF) (L:LoopF):SC→St→Option (X × St)
 | .skip,st=>some (.normal,st)
 | .reg ops,st=>match Nd P C ops st with
  | some st'=>some (.normal,st')
  | none=>none
 | .dreg anc ops,st=>match Gf P C ops [] st with
  | some (es,st')=>bif obB anc [] (IE es) 0 then some (.normal,st') else none
  | none=>none
 | .seq a b,st=>BR (fr P C L a st) (fr P C L b)
 | .cond q a b,st=>match Ar (gets st.sl) q with
  | .bool t=>bif t then fr P C L a st else fr P C L b st
  | _=>none
 | .block id b,st=>GE id (fr P C L b st)
 | .loop keep b,st=>L none keep (fr P C L b) st
 | .exit id,st=>some (.exit id,st)
 | .ret,st=>some (.ret,st)
 | .next _ _ _,_=>none
 | .mloop keep keepO it nx more b,st=>L (some ⟨keepO,it,nx,more⟩) keep (fr P C L b) st
def Dt (n0:Nat) (keep:List Nat) (step:St→Option (X × St)):Nat→St→Option (X × St)
 | 0,_=>none
 | n+1,st=>BR (step (canon n0 keep st)) (Dt n0 keep step n)
abbrev EL:=List (MK × MV)
structure Enum (f:MF) (l:EL):Prop where
 nd:(l.map (·.1)).Nodup
 mem:∀ k x,(k,x)∈l ↔ f k=some x
noncomputable def SK {α β:Type} (p:α→Prop) (f:α→Option β):Option β :=
 match Classical.propDecidable ((∃ a,p a)∧∃ o,∀ a,p a→f a=some o) with
 | .isTrue h=>some (Classical.choose h.2)
 | .isFalse _=>none
theorem EM {α β:Type} {p:α→Prop} {f:α→Option β} {o:β}:SK p f=some o ↔ (∃ a,p a)∧∀ a,p a→f a=some o:=by
 unfold SK
 split
 ·rename_i h _
  have hs:=Classical.choose_spec h.2
  constructor
  ·intro e
   obtain rfl:=zB e
   exact ⟨h.1,hs⟩
  ·rintro ⟨⟨a,ha⟩,h2⟩
   have:=(hs a ha).symm.trans (h2 a ha)
   exact this
 ·rename_i h _
  exact ⟨fun e=>(by cases e),fun ⟨h1,h2⟩=>absurd ⟨h1,o,h2⟩ h⟩
def Ry (it:SX) (st:St):Option (Nat × Bool × MF × List MK) :=
 match Ar (gets st.sl) it with
 | .ptr g o=>match Am st.ob g with
  | .it ks m seen _=>bif (o == 0) then some (g,ks,m,seen) else none
  | _=>none
 | _=>none
def SL:Option (X × St)→Option (X × St)
 | some (.normal,_)=>none
 | some (.exit i,st)=>some (.exit i,st)
 | some (.ret,st)=>some (.ret,st)
 | none=>none
noncomputable def EN (n0:Nat) (mi:MI) (keep:List Nat) (step:St→Option (X × St)) (f:MF):EL→List MK→St→Option (X × St)
 | [],seen,st=>match Ry mi.it (canon n0 keep st) with
  | some (_,_,f',seen')=>bif dec (f'=f)&&dec (seen'=seen) then SL (step (FB mi.nx mi.more (canon n0 keep st) false [])) else none
  | none=>none
 | (k,x) :: l,seen,st=>match Ry mi.it (canon n0 keep st) with
  | some (g,ks,f',seen')=>bif dec (f'=f)&&dec (seen'=seen) then BR (step (FB mi.nx mi.more (canon n0 keep st) true [(g,.it ks f (k :: seen) (some (k,x)))])) (EN n0 mi keep step f l (k :: seen)) else none
  | none=>none
def Oy (n0:Nat) (keepO:List Nat):Option (X × St)→Option (X × St)
 | some (x,st)=>some (x,canon n0 keepO st)
 | none=>none
noncomputable def H6 (n0:Nat) (mi:MI) (keep:List Nat) (step:St→Option (X × St)) (st:St):Option (X × St) :=
 match Ry mi.it (canon n0 keep st) with
 | some (_,_,f,[])=>SK (Enum f) fun l=>Oy n0 mi.keepO (EN n0 mi keep step f l [] st)
 | _=>none
noncomputable def H7 (n0:Nat):Option MI→List Nat→(St→Option (X × St))→Nat→St→Option (X × St)
 | none,keep,step,n,st=>Dt n0 keep step n st
 | some mi,keep,step,_,st=>H6 n0 mi keep step st
def By:SC→SC→Prop
 | .skip,.skip=>True
 | .reg a,.reg b=>a=b
 | .dreg x a,.dreg y b=>x=y∧a=b
 | .seq a b,.seq a' b'=>By a a'∧By b b'
 | .cond q a b,.cond q' a' b'=>q=q'∧By a a'∧By b b'
 | .block i b,.block i' b'=>i=i'∧By b b'
 | .loop _ b,.loop _ b'=>By b b'
 | .exit i,.exit i'=>i=i'
 | .ret,.ret=>True
 | .next a b d,.next a' b' d'=>a=a'∧b=b'∧d=d'
 | .next _ _ _,.mloop _ _ _ _ _ _=>True
 | .mloop _ _ it nx more b,.loop _ (.seq (.next it' nx' more') b')=>it=it'∧nx=nx'∧more=more'∧By b b'
 | _,_=>False
section
variable {P:Program} {c:Ctx} {C:CallF}
def ZD (mi:Option MI) (b:SC):SC :=
 match mi with
 | none=>b
 | some mi=>.seq (.next mi.it mi.nx mi.more) b
def No (P:Program) (c:Ctx) (L:LoopF):Prop:=∀ (mi:Option MI) (keep junk:List Nat) (step:St→Option (X × St)) (b:SC) (st:St) (out:X × St),
 (∀ st out,step st=some out→∀ K:X→St→Prop,K out.1 out.2→sw P c b K st)→L mi keep step st=some out→∀ K:X→St→Prop,K out.1 out.2→Run P c (.loop junk (ZD mi b)) K st
theorem SM (hm:P.follows .mixedOrders=true) (n:Nat) (keep junk:List Nat) (step:St→Option (X × St)) (b:SC) (st:St) (out:X × St) (hstep:∀ st out,step st=some out→∀ K:X→St→Prop,K out.1 out.2→sw P c b K st) (h:Dt c.m keep step n st=some out) (K:X→St→Prop) (hK:K out.1 out.2):Run P c (.loop junk b) K st:=by
 let A:={ p:Nat × St // BR (step p.2) (Dt c.m keep step p.1)=some out }
 have start:∀ n st,Dt c.m keep step n st=some out→∃ a:A,a.1.2=canon c.m keep st∧a.1.1<n:=fun n st h=>by
  cases n with
  | zero=>cases h
  | succ n=>exact ⟨⟨(n,canon c.m keep st),h⟩,rfl,Nat.lt_succ_self n⟩
 obtain ⟨a0,ha0,_⟩:=start n st h
 refine Rg (α:=A) (fun a=>a.1.2) (fun a=>a.1.1) a0 (by show Weak c st a0.1.2; rw [ha0]; exact Dj) fun a=>?_
 obtain ⟨⟨m,s⟩,ha⟩:=a
 simp only at ha ⊢
 unfold BR at ha
 split at ha
 ·rename_i st' hs
  refine FD hm _ _ _ (hstep s _ hs _ ?_)
  obtain ⟨y,hy1,hy2⟩:=start m st' ha
  exact ⟨y,hy2,by show Weak c st' y.1.2; rw [hy1]; exact Dj⟩
 ·rename_i i st' hs
  obtain rfl:=zB ha
  exact FD hm _ _ _ (hstep s _ hs _ hK)
 ·rename_i st' hs
  obtain rfl:=zB ha
  exact FD hm _ _ _ (hstep s _ hs _ hK)
 ·cases ha
theorem Run.ZE {sc:SC} {K:X→St→Prop} {st:St} (h:Run P c sc (fun x s=>∃ s',Weak c s s'∧K x s') st):Run P c sc K st:=by
 intro code hc a w Q hl hr hq
 refine h code hc a w Q hl hr fun x s a' w' hk hl' hr'=>?_
 obtain ⟨s',hw,hk⟩:=hk
 obtain ⟨h1,h2⟩:=hw hl'
 exact hq x s' a' w' hk h1 (h2 a' w' hr')
theorem U9 {it:SX} {st:St} {g:Nat} {ks:Bool} {f:MF} {seen:List MK} (h:Ry it st=some (g,ks,f,seen)):Ar (gets st.sl) it=.ptr g 0∧∃ cur,Am st.ob g=.it ks f seen cur:=by
 unfold Ry at h
 split at h
 ·rename_i g' o hg
  split at h
  ·rename_i ks' m' seen' cur hob
   obtain ⟨h1,h2⟩:=Ao h
   simp only [zD,zH] at h2
   obtain ⟨rfl,rfl,rfl,rfl⟩:=h2
   have:o=0:=by simpa using h1
   subst this
   exact ⟨hg,cur,hob⟩
  ·cases h
 ·cases h
theorem Pm {r:Option (X × St)} {o:X × St} (h:SL r=some o):r=some o∧o.1≠.normal:=by
 unfold SL at h
 split at h
 ·cases h
 ·obtain rfl:=zB h; exact ⟨rfl,fun e=>by cases e⟩
 ·obtain rfl:=zB h; exact ⟨rfl,fun e=>by cases e⟩
 ·cases h
theorem La {n0:Nat} {keepO:List Nat} {r:Option (X × St)} {o:X × St} (h:Oy n0 keepO r=some o):∃ st,r=some (o.1,st)∧o.2=canon n0 keepO st:=by
 unfold Oy at h
 split at h
 ·obtain rfl:=zB h; exact ⟨_,rfl,rfl⟩
 ·cases h
theorem filter_lt {α:Type} {p q:α→Bool}:∀ {l:List α} {a:α},(∀ x,q x=true→p x=true)→a∈l→p a=true→q a=false→(l.filter q).length<(l.filter p).length
 | [],a,_,ha,_,_=>by cases ha
 | x :: l,a,hpq,ha,hp,hq=>by
  have mono:∀ l:List α,(l.filter q).length≤(l.filter p).length:=by
   intro l
   induction l with
   | nil=>exact zJ _
   | cons y l ih =>
    rw [yF,yF]
    cases hy:q y with
    | true=>rw [hpq y hy]; simpa using ih
    | false =>
     cases p y with
     | true=>simp only [if_true,zQ]; simp; omega
     | false=>simpa using ih
  rw [yF,yF]
  rcases zO.1 ha with rfl | ha
  ·rw [hp,hq]
   have:=mono l
   simp; omega
  ·have ih:=filter_lt hpq ha hp hq
   cases hx:q x with
   | true=>rw [hpq x hx]; simpa using ih
   | false =>
    cases p x with
    | true=>simp; omega
    | false=>simpa using ih
theorem SN (hm:P.follows .mixedOrders=true) (mi:MI) (keep junk:List Nat) (step:St→Option (X × St)) (b:SC) (st:St) (out:X × St) (hstep:∀ st out,step st=some out→∀ K:X→St→Prop,K out.1 out.2→sw P c b K st) (h:H6 c.m mi keep step st=some out) (K:X→St→Prop) (hK:K out.1 out.2):Run P c (.loop junk (.seq (.next mi.it mi.nx mi.more) b)) K st:=by
 unfold H6 at h
 split at h
 ·rename_i g0 ks0 f hit
  obtain ⟨⟨L0,hL0⟩,hall⟩:=EM.1 h
  let G:EL→St→Prop:=fun l s=>(l.map (·.1)).Nodup∧(∀ e,e∈l→f e.1=some e.2)∧∀ rest,Enum f (l++rest)→Oy c.m mi.keepO (EN c.m mi keep step f rest (l.map (·.1)).reverse s)=some out
  have more:∀ l:EL,(l.map (·.1)).Nodup→(∀ e,e∈l→f e.1=some e.2)→∃ rest,Enum f (l++rest):=fun l h1 h2=>by
   refine ⟨L0.filter fun e=>!dec (e.1∈l.map (·.1)),?_,fun k x=>?_⟩
   ·rw [yG,yA]
    refine ⟨h1,(List.filter_sublist.map _).nodup hL0.nd,fun a ha b hb e=>?_⟩
    obtain ⟨q,hq,rfl⟩:=yH.1 hb
    rw [List.mem_filter,zL,BJ] at hq
    subst e
    exact hq.2 ha
   ·rw [zM,List.mem_filter,zL,BJ]
    constructor
    ·rintro (h3 | h3)
     ·exact h2 _ h3
     ·exact (hL0.mem k x).1 h3.1
    ·intro h3
     by_cases h4:k∈l.map (·.1)
     ·obtain ⟨⟨k',x'⟩,h5,rfl⟩:=yH.1 h4
      have h6:=h2 _ h5
      have h6:f k'=some x':=h6
      rw [h3] at h6
      obtain rfl:=zB h6
      exact .inl h5
     ·exact .inr ⟨(hL0.mem k x).2 h3,h4⟩
  have hG0:G [] st:=⟨yR,fun e he=>(by cases he),fun rest hr=>hall rest (by simpa using hr)⟩
  let A:={ q:EL × St // G q.1 q.2 }
  let μ:A→Nat:=fun q=>(L0.filter fun e=>!dec (e.1∈q.1.1.map (·.1))).length
  refine Run.ZE (Rg (α:=A) (fun q=>canon c.m keep q.1.2) μ ⟨([],st),hG0⟩ Dj fun q=>?_)
  obtain ⟨⟨l,s⟩,hG⟩:=q
  obtain ⟨g1,g2,g3⟩:=hG
  refine FD hm _ _ _ ?_
  obtain ⟨r0,hr0⟩:=more l g1 g2
  have hitl:∃ g ks,Ry mi.it (canon c.m keep s)=some (g,ks,f,(l.map (·.1)).reverse):=by
   obtain ⟨st1,h1,_⟩:=La (g3 r0 hr0)
   have key:∀ rest,∀ o,EN c.m mi keep step f rest (l.map (·.1)).reverse s=some o→∃ g ks,Ry mi.it (canon c.m keep s)=some (g,ks,f,(l.map (·.1)).reverse):=fun rest o ho=>by
    cases rest with
    | nil =>
     unfold EN at ho
     split at ho
     ·rename_i g ks f' seen' he
      obtain ⟨h2,_⟩:=Ao ho
      rw [zE,Ap,Ap] at h2
      obtain ⟨rfl,rfl⟩:=h2
      exact ⟨g,ks,he⟩
     ·cases ho
    | cons e rest =>
     obtain ⟨k,x⟩:=e
     unfold EN at ho
     split at ho
     ·rename_i g ks f' seen' he
      obtain ⟨h2,_⟩:=Ao ho
      rw [zE,Ap,Ap] at h2
      obtain ⟨rfl,rfl⟩:=h2
      exact ⟨g,ks,he⟩
     ·cases ho
   exact key r0 _ h1
  obtain ⟨g,ks,hitl⟩:=hitl
  obtain ⟨e1,cur,e2⟩:=U9 hitl
  simp only [sw]
  rw [e1]
  simp only
  rw [e2]
  simp only
  refine ⟨trivial,fun hend=>?_,fun k x hk hn=>?_⟩
  ·
   have hE:Enum f (l++[]):=by
    rw [zK]
    refine ⟨g1,fun k x=>⟨fun hm=>g2 _ hm,fun hk=>?_⟩⟩
    have:=hend k x hk
    rw [List.mem_reverse] at this
    obtain ⟨⟨k',x'⟩,h5,rfl⟩:=yH.1 this
    have h6:f k'=some x':=g2 _ h5
    rw [hk] at h6
    obtain rfl:=zB h6
    exact h5
   obtain ⟨st1,h1,h2⟩:=La (g3 [] hE)
   unfold EN at h1
   rw [hitl] at h1
   simp only [A4 rfl,A4 True.intro,Bool.and_self,cond_true] at h1
   obtain ⟨h3,h4⟩:=Pm h1
   have hfin:∃ s',Weak c st1 s'∧K out.1 s':=⟨canon c.m mi.keepO st1,Dj,by rw [←h2]; exact hK⟩
   refine hstep _ (out.1,st1) h3 _ ?_
   dsimp only
   cases ho:out.1 with
   | normal=>exact absurd ho h4
   | exit i=>rw [ho] at hfin; exact hfin
   | ret=>rw [ho] at hfin; exact hfin
  ·
   have hn':k ∉ l.map (·.1):=fun hm=>hn (List.mem_reverse.2 hm)
   have k1:((l++[(k,x)]).map (·.1)).Nodup:=by
    rw [yG,yA]
    refine ⟨g1,by simp,fun a ha b hb e=>?_⟩
    simp only [zR,yO,z8] at hb
    subst hb e
    exact hn' ha
   have k2:∀ e,e∈l++[(k,x)]→f e.1=some e.2:=fun e he=>by
    rcases zM.1 he with he | he
    ·exact g2 e he
    ·rw [z8.1 he]; exact hk
   have hrev:((l++[(k,x)]).map (·.1)).reverse=k :: (l.map (·.1)).reverse:=by simp
   have one:∀ rest,Enum f ((l++[(k,x)])++rest)→Oy c.m mi.keepO (BR (step (FB mi.nx mi.more (canon c.m keep s) true [(g,.it ks f (k :: (l.map (·.1)).reverse) (some (k,x)))])) (EN c.m mi keep step f rest (k :: (l.map (·.1)).reverse)))=some out:=fun rest hr=>by
    have h3:=g3 ((k,x) :: rest) (by rw [yL] at hr; exact hr)
    rw [EN] at h3
    rw [hitl] at h3
    simp only [A4 rfl,A4 True.intro,Bool.and_self,cond_true] at h3
    exact h3
   obtain ⟨r1,hr1⟩:=more _ k1 k2
   obtain ⟨st1,h1,h2⟩:=La (one r1 hr1)
   cases hs:step (FB mi.nx mi.more (canon c.m keep s) true [(g,.it ks f (k :: (l.map (·.1)).reverse) (some (k,x)))]) with
   | none=>rw [hs] at h1; cases h1
   | some o1 =>
    obtain ⟨x1,s1⟩:=o1
    rw [hs] at h1
    refine hstep _ _ hs _ ?_
    have hfin:some (x1,s1)=some (out.1,st1)→∃ s',Weak c s1 s'∧K x1 s':=fun e=>by
     simp only [zD,zH] at e
     obtain ⟨rfl,rfl⟩:=e
     exact ⟨canon c.m mi.keepO s1,Dj,by rw [←h2]; exact hK⟩
    cases x1 with
    | normal =>
     have hG':G (l++[(k,x)]) s1:=⟨k1,k2,fun rest hr=>by
      have h3:=one rest hr
      rw [hs] at h3
      rw [hrev]
      exact h3⟩
     refine ⟨⟨(l++[(k,x)],s1),hG'⟩,?_,Dj⟩
     refine filter_lt (a:=(k,x)) (fun e he=>?_) ((hL0.mem k x).2 hk) (by rw [zL,BJ]; exact hn') (by rw [Bool.not_eq_false',Ap]; simp)
     rw [zL,BJ] at he ⊢
     exact fun hm=>he (by simp only [yG,zM]; exact .inl hm)
    | exit i=>exact hfin h1
    | ret=>exact hfin h1
 ·cases h
theorem LL (hm:P.follows .mixedOrders=true) (n:Nat):No P c fun mi keep step st=>H7 c.m mi keep step n st:=by
 intro mi keep junk step b st out hstep h K hK
 cases mi with
 | none=>exact SM hm n keep junk step b st out hstep h K hK
 | some mi=>exact SN hm mi keep junk step b st out hstep h K hK
theorem Gk (hC:Gg P C) {L:LoopF} (hL:No P c L):∀ (sc' sc:SC) (st:St) (out:X × St),By sc' sc→fr P C L sc' st=some out→∀ K:X→St→Prop,K out.1 out.2→sw P c sc K st
 | .skip,sc,st,out,hl,h,K,hK=>by
  cases sc <;> simp only [By] at hl
  obtain rfl:=zB h
  exact hK
 | .reg ops,sc,st,out,hl,h,K,hK=>by
  cases sc <;> simp only [By] at hl
  subst hl
  simp only [fr] at h
  split at h
  ·rename_i st' hs
   obtain rfl:=zB h
   exact VS hC hs hK
  ·cases h
 | .dreg anc ops,sc,st,out,hl,h,K,hK=>by
  cases sc <;> simp only [By] at hl
  obtain ⟨rfl,rfl⟩:=hl
  simp only [fr] at h
  split at h
  ·rename_i es st' hs
   obtain ⟨h1,h2⟩:=Ao h
   obtain rfl:=zB h2
   exact VT hC hs ⟨h1,hK⟩
  ·cases h
 | .seq a b,sc,st,out,hl,h,K,hK=>by
  cases sc <;> simp only [By] at hl
  simp only [fr,BR] at h
  split at h
  ·rename_i st' hs
   exact Gk hC hL a _ st _ hl.1 hs _ (Gk hC hL b _ st' out hl.2 h K hK)
  ·rename_i i st' hs
   obtain rfl:=zB h
   exact Gk hC hL a _ st _ hl.1 hs _ hK
  ·rename_i st' hs
   obtain rfl:=zB h
   exact Gk hC hL a _ st _ hl.1 hs _ hK
  ·cases h
 | .cond q a b,sc,st,out,hl,h,K,hK=>by
  cases sc <;> simp only [By] at hl
  obtain ⟨rfl,h1,h2⟩:=hl
  simp only [fr] at h
  simp only [sw]
  split at h
  ·rename_i t ht
   try simp only [ht]
   cases t with
   | true=>exact ⟨fun _=>Gk hC hL a _ st out h1 h K hK,fun e=>(by cases e)⟩
   | false=>exact ⟨fun e=>(by cases e),fun _=>Gk hC hL b _ st out h2 h K hK⟩
  ·cases h
 | .block id b,sc,st,out,hl,h,K,hK=>by
  cases sc <;> simp only [By] at hl
  obtain ⟨rfl,h1⟩:=hl
  simp only [fr,GE] at h
  simp only [sw]
  split at h
  ·rename_i st' hs
   obtain rfl:=zB h
   exact Gk hC hL b _ st _ h1 hs _ hK
  ·rename_i i st' hs
   refine Gk hC hL b _ st _ h1 hs _ ?_
   by_cases hi:i=id
   ·simp only [if_pos hi] at h ⊢
    obtain rfl:=zB h
    exact hK
   ·simp only [if_neg hi] at h ⊢
    obtain rfl:=zB h
    exact hK
  ·rename_i st' hs
   obtain rfl:=zB h
   exact Gk hC hL b _ st _ h1 hs _ hK
  ·cases h
 | .loop keep b,sc,st,out,hl,h,K,hK=>by
  cases sc <;> simp only [By] at hl
  simp only [fr] at h
  exact hL none keep _ _ _ st out (fun st out hs K hK=>Gk hC hL b _ st out hl hs K hK) h K hK
 | .next _ _ _,sc,st,out,hl,h,K,hK=>by cases h
 | .mloop keep keepO it nx more b,sc,st,out,hl,h,K,hK=>by
  cases sc <;> (try simp only [By] at hl)
  case loop j b' =>
   cases b' <;> (try simp only [By] at hl)
   case seq x y =>
    cases x <;> (try simp only [By] at hl)
    case next it' nx' more' =>
     obtain ⟨rfl,rfl,rfl,hl⟩:=hl
     simp only [fr] at h
     exact hL (some ⟨keepO,it,nx,more⟩) keep j _ _ st out (fun st out hs K hK=>Gk hC hL b _ st out hl hs K hK) h K hK
 | .exit id,sc,st,out,hl,h,K,hK=>by
  cases sc <;> simp only [By] at hl
  subst hl
  obtain rfl:=zB h
  exact hK
 | .ret,sc,st,out,hl,h,K,hK=>by
  cases sc <;> simp only [By] at hl
  obtain rfl:=zB h
  exact hK
end
def TU (k s:Nat):Nat:=s ||| (1 <<< k)
def SO (k s:Nat):Nat:=s ^^^ (s &&& (1 <<< k))
def SX.live (s:Nat):SX→Nat
 | .t k=>TU k s
 | .c _=>s
def SX.Pn (s:Nat):List SX→Nat
 | []=>s
 | x :: r=>SX.Pn (x.live s) r
def SX.VZ (s:Nat):Option SX→Nat
 | some x=>x.live s
 | none=>s
def SOp.live (s:Nat):SOp→Nat
 | .mv x=>x.live s
 | .pick a b c=>c.live (b.live (a.live s))
 | .alloc _ _=>s
 | .boxv _ _ x=>x.live s
 | .build _ parts=>SX.Pn s (parts.map (·.2.2))
 | .mkrow _ _ _ _ parts=>SX.Pn s (parts.map (·.2))
 | .load _ _ x=>x.live s
 | .store _ x v=>v.live (x.live s)
 | .nilchk x=>x.live s
 | .bin _ _ x y=>y.live (x.live s)
 | .un _ x=>x.live s
 | .conv _ x=>x.live s
 | .mkfn _ caps=>SX.Pn s caps
 | .mkslice _ _ _ _ x=>x.live s
 | .slice _ _ x lo hi=>SX.VZ (SX.VZ (x.live s) lo) hi
 | .faddr _ x=>x.live s
 | .field _ _ _ x=>x.live s
 | .iaddr _ x i=>i.live (x.live s)
 | .idx x i=>i.live (x.live s)
 | .ext x _=>x.live s
 | .call _ args=>SX.Pn s args
 | .callv x args=>SX.Pn (x.live s) args
 | .len _ x=>x.live s
 | .append _ _ _ _ x y=>y.live (x.live s)
 | .minmax _ x y=>y.live (x.live s)
 | .mkmap _ x=>SX.VZ s x
 | .mset _ m k v=>v.live (k.live (m.live s))
 | .mget _ _ _ _ m k=>k.live (m.live s)
 | .mkit x=>x.live s
 | .mcur x=>x.live s
def SOper.live (o:SOper) (s:Nat):Nat :=
 let s1:=match o.dst with | some d=>SO d s | none=>s
 let s2:=o.op.live s1
 match o.gd with | some (k,_)=>TU k s2 | none=>s2
def Qi:List SOper→Nat→Nat
 | [],s=>s
 | o :: r,s=>o.live (Qi r s)
def Wa:List (Nat × Nat)→Nat→Nat
 | [],_=>0
 | (i,s) :: r,k=>if i=k then s else Wa r k
def DF (ex:List (Nat × Nat)) (ret:Nat):SC→Nat→Nat
 | .skip,out=>out
 | .reg ops,out=>Qi ops out
 | .dreg _ ops,out=>Qi ops out
 | .seq a b,out=>DF ex ret a (DF ex ret b out)
 | .cond q a b,out=>q.live (DF ex ret a out ||| DF ex ret b out)
 | .block id b,out=>DF ((id,out) :: ex) ret b out
 | .loop _ b,_=>DF ex ret b (DF ex ret b 0)
 | .exit id,_=>Wa ex id
 | .ret,_=>ret
 | .next it nx more,out=>it.live (SO nx (SO more out))
 | .mloop _ _ _ _ _ b,out=>DF ex ret b out
def Y8:List (Nat × Nat)→Nat
 | []=>0
 | (_,s) :: r=>s ||| Y8 r
def mask (nt s:Nat):List Nat:=(List.range nt).map fun k=>(s >>> k) % 2
def ann (nt:Nat) (ex:List (Nat × Nat)) (ret:Nat):SC→Nat→SC
 | .seq a b,out=>.seq (ann nt ex ret a (DF ex ret b out)) (ann nt ex ret b out)
 | .cond q a b,out=>.cond q (ann nt ex ret a out) (ann nt ex ret b out)
 | .block id b,out=>.block id (ann nt ((id,out) :: ex) ret b out)
 | .loop j (.seq (.next it nx more) b),out=>.mloop (mask nt (DF ex ret (.loop j (.seq (.next it nx more) b)) out)) (mask nt (ret ||| Y8 ex)) it nx more (ann nt ex ret b (DF ex ret (.loop j (.seq (.next it nx more) b)) out))
 | .loop j b,out=>.loop (mask nt (DF ex ret (.loop j b) out)) (ann nt ex ret b (DF ex ret (.loop j b) out))
 | .mloop _ _ it nx more _,_=>.next it nx more
 | sc,_=>sc
theorem AV {nt:Nat} {ret:Nat}:∀ (sc:SC) (ex:List (Nat × Nat)) (out:Nat),By (ann nt ex ret sc out) sc
 | .skip,_,_=>trivial
 | .reg _,_,_=>rfl
 | .dreg _ _,_,_=>⟨rfl,rfl⟩
 | .seq a b,ex,out=>⟨AV a _ _,AV b _ _⟩
 | .cond q a b,ex,out=>⟨rfl,AV a _ _,AV b _ _⟩
 | .block id b,ex,out=>⟨rfl,AV b _ _⟩
 | .loop j b,ex,out=>by
  cases b with
  | seq x y =>
   cases x with
   | next it nx more=>exact ⟨rfl,rfl,rfl,AV y _ _⟩
   | skip=>exact AV (.seq .skip y) _ _
   | reg o=>exact AV (.seq (.reg o) y) _ _
   | dreg a o=>exact AV (.seq (.dreg a o) y) _ _
   | seq u v=>exact AV (.seq (.seq u v) y) _ _
   | cond q u v=>exact AV (.seq (.cond q u v) y) _ _
   | block i u=>exact AV (.seq (.block i u) y) _ _
   | loop j' u=>exact AV (.seq (.loop j' u) y) _ _
   | exit i=>exact AV (.seq (.exit i) y) _ _
   | ret=>exact AV (.seq .ret y) _ _
   | mloop a b' d e g u=>exact AV (.seq (.mloop a b' d e g u) y) _ _
  | skip=>exact trivial
  | reg o=>exact rfl
  | dreg a o=>exact ⟨rfl,rfl⟩
  | cond q u v=>exact AV (nt:=nt) (ret:=ret) (.cond q u v) ex _
  | block i u=>exact AV (nt:=nt) (ret:=ret) (.block i u) ex _
  | loop j' u=>exact AV (nt:=nt) (ret:=ret) (.loop j' u) ex _
  | exit i=>exact rfl
  | ret=>exact trivial
  | next a b' d=>exact ⟨rfl,rfl,rfl⟩
  | mloop a b' d e g u=>exact trivial
 | .next _ _ _,_,_=>⟨rfl,rfl,rfl⟩
 | .mloop _ _ _ _ _ _,_,_=>trivial
 | .exit id,_,_=>rfl
 | .ret,_,_=>trivial
def Lb:List RX→Nat→Nat
 | [],s=>s
 | .tmp t :: r,s=>TU t (Lb r s)
 | .cell a _ _ :: r,s=>TU a (Lb r s)
def SC.mark (l:List Nat):SC→SC
 | .seq a b=>.seq (SC.mark l a) (SC.mark l b)
 | .cond q a b=>.cond q (SC.mark l a) (SC.mark l b)
 | .block id b=>.block id (SC.mark l b)
 | .loop j b=>.loop (l++j) (SC.mark l b)
 | sc=>sc
theorem DG {l:List Nat}:∀ (a sc:SC),By a sc→By (SC.mark l a) sc
 | .seq a b,sc,h=>by
  cases sc <;> first | exact h.elim | exact ⟨DG a _ h.1,DG b _ h.2⟩
 | .cond q a b,sc,h=>by
  cases sc <;> first | exact h.elim | exact ⟨h.1,DG a _ h.2.1,DG b _ h.2.2⟩
 | .block id b,sc,h=>by
  cases sc <;> first | exact h.elim | exact ⟨h.1,DG b _ h.2⟩
 | .loop j b,sc,h=>by
  cases sc <;> first | exact h.elim | exact DG b _ h
 | .skip,sc,h=>h
 | .reg _,sc,h=>h
 | .dreg _ _,sc,h=>h
 | .next _ _ _,sc,h=>h
 | .mloop _ _ _ _ _ _,sc,h=>h
 | .exit _,sc,h=>h
 | .ret,sc,h=>h
def Gl:RM→SC→SC
 | .frl l,sc=>SC.mark l sc
 | .asis,sc=>sc
 | .frz,sc=>sc
 | .late,sc=>sc
 | .own _,sc=>sc
 | .half _,sc=>sc
 | .tr _,sc=>sc
theorem SP {res:RM} {a sc:SC} (h:By a sc):By (Gl res a) sc:=by
 cases res <;> first | exact h | exact DG _ _ h
theorem XM {sc:SC}:Gl .asis sc=sc:=rfl
theorem XN {sc:SC}:Gl .frz sc=sc:=rfl
theorem XO {sc:SC}:Gl .late sc=sc:=rfl
theorem XP {l:List (Option (Nat × Nat))} {sc:SC}:Gl (.own l) sc=sc:=rfl
theorem XQ {l:List (Option (Nat × Nat))} {sc:SC}:Gl (.half l) sc=sc:=rfl
theorem XR {l:List (Option (Nat × Nat))} {sc:SC}:Gl (.tr l) sc=sc:=rfl
theorem XS {l:List Nat} {sc:SC}:Gl (.frl l) sc=SC.mark l sc:=rfl
structure FC where
 nt:Nat
 sc:SC
 rs:List RX
def codeOf (P:Program) (f:FuncId):Option FC :=
 match P.funcs[f]? with
 | some fn=>match fn.body with
  | some code=>match trC P fn.ntmps code with
   | some sc=>match AI (fn.results.toList.map (KU P fn.ntmps)) with
    | some rs=>some ⟨fn.ntmps,ann fn.ntmps [] (Lb rs 0) sc (Lb rs 0),rs⟩
    | none=>none
   | none=>none
  | none=>none
 | none=>none
def fin (res:RM) (n0:Nat) (rs:List RX) (x:X) (st:St):Option (SV × List Ob) :=
 match x with
 | .exit _=>none
 | _=>match Ox st rs with
  | some r0=>match gc n0 r0 st.ob with
   | some (r,ob)=>order res n0 r ob
   | none=>none
  | none=>none
def YR (res:RM) (n0:Nat) (rs:List RX):Option (X × St)→Option (SV × List Ob)
 | some (x,st)=>fin res n0 rs x st
 | none=>none
def Kh (g:List SV→Option SV) (xs:List SV) (ob:List Ob):Option (SV × List Ob) :=
 match ob with
 | []=>match g xs with
  | some r=>some (r,[])
  | none=>none
 | _ :: _=>none
theorem Gm {P:Program} {g:List SV→Option SV} {f:FuncId} (h:∀ {xs:List SV} {r:SV},g xs=some r→Fun P f xs [] r []) {xs:List SV} {ob:List Ob} {r:SV} {ob':List Ob} (hx:Kh g xs ob=some (r,ob')):Fun P f xs ob r ob':=by
 unfold Kh at hx
 split at hx
 ·split at hx
  ·rename_i r1 h1
   simp only [zD,zH] at hx
   obtain ⟨rfl,rfl⟩:=hx
   exact h h1
  ·cases hx
 ·cases hx
def M3 (P:Program) (M:FuncId→FM):Prop:=∀ f g xs ob r ob',(M f).ext=some g→g xs ob=some (r,ob')→Fun P f xs ob r ob'
def entry (b:Bool) (ob:List Ob):List Ob:=bif b then toTree ob else ob
theorem Po (b:Bool) (ob:List Ob):(entry b ob).length=ob.length:=by cases b <;> simp [entry,EJ]
theorem Fun.entry {P:Program} {f:FuncId} {args:List SV} {ob:List Ob} {r:SV} {ob':List Ob} {b:Bool} (h:Fun P f args (entry b ob) r ob'):Fun P f args ob r ob':=by
 cases b with
 | true=>exact h.tree
 | false=>exact h
noncomputable def Fn (P:Program) (M:FuncId→FM) (E:FEnv) (L:Nat→LoopF):FEnv:=fun f xs ob =>
 match (M f).ext with
 | some g=>g xs ob
 | none=>match codeOf P f with
  | some fc=>bif decide (xs.length≤fc.nt) then YR (M f).res ob.length fc.rs (fr P (Ch M E) (L ob.length) (Gl (M f).res fc.sc) ⟨xs++Hz (fc.nt-xs.length),entry (M f).tree ob⟩) else none
  | none=>none
noncomputable def evN (P:Program) (M:FuncId→FM):Nat→FEnv
 | 0=>fun _ _ _=>none
 | n+1=>Fn P M (evN P M n) fun n0 mi keep step st=>H7 n0 mi keep step n st
theorem UA {P:Program} (hm:P.follows .mixedOrders=true) {M:FuncId→FM} (hX:M3 P M) {E:FEnv} (hE:Iz P E) {L:Nat→LoopF} (hL:∀ c:Ctx,No P c (L c.m)):Iz P (Fn P M E L):=by
 intro f xs ob r ob' h
 unfold Fn codeOf at h
 split at h
 ·rename_i g hg
  exact hX f g xs _ _ _ hg h
 cases hf:P.funcs[f]? with
 | none=>rw [hf] at h; cases h
 | some fn =>
  rw [hf] at h
  simp only at h
  cases hb:fn.body with
  | none=>rw [hb] at h; cases h
  | some code =>
   rw [hb] at h
   simp only at h
   cases ht:trC P fn.ntmps code with
   | none=>rw [ht] at h; cases h
   | some sc =>
    rw [ht] at h
    simp only at h
    cases hr:AI (fn.results.toList.map (KU P fn.ntmps)) with
    | none=>rw [hr] at h; cases h
    | some rs =>
     rw [hr] at h
     simp only at h
     obtain ⟨h1,h2⟩:=Ao h
     have hn:xs.length≤fn.ntmps:=of_decide_eq_true h1
     cases ho:fr P (Ch M E) (L ob.length) (Gl (M f).res (ann fn.ntmps [] (Lb rs 0) sc (Lb rs 0))) ⟨xs++Hz (fn.ntmps-xs.length),entry (M f).tree ob⟩ with
     | none=>rw [ho] at h2; cases h2
     | some out =>
      rw [ho] at h2
      obtain ⟨x,st⟩:=out
      have h2:fin (M f).res ob.length rs x st=some (r,ob'):=h2
      unfold fin at h2
      have hx:x=.ret∨x=.normal:=by
       cases x with
       | exit i=>cases h2
       | normal=>exact .inr rfl
       | ret=>exact .inl rfl
      have h3:(match Ox st rs with
       | some r0=>match gc ob.length r0 st.ob with
        | some (r,ob2)=>order (M f).res ob.length r ob2
        | none=>none
       | none=>none)=some (r,ob'):=by
       rcases hx with rfl | rfl <;> exact h2
      clear h2
      split at h3
      ·rename_i r0 hr0
       split at h3
       ·rename_i r1 ob1 hg
        refine Pk (Fun.entry (b:=(M f).tree) (YO hf hb ht hr hn fun c hc1 hc2=>FD hm _ _ _ ?_)) h3
        refine Gk (Nf hE) (hL c) _ sc _ (x,st) (SP (AV sc _ _)) (by rw [hc2,Po]; exact ho) _ ?_
        rw [Po]
        exact ⟨hx,r0,_,hr0,I4 hg⟩
       ·cases h3
      ·cases h3
theorem Np {P:Program} (hm:P.follows .mixedOrders=true) {M:FuncId→FM} (hX:M3 P M):∀ n,Iz P (evN P M n)
 | 0=>fun f xs ob r ob' h=>by cases h
 | n+1=>UA hm hX (Np hm hX n) fun c=>LL hm n
def Off (I:Nat→Prop) (B:Nat→Nat→Prop) (ob:List Ob) (x:Nat):Prop:=¬ I x∧¬ HB B ob x
section
variable {P:Program} {nt:Nat} {w w' W:World} {I I':Nat→Prop} {V V':Nat→Option Value} {B B':Nat→Nat→Prop} {st st':St} {tm:Array Value} {ob ob':List Ob} {x:Nat}
theorem Off.post (h:Off I B ob x) (hx:x<w.heap.size) (k:FunPost w I V B ob ob' w' I' V' B'):Off I' B' ob' x∧w'.heap[x]?=w.heap[x]?:=by
 refine ⟨⟨fun hi=>?_,fun ⟨g,hl,hb⟩=>?_⟩,k.fr.block x hx h.2⟩
 ·rcases k.i1 x hi with h1 | h1 | h1
  ·exact h.1 h1
  ·omega
  ·exact h.2 h1
 ·rcases k.bh g x hl hb with h1 | h1
  ·exact h.2 h1
  ·omega
theorem Wf.keptB {ob:Nat→Ob} (h:Wf w I V B ob) (hk:KeepS I w w') (hB:∀ g b,(ob g).live→B g b→w'.heap[b]?=w.heap[b]?):Wf w' I V B ob :=
 ⟨fun b hb=>Nat.lt_of_lt_of_le (h.ilt b hb) hk.size,fun g hl=>let ⟨val,hv,hr⟩:=h.obj g hl; ⟨val,hv,hr.keep hk (fun _ h=>h) (fun _ _ h=>h) fun b hb _=>hB g b hl hb⟩,fun g b hl hb=>Nat.lt_of_lt_of_le (h.lt g b hl hb) hk.size,h.dI,h.dO,h.fr,h.gl.keep hk fun _ h=>h⟩
theorem Wf.putB (h:Wf w I V B (Am ob)) (ho:Off I B ob x) (o:Obj):Wf (w.putObj x o) I V B (Am ob) :=
 h.keptB ⟨by simp,fun b hb _=>World.putObj_heap_other (fun e=>ho.1 (e▸hb))⟩ fun g b hl hb=>World.putObj_heap_other (fun e=>ho.2 ⟨g,hl,e▸hb⟩)
theorem At.put (h:At nt w I V B st tm) (ho:Off I B st.ob x) (o:Obj):At nt (w.putObj x o) I V B st tm :=
 ⟨h.wf.putB ho o,h.len,h.sz,fun k=>RepV.mono (w:=w) (w':=w.putObj x o) ⟨by simp,fun b hb _=>World.putObj_heap_other (fun e=>by subst e; exact ho.1 hb)⟩ (fun _ h=>h) (VLe.refl _) _ _ (h.sl k)⟩
theorem Wf.allocB (h:Wf w I V B (Am ob)) (o:Obj):Wf (w.alloc o) I V B (Am ob) :=
 h.keptB ⟨by simp,fun b _ hl=>Below.heap_alloc _ _ _ hl⟩ fun g b hl hb=>Below.heap_alloc _ _ _ (h.lt g b hl hb)
theorem At.alloc (h:At nt w I V B st tm) (o:Obj):At nt (w.alloc o) I V B st tm :=
 ⟨h.wf.allocB o,h.len,h.sz,fun k=>RepV.mono ⟨by simp,fun b _ hl=>Below.heap_alloc _ _ _ hl⟩ (fun _ h=>h) (VLe.refl _) _ _ (h.sl k)⟩
theorem FunPost.allocB (h:Wf w I V B (Am ob)) (o:Obj):FunPost w I V B ob ob (w.alloc o) I V B :=
 ⟨⟨rfl,TapeOk.mk' rfl rfl,rfl,by simp,fun b hb _=>Below.heap_alloc _ _ _ hb⟩,fun _ h=>h,fun _ h=>.inl h,VLe.refl _,h.allocB o,fun g b hl hb=>.inl ⟨g,hl,hb⟩⟩
theorem FunPost.putNew (h:FunPost w I V B ob ob' W I' V' B') (hx:w.heap.size≤x) (ho:Off I' B' ob' x) (o:Obj):FunPost w I V B ob ob' (W.putObj x o) I' V' B' :=
 ⟨⟨h.fr.os,TapeOk.trans (TapeOk.mk' rfl rfl) h.fr.tape,h.fr.output,by have:=h.fr.size; simpa using this,fun b hb hn=>(World.putObj_heap_other (by omega)).trans (h.fr.block b hb hn)⟩,h.i0,h.i1,h.v,h.wf.putB ho o,h.bh⟩
theorem FunPost.around {r o:Obj} (h:FunPost (w.putObj x o) I V B ob ob' W I' V' B') (hr:w.heap[x]?=some r) (ho:Off I' B' ob' x):FunPost w I V B ob ob' (W.putObj x r) I' V' B':=by
 have hs:w.heap.size≤W.heap.size:=by have:=h.fr.size; simpa using this
 have hxl:=(zY.1 hr).1
 refine ⟨⟨h.fr.os,TapeOk.trans (TapeOk.mk' rfl rfl) (TapeOk.trans h.fr.tape (TapeOk.mk' rfl rfl)),h.fr.output,by simpa using hs,fun b hb hn=>?_⟩,h.i0,fun b hb=>?_,h.v,h.wf.putB ho r,fun g b hl hb=>?_⟩
 ·by_cases e:b=x
  ·subst e
   rw [World.putObj_heap_same (by omega),hr]
  ·rw [World.putObj_heap_other e,h.fr.block b (by simpa using hb) hn,World.putObj_heap_other e]
 ·have:=h.i1 b hb
  simpa using this
 ·have:=h.bh g b hl hb
  simpa using this
theorem FunPost.weak {n1:Nat} {ob1:List Ob} {m:List Nat} (hp:FunPost w I V B ob ob' W I' V' B') (h0:∀ g u,V g=some u→g<n1) (hw:WeakC n1 m ⟨[],ob'⟩ ⟨[],ob1⟩):FunPost w I V B ob ob1 W I' (fun g=>V' (sgp m ob'.length g)) (fun g=>B' (sgp m ob'.length g)):=by
 have hwf':=hw.wf (st:=⟨[],ob'⟩) hp.wf
 refine ⟨hp.fr,hp.i0,hp.i1,fun g u hu=>?_,hwf',fun g b hl hb=>?_⟩
 ·rw [EB hw.2.2.2 g (h0 g u hu)]
  exact hp.v g u hu
 ·have hlt:g<ob1.length:=by
   rcases zF g ob1.length with h1 | h1
   ·exact h1
   ·rw [A5 _ _ h1] at hl; exact hl.elim
  have h1:=Do (j:=g) hw.2.1 hlt
  rw [zP] at h1
  exact hp.bh _ b (CU h1 hl) hb
def SQ (n:Nat) (V:Nat→Option Value):Nat→Option Value:=fun g=>if g<n then V g else none
theorem XT (n:Nat) (V:Nat→Option Value):VLe (SQ n V) V:=fun g u h=>by
 unfold SQ at h
 split at h
 ·exact h
 ·cases h
theorem XU {n:Nat} {V:Nat→Option Value}:∀ g u,SQ n V g=some u→g<n:=fun g u h=>by
 unfold SQ at h
 split at h
 ·assumption
 ·cases h
theorem TV {n:Nat} {V:Nat→Option Value} {g:Nat} (h:g<n):SQ n V g=V g:=if_pos h
theorem Rz {n:Nat}:∀ (l:List SV) (k:Nat),SV.Gb n l=true→(gets l k).idsB n=true
 | [],k,_=>by simp [gets,SV.idsB]
 | x :: r,0,h=>by
  simp only [SV.Gb,zE] at h
  exact h.1
 | x :: r,k+1,h=>by
  simp only [SV.Gb,zE] at h
  exact Rz r k h.2
theorem At.setS {k:Nat} {y:SV} {v:Value} {sl:List SV} (h:At nt w I V B ⟨sl,ob⟩ tm) (hk:k<nt) (hy:RepV w I V y v):At nt w I V B ⟨Fh sl k y,ob⟩ (tm.setIfInBounds k v):=by
 refine ⟨h.wf,by simp [Hx]; exact h.len,by simp [h.sz],fun j=>?_⟩
 show RepV w I V (gets (Fh sl k y) j) _
 have h1:=h.sl j
 have hl:sl.length=nt:=h.len
 rw [KR _ _ _ _ (by omega)]
 by_cases e:k=j
 ·subst e
  have:k<tm.size:=by rw [h.sz]; exact hk
  rw [if_pos rfl]
  simpa [zI,this] using hy
 ·rw [if_neg e]
  simpa [zI,yB e] using h1
def Et (hs:List Nat) (ob:List Ob):List Ob:=hs.foldl (fun l g=>Di l g .gone) ob
def Fo (hs:List Nat) (ob0 ob:List Ob):List Ob:=hs.foldl (fun l g=>Di l g (Am ob0 g)) ob
theorem Nq:∀ (l:List Ob) (g:Nat) (o:Ob),(Di l g o).length=l.length
 | [],_,_=>rfl
 | _ :: _,0,_=>rfl
 | _ :: r,g+1,o=>by simp only [Di,zQ,Nq r g o]
theorem J5:∀ (hs:List Nat) (ob:List Ob) (k:Nat),Am (Et hs ob) k=if k∈hs∧k<ob.length then .gone else Am ob k
 | [],ob,k=>by simp [Et]
 | g :: r,ob,k=>by
  show Am (Et r (Di ob g .gone)) k=_
  rw [J5 r,Nq,CG]
  by_cases h1:k∈r∧k<ob.length
  ·rw [if_pos h1,if_pos ⟨by simp [h1.1],h1.2⟩]
  ·rw [if_neg h1]
   by_cases h2:k=g∧g<ob.length
   ·rw [if_pos h2,if_pos ⟨by simp [h2.1],by omega⟩]
   ·rw [if_neg h2,if_neg]
    rintro ⟨h3,h4⟩
    rcases zO.1 h3 with h3 | h3
    ·exact h2 ⟨h3,by omega⟩
    ·exact h1 ⟨h3,h4⟩
theorem J6:∀ (hs:List Nat) (ob0 ob:List Ob) (k:Nat),Am (Fo hs ob0 ob) k=if k∈hs∧k<ob.length then Am ob0 k else Am ob k
 | [],ob0,ob,k=>by simp [Fo]
 | g :: r,ob0,ob,k=>by
  show Am (Fo r ob0 (Di ob g (Am ob0 g))) k=_
  rw [J6 r,Nq,CG]
  by_cases h1:k∈r∧k<ob.length
  ·rw [if_pos h1,if_pos ⟨by simp [h1.1],h1.2⟩]
  ·rw [if_neg h1]
   by_cases h2:k=g∧g<ob.length
   ·rw [if_pos h2,if_pos ⟨by simp [h2.1],by omega⟩,h2.1]
   ·rw [if_neg h2,if_neg]
    rintro ⟨h3,h4⟩
    rcases zO.1 h3 with h3 | h3
    ·exact h2 ⟨h3,by omega⟩
    ·exact h1 ⟨h3,h4⟩
theorem Gn {hs:List Nat} {g:Nat} (h:(Am (Et hs ob) g).live):¬ g∈hs∧Am (Et hs ob) g=Am ob g:=by
 rw [J5] at h ⊢
 split at h
 ·exact h.elim
 ·rename_i hn
  rw [if_neg hn]
  refine ⟨fun hg=>?_,rfl⟩
  rcases zF g ob.length with h1 | h1
  ·exact hn ⟨hg,h1⟩
  ·rw [A5 _ _ h1] at h; exact h
theorem Wf.hold (h:Wf w I V B (Am ob)) (hs:List Nat):Wf w I V B (Am (Et hs ob)):=by
 have hl:∀ g,(Am (Et hs ob) g).live→(Am ob g).live:=fun g hg=>by rw [←(Gn hg).2]; exact hg
 refine ⟨h.ilt,fun g hg=>?_,fun g b hg=>h.lt g b (hl g hg),fun g b hg=>h.dI g b (hl g hg),fun g g' b hg hg'=>h.dO g g' b (hl g hg) (hl g' hg'),fun g hf=>?_,h.gl⟩
 ·rw [(Gn hg).2]
  exact h.obj g (hl g hg)
 ·rw [J5] at hf
  split at hf
  ·cases hf
  ·exact h.fr g hf
theorem HB.hold {hs:List Nat} {b:Nat} (h:HB B (Et hs ob) b):HB B ob b:=by
 obtain ⟨g,hl,hb⟩:=h
 exact ⟨g,by rw [←(Gn hl).2]; exact hl,hb⟩
theorem At.rest {Vc:Nat→Option Value} {hs:List Nat} {sl:List SV} (h0:Wf w I V B (Am ob)) (hlv:∀ g∈hs,(Am ob g).live) {n1:Nat} (hcut:∀ g,g<n1→Vc g=V g) (hlt:∀ g∈hs,g<n1) (hob:∀ g∈hs,(Am ob g).idsB n1=true) (hp:FunPost w I Vc B (Et hs ob) ob' W I' V' B') (h1:At nt W I' V' B' ⟨sl,ob'⟩ tm) :
  At nt W I' V' (fun g=>if g∈hs then B g else B' g) ⟨sl,Fo hs ob ob'⟩ tm∧FunPost w I Vc B ob (Fo hs ob ob') W I' V' (fun g=>if g∈hs then B g else B' g):=by
 have hVc:∀ g∈hs,Vc g=V g:=fun g hg=>hcut g (hlt g hg)
 have hV:∀ g∈hs,g<ob'.length:=fun g hg=>by
  rcases zF g ob'.length with h2 | h2
  ·exact h2
  ·obtain ⟨u,hu,_⟩:=h0.obj g (hlv g hg)
   have:=hp.v g u ((hVc g hg).trans hu)
   rw [h1.wf.fr g (A5 _ _ h2)] at this
   cases this
 have hr:∀ g,Am (Fo hs ob ob') g=if g∈hs then Am ob g else Am ob' g:=fun g=>by
  rw [J6]
  by_cases hg:g∈hs
  ·rw [if_pos ⟨hg,hV g hg⟩,if_pos hg]
  ·rw [if_neg (fun h=>hg h.1),if_neg hg]
 have hnh:∀ g∈hs,∀ b,B g b→¬ HB B (Et hs ob) b:=fun g hg b hb ⟨g',hl,hb'⟩=>by
  obtain ⟨h3,h4⟩:=Gn hl
  have h5:(Am ob g').live:=by rw [←h4]; exact hl
  exact h3 (h0.dO g g' b (hlv g hg) h5 hb hb'▸hg)
 have hsame:∀ g∈hs,∀ b,B g b→W.heap[b]?=w.heap[b]?:=fun g hg b hb=>hp.fr.block b (h0.lt g b (hlv g hg) hb) (hnh g hg b hb)
 have hnI:∀ g∈hs,∀ b,B g b→¬ I' b:=fun g hg b hb hi=>by
  rcases hp.i1 b hi with h3 | h3 | h3
  ·exact h0.dI g b (hlv g hg) hb h3
  ·have:=h0.lt g b (hlv g hg) hb; omega
  ·exact hnh g hg b hb h3
 have hcl:∀ g∈hs,∀ b,B g b→∀ g',(Am ob' g').live→¬ B' g' b:=fun g hg b hb g' hl hb'=>by
  rcases hp.bh g' b hl hb' with h3 | h3
  ·exact hnh g hg b hb h3
  ·have:=h0.lt g b (hlv g hg) hb; omega
 have hsz:=hp.fr.size
 have hwf:Wf W I' V' (fun g=>if g∈hs then B g else B' g) (Am (Fo hs ob ob')):=by
  refine ⟨h1.wf.ilt,fun g hg=>?_,fun g b hg hb=>?_,fun g b hg hb=>?_,fun g g' b hg hg' hb hb'=>?_,fun g hf=>?_,h1.wf.gl⟩
  ·rw [hr] at hg ⊢
   by_cases hm:g∈hs
   ·rw [if_pos hm]
    obtain ⟨u,hu,ho⟩:=h0.obj g (hlv g hm)
    refine ⟨u,hp.v g u ((hVc g hm).trans hu),?_⟩
    simp only [if_pos hm]
    have hn0:=hob g hm
    have ho:=ObR.idsB (n:=n1) (V':=Vc) (fun g hg=>hcut g hg) hn0 ho
    exact ho.keep ⟨hsz,fun b hb hl=>hp.fr.block b hl fun hh=>by obtain ⟨g',hl',hb'⟩:=HB.hold hh; exact h0.dI g' b hl' hb' hb⟩ hp.i0 hp.v fun b hb _=>hsame g hm b hb
   ·rw [if_neg hm] at hg ⊢
    simp only [if_neg hm]
    exact h1.wf.obj g hg
  ·by_cases hm:g∈hs
   ·simp only [if_pos hm] at hb
    have:=h0.lt g b (hlv g hm) hb; omega
   ·rw [hr,if_neg hm] at hg
    simp only [if_neg hm] at hb
    exact h1.wf.lt g b hg hb
  ·by_cases hm:g∈hs
   ·simp only [if_pos hm] at hb
    exact hnI g hm b hb
   ·rw [hr,if_neg hm] at hg
    simp only [if_neg hm] at hb
    exact h1.wf.dI g b hg hb
  ·by_cases hm:g∈hs <;> by_cases hm':g'∈hs
   ·simp only [if_pos hm] at hb
    simp only [if_pos hm'] at hb'
    exact h0.dO g g' b (hlv g hm) (hlv g' hm') hb hb'
   ·simp only [if_pos hm] at hb
    rw [hr,if_neg hm'] at hg'
    simp only [if_neg hm'] at hb'
    exact (hcl g hm b hb g' hg' hb').elim
   ·simp only [if_pos hm'] at hb'
    rw [hr,if_neg hm] at hg
    simp only [if_neg hm] at hb
    exact (hcl g' hm' b hb' g hg hb).elim
   ·rw [hr,if_neg hm] at hg
    rw [hr,if_neg hm'] at hg'
    simp only [if_neg hm] at hb
    simp only [if_neg hm'] at hb'
    exact h1.wf.dO g g' b hg hg' hb hb'
  ·rw [hr] at hf
   by_cases hm:g∈hs
   ·rw [if_pos hm] at hf
    have:=hlv g hm
    rw [hf] at this
    exact this.elim
   ·rw [if_neg hm] at hf
    exact h1.wf.fr g hf
 refine ⟨⟨hwf,h1.len,h1.sz,h1.sl⟩,⟨hp.fr.os,hp.fr.tape,hp.fr.output,hsz,fun b hb hn=>hp.fr.block b hb fun hh=>hn hh.hold⟩,hp.i0,fun b hb=>?_,hp.v,hwf,fun g b hl hb=>?_⟩
 ·rcases hp.i1 b hb with h3 | h3 | h3
  ·exact .inl h3
  ·exact .inr (.inl h3)
  ·exact .inr (.inr h3.hold)
 ·by_cases hm:g∈hs
  ·simp only [if_pos hm] at hb
   exact .inl ⟨g,hlv g hm,hb⟩
  ·rw [hr,if_neg hm] at hl
   simp only [if_neg hm] at hb
   exact (hp.bh g b hl hb).imp HB.hold id
end
end Go.Proofs.YtkjpmfmjebkkiaaGreat
