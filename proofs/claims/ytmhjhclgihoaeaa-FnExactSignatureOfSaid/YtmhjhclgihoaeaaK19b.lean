/-
  Texts of this claim, one behind the other, each built on those ahead of it. No condition.
-/
import Derived.Test.YtmhjhclgihoaeaaK19a
import Derived.Laws.IdiomRangeMap
import Derived.Laws.IdiomStrings
set_option maxHeartbeats 16000000
open Option.some renaming inj → zA, injEq → zB
open Option renaming map_eq_some_iff → zC
open Bool renaming and_eq_true → zD, not_eq_true' → zK, and_self → yH
open Prod.mk renaming injEq → zE
open Nat renaming lt_or_ge → zF, le_refl → zI, zero_add → zP, le_max_right → zQ, add_lt_add_iff_right → zS, le_max_left → zT, add_right_cancel_iff → zW, add_sub_add_right → zZ, le_succ → yG
open List renaming getElem?_eq_getElem → zG, length_cons → zH, append_nil → zJ, mem_append → zL, mem_cons → zM, map_cons → zN, all_eq_true → zO, getElem_mem → zR, getD_eq_getElem?_getD → zU, getElem_cons_succ → zV, mem_singleton → zX, nodup_append → zY, mem_append_right → z2, getElem?_eq_none → z3, filter_cons → z4, mem_of_getElem? → z5, nodup_cons → z6, map_append → z7, mem_map → z9, length_append → yB, getElem?_eq_some_iff → yC, getElem?_append_left → yD, size_toArray → yE, append_assoc → yF, cons_append → yI, not_mem_nil → yJ, map_nil → yK, length_map → yL, nodup_nil → yM
open Array renaming getD_eq_getD_getElem? → z8, ext' → yA
set_option maxRecDepth 100000
set_option linter.unusedSimpArgs false
set_option linter.unusedVariables false
set_option linter.unusedSectionVars false
namespace Go.Proofs.Ytmhjhclgihoaeaa
open Go.RowKit
variable [Flag]
def NT:Obj→Bool
 | .cells _ _ _=>false
 | _=>true
theorem EE {P:Program} {w:World} {r:Nat} {o:Obj} (hb:w.heap[r]?=some o) (hc:NT o=true):(getObj r).run P w=.ok o w:=by
 simp only [getObj,Sem.run,hb]
 cases o <;> first | rfl | cases hc
theorem QP {P:Program} {w:World} {r:Nat} {o:Obj} (o':Obj) (hb:w.heap[r]?=some o) (hc:NT o=true):(setObj r o').run P w=.ok () { w with heap:=w.heap.setIfInBounds r o' }:=by
 simp only [setObj,Sem.run,hb]
 cases o <;> first | rfl | cases hc
theorem run_next_at {P:Program} {w:World} (ty:TypeId) {bi bm clock:Nat} {seen:Array Nat} {es:Array MapEntry} (hi:w.heap[bi]?=some (.mapIter (some bm) clock seen clock)) (hb:w.heap[bm]?=some (.map es clock)) (hold:∀ x∈es.toList,x.born<clock) :
  ((∀ e,e∈es.toList→e.born∈seen)∧(Instr.next (.pointer (some ⟨bi,0,none⟩)) false ty).run P w=.ok (.tuple #[.bool false]) w) ∨
  ∃ e,e∈es.toList∧e.born ∉ seen∧∃ n:Nat,(Instr.next (.pointer (some ⟨bi,0,none⟩)) false ty).run P w=.ok (.tuple #[.bool true,e.key,e.val]) { w.drewN n with heap:=w.heap.setIfInBounds bi (.mapIter (some bm) clock (seen.push e.born) clock) }:=by
 have hleft:∀ x,x∈(Array.filter (fun e=>!seen.contains e.born) es).toList ↔ x∈es.toList∧x.born ∉ seen:=fun x=>by simp
 simp only [Instr.next,Sem.run_bind,EE hi rfl,EE hb rfl,Result.andThen,next_test_false seen es clock clock hold (zI _),Bool.false_eq_true,if_false]
 have hmem:∀ x∈(Array.filter (fun e=>!seen.contains e.born) es).toList,x.born<clock:=fun x hx=>hold x ((hleft x).1 hx).1
 generalize hL:Array.filter (fun e=>!seen.contains e.born) es=L at hmem hleft ⊢
 have e1:L.filter (fun x=>decide (x.born<clock))=L:=Array.filter_eq_self.2 (fun x hx=>by simpa using hmem x (by simpa using hx))
 have e2:L.filter (fun x=>decide (x.born ≥ clock))=#[]:=by
  rw [Array.filter_eq_empty_iff]
  intro x hx
  have:=hmem x (by simpa using hx)
  simp
  omega
 simp only [e1,e2,Array.append_empty]
 by_cases h0:L.size=0
 ·left
  have:L=#[]:=Array.eq_empty_of_size_eq_zero h0
  subst this
  refine ⟨fun e he=>?_,?_⟩
  ·exact Classical.byContradiction fun hn=>by have:=(hleft e).2 ⟨he,hn⟩; simp at this
  ·simp [choose,Sem.run,Question.forced]
 ·right
  have hne:L.isEmpty=false:=by simp [Array.isEmpty,h0]
  simp only [hne,Bool.false_eq_true,if_false,Array.empty_append,Array.size_map]
  have hch:∃ (j:Nat) (n:Nat),j<L.size∧(choose (Question.mapNext L.size)).run P w=.ok j (w.drewN n):=by
   by_cases hf:L.size≤1
   ·exact ⟨0,0,by omega,by simp [choose,Sem.run,Question.forced,hf,World.drewN]⟩
   ·exact ⟨_,1,Nat.mod_lt _ (by omega),by
     simp only [choose,Sem.run,Question.forced,decide_eq_true_eq,hf,if_false,Question.cut]
     rfl⟩
  obtain ⟨j,n,hj,hrun⟩:=hch
  have hm:=(hleft L[j]).1 (by simp)
  refine ⟨L[j],hm.1,hm.2,n,?_⟩
  have hi':(w.drewN n).heap[bi]?=some (.mapIter (some bm) clock seen clock):=hi
  simp only [hrun,Array.getElem?_map,Array.getElem?_eq_getElem hj,Option.map_some,Sem.run_bind,QP _ hi' rfl,Result.andThen]
  rfl
section
variable {P:Program} {c:Ctx} {ops:Array Oper} {s:Fst} {K:Kont} {o:Oper} {p:Nat}
theorem After.Sd {I:Nat→Prop} {V:Nat→Option Value} {B:Nat→Nat→Prop} {w:World} {ob:Nat→Ob} (h:Wf w I V B ob) {p:Nat} (hp:ob p=.free) {ks:Bool} {m:MF} {x:Obj}
  (hx:ItO (w.alloc x) I (fun b=>b=w.heap.size) ks m [] none (.pointer (some ⟨w.heap.size,0,none⟩))) :
  After w I V B ob [(p,.it ks m [] none)] (w.alloc x) I (fun g=>if g=p then some (.pointer (some ⟨w.heap.size,0,none⟩)) else V g) (fun g b=>if g=p then b=w.heap.size else B g b):=by
 have hVp:=h.fr p hp
 have hV:VLe V (fun g=>if g=p then some (.pointer (some ⟨w.heap.size,0,none⟩)) else V g):=fun g u hu=>by
  by_cases e:g=p
  ·subst e; rw [hVp] at hu; cases hu
  ·simp only [e,if_false]; exact hu
 have ht:∀ g,Ak [(p,Ob.it ks m [] none)] g ↔ g=p:=fun g=>by simp [Ak]
 have hu:Ap ob [(p,.it ks m [] none)] p=.it ks m [] none:=by simp [Ap,As]
 refine After.mk' h rfl (TapeOk.mk' rfl rfl) rfl (by simp) (fun b hb _=>Below.heap_alloc w _ b hb) hV (fun g hg=>?_) (fun g hg hl'=>?_) (fun g b hg hl' hb=>?_) (fun g g' b hg hg' _ _ _ _=>?_) (fun g hg hf=>?_)
 ·have hg:¬ g=p:=fun e=>hg ((ht g).2 e)
  exact ⟨by funext b; simp only [hg,if_false],fun hf=>by simp only [hg,if_false]; exact h.fr g hf⟩
 ·obtain rfl:=(ht g).1 hg
  refine ⟨_,by simp only [if_true]; rfl,?_⟩
  rw [hu]
  simp only [if_true]
  exact hx
 ·obtain rfl:=(ht g).1 hg
  simp only [if_true] at hb
  subst hb
  exact .inl ⟨zI _,by simp⟩
 ·rw [(ht g).1 hg,(ht g').1 hg']
 ·obtain rfl:=(ht g).1 hg
  rw [hu] at hf; cases hf
theorem U7 {I:Nat→Prop} {V:Nat→Option Value} {B:Nat→Nat→Prop} {a:Act} {w:World} (hr:RepI c I V B s a w) {g:Nat} {ks:Bool} {m:MF} {seen:List MK} {cur:Option (MK × MV)} (hg:s.ob g=.it ks m seen cur) {v:Value} (hv:RepV w I V (.ptr g 0) v):V g=some v∧ItO w I (B g) ks m seen cur v:=by
 obtain ⟨val,h1,h2⟩:=hr.wf.obj g (by rw [hg]; trivial)
 rw [hg] at h2
 simp only [RepV] at hv
 obtain ⟨b,h3,h4⟩:=hv
 have h2':=h2
 obtain ⟨b',h5,_⟩:=h2'
 rw [h1,h5] at h3
 have e:b'=b:=by injection h3 with h3; injection h3 with h3; injection h3 with h3; injection h3
 subst e
 rw [h4,← h5]
 exact ⟨h1,h2⟩
theorem T8 {t:TypeId} {x:Operand} {q:Bool × TypeId} (hop:o.op=.range t x) (hq:Co P t=some q) (hd:Ay c.nt o.dst=true) (hp:s.ob p=.free) (h:eOp P (.mkit (trX x)) s.sl s.ob p K):Good P c o ops s K:=by
 obtain ⟨kt,d,hu,_,_⟩:=Dl hq
 simp only [eOp] at h
 split at h
 ·rename_i ks m he
  refine ⟨_,_,_,h,fun s' ha hrd hup=>BC hd fun I V B a w hr=>?_⟩
  have hx:=Ai hr x
  rw [ha.ev (y:=x) (by simp [hop,Op.operands]),he] at hx
  simp only [RepV] at hx
  have hnew:∀ y:Obj,(w.alloc y).heap[w.heap.size]?=some y:=fun y=>(MapKept.heap_alloc w y).1
  rcases hx with ⟨h1,h2⟩ | ⟨r,es,clock,h1,h2,h3,h4⟩
  ·refine ⟨.pointer (some ⟨w.heap.size,0,none⟩),w.alloc (.mapIter none 0 #[] 0),_,_,_,?_,After.Sd hr.wf (by rw [hup p (by simp),hp]) ⟨w.heap.size,rfl,fun _=>Iff.rfl,.inl ⟨hnew _,h2,rfl⟩⟩,?_⟩
   ·simp only [execOp,hop,h1]
    exact A5 (run_range_nilMap w t kt q.2 hu)
   ·simp only [RepV,if_true]
    exact ⟨w.heap.size,rfl,rfl⟩
  ·have hlt:r<w.heap.size:=(Array.getElem?_eq_some_iff.1 h3).1
   have hk:KeepS I w (w.alloc (.mapIter (some r) clock #[] clock)):=⟨by simp,fun b _ hb=>Below.heap_alloc w _ b hb⟩
   refine ⟨.pointer (some ⟨w.heap.size,0,none⟩),w.alloc (.mapIter (some r) clock #[] clock),_,_,_,?_,After.Sd hr.wf (by rw [hup p (by simp),hp]) ⟨w.heap.size,rfl,fun _=>Iff.rfl,.inr ⟨r,es,clock,#[],hnew _,h2,by rw [Below.heap_alloc w _ r hlt]; exact h3,h4.mono hk fun _ h=>h,fun e he=>by simp,fun k x hc=>by cases hc⟩⟩,?_⟩
   ·simp only [execOp,hop,h1]
    exact A5 (run_range_map w t kt q.2 r es clock hu h3)
   ·simp only [RepV,if_true]
    exact ⟨w.heap.size,rfl,rfl⟩
 ·exact h.elim
theorem MKR.sv {w:World} {I:Nat→Prop} {V:Nat→Option Value} {k:MK} {v:Value} (h:MKR k v):RepV w I V (MK.sv k) v:=by
 cases k <;> simpa only [MK.sv,RepV,MKR] using h
theorem T9 {x:Operand} (hop:o.op=.entry x) (hd:Ay c.nt o.dst=true) (h:eOp P (.mcur (trX x)) s.sl s.ob p K):Good P c o ops s K:=by
 simp only [eOp] at h
 split at h
 ·rename_i g off he
  split at h
  ·rename_i ks m seen k mv hob
   obtain ⟨rfl,hK⟩:=h
   refine An hd hK fun s' ha hrd I V B a w hr=>?_
   have hx:=Ai hr x
   rw [ha.ev (by simp [hop,Op.operands]),he] at hx
   obtain ⟨_,b,h1,_,h3⟩:=U7 hr (by rw [hrd g (by simp),hob]) hx
   rcases h3 with ⟨_,_,h3⟩ | ⟨r,es,clock,sn,h3,_,h5,h6,_,h8⟩
   ·cases h3
   ·obtain ⟨e,g1,g2,g3,g4⟩:=h8 k mv rfl
    refine ⟨.tuple #[e.key,e.val],?_,?_⟩
    ·simp only [execOp,hop,h1]
     refine A5 ?_
     have hf:es.find? (·.born == e.born)=some e:=by rw [←Array.find?_toList]; exact find_born e es.toList ((MapKept.stamped_iff _ _).1 h6.st).2.1 g1
     simp [Instr.entry,EE h3 rfl,EE h5 rfl,g2,hf,Result.andThen]
    ·simp only [RepV]
     refine ⟨[e.key,e.val],rfl,?_⟩
     simp only [RepVs]
     exact ⟨_,_,rfl,g3.sv,_,_,rfl,g4.sv,rfl⟩
  ·exact h.elim
 ·exact h.elim
theorem After.TA {I:Nat→Prop} {V:Nat→Option Value} {B:Nat→Nat→Prop} {w:World} {ob:Nat→Ob} (h:Wf w I V B ob) {g:Nat} {ks:Bool} {m:MF} {seen:List MK} {cur:Option (MK × MV)} (hg:ob g=.it ks m seen cur) {bi r:Nat} {es:Array MapEntry} {clock:Nat} {sn:Array Nat}
  (hV:V g=some (.pointer (some ⟨bi,0,none⟩))) (hB:∀ x,B g x ↔ x=bi) (hi:w.heap[bi]?=some (.mapIter (some r) clock sn clock)) (hIr:I r) (hb:w.heap[r]?=some (.map es clock)) (hent:EntR w I ks m es clock)
  (hsn:∀ e,e∈es.toList→(e.born∈sn ↔ ∃ k,k∈seen∧MKR k e.key)) {e:MapEntry} (he:e∈es.toList) {k:MK} {x:MV} (hk:MKR k e.key) (hx:MVR w I x e.val) (n:Nat) :
  After w I V B ob [(g,.it ks m (k :: seen) (some (k,x)))] { w.drewN n with heap:=w.heap.setIfInBounds bi (.mapIter (some r) clock (sn.push e.born) clock) } I V B:=by
 have ht:∀ g',Ak [(g,Ob.it ks m (k :: seen) (some (k,x)))] g' ↔ g'=g:=fun g'=>by simp [Ak]
 have hu:Ap ob [(g,.it ks m (k :: seen) (some (k,x)))] g=.it ks m (k :: seen) (some (k,x)):=by simp [Ap,As]
 have hlive:(ob g).live:=by rw [hg]; trivial
 obtain ⟨hs1,hs2⟩:=MapKept.heap_set (o':=Obj.mapIter (some r) clock (sn.push e.born) clock) hi
 have hnI:∀ b,I b→b≠bi:=fun b hI e'=>h.dI g b hlive ((hB b).2 e') hI
 have hkp:KeepS I w { w.drewN n with heap:=w.heap.setIfInBounds bi (.mapIter (some r) clock (sn.push e.born) clock) }:=⟨by simp,fun b hI _=>hs2 b (hnI b hI)⟩
 refine After.mk' h rfl (TapeOk.le rfl (Nat.le_add_right _ _)) rfl (by simp) (fun b' hb' hno=>hs2 b' fun e=>hno g ((ht g).2 rfl) hlive ((hB b').2 e)) (VLe.refl _) (fun g' hg'=>⟨rfl,fun hf=>h.fr g' hf⟩) (fun g' hg' hl'=>?_) (fun g' b' hg' hl' hb'=>?_) (fun g1 g2 b hg hg' _ _ _ _=>?_) (fun g' hg' hf=>?_)
 ·obtain rfl:=(ht g').1 hg'
  refine ⟨_,hV,?_⟩
  rw [hu]
  refine ⟨bi,rfl,hB,.inr ⟨r,es,clock,sn.push e.born,hs1,hIr,?_,hent.mono hkp fun _ h=>h,fun e' he'=>?_,fun k' x' hc=>?_⟩⟩
  ·rw [hs2 r (hnI r hIr)]; exact hb
  ·rw [Array.mem_push,hsn e' he']
   constructor
   ·rintro (⟨k',h1,h2⟩ | h1)
    ·exact ⟨k',by simp [h1],h2⟩
    ·have:e'=e:=by
      have h1':=find_born e es.toList ((MapKept.stamped_iff _ _).1 hent.st).2.1 he
      have h2':=find_born e' es.toList ((MapKept.stamped_iff _ _).1 hent.st).2.1 he'
      rw [h1] at h2'
      rw [h1'] at h2'
      exact (zA h2').symm
     subst this
     exact ⟨k,by simp,hk⟩
   ·rintro ⟨k',h1,h2⟩
    rcases zM.1 h1 with rfl | h1
    ·right
     have hkey:e'.key=e.key:=h2.val hk
     have hp:=((MapKept.stamped_iff _ _).1 hent.st).2.2
     obtain ⟨i,hi',rfl⟩:=List.getElem_of_mem he
     obtain ⟨j,hj',rfl⟩:=List.getElem_of_mem he'
     rw [List.pairwise_iff_getElem] at hp
     rcases Nat.lt_trichotomy i j with h5 | h5 | h5
     ·exact absurd hkey.symm (hp i j hi' hj' h5)
     ·subst h5; rfl
     ·exact absurd hkey (hp j i hj' hi' h5)
    ·exact .inl ⟨k',h1,h2⟩
  ·obtain ⟨rfl,rfl⟩:k=k'∧x=x':=by simpa using hc
   exact ⟨e,he,by simp,hk,hx.mono hkp fun _ h=>h⟩
 ·obtain rfl:=(ht g').1 hg'
  exact .inr ⟨g',hg',hlive,hb'⟩
 ·rw [(ht g1).1 hg,(ht g2).1 hg']
 ·obtain rfl:=(ht g').1 hg'
  rw [hu] at hf; cases hf
theorem QQ {I:Nat→Prop} {V:Nat→Option Value} {B:Nat→Nat→Prop} {a:Act} {w:World} (hr:RepI c I V B s a w) {it:Operand} {g:Nat} {ks:Bool} {m:MF} {seen:List MK} {cur:Option (MK × MV)} (he:Al s.sl (trX it)=.ptr g 0) (hg:s.ob g=.it ks m seen cur) (ty:TypeId) :
  ((∀ k x,m k=some x→k∈seen)∧(Instr.next (a.eval it) false ty).run P w=.ok (.tuple #[.bool false]) w) ∨
  ∃ k x w' u v,m k=some x∧k ∉ seen∧(Instr.next (a.eval it) false ty).run P w=.ok (.tuple #[.bool true,u,v]) w'∧After w I V B s.ob [(g,.it ks m (k :: seen) (some (k,x)))] w' I V B:=by
 have hx:=Ai hr it
 rw [he] at hx
 obtain ⟨hV,b,h1,hB,h3⟩:=U7 hr hg hx
 rcases h3 with ⟨h3,h4,_⟩ | ⟨r,es,clock,sn,h3,h4,h5,h6,h7,_⟩
 ·refine .inl ⟨fun k x hk=>(by rw [h4 k] at hk; cases hk),?_⟩
  rw [h1]
  simp [Instr.next,EE h3 rfl,Result.andThen]
 ·rw [h1] at hV ⊢
  rcases run_next_at (P:=P) ty h3 h5 h6.st.1 with ⟨g1,g2⟩ | ⟨e,g1,g2,n,g3⟩
  ·refine .inl ⟨fun k x hk=>?_,g2⟩
   obtain ⟨e,he1,he2⟩:=h6.all k x hk
   obtain ⟨k',hk1,hk2⟩:=(h7 e he1).1 (g1 e he1)
   rw [he2.inj hk2]; exact hk1
  ·obtain ⟨k,x,hk1,_,hk3,hk4⟩:=h6.ent e g1
   refine .inr ⟨k,x,_,e.key,e.val,hk3,fun hs=>g2 ((h7 e g1).2 ⟨k,hs,hk1⟩),g3,?_⟩
   exact After.TA hr.wf hg hV hB h3 h4 h5 h6 h7 g1 hk1 hk4 n
end
section
variable {P:Program} {c:Ctx} {ops:Array Oper} {s:Fst} {K:Kont} {p:Nat}
theorem Se:∀ {o:Oper} {so:SOp},Ca P o=some so→Ay c.nt o.dst=true→s.ob p=.free→eOp P so s.sl s.ob p K→Good P c o ops s K:=by
 intro o so ho hd hp h
 obtain ⟨dst,op,ty,pos,after,guard⟩:=o
 cases op with
 | move x=>simp only [Ca,zB] at ho; subst ho; exact Qk (.inl rfl) hd h
 | assign x=>simp only [Ca,zB] at ho; subst ho; exact Qk (.inr rfl) hd h
 | pick x y z=>simp only [Ca,zB] at ho; subst ho; exact Tz rfl hd h
 | alloc t =>
  simp only [Ca] at ho
  obtain ⟨z,hz,rfl⟩:=zC.1 ho
  exact RQ rfl hz hd hp h
 | box t x =>
  simp only [Ca] at ho
  obtain ⟨i,hi,rfl⟩:=zC.1 ho
  exact UL rfl hd hp h
 | build t parts =>
  simp only [Ca] at ho
  split at ho
  ·rename_i fs z hu hz
   split at ho
   ·cases ho
   ·rename_i hall
    obtain ⟨qs,hq,rfl⟩:=zC.1 ho
    refine Sa rfl hu hz hq (fun f hf=>?_) hd h
    simp only [Bool.not_eq_true,Bool.not_eq_false',zO] at hall
    exact Option.isSome_iff_exists.1 (hall f hf)
  ·cases ho
 | buildSlice t len parts =>
  simp only [Ca] at ho
  split at ho
  ·rename_i e hu
   split at ho
   ·rename_i i z hi hz
    split at ho
    ·rename_i hc
     obtain rfl:=zA ho
     simp only [zD,decide_eq_true_eq,beq_iff_eq,zO] at hc
     exact RZ rfl hu hi hz hc.1.1.1 hc.1.1.2 hc.1.2 hc.2 hd hp h
    ·cases ho
   ·cases ho
  ·cases ho
 | load t x =>
  simp only [Ca] at ho
  split at ho
  ·rename_i g i hg hi
   split at ho
   ·rename_i h1
    obtain rfl:=zA ho
    exact T0 rfl hg hi h1 hd hp h
   ·cases ho
  ·cases ho
 | store t x y =>
  simp only [Ca] at ho
  obtain ⟨i,hi,rfl⟩:=zC.1 ho
  simp only [eOp] at h
  split at h
  ·rename_i g off he
   split at h
   ·rename_i t0 l vs hob hc
    exact Na rfl hi hd he hob hc h.1.1 h.1.2 h.2
   ·exact h.elim
  ·rename_i g sz k off he
   split at h
   ·rename_i t0 sz' es vs hob hc
    split at h
    ·rename_i ls hls
     obtain ⟨⟨rfl,h1,h2,h3⟩,l,hl,hK⟩:=h
     exact Nc rfl hi hd he hob hc hls h1 h2 h3 hl hK
    ·exact h.elim
   ·rename_i es hs vs hob hc
    obtain ⟨v,z,rfl,h1,h2,l,hl,⟨h3,h4⟩,hK⟩:=h
    exact L7 rfl hi hd he hob hc h1 h2 hl h3 h4 hK
   ·exact h.elim
  ·exact h.elim
 | nilCheck x=>simp only [Ca,zB] at ho; subst ho; exact UP rfl hd h
 | binOp op t x y t'=>simp only [Ca,zB] at ho; subst ho; exact UO rfl hd h
 | unOp op t x=>simp only [Ca,zB] at ho; subst ho; exact VF rfl hd h
 | convert sr ds x =>
  simp only [Ca] at ho
  split at ho
  ·rename_i d k h1 h2
   obtain rfl:=zA ho
   exact T2 rfl h1 h2 hd h
  ·cases ho
 | makeFunc fn first caps =>
  cases fn <;> simp only [Ca] at ho <;> try (cases ho; done)
  rename_i f
  split at ho
  ·rename_i hf
   obtain rfl:=zA ho
   have:first=#[]:=by simpa using hf
   subst this
   exact T3 rfl hd h
  ·cases ho
 | makeSlice t l cp =>
  simp only [Ca] at ho
  split at ho
  ·rename_i e hu
   split at ho
   ·rename_i i z hi hz
    split at ho
    ·rename_i hc
     obtain rfl:=zA ho
     simp only [zD,decide_eq_true_eq,beq_iff_eq] at hc
     exact Pv rfl hc.1.1 hu hi hz hc.1.2 hc.2 hd hp h
    ·cases ho
   ·cases ho
  ·cases ho
 | slice t x lo hi mx =>
  cases mx <;> simp only [Ca] at ho <;> try (cases ho; done)
  split at ho
  ·rename_i hu
   obtain rfl:=zA ho
   exact Nb rfl hu hd h
  ·rename_i e hu
   obtain ⟨i,hi',rfl⟩:=zC.1 ho
   exact RV rfl hu hi' hd hp h
  ·cases ho
 | fieldAddr t x k =>
  simp only [Ca] at ho
  split at ho
  ·rename_i off n g hf
   split at ho
   ·cases ho
   ·rename_i hn
    obtain rfl:=zA ho
    exact RR rfl hf hn hd h
  ·cases ho
 | field t x k =>
  simp only [Ca] at ho
  split at ho
  ·rename_i off n g hf
   split at ho
   ·rename_i h1
    obtain rfl:=zA ho
    exact RS rfl hf h1 hd h
   ·cases ho
  ·cases ho
 | indexAddr t x i =>
  simp only [Ca] at ho
  split at ho
  ·rename_i e hu
   obtain ⟨j,hj,rfl⟩:=zC.1 ho
   exact RU rfl hu hj hd h
  ·cases ho
 | index t x i =>
  simp only [Ca] at ho
  split at ho
  ·rename_i hu
   obtain rfl:=zA ho
   exact UN rfl hu hd h
  ·cases ho
 | extract x k=>simp only [Ca,zB] at ho; subst ho; exact UM rfl hd h
 | makeMap t hint =>
  simp only [Ca] at ho
  obtain ⟨q,hq,rfl⟩:=zC.1 ho
  exact Sc rfl hq hd hp h
 | mapUpdate t m k v =>
  simp only [Ca] at ho
  obtain ⟨q,hq,rfl⟩:=zC.1 ho
  exact Qq (.inl rfl) hq hd h
 | insert t m k v =>
  simp only [Ca] at ho
  obtain ⟨q,hq,rfl⟩:=zC.1 ho
  exact Qq (.inr rfl) hq hd h
 | range t x =>
  simp only [Ca] at ho
  obtain ⟨q,hq,rfl⟩:=zC.1 ho
  exact T8 rfl hq hd hp h
 | entry x=>simp only [Ca,zB] at ho; subst ho; exact T9 rfl hd h
 | makeInterface t x=>simp only [Ca,zB] at ho; subst ho; simp only [eOp,Al] at h
 | panic x=>simp only [Ca,zB] at ho; subst ho; simp only [eOp,Al] at h
 | lookup t m k ok =>
  simp only [Ca] at ho
  split at ho
  ·rename_i ks et hq
   split at ho
   ·rename_i z g hz hg
    obtain rfl:=zA ho
    exact T7 rfl hq hz hg hd h
   ·cases ho
  ·cases ho
 | call cl =>
  obtain ⟨callee,args,ts⟩:=cl
  cases callee with
  | value f =>
   cases f with
   | func g =>
    simp only [Ca] at ho
    split at ho
    ·rename_i hg
     obtain rfl:=zA ho
     exact T4 rfl hg hd h
    ·cases ho
   | tmp k=>simp only [Ca,zB] at ho; subst ho; exact Ks rfl hd h
   | const v=>simp only [Ca,zB] at ho; subst ho; exact Ks rfl hd h
   | global k=>simp only [Ca,zB] at ho; subst ho; exact Ks rfl hd h
  | invoke x m=>simp only [Ca] at ho; cases ho
  | builtin b =>
   cases b <;> simp only [Ca] at ho <;> try (cases ho; done)
   case append =>
    split at ho
    ·rename_i x y t t' ha ht
     split at ho
     ·rename_i e hu
      split at ho
      ·rename_i i z hi hz
       split at ho
       ·rename_i hc
        obtain rfl:=zA ho
        simp only [zD,decide_eq_true_eq,beq_iff_eq] at hc
        obtain ⟨⟨rfl,hc1⟩,hc2⟩:=hc
        obtain rfl:args=#[x,y]:=yA ha
        obtain rfl:ts=#[t,t]:=yA ht
        exact QO rfl hu hi hz hc1 hc2 hd hp h
       ·cases ho
      ·cases ho
     ·cases ho
    ·cases ho
   case len =>
    split at ho
    ·rename_i x t ha ht
     obtain rfl:args=#[x]:=yA ha
     obtain rfl:ts=#[t]:=yA ht
     split at ho
     ·rename_i hu
      obtain rfl:=zA ho
      exact RT rfl (fun _=>hu) (fun e=>by cases e) hd h
     ·rename_i e hu
      obtain rfl:=zA ho
      exact RT rfl (fun e=>by cases e) (fun _=>⟨e,hu⟩) hd h
     ·cases ho
    ·cases ho
   case max =>
    split at ho
    ·rename_i x y ha
     obtain rfl:args=#[x,y]:=yA ha
     obtain rfl:=zA ho
     exact Md (mx:=true) rfl hd h
    ·cases ho
   case min =>
    split at ho
    ·rename_i x y ha
     obtain rfl:args=#[x,y]:=yA ha
     obtain rfl:=zA ho
     exact Md (mx:=false) rfl hd h
    ·cases ho
 | _=>simp only [Ca] at ho; cases ho
end
structure St where
 sl:List SV
 ob:List Ob
def gets:List SV→Nat→SV
 | [],_=>.any
 | x :: _,0=>x
 | _ :: r,k+1=>gets r k
def Ac:List Ob→Nat→Ob
 | [],_=>.free
 | x :: _,0=>x
 | _ :: r,k+1=>Ac r k
def L8:List SV→Nat→SV→List SV
 | [],_,_=>[]
 | _ :: r,0,y=>y :: r
 | x :: r,k+1,y=>x :: L8 r k y
def St.f (s:St):Fst:=⟨gets s.sl,Ac s.ob⟩
def HV (upd:List (Nat × Ob)):Nat→List Ob→List Ob
 | _,[]=>[]
 | k,o :: r=>(As upd k).getD o :: HV upd (k+1) r
def K1 (upd:List (Nat × Ob)):Nat→Nat→List Ob
 | 0,_=>[]
 | n+1,k=>match As upd k with
  | some o=>o :: K1 upd n (k+1)
  | none=>[]
def Cp (l:List Ob) (upd:List (Nat × Ob)):List Ob:=HV upd 0 l++K1 upd upd.length l.length
def DM (l:List SV) (d:Option Tmp) (x:SV):List SV :=
 match d with
 | some k=>L8 l k x
 | none=>l
def St.app (s:St) (d:Option Tmp) (x:SV) (upd:List (Nat × Ob)):St:=⟨DM s.sl d x,Cp s.ob upd⟩
def okU (n:Nat):List (Nat × Ob)→Prop
 | []=>True
 | (g,_) :: r=>g < n∧okU n r
theorem Mh:∀ (l:List SV) (k j:Nat) (x:SV),k<l.length→gets (L8 l k x) j=if k=j then x else gets l j
 | [],k,j,x,h=>absurd h (by simp)
 | y :: r,0,0,x,_=>by simp [L8,gets]
 | y :: r,0,j+1,x,_=>by simp [L8,gets]
 | y :: r,k+1,0,x,_=>by simp [L8,gets]
 | y :: r,k+1,j+1,x,h=>by
  simp only [L8,gets,zW]
  exact Mh r k j x (by simpa using h)
theorem HW:∀ (l:List SV) (k:Nat) (x:SV),(L8 l k x).length=l.length
 | [],_,_=>rfl
 | _ :: _,0,_=>rfl
 | _ :: r,k+1,x=>by simp [L8,HW r k x]
theorem Mi (upd:List (Nat × Ob)):∀ (l:List Ob) (k j:Nat),j<l.length→Ac (HV upd k l) j=(As upd (k+j)).getD (Ac l j)
 | [],k,j,h=>absurd h (by simp)
 | o :: r,k,0,_=>by simp [HV,Ac]
 | o :: r,k,j+1,h=>by
  simp only [HV,Ac]
  rw [Mi upd r (k+1) j (by simpa using h),show k+1+j=k+(j+1) by omega]
theorem HX (upd:List (Nat × Ob)):∀ (l:List Ob) (k:Nat),(HV upd k l).length=l.length
 | [],_=>rfl
 | o :: r,k=>by simp [HV,HX upd r (k+1)]
theorem HY:∀ (l l':List Ob) (j:Nat),Ac (l++l') j=if j<l.length then Ac l j else Ac l' (j-l.length)
 | [],l',j=>by simp
 | o :: r,l',0=>by simp [Ac]
 | o :: r,l',j+1=>by
  simp only [yI,Ac,zH,zS,zZ]
  exact HY r l' j
theorem NU (upd:List (Nat × Ob)):∀ (n k j:Nat),j<(K1 upd n k).length→Ac (K1 upd n k) j=(As upd (k+j)).getD .free
 | 0,k,j,h=>absurd h (by simp [K1])
 | n+1,k,j,h=>by
  simp only [K1] at h ⊢
  split
  ·rename_i o ho
   rw [ho] at h
   cases j with
   | zero=>simp [Ac,ho]
   | succ j =>
    simp only [Ac]
    rw [NU upd n (k+1) j (by simpa using h),show k+1+j=k+(j+1) by omega]
  ·rename_i ho
   rw [ho] at h
   simp at h
theorem Az:∀ (l:List Ob) (j:Nat),l.length≤j→Ac l j=.free
 | [],j,_=>rfl
 | o :: r,0,h=>by simp at h
 | o :: r,j+1,h=>Az r j (by simpa using h)
theorem NV {n:Nat}:∀ {upd:List (Nat × Ob)},okU n upd→∀ g,As upd g≠none→g<n
 | [],_,g,h=>absurd rfl h
 | (k,o) :: r,h,g,hg=>by
  simp only [okU] at h
  simp only [As] at hg
  split at hg
  ·rename_i e; subst e; exact h.1
  ·exact NV h.2 g hg
theorem Sf {l:List Ob} {upd:List (Nat × Ob)} (h:okU (Cp l upd).length upd) (g:Nat):Ac (Cp l upd) g=(As upd g).getD (Ac l g):=by
 unfold Cp at h ⊢
 rw [HY,HX]
 by_cases h1:g<l.length
 ·rw [if_pos h1,Mi upd l 0 g h1,zP]
 ·rw [if_neg h1,Az l g (by omega)]
  rcases zF (g-l.length) (K1 upd upd.length l.length).length with h2 | h2
  ·rw [NU upd _ _ _ h2,show l.length+(g-l.length)=g by omega]
  ·rw [Az _ _ h2]
   cases hl:As upd g with
   | none=>rfl
   | some o =>
    have:=NV h g (by rw [hl]; simp)
    rw [yB,HX] at this
    omega
theorem St.NW {s:St} {d:Option Tmp} {x:SV} {upd:List (Nat × Ob)} (hd:Ay s.sl.length d=true) (h:okU (Cp s.ob upd).length upd):(s.app d x upd).f=s.f.app d x upd:=by
 unfold St.app St.f Fst.app Fst.setO Fst.put
 congr 1
 ·funext k
  cases d with
  | none=>simp [DM]
  | some d =>
   simp only [Ay,decide_eq_true_eq] at hd
   simp only [DM,zB]
   exact Mh _ _ _ _ hd
 ·funext g
  exact Sf h g
structure SOper where
 dst:Option Tmp
 gd:Option (Nat × Bool)
 op:SOp
def Mj (P:Program) (o:SOper) (st:St) (K:Ent→St→Prop):Prop :=
 match o.gd with
 | none=>eOp P o.op (gets st.sl) (Ac st.ob) st.ob.length fun x upd rd=>okU (Cp st.ob upd).length upd∧K ⟨true,x,upd,rd⟩ (st.app o.dst x upd)
 | some (k,want)=>match gets st.sl k with
  | .bool b=>(b=want→eOp P o.op (gets st.sl) (Ac st.ob) st.ob.length fun x upd rd=>okU (Cp st.ob upd).length upd∧K ⟨true,x,upd,rd⟩ (st.app o.dst x upd))∧(b=!want→K ⟨false,.tup [],[],[]⟩ ⟨DM st.sl o.dst (.tup []),st.ob⟩)
  | .tup l=>l=[]∧K ⟨false,.tup [],[],[]⟩ ⟨DM st.sl o.dst (.tup []),st.ob⟩
  | _=>False
def Sg (P:Program):List SOper→St→(List Ent→St→Prop)→Prop
 | [],st,K=>K [] st
 | o :: r,st,K=>Mj P o st fun e st'=>Sg P r st' fun es st''=>K (e :: es) st''
def Sh (P:Program):List SOper→St→(St→Prop)→Prop
 | [],st,K=>K st
 | o :: r,st,K=>Mj P o st fun _ st'=>Sh P r st' K
def Si (ops:Array Oper) (o:Oper):Option (Option (Nat × Bool)) :=
 match o.guard with
 | none=>some none
 | some (j,want)=>((ops[j]?).bind (·.dst)).map fun d=>some (d,want)
def H0 (P:Program) (ops:Array Oper) (o:Oper):Option SOper :=
 match Si ops o,Ca P o with
 | some g,some so=>some ⟨o.dst,g,so⟩
 | _,_=>none
section
variable {P:Program} {c:Ctx} {ops:Array Oper}
theorem G8 {o:Oper} {g:Option (Nat × Bool)} (h:Si ops o=some g) (s:Fst) (b:Bool) (hb:match g with | none=>b=true | some (k,want)=>s.sl k=.bool (b == want)∨(b=false∧s.sl k=.tup [])):G4 ops o s b:=by
 unfold Si at h
 unfold G4
 cases hg:o.guard with
 | none=>rw [hg] at h; simp only [zB] at h; subst h; exact hb
 | some q =>
  obtain ⟨j,want⟩:=q
  rw [hg] at h
  simp only at h
  obtain ⟨d,hd,rfl⟩:=zC.1 h
  exact ⟨d,hd,hb⟩
theorem K2 {o:Oper} {k:Nat} {want:Bool} (h:Si ops o=some (some (k,want))):k∈o.looksAt ops:=by
 unfold Si at h
 cases hg:o.guard with
 | none=>rw [hg] at h; simp at h
 | some q =>
  obtain ⟨j,w'⟩:=q
  rw [hg] at h
  simp only at h
  obtain ⟨d,hd,h2⟩:=zC.1 h
  simp only [zB,zE] at h2
  obtain ⟨rfl,rfl⟩:=h2
  unfold Oper.looksAt
  refine z2 _ ?_
  rw [hg]
  simp only [hd,Option.toList_some,zX]
theorem Jw {o:Oper} {so:SOper} {st:St} {K:Ent→St→Prop} (ho:H0 P ops o=some so) (hlen:st.sl.length=c.nt) (hd:Ay c.nt o.dst=true) (h:Mj P so st K) :
  ∃ e st',K e st'∧MW P c ops o e st.f∧st'.f=st.f.app o.dst e.x e.upd∧st'.sl.length=c.nt:=by
 unfold H0 at ho
 split at ho
 ·rename_i g op hg hop
  obtain rfl:=zA ho
  have hp:st.f.ob st.ob.length=.free:=Az _ _ (zI _)
  have plen:∀ x,(DM st.sl o.dst x).length=c.nt:=fun x=>by cases o.dst <;> simp [DM,HW,hlen]
  have main:(∀ s':Fst,(∀ k,k∈o.looksAt ops→s'.sl k=st.f.sl k)→G4 ops o s' true)→(eOp P op (gets st.sl) (Ac st.ob) st.ob.length fun x upd rd=>okU (Cp st.ob upd).length upd∧K ⟨true,x,upd,rd⟩ (st.app o.dst x upd)) →
    ∃ e st',K e st'∧MW P c ops o e st.f∧st'.f=st.f.app o.dst e.x e.upd∧st'.sl.length=c.nt:=fun hgd h=>by
   obtain ⟨x,upd,rd,⟨hU,hK⟩,hv⟩:=Se (c:=c) (ops:=ops) (s:=st.f) hop hd hp h
   refine ⟨⟨true,x,upd,rd⟩,st.app o.dst x upd,hK,fun s' h1 h2 h3=>⟨hgd s' h1,?_⟩,St.NW (by rw [hlen]; exact hd) hU,plen x⟩
   rw [if_pos rfl]
   exact hv s' h1 h2 h3
  unfold Mj at h
  cases g with
  | none =>
   simp only at h
   exact main (fun s' _=>G8 hg s' true rfl) h
  | some q =>
   obtain ⟨k,want⟩:=q
   simp only at h
   split at h
   ·rename_i b hb
    by_cases hw:b=want
    ·exact main (fun s' h1=>G8 hg s' true (by
      simp only
      rw [h1 k (K2 hg)]
      left
      show gets st.sl k=_
      rw [hb,hw]; simp)) (h.1 hw)
    ·have hbw:b=!want:=by cases b <;> cases want <;> simp_all
     refine ⟨⟨false,.tup [],[],[]⟩,⟨DM st.sl o.dst (.tup []),st.ob⟩,h.2 hbw,fun s' h1 _ _=>⟨G8 hg s' false (by
      simp only
      rw [h1 k (K2 hg)]
      left
      show gets st.sl k=_
      rw [hb,hbw]; simp),by rw [if_neg (by simp)]; exact ⟨rfl,rfl⟩⟩,?_,plen _⟩
     have:Cp st.ob []=st.ob:=by
      have:∀ (l:List Ob) k,HV [] k l=l:=by
       intro l
       induction l with
       | nil=>intro k; rfl
       | cons o r ih=>intro k; simp [HV,As,ih]
      simp [Cp,this,K1]
     have h2:=St.NW (s:=st) (d:=o.dst) (x:=.tup []) (upd:=[]) (by rw [hlen]; exact hd) (by simp [okU])
     unfold St.app at h2
     rw [this] at h2
     exact h2
   ·rename_i l hb
    refine ⟨⟨false,.tup [],[],[]⟩,⟨DM st.sl o.dst (.tup []),st.ob⟩,h.2,fun s' h1 _ _=>⟨G8 hg s' false (by
     simp only
     rw [h1 k (K2 hg)]
     right
     refine ⟨trivial,?_⟩
     show gets st.sl k=_
     rw [hb,h.1]),by rw [if_neg (by simp)]; exact ⟨rfl,rfl⟩⟩,?_,plen _⟩
    have:Cp st.ob []=st.ob:=by
     have:∀ (l:List Ob) k,HV [] k l=l:=by
      intro l
      induction l with
      | nil=>intro k; rfl
      | cons o r ih=>intro k; simp [HV,As,ih]
     simp [Cp,this,K1]
    have h2:=St.NW (s:=st) (d:=o.dst) (x:=.tup []) (upd:=[]) (by rw [hlen]; exact hd) (by simp [okU])
    unfold St.app at h2
    rw [this] at h2
    exact h2
   ·exact h.elim
 ·cases ho
theorem K3:∀ {l:List Oper} {sl:List SOper} {st:St} {K:List Ent→St→Prop},AU (l.map (H0 P ops))=some sl→st.sl.length=c.nt→(∀ o∈l,Ay c.nt o.dst=true)→Sg P sl st K →
  ∃ es st',K es st'∧TextOk P c ops l es st.f∧JI l es st.f=st'.f∧st'.sl.length=c.nt
 | [],sl,st,K,hs,hlen,_,h=>by
  simp only [yK,AU,zB] at hs
  subst hs
  exact ⟨[],st,h,rfl,rfl,hlen⟩
 | o :: l,sl,st,K,hs,hlen,hd,h=>by
  simp only [zN] at hs
  cases ho:H0 P ops o with
  | none=>rw [ho] at hs; cases hs
  | some so =>
   rw [ho] at hs
   simp only [AU] at hs
   obtain ⟨sl',hs',rfl⟩:=zC.1 hs
   simp only [Sg] at h
   obtain ⟨e,st1,h1,h2,h3,h4⟩:=Jw ho hlen (hd o (by simp)) h
   obtain ⟨es,st2,g1,g2,g3,g4⟩:=K3 hs' h4 (fun o' ho'=>hd o' (by simp [ho'])) h1
   refine ⟨e :: es,st2,g1,?_,?_,g4⟩
   ·simp only [TextOk]
    exact ⟨e,es,rfl,h2,by rw [←h3]; exact g2⟩
   ·simp only [JI]
    rw [←h3]; exact g3
theorem K4:∀ {l:List Oper} {sl:List SOper} {st:St} {K:St→Prop},AU (l.map (H0 P ops))=some sl→st.sl.length=c.nt→(∀ o∈l,Ay c.nt o.dst=true)→Sh P sl st K →
  ∃ es st',K st'∧TextOk P c ops l es st.f∧JI l es st.f=st'.f∧st'.sl.length=c.nt
 | [],sl,st,K,hs,hlen,_,h=>by
  simp only [yK,AU,zB] at hs
  subst hs
  exact ⟨[],st,h,rfl,rfl,hlen⟩
 | o :: l,sl,st,K,hs,hlen,hd,h=>by
  simp only [zN] at hs
  cases ho:H0 P ops o with
  | none=>rw [ho] at hs; cases hs
  | some so =>
   rw [ho] at hs
   simp only [AU] at hs
   obtain ⟨sl',hs',rfl⟩:=zC.1 hs
   simp only [Sh] at h
   obtain ⟨e,st1,h1,h2,h3,h4⟩:=Jw ho hlen (hd o (by simp)) h
   obtain ⟨es,st2,g1,g2,g3,g4⟩:=K4 hs' h4 (fun o' ho'=>hd o' (by simp [ho'])) h1
   refine ⟨e :: es,st2,g1,?_,?_,g4⟩
   ·simp only [TextOk]
    exact ⟨e,es,rfl,h2,by rw [←h3]; exact g2⟩
   ·simp only [JI]
    rw [←h3]; exact g3
end
inductive SC where
 |skip
 |reg (ops:List SOper)
 |dreg (anc:List (List Nat)) (ops:List SOper)
 |seq (a b:SC)
 |cond (c:SX) (a b:SC)
 |block (id:Nat) (b:SC)
 |loop (junk:List Nat) (b:SC)
 |exit (id:Nat)
 |ret
 |next (it:SX) (nx more:Nat)
 |mloop (keep keepO:List Nat) (it:SX) (nx more:Nat) (b:SC)
 |ghost (n:Nat) (b:SC)
def wrC:SC→List Nat
 | .reg ops=>ops.filterMap (·.dst)
 | .dreg _ ops=>ops.filterMap (·.dst)
 | .seq a b=>wrC a++wrC b
 | .cond _ a b=>wrC a++wrC b
 | .block _ b=>wrC b
 | .loop j _=>j
 | .next _ a b=>[a,b]
 | _=>[]
def Pw (nt:Nat) (ops:Array Oper) (draw:Bool):Option (SX × Nat × Nat) :=
 match ops.toList with
 | [o1,o2]=>match o1.op,o1.dst,o1.guard,o2.op,o2.dst,o2.guard with
  | .next x false,some nx,none,.extract (.tmp k) 0,some more,none=>if draw=false∧k=nx∧nx < nt∧more < nt∧nx≠more then some (trX x,nx,more) else none
  | _,_,_,_,_,_=>none
 | _=>none
theorem NX {nt:Nat} {ops:Array Oper} {draw:Bool} {q:SX × Nat × Nat} (h:Pw nt ops draw=some q):draw=false∧∃ x o1 o2,ops.toList=[o1,o2]∧o1.dst=some q.2.1∧o1.op=.next x false∧o1.guard=none∧o2.dst=some q.2.2∧o2.op=.extract (.tmp q.2.1) 0∧o2.guard=none∧q.1=trX x∧q.2.1<nt∧q.2.2<nt∧q.2.1≠q.2.2:=by
 unfold Pw at h
 split at h
 ·rename_i o1 o2 hl
  split at h
  ·rename_i x nx k more h1 h2 h3 h4 h5 h6
   split at h
   ·rename_i hc
    obtain ⟨rfl,rfl,hc1,hc2,hc3⟩:=hc
    obtain rfl:=zA h
    exact ⟨rfl,x,o1,o2,hl,h2,h1,h3,h5,h4,h6,rfl,hc1,hc2,hc3⟩
   ·cases h
  ·cases h
 ·cases h
def trC (P:Program) (nt:Nat):Code→Option SC
 | .skip=>some .skip
 | .region _ ops draw=>match Pw nt ops draw with
  | some q=>some (.next q.1 q.2.1 q.2.2)
  | none=>match AU (ops.toList.map (H0 P ops)) with
   | some sl=>if ops.toList.all (fun o=>Ay nt o.dst&&NI nt ops o) then
     if draw then
      if NK ops.toList (Pm ops.toList [])&&decide ((Pm ops.toList []).length=ops.toList.length) then some (.dreg (Pm ops.toList []) sl) else none
     else some (.reg sl)
    else none
   | none=>none
 | .seq a b=>match trC P nt a,trC P nt b with
  | some x,some y=>some (.seq x y)
  | _,_=>none
 | .cond c a b=>match trC P nt a,trC P nt b with
  | some x,some y=>some (.cond (trX c) x y)
  | _,_=>none
 | .block id b=>(trC P nt b).map (.block id)
 | .loop b=>(trC P nt b).map fun x=>.loop (wrC x).eraseDups x
 | .exit id=>some (.exit id)
 | .ret=>some .ret
 | _=>none
inductive X where
 |normal
 |exit (id:Nat)
 |ret
def X.exit':X→Exit
 | .normal=>.normal
 | .exit id=>.exit id
 | .ret=>.ret
def Run (P:Program) (c:Ctx) (sc:SC) (K:X→St→Prop) (st:St):Prop :=
 ∀ (code:Code),trC P c.nt code=some sc→∀ (a:Act) (w:World) (Q:Exit→Act→World→Prop),st.sl.length=c.nt→Rep c st.f a w →
  (∀ x st' a' w',K x st'→st'.sl.length=c.nt→Rep c st'.f a' w'→Q x.exit' a' w')→code.wp P Q a w
def E1 (nx more:Nat) (st:St) (b:Bool) (u:List (Nat × Ob)):St:=(st.app (some nx) .any u).app (some more) (.bool b) []
def sw (P:Program) (c:Ctx):SC→(X→St→Prop)→St→Prop
 | .skip,K,st=>K .normal st
 | .reg ops,K,st=>Sh P ops st (K .normal)
 | .dreg anc ops,K,st=>Sg P ops st fun es st'=>obB anc [] (Hu es) 0=true∧K .normal st'
 | .seq a b,K,st=>sw P c a (fun x st'=>match x with | .normal=>sw P c b K st' | x=>K x st') st
 | .cond cx a b,K,st=>match Al (gets st.sl) cx with
  | .bool t=>(t=true→sw P c a K st)∧(t=false→sw P c b K st)
  | _=>False
 | .block id b,K,st=>sw P c b (fun x st'=>match x with | .exit i=>if i=id then K .normal st' else K (.exit i) st' | x=>K x st') st
 | .loop j b,K,st=>Run P c (.loop j b) K st
 | .exit id,K,st=>K (.exit id) st
 | .ret,K,st=>K .ret st
 | .next it nx more,K,st=>match Al (gets st.sl) it with
  | .ptr g o=>match Ac st.ob g with
   | .it ks m seen cur=>o=0∧((∀ k x,m k=some x→k∈seen)→K .normal (E1 nx more st false []))∧∀ k x,m k=some x→k ∉ seen→K .normal (E1 nx more st true [(g,.it ks m (k :: seen) (some (k,x)))])
   | _=>False
  | _=>False
 | .mloop _ _ _ _ _ _,_,_=>False
 | .ghost _ _,_,_=>False
section
variable {P:Program} {c:Ctx}
theorem DN (hm:P.follows .mixedOrders=true):∀ (sc:SC) (K:X→St→Prop) (st:St),sw P c sc K st→Run P c sc K st
 | .skip,K,st,h=>by
  intro code hc a w Q hl hr hq
  cases code <;> simp only [trC] at hc <;> (try (cases hc; done)) <;> (try (split at hc <;> (try split at hc) <;> (try split at hc) <;> (try split at hc) <;> (try split at hc) <;> cases hc; done)) <;> (try (obtain ⟨_,_,e⟩:=zC.1 hc; cases e; done))
  exact wp_skip (hq _ _ _ _ h hl hr)
 | .exit id,K,st,h=>by
  intro code hc a w Q hl hr hq
  cases code <;> simp only [trC] at hc <;> (try (cases hc; done)) <;> (try (split at hc <;> (try split at hc) <;> (try split at hc) <;> (try split at hc) <;> (try split at hc) <;> cases hc; done)) <;> (try (obtain ⟨_,_,e⟩:=zC.1 hc; cases e; done))
  obtain rfl:=SC.exit.inj (zA hc)
  exact wp_exit (hq _ _ _ _ h hl hr)
 | .ret,K,st,h=>by
  intro code hc a w Q hl hr hq
  cases code <;> simp only [trC] at hc <;> (try (cases hc; done)) <;> (try (split at hc <;> (try split at hc) <;> (try split at hc) <;> (try split at hc) <;> (try split at hc) <;> cases hc; done)) <;> (try (obtain ⟨_,_,e⟩:=zC.1 hc; cases e; done))
  exact wp_ret (hq _ _ _ _ h hl hr)
 | .loop j b,K,st,h=>h
 | .mloop _ _ _ _ _ _,K,st,h=>h.elim
 | .ghost _ _,K,st,h=>h.elim
 | .next it nx more,K,st,h=>by
  intro code hc a w Q hl hr hq
  cases code <;> simp only [trC] at hc <;> (try (cases hc; done)) <;> (try (obtain ⟨_,_,e⟩:=zC.1 hc; cases e; done))
  case seq=>split at hc <;> cases hc
  case cond=>split at hc <;> cases hc
  case region id ops draw =>
   split at hc
   ·rename_i q hn
    obtain ⟨rfl,x,o1,o2,hops,d1,p1,g1,d2,p2,g2,e1,l1,l2,l3⟩:=NX hn
    obtain ⟨rfl,rfl,rfl⟩:=SC.next.inj (zA hc)
    obtain ⟨I,V,B,hr⟩:=hr
    simp only [sw] at h
    split at h
    ·rename_i g o he
     split at h
     ·rename_i ks m seen cur hob
      obtain ⟨rfl,hN,hS⟩:=h
      rw [e1] at he
      have hlt:q.2.1<st.sl.length:=by rw [hl]; exact l1
      have hlt2:q.2.2<st.sl.length:=by rw [hl]; exact l2
      have hgl:g<st.ob.length:=by
       rcases zF g st.ob.length with h1 | h1
       ·exact h1
       ·rw [Az _ _ h1] at hob; cases hob
      refine wp_region_list ?_
      rw [hops]
      have fin:∀ (b:Bool) (u:List (Nat × Ob)) (w':World) (v:Value),okU (Cp st.ob u).length u→RepI c I V B (st.f.setO u) a w'→(Instr.extract v 0).run P w'=.ok (.bool b) w'→(Instr.next (a.eval x) false o1.type).run P w=.ok v w'→K .normal (E1 q.2.1 q.2.2 st b u)→wpList P ops Q [o1,o2] a w:=fun b u w' v hu hr2 hx hrun hK=>by
       have ht:∀ tm,Region.wanted o1 tm=true:=fun tm=>by unfold Region.wanted; rw [g1]
       have ht2:∀ tm,Region.wanted o2 tm=true:=fun tm=>by unfold Region.wanted; rw [g2]
       unfold wpList
       rw [ht,if_pos rfl]
       left
       unfold Oper.wp
       have hx1:(execOp a.eval o1).run P w=.ok (.value v) w':=by simp only [execOp,p1]; exact A5 hrun
       rw [hx1,Oper.upon_value]
       have r1:RepI c I V B ((st.f.setO u).put (some q.2.1) .any) (a.put (some q.2.1) v) w':=hr2.put (by simpa [Ay] using l1) (by simp [RepV])
       unfold wpList
       rw [ht2,if_pos rfl]
       left
       unfold Oper.wp
       have hv:(a.put o1.dst v).eval (.tmp q.2.1)=v:=by
        rw [d1]
        have:q.2.1<a.tmps.size:=by rw [hr.sz]; exact l1
        simp [Act.eval,Act.put,z8,this]
       have hx2:(execOp (a.put o1.dst v).eval o2).run P w'=.ok (.value (.bool b)) w':=by simp only [execOp,p2]; rw [hv]; exact A5 hx
       rw [hx2,Oper.upon_value,d1,d2]
       have r2:=r1.put (d:=some q.2.2) (by simpa [Ay] using l2) (x:=.bool b) (v:=.bool b) (by simp [RepV])
       refine hq .normal _ _ _ hK (by simp [E1,St.app,DM,HW,hl]) ⟨I,V,B,?_⟩
       have e1:(st.app (some q.2.1) .any u).f=st.f.app (some q.2.1) .any u:=St.NW (by simpa [Ay] using hlt) hu
       have e2:(E1 q.2.1 q.2.2 st b u).f=(st.app (some q.2.1) .any u).f.app (some q.2.2) (.bool b) []:=St.NW (by simpa [Ay,St.app,DM,HW] using hlt2) (by simp [okU])
       rw [e2,e1]
       exact r2
      rcases QQ hr (s:=st.f) he hob o1.type with ⟨h1,h2⟩ | ⟨k,y,w',u,v,h1,h2,h3,h4⟩
      ·refine fin false [] w (.tuple #[.bool false]) (by simp [okU]) ?_ (by simp [Instr.extract]) h2 (hN h1)
       exact hr
      ·refine fin true _ w' (.tuple #[.bool true,u,v]) ?_ (hr.after h4) (by simp [Instr.extract]) h3 (hS k y h1 h2)
       simp [okU,Cp,HX,hgl]
       omega
     ·exact h.elim
    ·exact h.elim
   ·split at hc <;> (try split at hc) <;> (try split at hc) <;> (try split at hc) <;> cases hc
 | .reg sl,K,st,h=>by
  intro code hc a w Q hl hr hq
  cases code <;> simp only [trC] at hc <;> (try (cases hc; done)) <;> (try (obtain ⟨_,_,e⟩:=zC.1 hc; cases e; done))
  case region id ops draw =>
   split at hc
   ·cases hc
   rename_i hnn
   split at hc
   ·rename_i sl' hsl
    split at hc
    ·rename_i hall
     split at hc
     ·split at hc <;> cases hc
     ·rename_i hdr
      obtain rfl:=SC.reg.inj (zA hc)
      have hdr:draw=false:=by simpa using hdr
      subst hdr
      have hall:∀ o∈ops.toList,Ay c.nt o.dst=true∧NI c.nt ops o=true:=fun o ho=>by
       have:=(zO.1 hall) o ho
       simpa using this
      obtain ⟨es,st',h1,h2,h3,h4⟩:=K4 (c:=c) hsl hl (fun o ho=>(hall o ho).1) h
      exact wp_region_list (Jq ops.toList es st.f a w hall h2 hr fun a' w' hr'=>hq .normal st' a' w' h1 h4 (by rw [←h3]; exact hr'))
    ·cases hc
   ·cases hc
  case seq=>split at hc <;> cases hc
  case cond=>split at hc <;> cases hc
 | .dreg anc sl,K,st,h=>by
  intro code hc a w Q hl hr hq
  cases code <;> simp only [trC] at hc <;> (try (cases hc; done)) <;> (try (obtain ⟨_,_,e⟩:=zC.1 hc; cases e; done))
  case region id ops draw =>
   split at hc
   ·cases hc
   rename_i hnn
   split at hc
   ·rename_i sl' hsl
    split at hc
    ·rename_i hall
     split at hc
     ·rename_i hdr
      split at hc
      ·rename_i hsb
       obtain ⟨rfl,rfl⟩:=SC.dreg.inj (zA hc)
       have hdr:draw=true:=by simpa using hdr
       subst hdr
       have hall:∀ o∈ops.toList,Ay c.nt o.dst=true∧NI c.nt ops o=true:=fun o ho=>by
        have:=(zO.1 hall) o ho
        simpa using this
       rw [zD] at hsb
       obtain ⟨es,st',⟨hob,h1⟩,h2,h3,h4⟩:=K3 (c:=c) hsl hl (fun o ho=>(hall o ho).1) h
       have:=Ko (P:=P) (c:=c) (Q:=Q) (l:=ops.toList) (es:=es) (anc:=Pm ops.toList []) (id:=id) (a:=a) (w:=w) (s:=st.f) hm hsb.1 rfl hsb.2 hob (by simpa using hall) (by simpa using h2) hr (fun a' w' hr'=>hq .normal st' a' w' h1 h4 (by rw [←h3]; exact hr'))
       simpa using this
      ·cases hc
     ·cases hc
    ·cases hc
   ·cases hc
  case seq=>split at hc <;> cases hc
  case cond=>split at hc <;> cases hc
 | .seq x y,K,st,h=>by
  intro code hc a w Q hl hr hq
  cases code <;> simp only [trC] at hc <;> (try (cases hc; done)) <;> (try (obtain ⟨_,_,e⟩:=zC.1 hc; cases e; done))
  case region=>split at hc <;> (try split at hc) <;> (try split at hc) <;> (try split at hc) <;> (try split at hc) <;> cases hc
  case cond=>split at hc <;> cases hc
  case seq u v =>
   split at hc
   ·rename_i x' y' hx hy
    obtain ⟨rfl,rfl⟩:=SC.seq.inj (zA hc)
    simp only [sw] at h
    refine wp_seq (DN hm _ _ st h u hx a w _ hl hr fun e st' a' w' hk hl' hr'=>?_)
    cases e with
    | normal=>exact DN hm _ _ st' hk v hy a' w' Q hl' hr' hq
    | exit id=>exact hq _ _ _ _ hk hl' hr'
    | ret=>exact hq _ _ _ _ hk hl' hr'
   ·cases hc
 | .cond cx x y,K,st,h=>by
  intro code hc a w Q hl hr hq
  cases code <;> simp only [trC] at hc <;> (try (cases hc; done)) <;> (try (obtain ⟨_,_,e⟩:=zC.1 hc; cases e; done))
  case region=>split at hc <;> (try split at hc) <;> (try split at hc) <;> (try split at hc) <;> (try split at hc) <;> cases hc
  case seq=>split at hc <;> cases hc
  case cond q u v =>
   split at hc
   ·rename_i x' y' hx hy
    obtain ⟨rfl,rfl,rfl⟩:=SC.cond.inj (zA hc)
    simp only [sw] at h
    split at h
    ·rename_i t ht
     have hv:a.eval q=.bool t:=by
      obtain ⟨I,V,B,hr⟩:=hr
      have:=Ai hr q
      have e:Al st.f.sl (trX q)=.bool t:=ht
      rw [e] at this
      simpa only [RepV] using this
     refine wp_cond_split hv (fun e=>?_) (fun e=>?_)
     ·exact DN hm _ _ st (h.1 e) u hx a w Q hl hr hq
     ·exact DN hm _ _ st (h.2 e) v hy a w Q hl hr hq
    ·exact h.elim
   ·cases hc
 | .block id b,K,st,h=>by
  intro code hc a w Q hl hr hq
  cases code <;> simp only [trC] at hc <;> (try (cases hc; done))
  case region=>split at hc <;> (try split at hc) <;> (try split at hc) <;> (try split at hc) <;> (try split at hc) <;> cases hc
  case seq=>split at hc <;> cases hc
  case cond=>split at hc <;> cases hc
  case loop=>obtain ⟨_,_,e⟩:=zC.1 hc; cases e
  case block id' u =>
   obtain ⟨x',hx,e⟩:=zC.1 hc
   obtain ⟨rfl,rfl⟩:=SC.block.inj e
   simp only [sw] at h
   refine wp_block (DN hm _ _ st h u hx a w _ hl hr fun e st' a' w' hk hl' hr'=>?_)
   cases e with
   | normal=>exact hq .normal st' a' w' hk hl' hr'
   | ret=>exact hq .ret st' a' w' hk hl' hr'
   | exit i =>
    simp only at hk
    simp only [X.exit',Exit.inBlock]
    by_cases hi:i=id'
    ·rw [if_pos hi] at hk ⊢
     exact hq .normal st' a' w' hk hl' hr'
    ·rw [if_neg hi] at hk ⊢
     exact hq (.exit i) st' a' w' hk hl' hr'
def Weak (c:Ctx) (st st':St):Prop:=st.sl.length=c.nt→st'.sl.length=c.nt∧∀ a w,Rep c st.f a w→Rep c st'.f a w
theorem Weak.trans {a b d:St} (h:Weak c a b) (k:Weak c b d):Weak c a d:=fun hl =>
 have h1:=h hl
 have h2:=k h1.1
 ⟨h2.1,fun x w hr=>h2.2 x w (h1.2 x w hr)⟩
theorem Run.weak {sc:SC} {K:X→St→Prop} {st st':St} (h:Weak c st st') (k:Run P c sc K st'):Run P c sc K st:=by
 intro code hc a w Q hl hr hq
 have h1:=h hl
 exact k code hc a w Q h1.1 (h1.2 a w hr) hq
theorem Run.seq {x y:SC} {K:X→St→Prop} {st:St} (h:Run P c x (fun e st'=>match e with | .normal=>Run P c y K st' | e=>K e st') st):Run P c (.seq x y) K st:=by
 intro code hc a w Q hl hr hq
 cases code <;> simp only [trC] at hc <;> (try (cases hc; done)) <;> (try (obtain ⟨_,_,e⟩:=zC.1 hc; cases e; done))
 case region=>split at hc <;> (try split at hc) <;> (try split at hc) <;> (try split at hc) <;> (try split at hc) <;> cases hc
 case cond=>split at hc <;> cases hc
 case seq u v =>
  split at hc
  ·rename_i x' y' hx hy
   obtain ⟨rfl,rfl⟩:=SC.seq.inj (zA hc)
   refine wp_seq (h u hx a w _ hl hr fun e st' a' w' hk hl' hr'=>?_)
   cases e with
   | normal=>exact hk v hy a' w' Q hl' hr' hq
   | exit id=>exact hq _ _ _ _ hk hl' hr'
   | ret=>exact hq _ _ _ _ hk hl' hr'
  ·cases hc
theorem Run.cond {cx:SX} {x y:SC} {K:X→St→Prop} {st:St} {t:Bool} (ht:Al (gets st.sl) cx=.bool t) (h1:t=true→Run P c x K st) (h2:t=false→Run P c y K st):Run P c (.cond cx x y) K st:=by
 intro code hc a w Q hl hr hq
 cases code <;> simp only [trC] at hc <;> (try (cases hc; done)) <;> (try (obtain ⟨_,_,e⟩:=zC.1 hc; cases e; done))
 case region=>split at hc <;> (try split at hc) <;> (try split at hc) <;> (try split at hc) <;> (try split at hc) <;> cases hc
 case seq=>split at hc <;> cases hc
 case cond q u v =>
  split at hc
  ·rename_i x' y' hx hy
   obtain ⟨rfl,rfl,rfl⟩:=SC.cond.inj (zA hc)
   have hv:a.eval q=.bool t:=by
    obtain ⟨I,V,B,hr⟩:=hr
    have:=Ai hr q
    have e:Al st.f.sl (trX q)=.bool t:=ht
    rw [e] at this
    simpa only [RepV] using this
   refine wp_cond_split hv (fun e=>?_) (fun e=>?_)
   ·exact h1 e u hx a w Q hl hr hq
   ·exact h2 e v hy a w Q hl hr hq
  ·cases hc
theorem Run.block {id:Nat} {b:SC} {K:X→St→Prop} {st:St} (h:Run P c b (fun e st'=>match e with | .exit i=>if i=id then K .normal st' else K (.exit i) st' | e=>K e st') st):Run P c (.block id b) K st:=by
 intro code hc a w Q hl hr hq
 cases code <;> simp only [trC] at hc <;> (try (cases hc; done))
 case region=>split at hc <;> (try split at hc) <;> (try split at hc) <;> (try split at hc) <;> (try split at hc) <;> cases hc
 case seq=>split at hc <;> cases hc
 case cond=>split at hc <;> cases hc
 case loop=>obtain ⟨_,_,e⟩:=zC.1 hc; cases e
 case block id' u =>
  obtain ⟨x',hx,e⟩:=zC.1 hc
  obtain ⟨rfl,rfl⟩:=SC.block.inj e
  refine wp_block (h u hx a w _ hl hr fun e st' a' w' hk hl' hr'=>?_)
  cases e with
  | normal=>exact hq .normal st' a' w' hk hl' hr'
  | ret=>exact hq .ret st' a' w' hk hl' hr'
  | exit i =>
   simp only at hk
   simp only [X.exit',Exit.inBlock]
   by_cases hi:i=id'
   ·rw [if_pos hi] at hk ⊢
    exact hq .normal st' a' w' hk hl' hr'
   ·rw [if_neg hi] at hk ⊢
    exact hq (.exit i) st' a' w' hk hl' hr'
theorem NY {α:Type} {junk:List Nat} {b:SC} {K:X→St→Prop} {st:St} (H:α→St) (μ:α→Nat) (x0:α) (h0:Weak c st (H x0))
  (round:∀ x,Run P c b (fun e st'=>match e with | .normal=>∃ y,μ y < μ x∧Weak c st' (H y) | e=>K e st') (H x)):Run P c (.loop junk b) K st:=by
 intro code hc a w Q hl hr hq
 cases code <;> simp only [trC] at hc <;> (try (cases hc; done))
 case region=>split at hc <;> (try split at hc) <;> (try split at hc) <;> (try split at hc) <;> (try split at hc) <;> cases hc
 case seq=>split at hc <;> cases hc
 case cond=>split at hc <;> cases hc
 case block=>obtain ⟨_,_,e⟩:=zC.1 hc; cases e
 case loop u =>
  obtain ⟨x',hx,e⟩:=zC.1 hc
  obtain ⟨_,rfl⟩:=SC.loop.inj e
  classical
  let I:Act→World→Prop:=fun a w=>∃ x,(H x).sl.length=c.nt∧Rep c (H x).f a w
  let Mx:Act→World→Nat→Prop:=fun a w n=>∃ x,(H x).sl.length=c.nt∧Rep c (H x).f a w∧μ x≤n
  have hex:∀ a w,I a w→∃ n,Mx a w n:=fun a w ⟨x,h1,h2⟩=>⟨μ x,x,h1,h2,zI _⟩
  have least:∀ (p:Nat→Prop),(∃ n,p n)→∃ n,p n∧∀ m,m<n→¬ p m:=fun p ⟨n,hn⟩=>by
   induction n using Nat.strongRecOn with
   | _ n ih =>
    by_cases h:∃ m,m<n∧p m
    ·obtain ⟨m,h1,h2⟩:=h; exact ih m h1 h2
    ·exact ⟨n,hn,fun m h1 h2=>h ⟨m,h1,h2⟩⟩
  let ν:Act→World→Nat:=fun a w=>if h:∃ n,Mx a w n then Classical.choose (least _ h) else 0
  have hν:∀ a w,(∃ n,Mx a w n)→Mx a w (ν a w)∧∀ m,m < ν a w→¬ Mx a w m:=fun a w h=>by
   have e:ν a w=Classical.choose (least _ h):=dif_pos h
   rw [e]
   exact Classical.choose_spec (least _ h)
  refine wp_loop I ν ?_ ?_
  ·exact ⟨x0,(h0 hl).1,(h0 hl).2 a w hr⟩
  ·intro a1 w1 hI
   obtain ⟨x,h1,h2,h3⟩:=(hν a1 w1 (hex a1 w1 hI)).1
   refine round x u hx a1 w1 _ h1 h2 fun e st' a' w' hk hl' hr'=>?_
   cases e with
   | normal =>
    obtain ⟨y,hy1,hy2⟩:=hk
    have h4:=hy2 hl'
    have hM:Mx a' w' (μ y):=⟨y,h4.1,h4.2 a' w' hr',zI _⟩
    refine ⟨⟨y,h4.1,h4.2 a' w' hr'⟩,?_⟩
    have h5:=(hν a' w' ⟨_,hM⟩).2
    rcases zF (ν a' w') (ν a1 w1) with h6 | h6
    ·exact h6
    ·exact absurd hM (h5 (μ y) (by omega))
   | exit id=>exact hq _ _ _ _ hk hl' hr'
   | ret=>exact hq _ _ _ _ hk hl' hr'
end
mutual
def SV.ren (σ:Nat→Nat):SV→SV
 | .ref g=>.ref (σ g)
 | .ptr g o=>.ptr (σ g) o
 | .eptr g sz k o=>.eptr (σ g) sz k o
 | .agg l=>.agg (SV.HZ σ l)
 | .tup l=>.tup (SV.HZ σ l)
 | .fn f l=>.fn f (SV.HZ σ l)
 | .any=>.any
 | .int k n=>.int k n
 | .bool b=>.bool b
 | .str s=>.str s
 | .nil=>.nil
 | .arr es=>.arr es
 | .vptr es k o=>.vptr es k o
 | .mp ks m=>.mp ks m
def SV.HZ (σ:Nat→Nat):List SV→List SV
 | []=>[]
 | x :: r=>SV.ren σ x :: SV.HZ σ r
end
def Ob.ren (σ:Nat→Nat):Ob→Ob
 | .box t l=>.box t (SV.HZ σ l)
 | .tree es hs=>.tree es (hs.map fun h=>(h.1,h.2.1,σ h.2.2))
 | o=>o
section
variable {w:World} {I:Nat→Prop} {V:Nat→Option Value} {σ:Nat→Nat}
mutual
theorem RepV.ren:∀ (x:SV) (v:Value),RepV w I V (x.ren σ) v ↔ RepV w I (fun g=>V (σ g)) x v
 | .any,v=>by simp [SV.ren,RepV]
 | .int k n,v=>by simp [SV.ren,RepV]
 | .bool b,v=>by simp [SV.ren,RepV]
 | .str s,v=>by simp [SV.ren,RepV]
 | .nil,v=>by simp [SV.ren,RepV]
 | .arr es,v=>by simp [SV.ren,RepV]
 | .vptr es k o,v=>by simp [SV.ren,RepV]
 | .mp ks m,v=>by simp [SV.ren,RepV]
 | .ref g,v=>by simp [SV.ren,RepV]
 | .ptr g o,v=>by simp [SV.ren,RepV]
 | .eptr g sz k o,v=>by simp [SV.ren,RepV]
 | .agg l,v=>by
  simp only [SV.ren,RepV]
  exact ⟨fun ⟨vs,e,h⟩=>⟨vs,e,(RepVs.ren l vs).1 h⟩,fun ⟨vs,e,h⟩=>⟨vs,e,(RepVs.ren l vs).2 h⟩⟩
 | .tup l,v=>by
  simp only [SV.ren,RepV]
  exact ⟨fun ⟨vs,e,h⟩=>⟨vs,e,(RepVs.ren l vs).1 h⟩,fun ⟨vs,e,h⟩=>⟨vs,e,(RepVs.ren l vs).2 h⟩⟩
 | .fn f l,v=>by
  simp only [SV.ren,RepV]
  exact ⟨fun ⟨vs,e,h⟩=>⟨vs,e,(RepVs.ren l vs).1 h⟩,fun ⟨vs,e,h⟩=>⟨vs,e,(RepVs.ren l vs).2 h⟩⟩
theorem RepVs.ren:∀ (l:List SV) (vs:List Value),RepVs w I V (SV.HZ σ l) vs ↔ RepVs w I (fun g=>V (σ g)) l vs
 | [],vs=>by simp [SV.HZ,RepVs]
 | x :: r,vs=>by
  simp only [SV.HZ,RepVs]
  exact ⟨fun ⟨v,q,e,h1,h2⟩=>⟨v,q,e,(RepV.ren x v).1 h1,(RepVs.ren r q).1 h2⟩,fun ⟨v,q,e,h1,h2⟩=>⟨v,q,e,(RepV.ren x v).2 h1,(RepVs.ren r q).2 h2⟩⟩
end
theorem Ob.Ia (o:Ob):(o.ren σ).live ↔ o.live:=by cases o <;> simp [Ob.ren,Ob.live]
theorem TreeR.ren {S:Nat→Prop} {val:Value} (es:List (List OT)) (hs:List (Nat × Nat × Nat)):TreeR w I V S es (hs.map fun h=>(h.1,h.2.1,σ h.2.2)) val ↔ TreeR w I (fun g=>V (σ g)) S es hs val:=by
 constructor
 ·rintro ⟨t,sz,h1,h2⟩
  exact ⟨t,sz,h1,fun h hh=>h2 (h.1,h.2.1,σ h.2.2) (z9.2 ⟨h,hh,rfl⟩)⟩
 ·rintro ⟨t,sz,h1,h2⟩
  refine ⟨t,sz,h1,fun h hh=>?_⟩
  obtain ⟨q,hq,rfl⟩:=z9.1 hh
  exact h2 q hq
theorem ObR.ren {S:Nat→Prop} {val:Value} (o:Ob):ObR w I V S val (o.ren σ) ↔ ObR w I (fun g=>V (σ g)) S val o:=by
 cases o with
 | free=>simp [Ob.ren,ObR]
 | gone=>simp [Ob.ren,ObR]
 | row t sz es=>simp [Ob.ren,ObR]
 | tree es hs=>exact TreeR.ren es hs
 | mp ks m=>simp [Ob.ren,ObR]
 | it ks m seen cur=>simp [Ob.ren,ObR]
 | shd es=>simp [Ob.ren,ObR]
 | box t l =>
  simp only [Ob.ren,ObR]
  exact ⟨fun ⟨b,vs,h1,h2,h3,h4⟩=>⟨b,vs,h1,h2,h3,(RepVs.ren l vs).1 h4⟩,fun ⟨b,vs,h1,h2,h3,h4⟩=>⟨b,vs,h1,h2,h3,(RepVs.ren l vs).2 h4⟩⟩
end
def sgp:List Nat→Nat→Nat→Nat
 | [],p,g=>p+g
 | x :: _,_,0=>x
 | _ :: r,p,g+1=>sgp r p g
theorem C9:∀ (m:List Nat) (p g:Nat),sgp m p g=match m[g]? with | some x=>x | none=>p+(g-m.length)
 | [],p,g=>by simp [sgp]
 | x :: r,p,0=>by simp [sgp]
 | x :: r,p,g+1=>by simp only [sgp,List.getElem?_cons_succ,zH,zZ]; exact C9 r p g
def leV (σ:Nat→Nat):SV→SV→Prop
 | .any,_=>True
 | x,y=>x.ren σ=y
def leL (σ:Nat→Nat):List SV→List SV→Prop
 | [],[]=>True
 | x :: xs,y :: ys=>leV σ x y∧leL σ xs ys
 | _,_=>False
def leO (σ:Nat→Nat):Ob→Ob→Prop
 | .gone,_=>True
 | .box t l,.box t' l'=>t=t'∧leL σ l l'
 | .row t sz es,.row t' sz' es'=>t=t'∧sz=sz'∧es=es'
 | .mp ks m,.mp ks' m'=>ks=ks'∧m=m'
 | .it ks m seen cur,.it ks' m' seen' cur'=>ks=ks'∧m=m'∧seen=seen'∧cur=cur'
 | .tree es hs,o=>(Ob.tree es hs).ren σ=o
 | _,_=>False
def TB (σ:Nat→Nat) (ob:List Ob):Nat→List Ob→Prop
 | _,[]=>True
 | k,o :: r=>leO σ o (Ac ob (σ k))∧TB σ ob (k+1) r
def TC (σ:Nat→Nat):Nat→Prop
 | 0=>True
 | n+1=>σ n=n∧TC σ n
def WeakC (n0:Nat) (m:List Nat) (st st':St):Prop :=
 leL (sgp m st.ob.length) st'.sl st.sl∧TB (sgp m st.ob.length) st.ob 0 st'.ob∧(m.length=st'.ob.length∧m.Nodup)∧TC (sgp m st.ob.length) n0
section
variable {w:World} {I:Nat→Prop} {V:Nat→Option Value} {B:Nat→Nat→Prop} {σ:Nat→Nat}
theorem Kd {x y:SV} {v:Value} (h:leV σ x y) (hy:RepV w I V y v):RepV w I (fun g=>V (σ g)) x v:=by
 cases x <;> simp only [leV] at h <;> first | (simp [RepV]; done) | (subst h; exact (RepV.ren _ v).1 hy)
theorem Qr:∀ {xs ys:List SV} {vs:List Value},leL σ xs ys→RepVs w I V ys vs→RepVs w I (fun g=>V (σ g)) xs vs
 | [],[],vs,_,h=>by simpa [RepVs] using h
 | x :: xs,y :: ys,vs,h,hy=>by
  simp only [leL] at h
  simp only [RepVs] at hy ⊢
  obtain ⟨v,r,e,h1,h2⟩:=hy
  exact ⟨v,r,e,Kd h.1 h1,Qr h.2 h2⟩
 | [],_ :: _,_,h,_=>h.elim
 | _ :: _,[],_,h,_=>h.elim
theorem Qs:∀ {xs ys:List SV},leL σ xs ys→xs.length=ys.length
 | [],[],_=>rfl
 | x :: xs,y :: ys,h=>by simp [Qs h.2]
 | [],_ :: _,h=>h.elim
 | _ :: _,[],h=>h.elim
theorem NZ:∀ {xs ys:List SV} (k:Nat),leL σ xs ys→leV σ (gets xs k) (gets ys k)
 | [],[],k,_=>by simp [gets,leV]
 | x :: xs,y :: ys,0,h=>h.1
 | x :: xs,y :: ys,k+1,h=>NZ k h.2
 | [],_ :: _,_,h=>h.elim
 | _ :: _,[],_,h=>h.elim
theorem TD {S:Nat→Prop} {val:Value} {o o':Ob} (h:leO σ o o') (hl:o.live) (ho:ObR w I V S val o'):ObR w I (fun g=>V (σ g)) S val o:=by
 by_cases ht:∃ es hs,o=.tree es hs
 ·obtain ⟨es,hs,rfl⟩:=ht
  have h:(Ob.tree es hs).ren σ=o':=by cases o' <;> exact h
  subst h
  exact (ObR.ren _).1 ho
 cases o <;> cases o' <;> (try exact absurd ⟨_,_,rfl⟩ ht) <;> simp only [leO] at h <;> first | exact hl.elim | exact h.elim | skip
 ·obtain ⟨rfl,h⟩:=h
  obtain ⟨b,vs,h1,h2,h3,h4⟩:=ho
  exact ⟨b,vs,h1,h2,h3,Qr h h4⟩
 ·obtain ⟨rfl,rfl,rfl⟩:=h
  exact ho
 ·obtain ⟨rfl,rfl⟩:=h
  exact ho
 ·obtain ⟨rfl,rfl,rfl,rfl⟩:=h
  exact ho
theorem Dt {o o':Ob} (h:leO σ o o') (hl:o.live):o'.live:=by
 by_cases ht:∃ es hs,o=.tree es hs
 ·obtain ⟨es,hs,rfl⟩:=ht
  have h:(Ob.tree es hs).ren σ=o':=by cases o' <;> exact h
  subst h
  trivial
 cases o <;> cases o' <;> (try exact absurd ⟨_,_,rfl⟩ ht) <;> simp only [leO] at h <;> first | exact hl.elim | exact h.elim | trivial
theorem DH {ob:List Ob}:∀ {l:List Ob} {k j:Nat},TB σ ob k l→j<l.length→leO σ (Ac l j) (Ac ob (σ (k+j)))
 | [],k,j,_,hj=>absurd hj (by simp)
 | o :: r,k,0,h,_=>h.1
 | o :: r,k,j+1,h,hj=>by
  have:=DH (j:=j) h.2 (by simpa using hj)
  rwa [show k+1+j=k+(j+1) by omega] at this
theorem G9:∀ {n:Nat},TC σ n→∀ g,g<n→σ g=g
 | 0,_,g,h=>by omega
 | n+1,h,g,hg=>by
  by_cases e:g=n
  ·subst e; exact h.1
  ·exact G9 h.2 g (by omega)
theorem WeakC.wf {n0:Nat} {m:List Nat} {st st':St} (h:WeakC n0 m st st') (hw:Wf w I V B (Ac st.ob)):Wf w I (fun g=>V (sgp m st.ob.length g)) (fun g=>B (sgp m st.ob.length g)) (Ac st'.ob):=by
 obtain ⟨_,hO,⟨hlen,hnd⟩,_⟩:=h
 have hlt:∀ g,(Ac st'.ob g).live→g<st'.ob.length:=fun g hl=>by
  rcases zF g st'.ob.length with h1 | h1
  ·exact h1
  ·rw [Az _ _ h1] at hl; exact hl.elim
 have hle:∀ g,(Ac st'.ob g).live→leO (sgp m st.ob.length) (Ac st'.ob g) (Ac st.ob (sgp m st.ob.length g)):=fun g hl=>by
  have:=DH (j:=g) hO (hlt g hl)
  rwa [zP] at this
 refine ⟨hw.ilt,fun g hl=>?_,fun g b hl hb=>?_,fun g b hl hb=>?_,fun g g' b hl hl' hb hb'=>?_,fun g hf=>?_,hw.gl⟩
 ·obtain ⟨val,h1,h2⟩:=hw.obj _ (Dt (hle g hl) hl)
  exact ⟨val,h1,TD (hle g hl) hl h2⟩
 ·exact hw.lt _ b (Dt (hle g hl) hl) hb
 ·exact hw.dI _ b (Dt (hle g hl) hl) hb
 ·have e:=hw.dO _ _ b (Dt (hle g hl) hl) (Dt (hle g' hl') hl') hb hb'
  have h1:=hlt g hl
  have h2:=hlt g' hl'
  rw [←hlen] at h1 h2
  rw [C9,C9,zG h1,zG h2] at e
  exact (List.getElem_inj hnd).1 e
 ·rcases zF g st'.ob.length with h1 | h1
  ·have:=DH (j:=g) hO h1
   rw [hf] at this
   cases Ac st.ob (sgp m st.ob.length (0+g)) <;> exact this.elim
  ·refine hw.fr _ (Az _ _ ?_)
   rw [C9,z3 (by omega)]
   simp only; omega
theorem TE {c:Ctx} (m:List Nat) {st st':St} (h:WeakC c.m m st st'):Weak c st st':=by
 intro hl
 have hL:=h.1
 refine ⟨(Qs hL).trans hl,fun a w hr=>?_⟩
 obtain ⟨I,V,B,hr⟩:=hr
 have hwf:=h.wf hr.wf
 refine ⟨I,_,_,hr.fr,hr.i0,hr.i1,fun g u hu=>?_,hwf,fun g b hlv hb=>?_,hr.nd,hr.sz,fun k=>?_⟩
 ·have hg:g<c.m:=by
   rcases zF g c.m with h1 | h1
   ·exact h1
   ·rw [c.vm g h1] at hu; cases hu
  rw [G9 h.2.2.2 g hg]
  exact hr.v0 g u hu
 ·have hlt:g<st'.ob.length:=by
   rcases zF g st'.ob.length with h1 | h1
   ·exact h1
   ·have:Ac st'.ob g=.free:=Az _ _ h1
    have hlv':(Ac st'.ob g).live:=hlv
    rw [this] at hlv'; exact hlv'.elim
  have:=DH (j:=g) h.2.1 hlt
  rw [zP] at this
  exact hr.bh _ b (Dt this hlv) hb
 ·exact Kd (NZ k hL) (hr.slots k)
end
mutual
def OT.noSh:OT→Bool
 | .sh _=>false
 | .ow es=>OT.BI es
 | _=>true
def OT.Du:List OT→Bool
 | []=>true
 | x :: r=>OT.noSh x&&OT.Du r
def OT.BI:List (List OT)→Bool
 | []=>true
 | x :: r=>OT.Du x&&OT.BI r
end
theorem OT.IK:∀ {l:List OT},OT.Du l=true→∀ x∈l,OT.noSh x=true
 | [],_,x,h=>by cases h
 | y :: r,h,x,hx=>by
  simp only [OT.Du,zD] at h
  rcases zM.1 hx with rfl | hx
  ·exact h.1
  ·exact OT.IK h.2 x hx
theorem OT.H1:∀ {l:List (List OT)},OT.BI l=true→∀ x∈l,OT.Du x=true
 | [],_,x,h=>by cases h
 | y :: r,h,x,hx=>by
  simp only [OT.BI,zD] at h
  rcases zM.1 hx with rfl | hx
  ·exact h.1
  ·exact OT.H1 h.2 x hx
theorem ORep.noSh {w:World} {I I' S:Nat→Prop} {o:OT} {v:Value} (h:ORep w I S o v) (hn:o.noSh=true):ORep w I' S o v:=by
 induction h with
 | int S n=>exact .int _ n
 | byte S n=>exact .byte _ n
 | bool S b=>exact .bool _ b
 | str S s h=>exact .str _ s h
 | sh S es v h=>simp [OT.noSh] at hn
 | nil S=>exact .nil _
 | hole S v h=>exact .hole _ v h
 | row S t sz es b cap cur Sub hs hb h1 h2 h3 h4 h5 h6 h7 ih =>
  refine .row _ t sz es b cap cur Sub hs hb h1 h2 h3 h4 h5 h6 fun i j hi hj=>ih i j hi hj ?_
  simp only [OT.noSh] at hn
  exact OT.IK (OT.H1 hn _ (zR hi)) _ (zR hj)
theorem RowR.noSh {w:World} {I I' S:Nat→Prop} {t:TypeId} {sz:Nat} {es:List (List OT)} {v:Value} (h:RowR w I S t sz es v) (hn:OT.BI es=true):RowR w I' S t sz es v:=by
 rcases h with h | ⟨b,cap,cur,Sub,rfl,hs,hb,h1,h2,h3,h4,h5,h6,h7⟩
 ·exact .inl h
 ·exact .inr ⟨b,cap,cur,Sub,rfl,hs,hb,h1,h2,h3,h4,h5,h6,fun i j hi hj=>(h7 i j hi hj).noSh (OT.IK (OT.H1 hn _ (zR hi)) _ (zR hj))⟩
mutual
def SV.noSh:SV→Bool
 | .arr _=>false
 | .vptr _ _ _=>false
 | .mp _ _=>false
 | .agg l=>SV.Jx l
 | .tup l=>SV.Jx l
 | .fn _ l=>SV.Jx l
 | _=>true
def SV.Jx:List SV→Bool
 | []=>true
 | x :: r=>SV.noSh x&&SV.Jx r
end
def Ob.noSh:Ob→Bool
 | .box _ l=>SV.Jx l
 | .row _ _ es=>OT.BI es
 | .tree es _=>OT.BI es
 | .mp _ _=>false
 | .it _ _ _ _=>false
 | .shd _=>false
 | _=>true
section
variable {w:World} {I I':Nat→Prop} {V:Nat→Option Value}
mutual
theorem RepV.noSh:∀ (x:SV) (v:Value),x.noSh=true→RepV w I V x v→RepV w I' V x v
 | .any,v,_,_=>by simp [RepV]
 | .int k n,v,_,h=>by simpa [RepV] using h
 | .bool b,v,_,h=>by simpa [RepV] using h
 | .str s,v,_,h=>by simpa [RepV] using h
 | .nil,v,_,h=>by simpa [RepV] using h
 | .arr es,v,hn,_=>by simp [SV.noSh] at hn
 | .vptr es k o,v,hn,_=>by simp [SV.noSh] at hn
 | .mp ks m,v,hn,_=>by simp [SV.noSh] at hn
 | .ref g,v,_,h=>by simpa [RepV] using h
 | .ptr g o,v,_,h=>by simpa [RepV] using h
 | .eptr g sz k o,v,_,h=>by simpa [RepV] using h
 | .agg l,v,hn,h=>by
  simp only [RepV] at h ⊢
  obtain ⟨vs,e,h⟩:=h
  exact ⟨vs,e,RepVs.noSh l vs (by simpa [SV.noSh] using hn) h⟩
 | .tup l,v,hn,h=>by
  simp only [RepV] at h ⊢
  obtain ⟨vs,e,h⟩:=h
  exact ⟨vs,e,RepVs.noSh l vs (by simpa [SV.noSh] using hn) h⟩
 | .fn f l,v,hn,h=>by
  simp only [RepV] at h ⊢
  obtain ⟨vs,e,h⟩:=h
  exact ⟨vs,e,RepVs.noSh l vs (by simpa [SV.noSh] using hn) h⟩
theorem RepVs.noSh:∀ (l:List SV) (vs:List Value),SV.Jx l=true→RepVs w I V l vs→RepVs w I' V l vs
 | [],vs,_,h=>by simpa [RepVs] using h
 | x :: r,vs,hn,h=>by
  simp only [SV.Jx,zD] at hn
  simp only [RepVs] at h ⊢
  obtain ⟨v,q,e,h1,h2⟩:=h
  exact ⟨v,q,e,RepV.noSh x v hn.1 h1,RepVs.noSh r q hn.2 h2⟩
end
theorem ObR.noSh {S:Nat→Prop} {val:Value} {o:Ob} (h:ObR w I V S val o) (hn:o.noSh=true):ObR w I' V S val o:=by
 cases o with
 | free=>trivial
 | gone=>trivial
 | row t sz es=>exact RowR.noSh h hn
 | tree es hs =>
  obtain ⟨t,sz,h1,h2⟩:=h
  exact ⟨t,sz,RowR.noSh h1 hn,h2⟩
 | mp ks m=>cases hn
 | it ks m seen cur=>cases hn
 | shd es=>cases hn
 | box t l =>
  obtain ⟨b,vs,h1,h2,h3,h4⟩:=h
  exact ⟨b,vs,h1,h2,h3,RepVs.noSh l vs hn h4⟩
end
def HB (B:Nat→Nat→Prop) (ob:List Ob) (b:Nat):Prop:=∃ g,(Ac ob g).live∧B g b
structure FunPost (w:World) (I:Nat→Prop) (V:Nat→Option Value) (B:Nat→Nat→Prop) (ob ob':List Ob) (w':World) (I':Nat→Prop) (V':Nat→Option Value) (B':Nat→Nat→Prop):Prop where
 fr:Fr w (HB B ob) w'
 i0:∀ b,I b→I' b
 i1:∀ b,I' b→I b∨w.heap.size≤b∨HB B ob b
 v:VLe V V'
 wf:Wf w' I' V' B' (Ac ob')
 bh:∀ g b,(Ac ob' g).live→B' g b→HB B ob b∨w.heap.size≤b
def Fun (P:Program) (f:FuncId) (args:List SV) (ob:List Ob) (r:SV) (ob':List Ob):Prop :=
 ∀ (w:World) (I:Nat→Prop) (V:Nat→Option Value) (B:Nat→Nat→Prop) (vs:List Value),Wf w I V B (Ac ob)→RepVs w I V args vs →
  Calls P f vs.toArray w (fun e w'=>∃ v I' V' B',e=.returned v∧RepV w' I' V' r v∧FunPost w I V B ob ob' w' I' V' B')
def EF:List Nat→Nat→Option Nat
 | [],_=>none
 | x :: r,g=>if x=g then some 0 else (EF r g).map (·+1)
theorem GA:∀ {m:List Nat} {g i:Nat},EF m g=some i→m[i]?=some g
 | [],g,i,h=>by cases h
 | x :: r,g,i,h=>by
  simp only [EF] at h
  split at h
  ·rename_i e; obtain rfl:=zA h; simp [e]
  ·obtain ⟨j,hj,rfl⟩:=zC.1 h
   simpa using GA hj
mutual
def BA (ob:Nat→Ob) (sel:List Nat):SV→SV
 | .ref g=>match EF sel g with
  | some i=>.ref i
  | none=>match ob g with
   | .row _ _ es=>bif OT.At es then .arr (OT.erss es) else .any
   | .tree es hs=>bif OT.At es then .arr (OT.erss es) else .any
   | .mp ks m=>.mp ks m
   | _=>.any
 | .ptr g o=>match EF sel g with
  | some i=>.ptr i o
  | none=>.any
 | .nil=>.arr []
 | .agg l=>.agg (F0 ob sel l)
 | .tup l=>.tup (F0 ob sel l)
 | .fn f l=>.fn f (F0 ob sel l)
 | .eptr _ _ _ _=>.any
 | .any=>.any
 | .int k n=>.int k n
 | .bool b=>.bool b
 | .str s=>.str s
 | .arr es=>.arr es
 | .vptr es k o=>.vptr es k o
 | .mp ks m=>.mp ks m
def F0 (ob:Nat→Ob) (sel:List Nat):List SV→List SV
 | []=>[]
 | x :: r=>BA ob sel x :: F0 ob sel r
end
mutual
def AE (sel:List Nat):SV→List Nat
 | .ref g=>match EF sel g with
  | some _=>[]
  | none=>[g]
 | .agg l=>AF sel l
 | .tup l=>AF sel l
 | .fn _ l=>AF sel l
 | _=>[]
def AF (sel:List Nat):List SV→List Nat
 | []=>[]
 | x :: r=>AE sel x++AF sel r
end
section
variable {w:World} {I J:Nat→Prop} {V:Nat→Option Value} {B:Nat→Nat→Prop} {ob:Nat→Ob} {sel:List Nat} {p:Nat}
theorem GB {m:List Nat} {g i:Nat} (h:EF m g=some i):sgp m p i=g:=by rw [C9,GA h]
theorem Jy (T:Nat→Prop):DRep false w T (.arr []) (.slice none 0 0):=.arr _ 0 [] none 0 (fun _ _=>undef) (fun _ _ _=>False) (zI _) (by omega) (.inl rfl) (fun i h=>absurd h (by simp)) (fun _ _ _ h=>h.elim) (fun e=>by cases e) (fun i j h=>absurd h (by simp))
variable {Vc:Nat→Option Value}
mutual
theorem GC (hwf:Wf w I V B ob) (hI:∀ b,I b→J b) (hVc:∀ g i,EF sel g=some i→Vc i=V g):∀ (x:SV) (v:Value),(∀ g b,g∈AE sel x→(ob g).live→B g b→J b)→RepV w I V x v→RepV w J Vc (BA ob sel x) v
 | .any,v,_,_=>by simp [BA,RepV]
 | .eptr _ _ _ _,v,_,_=>by simp [BA,RepV]
 | .int k n,v,_,h=>by simpa [BA,RepV] using h
 | .bool b,v,_,h=>by simpa [BA,RepV] using h
 | .str s,v,_,h=>by simpa [BA,RepV] using h
 | .nil,v,_,h=>by
  simp only [RepV] at h
  subst h
  simp only [BA,RepV]
  exact Jy _
 | .arr es,v,_,h=>by
  simp only [BA,RepV] at h ⊢
  exact h.up hI
 | .mp ks m,v,_,h=>by
  simp only [BA,RepV] at h ⊢
  exact h.mono (KeepS.refl _ _) hI
 | .vptr es k o,v,_,h=>by
  simp only [BA,RepV] at h ⊢
  obtain ⟨b,off,c,h1,h2⟩:=h
  exact ⟨b,off,c,h1.up hI,h2⟩
 | .ref g,v,hU,h=>by
  simp only [BA]
  simp only [AE] at hU
  split
  ·rename_i i hi
   simp only [RepV] at h ⊢
   rw [hVc _ _ hi]; exact h
  ·rename_i hi
   split
   ·rename_i t sz es hob
    rw [hi] at hU
    cases hf:OT.At es with
    | false=>simp [RepV]
    | true =>
     obtain ⟨val,h1,h2⟩:=hwf.obj g (by rw [hob]; trivial)
     rw [hob] at h2
     simp only [RepV,cond_true] at h ⊢
     rw [h1] at h
     obtain rfl:=zA h.1
     exact RowR.er h2 (fun b hb=>hU g b (by simp) (by rw [hob]; trivial) hb) hI hf
   ·rename_i es hs hob
    rw [hi] at hU
    cases hf:OT.At es with
    | false=>simp [RepV]
    | true =>
     obtain ⟨val,h1,h2⟩:=hwf.obj g (by rw [hob]; trivial)
     rw [hob] at h2
     simp only [RepV,cond_true] at h ⊢
     rw [h1] at h
     obtain rfl:=zA h.1
     obtain ⟨t,sz,h3,_⟩:=h2
     exact RowR.er h3 (fun b hb=>hU g b (by simp) (by rw [hob]; trivial) hb) hI hf
   ·rename_i ks m hob
    rw [hi] at hU
    obtain ⟨val,h1,h2⟩:=hwf.obj g (by rw [hob]; trivial)
    rw [hob] at h2
    simp only [RepV] at h ⊢
    rw [h1] at h
    obtain rfl:=zA h.1
    exact MapO.give h2 (fun b hb=>hU g b (by simp) (by rw [hob]; trivial) hb) hI
   ·simp [RepV]
 | .ptr g o,v,_,h=>by
  simp only [BA]
  split
  ·rename_i i hi
   simp only [RepV] at h ⊢
   rw [hVc _ _ hi]; exact h
  ·simp [RepV]
 | .agg l,v,hU,h=>by
  simp only [BA,RepV] at h ⊢
  obtain ⟨vs,e,h⟩:=h
  exact ⟨vs,e,EG hwf hI hVc l vs (by simpa only [AE] using hU) h⟩
 | .tup l,v,hU,h=>by
  simp only [BA,RepV] at h ⊢
  obtain ⟨vs,e,h⟩:=h
  exact ⟨vs,e,EG hwf hI hVc l vs (by simpa only [AE] using hU) h⟩
 | .fn f l,v,hU,h=>by
  simp only [BA,RepV] at h ⊢
  obtain ⟨vs,e,h⟩:=h
  exact ⟨vs,e,EG hwf hI hVc l vs (by simpa only [AE] using hU) h⟩
theorem EG (hwf:Wf w I V B ob) (hI:∀ b,I b→J b) (hVc:∀ g i,EF sel g=some i→Vc i=V g):∀ (l:List SV) (vs:List Value),(∀ g b,g∈AF sel l→(ob g).live→B g b→J b)→RepVs w I V l vs→RepVs w J Vc (F0 ob sel l) vs
 | [],vs,_,h=>by simpa [F0,RepVs] using h
 | x :: r,vs,hU,h=>by
  simp only [F0,RepVs] at h ⊢
  obtain ⟨v,q,e,h1,h2⟩:=h
  exact ⟨v,q,e,GC hwf hI hVc x v (fun g b hg hl hb=>hU g b (by simp only [AF,zL]; exact .inl hg) hl hb) h1,EG hwf hI hVc r q (fun g b hg hl hb=>hU g b (by simp only [AF,zL]; exact .inr hg) hl hb) h2⟩
end
mutual
theorem QR:∀ (x:SV) (g:Nat),g∈AE sel x→EF sel g=none
 | .ref g0,g,h=>by
  simp only [AE] at h
  split at h
  ·cases h
  ·rename_i hp; rw [zX.1 h]; exact hp
 | .agg l,g,h=>DI l g (by simpa only [AE] using h)
 | .tup l,g,h=>DI l g (by simpa only [AE] using h)
 | .fn f l,g,h=>DI l g (by simpa only [AE] using h)
 | .any,g,h=>by simp [AE] at h
 | .eptr _ _ _ _,g,h=>by simp [AE] at h
 | .int k n,g,h=>by simp [AE] at h
 | .bool b,g,h=>by simp [AE] at h
 | .str s,g,h=>by simp [AE] at h
 | .nil,g,h=>by simp [AE] at h
 | .arr es,g,h=>by simp [AE] at h
 | .vptr es k o,g,h=>by simp [AE] at h
 | .mp ks m,g,h=>by simp [AE] at h
 | .ptr _ _,g,h=>by simp [AE] at h
theorem DI:∀ (l:List SV) (g:Nat),g∈AF sel l→EF sel g=none
 | [],g,h=>by simp [AF] at h
 | x :: r,g,h=>by
  simp only [AF,zL] at h
  rcases h with h | h
  ·exact QR x g h
  ·exact DI r g h
end
mutual
theorem Jz {ob':Nat→Ob}:∀ (x:SV),(∀ g,g∈AE sel x→ob' g=ob g)→BA ob' sel x=BA ob sel x
 | .any,_=>rfl
 | .eptr _ _ _ _,_=>rfl
 | .int k n,_=>rfl
 | .bool b,_=>rfl
 | .str s,_=>rfl
 | .nil,_=>rfl
 | .arr es,_=>rfl
 | .mp ks m,_=>rfl
 | .vptr es k o,_=>rfl
 | .ptr g o,_=>rfl
 | .ref g,h=>by
  simp only [BA]
  simp only [AE] at h
  split
  ·rfl
  ·rename_i hi
   rw [hi] at h
   rw [h g (by simp)]
 | .agg l,h=>by simp only [BA]; rw [Dv l h]
 | .tup l,h=>by simp only [BA]; rw [Dv l h]
 | .fn f l,h=>by simp only [BA]; rw [Dv l h]
theorem Dv {ob':Nat→Ob}:∀ (l:List SV),(∀ g,g∈AF sel l→ob' g=ob g)→F0 ob' sel l=F0 ob sel l
 | [],_=>rfl
 | x :: r,h=>by
  simp only [F0]
  rw [Jz x (fun g hg=>h g (by simp only [AF,zL]; exact .inl hg)),Dv r (fun g hg=>h g (by simp only [AF,zL]; exact .inr hg))]
end
def SV.isNil:SV→Bool
 | .nil=>true
 | .any=>false
 | .int _ _=>false
 | .bool _=>false
 | .str _=>false
 | .arr _=>false
 | .agg _=>false
 | .tup _=>false
 | .ref _=>false
 | .ptr _ _=>false
 | .eptr _ _ _ _=>false
 | .vptr _ _ _=>false
 | .fn _ _=>false
 | .mp _ _=>false
def Oa (b:Bool) (ob:Nat→Ob) (sel:List Nat) (x:SV):SV:=bif b&&x.isNil then .nil else BA ob sel x
def Eh:List Bool→(Nat→Ob)→List Nat→List SV→List SV
 | [],ob,sel,xs=>F0 ob sel xs
 | _ :: _,_,_,[]=>[]
 | b :: h,ob,sel,x :: r=>Oa b ob sel x :: Eh h ob sel r
theorem QS (hwf:Wf w I V B ob) (hI:∀ b,I b→J b) (hVc:∀ g i,EF sel g=some i→Vc i=V g) (b:Bool) (x:SV) (v:Value) (hU:∀ g b,g∈AE sel x→(ob g).live→B g b→J b) (h:RepV w I V x v):RepV w J Vc (Oa b ob sel x) v:=by
 unfold Oa
 cases hb:b&&x.isNil with
 | false=>exact GC hwf hI hVc x v hU h
 | true =>
  rw [cond_true]
  rw [zD] at hb
  cases x with
  | nil=>simpa only [RepV] using h
  | _=>cases hb.2
theorem IL (hwf:Wf w I V B ob) (hI:∀ b,I b→J b) (hVc:∀ g i,EF sel g=some i→Vc i=V g):∀ (hd:List Bool) (l:List SV) (vs:List Value),(∀ g b,g∈AF sel l→(ob g).live→B g b→J b)→RepVs w I V l vs→RepVs w J Vc (Eh hd ob sel l) vs
 | [],l,vs,hU,h=>EG hwf hI hVc l vs hU h
 | b :: hd,[],vs,_,h=>by simpa [Eh,RepVs] using h
 | b :: hd,x :: r,vs,hU,h=>by
  simp only [Eh,RepVs] at h ⊢
  obtain ⟨v,q,e,h1,h2⟩:=h
  exact ⟨v,q,e,QS hwf hI hVc b x v (fun g b hg hl hb=>hU g b (by simp only [AF,zL]; exact .inl hg) hl hb) h1,IL hwf hI hVc hd r q (fun g b hg hl hb=>hU g b (by simp only [AF,zL]; exact .inr hg) hl hb) h2⟩
theorem FP {ob':Nat→Ob}:∀ (hd:List Bool) (l:List SV),(∀ g,g∈AF sel l→ob' g=ob g)→Eh hd ob' sel l=Eh hd ob sel l
 | [],l,h=>Dv l h
 | b :: hd,[],_=>rfl
 | b :: hd,x :: r,h=>by
  simp only [Eh,Oa]
  rw [Jz x (fun g hg=>h g (by simp only [AF,zL]; exact .inl hg)),FP hd r (fun g hg=>h g (by simp only [AF,zL]; exact .inr hg))]
end
mutual
def SV.idsB (n:Nat):SV→Bool
 | .ref g=>decide (g < n)
 | .ptr g _=>decide (g < n)
 | .eptr g _ _ _=>decide (g < n)
 | .agg l=>SV.J0 n l
 | .tup l=>SV.J0 n l
 | .fn _ l=>SV.J0 n l
 | _=>true
def SV.J0 (n:Nat):List SV→Bool
 | []=>true
 | x :: r=>SV.idsB n x&&SV.J0 n r
end
def Ob.idsB (n:Nat):Ob→Bool
 | .box _ l=>SV.J0 n l
 | .tree _ hs=>hs.all fun h=>decide (h.2.2 < n)
 | _=>true
section
variable {w:World} {I:Nat→Prop} {V V':Nat→Option Value} {n:Nat}
mutual
theorem RepV.idsB (hV:∀ g,g<n→V' g=V g):∀ (x:SV) (v:Value),x.idsB n=true→RepV w I V x v→RepV w I V' x v
 | .any,v,_,_=>by simp [RepV]
 | .int k m,v,_,h=>by simpa [RepV] using h
 | .bool b,v,_,h=>by simpa [RepV] using h
 | .str s,v,_,h=>by simpa [RepV] using h
 | .nil,v,_,h=>by simpa [RepV] using h
 | .arr es,v,_,h=>by simpa [RepV] using h
 | .vptr es k o,v,_,h=>by simpa [RepV] using h
 | .mp ks m,v,_,h=>by simpa [RepV] using h
 | .ref g,v,hn,h=>by
  simp only [SV.idsB,decide_eq_true_eq] at hn
  simp only [RepV] at h ⊢
  rw [hV g hn]; exact h
 | .ptr g o,v,hn,h=>by
  simp only [SV.idsB,decide_eq_true_eq] at hn
  simp only [RepV] at h ⊢
  rw [hV g hn]; exact h
 | .eptr g sz k o,v,hn,h=>by
  simp only [SV.idsB,decide_eq_true_eq] at hn
  simp only [RepV] at h ⊢
  rw [hV g hn]; exact h
 | .agg l,v,hn,h=>by
  simp only [RepV] at h ⊢
  obtain ⟨vs,e,h⟩:=h
  exact ⟨vs,e,RepVs.idsB hV l vs (by simpa [SV.idsB] using hn) h⟩
 | .tup l,v,hn,h=>by
  simp only [RepV] at h ⊢
  obtain ⟨vs,e,h⟩:=h
  exact ⟨vs,e,RepVs.idsB hV l vs (by simpa [SV.idsB] using hn) h⟩
 | .fn f l,v,hn,h=>by
  simp only [RepV] at h ⊢
  obtain ⟨vs,e,h⟩:=h
  exact ⟨vs,e,RepVs.idsB hV l vs (by simpa [SV.idsB] using hn) h⟩
theorem RepVs.idsB (hV:∀ g,g<n→V' g=V g):∀ (l:List SV) (vs:List Value),SV.J0 n l=true→RepVs w I V l vs→RepVs w I V' l vs
 | [],vs,_,h=>by simpa [RepVs] using h
 | x :: r,vs,hn,h=>by
  simp only [SV.J0,zD] at hn
  simp only [RepVs] at h ⊢
  obtain ⟨v,q,e,h1,h2⟩:=h
  exact ⟨v,q,e,RepV.idsB hV x v hn.1 h1,RepVs.idsB hV r q hn.2 h2⟩
end
theorem ObR.idsB {S:Nat→Prop} {val:Value} {o:Ob} (hV:∀ g,g<n→V' g=V g) (hn:o.idsB n=true) (h:ObR w I V S val o):ObR w I V' S val o:=by
 cases o with
 | free=>trivial
 | mp ks m=>exact h
 | it ks m seen cur=>exact h
 | shd es=>exact h
 | gone=>trivial
 | row t sz es=>exact h
 | tree es hs =>
  obtain ⟨t,sz,h1,h2⟩:=h
  refine ⟨t,sz,h1,fun q hq=>?_⟩
  obtain ⟨g1,g2,b,c,v,e,g3,g4,g5⟩:=h2 q hq
  have hb:q.2.2<n:=of_decide_eq_true (zO.1 hn q hq)
  exact ⟨g1,g2,b,c,v,e,g3,by rw [hV _ hb]; exact g4,g5⟩
 | box t l =>
  obtain ⟨b,vs,h1,h2,h3,h4⟩:=h
  exact ⟨b,vs,h1,h2,h3,RepVs.idsB hV l vs hn h4⟩
end
def mkU (σ:Nat→Nat):Nat→List Ob→List (Nat × Ob)
 | _,[]=>[]
 | k,o :: r=>(σ k,o.ren σ) :: mkU σ (k+1) r
def Mk (ob:Nat→Ob) (σ:Nat→Nat):Nat→List Ob→Prop
 | _,[]=>True
 | k,o :: r=>ob (σ k)=o.ren σ∧Mk ob σ (k+1) r
theorem H2 {ob:Nat→Ob} {σ:Nat→Nat}:∀ {l:List Ob} {k j:Nat},Mk ob σ k l→j<l.length→ob (σ (k+j))=(Ac l j).ren σ
 | [],k,j,_,h=>absurd h (by simp)
 | o :: r,k,0,h,_=>h.1
 | o :: r,k,j+1,h,hj=>by
  have:=H2 (j:=j) h.2 (by simpa using hj)
  rwa [show k+1+j=k+(j+1) by omega] at this
theorem Ib:∀ {l:List Ob} {j:Nat},j<l.length→Ac l j∈l
 | [],j,h=>absurd h (by simp)
 | o :: r,0,_=>by simp [Ac]
 | o :: r,j+1,h=>by simp only [Ac,zM]; exact .inr (Ib (by simpa using h))
theorem Nf {σ:Nat→Nat}:∀ {l:List Ob} {k g:Nat},g∈(mkU σ k l).map (·.1) ↔ ∃ j,j<l.length∧σ (k+j)=g
 | [],k,g=>by simp [mkU]
 | o :: r,k,g=>by
  simp only [mkU,zN,zM]
  rw [Nf]
  constructor
  ·rintro (h | ⟨j,h1,h2⟩)
   ·exact ⟨0,by simp,h.symm⟩
   ·exact ⟨j+1,by simp; omega,by rw [←h2]; congr 1; omega⟩
  ·rintro ⟨j,h1,h2⟩
   cases j with
   | zero=>exact .inl h2.symm
   | succ j=>exact .inr ⟨j,by simp at h1; omega,by rw [←h2]; congr 1; omega⟩
theorem K5 {σ:Nat→Nat}:∀ {l:List Ob} {k j:Nat},(∀ i i',k≤i→i<k+l.length→k≤i'→i' < k+l.length→σ i=σ i'→i=i')→j<l.length→As (mkU σ k l) (σ (k+j))=some ((Ac l j).ren σ)
 | [],k,j,_,h=>absurd h (by simp)
 | o :: r,k,0,_,_=>by simp [mkU,As,Ac]
 | o :: r,k,j+1,hi,hj=>by
  simp only [mkU,As]
  simp only [zH] at hi hj
  rw [if_neg (fun e=>by have:=hi k (k+(j+1)) (zI _) (by omega) (by omega) (by omega) e; omega)]
  have:=K5 (l:=r) (k:=k+1) (j:=j) (fun i i' h1 h2 h3 h4 e=>hi i i' (by omega) (by omega) (by omega) (by omega) e) (by omega)
  rwa [show k+1+j=k+(j+1) by omega] at this
def K6 (ob:Nat→Ob) (p:Nat):Prop:=∀ g,p≤g→ob g=.free
theorem Fi:∀ {m:List Nat} {g i:Nat},m.Nodup→m[i]?=some g→EF m g=some i
 | [],g,i,_,h=>by simp at h
 | x :: r,g,i,hn,h=>by
  rw [z6] at hn
  simp only [EF]
  cases i with
  | zero=>simp only [List.getElem?_cons_zero,zB] at h; rw [if_pos h]
  | succ i =>
   simp only [List.getElem?_cons_succ] at h
   have hne:¬ x=g:=fun e=>hn.1 (e▸z5 h)
   rw [if_neg hne,Fi hn.2 h]; rfl
theorem CallP.of {P:Program} {f:FuncId} {cas:List SV} {fob:List Ob} {r:SV} {fob':List Ob} (h:Fun P f cas fob r fob') {xs:List SV} {ob:Nat→Ob} {p:Nat} {K:Kont} (sel:List Nat)
  (hargs:∃ hd,Eh hd ob sel xs=cas) (hsel:sel.length=fob.length∧sel.Nodup) (hlt:∀ g,g∈sel→g<p) (hlen:fob.length≤fob'.length) (hob:Mk ob (sgp sel p) 0 fob) (hids:∀ o,o∈fob→o.idsB fob.length=true) (hfree:K6 ob p)
  (hsh:AF sel xs=[]∨(r.noSh=true∧∀ o,o∈fob'→o.noSh=true)) (hK:K (r.ren (sgp sel p)) (mkU (sgp sel p) 0 fob') (AF sel xs++sel)):CallP P f xs ob p K:=by
 refine ⟨_,_,_,hK,fun ob' hrd hup w I V B vs hwf hxs=>?_⟩
 obtain ⟨hsl,hsn⟩:=hsel
 have hs1:∀ k,k<fob.length→∃ g,sel[k]?=some g∧sgp sel p k=g∧g<p:=fun k hk=>by
  have:k<sel.length:=by omega
  refine ⟨sel[k],zG this,by rw [C9,zG this],hlt _ (zR this)⟩
 have hs2:∀ k,fob.length≤k→sgp sel p k=p+(k-fob.length):=fun k hk=>by
  rw [C9,z3 (by omega),hsl]
 have hinj:∀ i j,sgp sel p i=sgp sel p j→i=j:=fun i j e=>by
  rcases zF i fob.length with h1 | h1 <;> rcases zF j fob.length with h2 | h2
  ·obtain ⟨g,g1,g2,g3⟩:=hs1 i h1
   obtain ⟨g',g1',g2',g3'⟩:=hs1 j h2
   have e2:g=g':=by rw [←g2,← g2',e]
   subst e2
   have a1:=Fi hsn g1
   have a2:=Fi hsn g1'
   rw [a1] at a2
   exact zA a2
  ·obtain ⟨g,g1,g2,g3⟩:=hs1 i h1
   have:=hs2 j h2
   omega
  ·obtain ⟨g,g1,g2,g3⟩:=hs1 j h2
   have:=hs2 i h1
   omega
  ·have:=hs2 i h1
   have:=hs2 j h2
   omega
 have htouch:∀ g,Ak (mkU (sgp sel p) 0 fob') g ↔ ∃ k,k<fob'.length∧sgp sel p k=g:=fun g=>by
  unfold Ak
  rw [Nf]
  simp
 have hlook:∀ k,k<fob'.length→Ap ob' (mkU (sgp sel p) 0 fob') (sgp sel p k)=(Ac fob' k).ren (sgp sel p):=fun k hk=>by
  have:=K5 (σ:=sgp sel p) (l:=fob') (k:=0) (j:=k) (fun i i' _ _ _ _ e=>hinj i i' e) hk
  rw [zP] at this
  unfold Ap
  rw [this]; rfl
 have hobk:∀ k,k<fob.length→ob' (sgp sel p k)=(Ac fob k).ren (sgp sel p):=fun k hk=>by
  have:=H2 hob hk
  rw [zP] at this
  obtain ⟨g,g1,g2,g3⟩:=hs1 k hk
  rw [←this,g2]
  exact hrd g (z2 _ (z5 g1))
 have hnew:∀ k,fob.length≤k→k<fob'.length→ob' (sgp sel p k)=.free:=fun k h1 h2=>by
  rw [hup _ ((htouch _).2 ⟨k,h2,rfl⟩)]
  exact hfree _ (by rw [hs2 k h1]; omega)
 have hlv:∀ k,(Ac fob k).live→k<fob.length:=fun k hl=>by
  rcases zF k fob.length with h1 | h1
  ·exact h1
  ·rw [Az _ _ h1] at hl; exact hl.elim
 have hlv':∀ k,(Ac fob' k).live→k<fob'.length:=fun k hl=>by
  rcases zF k fob'.length with h1 | h1
  ·exact h1
  ·rw [Az _ _ h1] at hl; exact hl.elim
 have hlvo:∀ k,(Ac fob k).live→(ob' (sgp sel p k)).live:=fun k hl=>by
  rw [hobk k (hlv k hl)]
  exact (Ob.Ia _).2 hl
 have hlent:∀ g,g∈AF sel xs→ob' g=ob g:=fun g hg=>hrd g (List.mem_append_left _ hg)
 let Vc:Nat→Option Value:=fun k=>if k<fob.length then V (sgp sel p k) else none
 let Bc:Nat→Nat→Prop:=fun k=>B (sgp sel p k)
 let J:Nat→Prop:=fun b=>I b∨∃ g,g∈AF sel xs∧(ob' g).live∧B g b
 have notsel:∀ g,g∈AF sel xs→∀ k,k<fob.length→sgp sel p k≠g:=by
  intro g hg k hk e
  have h1:=DI xs g hg
  obtain ⟨g',g1,g2,_⟩:=hs1 k hk
  rw [g2] at e
  subst e
  rw [Fi hsn g1] at h1
  cases h1
 have hIJ:∀ b,I b→J b:=fun b hb=>.inl hb
 have hwfc:Wf w J Vc Bc (Ac fob):=by
  refine ⟨fun b hb=>?_,fun k hl=>?_,fun k b hl hb=>hwf.lt _ b (hlvo k hl) hb,fun k b hl hb hJ=>?_,fun k k' b hl hl' hb hb'=>hinj _ _ (hwf.dO _ _ b (hlvo k hl) (hlvo k' hl') hb hb'),fun k hf=>?_,hwf.gl.keep (KeepS.refl _ _) hIJ⟩
  ·rcases hb with hb | ⟨g,_,hl,hb⟩
   ·exact hwf.ilt b hb
   ·exact hwf.lt g b hl hb
  ·have hk:=hlv k hl
   obtain ⟨val,h1,h2⟩:=hwf.obj _ (hlvo k hl)
   refine ⟨val,by simp only [Vc,hk,if_true]; exact h1,?_⟩
   rw [hobk k hk] at h2
   have h3:=(ObR.ren _).1 h2
   have h4:=ObR.idsB (n:=fob.length) (V':=Vc) (fun g hg=>by simp only [Vc,hg,if_true]) (hids _ (Ib hk)) h3
   exact h4.keep ⟨zI _,fun _ _ _=>rfl⟩ hIJ (VLe.refl _) fun _ _ _=>rfl
  ·rcases hJ with hJ | ⟨g,hg,hlg,hgb⟩
   ·exact hwf.dI _ b (hlvo k hl) hb hJ
   ·exact notsel g hg k (hlv k hl) (hwf.dO _ _ b (hlvo k hl) hlg hb hgb)
  ·by_cases hk:k<fob.length
   ·simp only [Vc,hk,if_true]
    refine hwf.fr _ ?_
    rw [hobk k hk,hf]; rfl
   ·simp only [Vc,hk,if_false]
 have hargs':RepVs w J Vc cas vs:=by
  obtain ⟨hd,hargs⟩:=hargs
  rw [←hargs,← FP (ob:=ob) (ob':=ob') hd xs hlent]
  refine IL hwf hIJ (fun g i hi=>?_) hd xs vs (fun g b hg hl hb=>.inr ⟨g,hg,hl,hb⟩) hxs
  have hlt':i<fob.length:=by rw [←hsl]; exact (yC.1 (GA hi)).1
  simp only [Vc,hlt',if_true,GB hi]
 refine (h w J Vc Bc vs hwfc hargs').mono ?_
 rintro e w' ⟨v,I',V',B',rfl,hr,hpost⟩
 obtain ⟨hfr,hi0,hi1,hv,hwf',hbh⟩:=hpost
 have hHB:∀ b,HB Bc fob b→∃ g,Ak (mkU (sgp sel p) 0 fob') g∧(ob' g).live∧B g b:=fun b ⟨k,hl,hb⟩=>⟨sgp sel p k,(htouch _).2 ⟨k,by have:=hlv k hl; omega,rfl⟩,hlvo k hl,hb⟩
 classical
 let V2:Nat→Option Value:=fun g=>if hg:∃ k,k<fob'.length∧sgp sel p k=g then V' (Classical.choose hg) else V g
 let B2:Nat→Nat→Prop:=fun g=>if hg:∃ k,k<fob'.length∧sgp sel p k=g then B' (Classical.choose hg) else B g
 let I2:Nat→Prop:=fun b=>I b∨(I' b∧¬ ∃ g,g∈AF sel xs∧(ob' g).live∧B g b)
 have hV2:∀ k,k<fob'.length→V2 (sgp sel p k)=V' k:=fun k hk=>by
  have hg:∃ k',k' < fob'.length∧sgp sel p k'=sgp sel p k:=⟨k,hk,rfl⟩
  have:V2 (sgp sel p k)=V' (Classical.choose hg):=dif_pos hg
  rw [this,hinj _ _ (Classical.choose_spec hg).2]
 have hB2:∀ k,k<fob'.length→B2 (sgp sel p k)=B' k:=fun k hk=>by
  have hg:∃ k',k' < fob'.length∧sgp sel p k'=sgp sel p k:=⟨k,hk,rfl⟩
  have:B2 (sgp sel p k)=B' (Classical.choose hg):=dif_pos hg
  rw [this,hinj _ _ (Classical.choose_spec hg).2]
 have hV2n:∀ g,¬ Ak (mkU (sgp sel p) 0 fob') g→V2 g=V g:=fun g hg=>dif_neg fun h=>hg ((htouch g).2 h)
 have hB2n:∀ g,¬ Ak (mkU (sgp sel p) 0 fob') g→B2 g=B g:=fun g hg=>dif_neg fun h=>hg ((htouch g).2 h)
 have hI2':∀ b,I2 b→I' b:=fun b hb=>by
  rcases hb with hb | hb
  ·exact hi0 b (hIJ b hb)
  ·exact hb.1
 have hVV:VLe V V2:=fun g u hu=>by
  by_cases hg:Ak (mkU (sgp sel p) 0 fob') g
  ·obtain ⟨k,hk,rfl⟩:=(htouch g).1 hg
   rw [hV2 k hk]
   by_cases h1:k<fob.length
   ·exact hv k u (by simp only [Vc,h1,if_true]; exact hu)
   ·rw [hwf.fr _ (hnew k (by omega) hk)] at hu; cases hu
  ·rw [hV2n g hg]; exact hu
 have hV'σ:VLe V' (fun k=>V2 (sgp sel p k)):=fun k u hu=>by
  rcases zF k fob'.length with h1 | h1
  ·simp only [hV2 k h1]; exact hu
  ·rw [hwf'.fr k (Az _ _ h1)] at hu; cases hu
 have kr:KeepS I' w' w':=⟨zI _,fun _ _ _=>rfl⟩
 have kr2:KeepS I2 w' w':=⟨zI _,fun _ _ _=>rfl⟩
 have hmove:∀ {b},I' b→AF sel xs=[]→I2 b:=fun {b} hb hn=>.inr ⟨hb,fun ⟨g,hg,_⟩=>by rw [hn] at hg; cases hg⟩
 have hres:RepV w' I2 V2 (r.ren (sgp sel p)) v:=by
  refine (RepV.ren r v).2 ?_
  rcases hsh with hn | ⟨hn,_⟩
  ·exact RepV.mono kr (fun b hb=>hmove hb hn) hV'σ _ _ hr
  ·exact RepV.mono kr2 (fun _ h=>h) hV'σ _ _ (RepV.noSh (I:=I') (I':=I2) r v hn hr)
 have hobr:∀ k,(Ac fob' k).live→∃ val,V2 (sgp sel p k)=some val∧ObR w' I2 V2 (B2 (sgp sel p k)) val ((Ac fob' k).ren (sgp sel p)):=fun k hl=>by
  have hk:=hlv' k hl
  obtain ⟨val,h1,h2⟩:=hwf'.obj k hl
  refine ⟨val,by rw [hV2 k hk]; exact h1,(ObR.ren _).2 ?_⟩
  rw [hB2 k hk]
  rcases hsh with hn | ⟨_,hn⟩
  ·exact h2.keep kr (fun b hb=>hmove hb hn) hV'σ fun _ _ _=>rfl
  ·exact (ObR.noSh (I':=I2) h2 (hn _ (Ib hk))).keep kr2 (fun _ h=>h) hV'σ fun _ _ _=>rfl
 have hi2:∀ b,I2 b→I b∨w.heap.size≤b∨∃ g,Ak (mkU (sgp sel p) 0 fob') g∧(ob' g).live∧B g b:=fun b hb=>by
  rcases hb with hb | ⟨hb,hno⟩
  ·exact .inl hb
  ·rcases hi1 b hb with h1 | h1 | h1
   ·rcases h1 with h1 | h1
    ·exact .inl h1
    ·exact (hno h1).elim
   ·exact .inr (.inl h1)
   ·exact .inr (.inr (hHB b h1))
 have hkeep:∀ b,b<w.heap.size→(∀ g,Ak (mkU (sgp sel p) 0 fob') g→(ob' g).live→¬ B g b)→w'.heap[b]?=w.heap[b]?:=fun b hb hno=>hfr.block b hb fun hH=>by
  obtain ⟨g,h1,h2,h3⟩:=hHB b hH
  exact hno g h1 h2 h3
 have live2:∀ k,k<fob'.length→(Ap ob' (mkU (sgp sel p) 0 fob') (sgp sel p k)).live→(Ac fob' k).live:=fun k hk hl=>by
  rw [hlook k hk] at hl
  exact (Ob.Ia _).1 hl
 have hbf:∀ k b,(Ac fob' k).live→B' k b→(w.heap.size≤b∧b<w'.heap.size)∨∃ g0,Ak (mkU (sgp sel p) 0 fob') g0∧(ob' g0).live∧B g0 b:=fun k b hl hb=>by
  rcases hbh k b hl hb with h1 | h1
  ·exact .inr (hHB b h1)
  ·exact .inl ⟨h1,hwf'.lt k b hl hb⟩
 have hwf2:Wf w' I2 V2 B2 (Ap ob' (mkU (sgp sel p) 0 fob')):=by
  refine hwf.upd (Ak (mkU (sgp sel p) 0 fob')) hfr.size hkeep (fun b hb=>.inl hb) hVV (fun g hg=>⟨G5 hg,hB2n g hg,fun hf=>by rw [hV2n g hg]; exact hwf.fr g hf⟩) hi2 (fun b hb=>hwf'.ilt b (hI2' b hb)) (fun g hg hl=>?_) (fun g b hg hl hb=>?_) (fun g b hg hl hb hI=>?_) (fun g g' b hg hg' hl hl' hb hb'=>?_) (fun g hg hf=>?_)
  ·obtain ⟨k,hk,rfl⟩:=(htouch g).1 hg
   rw [hlook k hk]
   exact hobr k (live2 k hk hl)
  ·obtain ⟨k,hk,rfl⟩:=(htouch g).1 hg
   rw [hB2 k hk] at hb
   exact hbf k b (live2 k hk hl) hb
  ·obtain ⟨k,hk,rfl⟩:=(htouch g).1 hg
   rw [hB2 k hk] at hb
   exact hwf'.dI k b (live2 k hk hl) hb (hI2' b hI)
  ·obtain ⟨k,hk,rfl⟩:=(htouch g).1 hg
   obtain ⟨k',hk',rfl⟩:=(htouch g').1 hg'
   rw [hB2 k hk] at hb
   rw [hB2 k' hk'] at hb'
   rw [hwf'.dO k k' b (live2 k hk hl) (live2 k' hk' hl') hb hb']
  ·obtain ⟨k,hk,rfl⟩:=(htouch g).1 hg
   rw [hV2 k hk]
   rw [hlook k hk] at hf
   refine hwf'.fr k ?_
   cases hq:Ac fob' k <;> rw [hq] at hf <;> simp [Ob.ren] at hf ⊢
 refine ⟨v,I2,V2,B2,rfl,hres,⟨hwf2,hfr.os,hfr.tape,hfr.output,hfr.size,hkeep,fun b hb=>.inl hb,hi2,hVV,fun g hg=>hB2n g hg,fun g b hg hl hb=>?_⟩⟩
 obtain ⟨k,hk,rfl⟩:=(htouch g).1 hg
 rw [hB2 k hk] at hb
 exact (hbf k b (live2 k hk hl) hb).imp (fun h=>h.1) id
inductive RX where
 |tmp (t:Nat)
 |cell (a:Nat) (agg:Bool) (n:Nat)
def Ng (P:Program) (nt:Nat):ResultVar→Option RX
 | .tmp t=>some (.tmp t)
 | .cell a t=>match FJ P t,P.info? t with
  | some g,some i=>if g || i.size == 1 then some (.cell a g i.size) else none
  | _,_=>none
def rxV (st:St):RX→Option SV
 | .tmp t=>some (gets st.sl t)
 | .cell a agg n=>match gets st.sl a with
  | .ptr g o=>match Ac st.ob g with
   | .box _ l=>if o+n≤l.length then some (if agg then .agg ((l.drop o).take n) else l.getD o .any) else none
   | _=>none
  | _=>none
def Px (st:St):List RX→Option (List SV)
 | []=>some []
 | x :: r=>match rxV st x,Px st r with
  | some v,some vs=>some (v :: vs)
  | _,_=>none
def L9 (st:St) (rs:List RX):Option SV :=
 match Px st rs with
 | some [x]=>some x
 | some xs=>some (.tup xs)
 | none=>none
section
variable {P:Program} {c:Ctx}
def TF (tmps:Array Value):ResultVar→Sem Value
 | .tmp t=>pure (tmps.getD t undef)
 | .cell q t=>do loadVar t (← asAddr (tmps.getD q undef))
theorem Py (fn:Func) (tmps:Array Value):results fn tmps=(fn.results.mapM (TF tmps) >>= fun vs=>pure (if h:vs.size=1 then vs[0] else .tuple vs)):=by
 unfold results
 congr 1
theorem TG {a:Act} {w:World} {I:Nat→Prop} {V:Nat→Option Value} {B:Nat→Nat→Prop} {st:St} {rv:ResultVar} {rx:RX} {x:SV} (hr:RepI c I V B st.f a w) (hx:Ng P c.nt rv=some rx) (hv:rxV st rx=some x) :
  ∃ v,(TF a.tmps rv).run P w=.ok v w∧RepV w I V x v:=by
 cases rv with
 | tmp t =>
  simp only [Ng,zB] at hx
  subst hx
  simp only [rxV,zB] at hv
  subst hv
  exact ⟨_,rfl,hr.slots t⟩
 | cell q t =>
  simp only [Ng] at hx
  split at hx
  ·rename_i g i hg hi
   split at hx
   ·rename_i h1
    obtain rfl:=zA hx
    simp only [rxV] at hv
    split at hv
    ·rename_i g0 off he
     split at hv
     ·rename_i t0 l hob
      split at hv
      ·rename_i hn
       obtain rfl:=zA hv
       have hp:=hr.slots q
       have he':st.f.sl q=.ptr g0 off:=he
       rw [he'] at hp
       obtain ⟨b,vs,h2,h3,h4,h5,h6⟩:=Pr hr (show st.f.ob g0=.box t0 l from hob) hp
       have hlen:=h6.len
       have:=FN (P:=P) (w:=w) hg hi h1 b off ((vs.drop off).take i.size) (by simp; omega) (fun j v hj=>by
        rw [cell_of_row w b _ _ _ _ h5]
        rw [List.getElem?_take] at hj
        split at hj
        ·rw [List.getElem?_drop] at hj; simpa using hj
        ·cases hj)
       refine ⟨_,?_,FO h6 hn h1⟩
       simp only [TF,Sem.run_bind,h2,asAddr,Sem.run_pure,Result.andThen_ok]
       exact this
      ·cases hv
     ·cases hv
    ·cases hv
   ·cases hx
  ·cases hx
theorem Qt {a:Act} {w:World} {I:Nat→Prop} {V:Nat→Option Value} {B:Nat→Nat→Prop} {st:St} (hr:RepI c I V B st.f a w):∀ (rvs:List ResultVar) (rxs:List RX) (xs:List SV),AU (rvs.map (Ng P c.nt))=some rxs→Px st rxs=some xs →
  ∃ vs:List Value,(rvs.mapM (TF a.tmps):Sem (List Value)).run P w=.ok vs w∧RepVs w I V xs vs
 | [],rxs,xs,h,hx=>by
  simp only [yK,AU,zB] at h
  subst h
  simp only [Px,zB] at hx
  subst hx
  exact ⟨[],by simp,by simp [RepVs]⟩
 | rv :: rvs,rxs,xs,h,hx=>by
  simp only [zN] at h
  cases h1:Ng P c.nt rv with
  | none=>rw [h1] at h; cases h
  | some rx =>
   rw [h1] at h
   simp only [AU] at h
   obtain ⟨rxs',h2,rfl⟩:=zC.1 h
   simp only [Px] at hx
   split at hx
   ·rename_i x xs' h3 h4
    obtain rfl:=zA hx
    obtain ⟨v,g1,g2⟩:=TG (P:=P) hr h1 h3
    obtain ⟨vs,g3,g4⟩:=Qt hr rvs rxs' xs' h2 h4
    refine ⟨v :: vs,?_,by simp only [RepVs]; exact ⟨v,vs,rfl,g2,g4⟩⟩
    rw [List.mapM_cons,Sem.run_bind,g1,Result.andThen_ok,Sem.run_bind,g3]
    rfl
   ·cases hx
theorem Oc {fn:Func} {a:Act} {w:World} {I:Nat→Prop} {V:Nat→Option Value} {B:Nat→Nat→Prop} {st:St} (hr:RepI c I V B st.f a w) {rxs:List RX} {x:SV} (h:AU (fn.results.toList.map (Ng P c.nt))=some rxs) (hx:L9 st rxs=some x) :
  ∃ v,(results fn a.tmps).run P w=.ok v w∧RepV w I V x v:=by
 unfold L9 at hx
 cases hxs:Px st rxs with
 | none=>rw [hxs] at hx; cases hx
 | some xs =>
  rw [hxs] at hx
  obtain ⟨vs,h1,h2⟩:=Qt hr _ _ _ h hxs
  have hrun:(results fn a.tmps).run P w=.ok (if h:vs.toArray.size=1 then vs.toArray[0] else .tuple vs.toArray) w:=by
   rw [Py,Sem.run_bind,Array.mapM_eq_mapM_toList,Sem.run_map,h1]
   rfl
  refine ⟨_,hrun,?_⟩
  match xs,vs,h2,hx with
  | [],vs,h2,hx =>
   simp only [zB] at hx
   subst hx
   simp only [RepVs] at h2
   subst h2
   simp only [RepV]
   exact ⟨[],by simp,by simp [RepVs]⟩
  | [y],vs,h2,hx =>
   simp only [zB] at hx
   subst hx
   simp only [RepVs] at h2
   obtain ⟨v,r,rfl,h3,rfl⟩:=h2
   simpa using h3
  | y :: z :: ys,vs,h2,hx =>
   simp only [zB] at hx
   subst hx
   have hlen:=h2.len
   simp only [zH] at hlen
   simp only [RepV]
   refine ⟨vs,?_,h2⟩
   rw [dif_neg (by rw [yE]; omega)]
def IM:Nat→List SV
 | 0=>[]
 | n+1=>.any :: IM n
theorem Ml:∀ (n k:Nat),gets (IM n) k=.any
 | 0,_=>rfl
 | n+1,0=>rfl
 | n+1,k+1=>Ml n k
theorem Od:∀ (l l':List SV) (k:Nat),gets (l++l') k=if k<l.length then gets l k else gets l' (k-l.length)
 | [],l',k=>by simp
 | x :: r,l',0=>by simp [gets]
 | x :: r,l',k+1=>by
  simp only [yI,gets,zH,zS,zZ]
  exact Od r l' k
theorem Oe:∀ n,(IM n).length=n
 | 0=>rfl
 | n+1=>by simp [IM,Oe n]
theorem RepVs.gets {w:World} {I:Nat→Prop} {V:Nat→Option Value}:∀ {l:List SV} {vs:List Value} (k:Nat),RepVs w I V l vs→k<l.length→RepV w I V (gets l k) (vs.getD k undef)
 | [],vs,k,_,h=>absurd h (by simp)
 | x :: r,vs,0,h,_=>by
  simp only [RepVs] at h
  obtain ⟨v,q,rfl,h1,_⟩:=h
  simpa [Proofs.Ytmhjhclgihoaeaa.gets] using h1
 | x :: r,vs,k+1,h,hk=>by
  simp only [RepVs] at h
  obtain ⟨v,q,rfl,_,h2⟩:=h
  simpa [Proofs.Ytmhjhclgihoaeaa.gets] using RepVs.gets k h2 (by simpa using hk)
def Fin (rs:List RX) (n0:Nat) (r:SV) (ob':List Ob) (e:X) (st:St):Prop :=
 (e=.ret∨e=.normal)∧∃ r0 m,L9 st rs=some r0∧WeakC n0 m ⟨[r0],st.ob⟩ ⟨[r],ob'⟩
theorem US {f:FuncId} {fn:Func} {code:Code} {sc:SC} {rs:List RX} {args:List SV} {ob:List Ob} {r:SV} {ob':List Ob} (hf:P.funcs[f]?=some fn) (hb:fn.body=some code) (ht:trC P fn.ntmps code=some sc) (hrs:AU (fn.results.toList.map (Ng P fn.ntmps))=some rs) (hn:args.length≤fn.ntmps)
  (h:∀ c:Ctx,c.nt=fn.ntmps→c.m=ob.length→Run P c sc (Fin rs ob.length r ob') ⟨args++IM (fn.ntmps-args.length),ob⟩):Fun P f args ob r ob':=by
 intro w I V B vs hwf hvs
 let c:Ctx:=⟨w,HB B ob,I,V,fn.ntmps,ob.length,fun g hg=>hwf.fr g (Az _ _ hg)⟩
 have hvl:=hvs.len
 have hrep:Rep c (St.f ⟨args++IM (fn.ntmps-args.length),ob⟩) { tmps:=vs.toArray++Array.replicate (fn.ntmps-vs.toArray.size) undef,defers:=[] } w:=by
  refine ⟨I,V,B,⟨⟨rfl,TapeOk.mk' rfl rfl,rfl,zI _,fun _ _ _=>rfl⟩,fun _ h=>h,fun _ h=>.inl h,VLe.refl _,hwf,fun g b hl hb=>.inl ⟨g,hl,hb⟩,rfl,?_,fun k=>?_⟩⟩
  ·simp only [Array.size_append,yE,Array.size_replicate]
   show vs.length+(fn.ntmps-vs.length)=fn.ntmps
   omega
  ·show RepV w I V (gets (args++IM (fn.ntmps-args.length)) k) _
   rw [Od]
   by_cases hk:k<args.length
   ·rw [if_pos hk]
    have:=hvs.gets k hk
    have e:(vs.toArray++Array.replicate (fn.ntmps-vs.toArray.size) undef).getD k undef=vs.getD k undef:=by
     rw [z8,Array.getElem?_append_left (by simp; omega)]
     simp [zU]
    rw [e]; exact this
   ·rw [if_neg hk,Ml]; simp [RepV]
 refine calls_of_wp hf hb ?_
 refine h c rfl rfl code ht _ w _ ?_ hrep fun x st' a' w' hk hl' hr'=>?_
 ·simp only [yB,Oe]
  show args.length+(fn.ntmps-args.length)=fn.ntmps
  omega
 ·obtain ⟨hx,r0,m,hres,hweak⟩:=hk
  obtain ⟨I',V',B',hr'⟩:=hr'
  obtain ⟨v,hrun,hv⟩:=Oc hr' hrs hres
  have hwf':=hweak.wf hr'.wf
  have hv':RepV w' I' (fun g=>V' (sgp m st'.ob.length g)) r v:=by
   have h1:=hweak.1
   simp only [leL] at h1
   exact Kd h1.1 hv
  have hpost:FunPost w I V B ob ob' w' I' (fun g=>V' (sgp m st'.ob.length g)) (fun g=>B' (sgp m st'.ob.length g)):=by
   refine ⟨hr'.fr,hr'.i0,fun b hb=>hr'.i1 b hb,fun g u hu=>?_,hwf',fun g b hl hb=>?_⟩
   ·have hg:g<ob.length:=by
     rcases zF g ob.length with h1 | h1
     ·exact h1
     ·rw [hwf.fr g (Az _ _ h1)] at hu; cases hu
    rw [G9 hweak.2.2.2 g hg]
    exact hr'.v0 g u hu
   ·have hlt:g<ob'.length:=by
     rcases zF g ob'.length with h1 | h1
     ·exact h1
     ·rw [Az _ _ h1] at hl; exact hl.elim
    have h1:=DH (j:=g) hweak.2.1 hlt
    rw [zP] at h1
    exact hr'.bh _ b (Dt h1 hl) hb
  have hfin:bodyPost P fn (fun e w'=>∃ v I' V' B',e=.returned v∧RepV w' I' V' r v∧FunPost w I V B ob ob' w' I' V' B') x.exit' a' w':=by
   rcases hx with rfl | rfl
   ·exact bodyPost_ret hrun hr'.nd ⟨v,I',_,_,rfl,hv',hpost⟩
   ·exact bodyPost_end hrun hr'.nd ⟨v,I',_,_,rfl,hv',hpost⟩
  exact hfin
end
section
variable {P:Program} {c:Ctx} {K:X→St→Prop} {x:SV} {l:List SV} {ob:List Ob}
theorem QT:Cp ob []=ob:=by
 have:∀ (l:List Ob) k,HV [] k l=l:=by
  intro l
  induction l with
  | nil=>intro k; rfl
  | cons o r ih=>intro k; simp [HV,As,ih]
 simp [Cp,this,K1]
theorem K7 {l:List Ob} {p:Nat} (h:l.length=p):K6 (Ac l) p:=fun g hg=>Az l g (by omega)
end
theorem TH {n:Int}:inK .i64 n ↔ -9223372036854775808≤n∧n≤9223372036854775807:=by
 unfold inK
 simp only [IntKind.min,IntKind.max,IntKind.bits,IntKind.signed]
 simp
section
variable {P:Program} {c:Ctx} {K:X→St→Prop}
theorem Weak.C5 (st:St):Weak c st st:=fun h=>⟨h,fun _ _ hr=>hr⟩
end
theorem UT:Try.prog.follows .mixedOrders=true:=by kernel_rfl
end Go.Proofs.Ytmhjhclgihoaeaa
set_option maxRecDepth 100000
set_option linter.unusedSimpArgs false
set_option linter.unusedVariables false
set_option linter.unusedSectionVars false
namespace Go.Proofs.Ytmhjhclgihoaeaa
open Go.RowKit
noncomputable def dec (p:Prop):Bool:=@decide p (Classical.propDecidable p)
theorem Ah {p:Prop}:dec p=true ↔ p:=by unfold dec; exact ⟨@of_decide_eq_true p (Classical.propDecidable p),@decide_eq_true p (Classical.propDecidable p)⟩
theorem AM {p:Prop} (h:p):dec p=true:=Ah.2 h
theorem AG {p:Prop} (h:¬ p):dec p=false:=by
 cases e:dec p with
 | false=>rfl
 | true=>exact absurd (Ah.1 e) h
theorem IN {p:Prop} [hp:Decidable p]:dec p=decide p:=by
 cases hp with
 | isTrue h=>rw [AM h]; rfl
 | isFalse h=>rw [AG h]; rfl
theorem Bi {p:Prop}:dec p=false ↔ ¬ p:=by
 constructor
 ·intro h hp
  rw [AM hp] at h; cases h
 ·exact AG
theorem Mm {a b:ByteArray} (h:a.toList=b.toList):a=b:=by
 rw [ByteArray.toList_eq,ByteArray.toList_eq] at h
 exact ByteArray.ext (Array.toList_inj.1 h)
theorem QU (a b:ByteArray):GW a b=dec (a=b):=by
 unfold GW
 cases e:(a.toList == b.toList) with
 | true=>exact (AM (Mm (by simpa using e))).symm
 | false =>
  refine (AG fun h=>?_).symm
  subst h; simp at e
abbrev R3:=SV × List (Nat × Ob) × List Nat
abbrev CallF:=FuncId→List SV→List Ob→Option R3
def EH (x:Nat):List Nat→Bool
 | []=>false
 | y :: r=>(x == y) || EH x r
def E2:List Nat→Bool
 | []=>true
 | x :: r=>!EH x r&&E2 r
theorem C6 {x:Nat}:∀ {l:List Nat},EH x l=true ↔ x∈l
 | []=>by simp [EH]
 | y :: r=>by simp [EH,C6 (l:=r)]
theorem DO:∀ {l:List Nat},E2 l=true ↔ l.Nodup
 | []=>by simp [E2]
 | x :: r=>by
  have:=C6 (x:=x) (l:=r)
  simp only [E2,zD,zK,z6,DO (l:=r)]
  rw [←this]; simp
noncomputable def FQ (k:IntKind) (r:Int):Option SV :=
 match k with
 | .u64=>some (.int k (k.wrap r))
 | .u32=>some (.int k (k.wrap r))
 | .u8=>some (.int k (k.wrap r))
 | _=>bif dec (inK k r) then some (.int k r) else some (.int k (k.wrap r))
def eqK:IntKind→IntKind→Bool:=fun a b=>decide (a=b)
noncomputable def Qu (op:BinOp) (k:IntKind) (a b:Int):Option SV :=
 match op with
 | .add=>FQ k (a+b)
 | .sub=>FQ k (a - b)
 | .mul=>FQ k (a*b)
 | .quo=>bif dec (b=0) then none else FQ k (a.tdiv b)
 | .rem=>bif dec (b=0) then none else some (.int k (a.tmod b))
 | .eql=>some (.bool (dec (a=b)))
 | .neq=>some (.bool (!dec (a=b)))
 | .lss=>some (.bool (dec (a < b)))
 | .leq=>some (.bool (dec (a≤b)))
 | .gtr=>some (.bool (dec (b < a)))
 | .geq=>some (.bool (dec (b≤a)))
 | .shr=>bif dec (b=1) then some (.int k (a / 2)) else bif dec (b=40)&&eqK k .u64 then some (.int k (a / 1099511627776)) else none
 | .and=>some (.int k (bits .and k a b))
 | _=>none
noncomputable def Qv (op:BinOp) (a b:ByteArray):Option SV :=
 match op with
 | .add=>bif dec (a.size+b.size≤9223372036854775807) then some (.str (a++b)) else none
 | .eql=>some (.bool (dec (a=b)))
 | .neq=>some (.bool (!dec (a=b)))
 | .lss=>some (.bool (strLt a b))
 | .leq=>some (.bool (strLt a b || dec (a=b)))
 | .gtr=>some (.bool (!(strLt a b || dec (a=b))))
 | .geq=>some (.bool (!strLt a b))
 | _=>none
def Sj (op:BinOp) (a b:Bool):Option SV :=
 match op with
 | .eql=>some (.bool (a == b))
 | .neq=>some (.bool (!(a == b)))
 | _=>none
noncomputable def TI (op:BinOp) (tb:Bool) (x y:SV):Option SV :=
 match x,y with
 | .int k a,.int k' b=>bif eqK k k' then Qu op k a b else none
 | .str a,.str b=>Qv op a b
 | .bool a,.bool b=>bif tb then Sj op a b else none
 | _,_=>none
def Dw (x:SV):Option R3:=some (x,[],[])
def Qw:Option SV→Option R3
 | some x=>some (x,[],[])
 | none=>none
def Sk (g:Nat) (es:List (List OT)) (hs:List (Nat × Nat × Nat)) (k o:Nat) (l:List OT) (p:Nat):OT→Option R3
 | .ow e2=>some (.ref p,[(p,.tree e2 []),(g,.tree (es.set k (l.set o .hole)) ((k,o,p) :: hs))],[])
 | .hole=>none
 | .int n=>some (.int .i64 n,[],[g])
 | .byte n=>some (.int .u8 n,[],[g])
 | .bool b=>some (.bool b,[],[g])
 | .str s=>some (.str s,[],[g])
 | .sh e=>some (.arr e,[],[g])
def VH (ok agg:Bool) (z:List SV) (rd:List Nat):Option MV→Option R3
 | some x=>some (bif ok then .tup [MV.sv x,.bool true] else MV.sv x,[],rd)
 | none=>some (bif ok then .tup [bif agg then .agg z else z.getD 0 .any,.bool false] else (bif agg then .agg z else z.getD 0 .any),[],rd)
noncomputable def fOp (P:Program) (C:CallF) (so:SOp) (sl:List SV) (ob:List Ob):Option R3 :=
 match so with
 | .mv x=>Dw (Al (gets sl) x)
 | .pick c a b=>match Al (gets sl) c with
  | .bool t=>Dw (bif t then Al (gets sl) a else Al (gets sl) b)
  | _=>none
 | .alloc t z=>some (.ptr ob.length 0,[(ob.length,.box t z)],[])
 | .boxv t n x=>match (Al (gets sl) x).cellsN n with
  | some l=>some (.ptr ob.length 0,[(ob.length,.box t l)],[])
  | none=>none
 | .build z parts=>match GV (Al (gets sl)) z parts with
  | some l=>Dw (.agg l)
  | none=>none
 | .mkrow t sz z len parts=>match C4 (Ac ob) z with
  | some zl=>match eOp.mkEs (Al (gets sl)) (Ac ob) sz (List.replicate len zl) parts with
   | some es=>bif (AV zl).isEmpty&&E2 (es.map AV).flatten then some (.ref ob.length,(ob.length,.row t sz (es.map Cv)) :: Bs (es.map AV).flatten,(parts.map fun q=>HT (Al (gets sl) q.2)).flatten) else none
   | none=>none
  | none=>none
 | .load agg n x=>match Al (gets sl) x with
  | .ptr g o=>match Ac ob g with
   | .box _ l=>bif decide (o+n≤l.length) then some (bif agg then .agg ((l.drop o).take n) else l.getD o .any,[],[g]) else none
   | _=>none
  | .vptr es k o=>match es[k]? with
   | some l=>bif decide (o+n≤l.length) then Dw (bif agg then .agg (((l.drop o).take n).map D.sv) else (l.map D.sv).getD o .any) else none
   | none=>none
  | .eptr g sz k o=>match Ac ob g with
   | .row _ sz' es=>match es[k]? with
    | some l=>bif (sz == sz')&&decide (o+n≤l.length) then some (bif agg then .agg (((l.drop o).take n).map OT.sv) else (l.map OT.sv).getD o .any,[],[g]) else none
    | none=>none
   | .tree es hs=>match es[k]? with
    | some l=>bif !agg&&(n == 1)&&(l.length == sz)&&decide (o < sz) then match CZ hs k o with
     | some q=>some (.ref q,[],[g])
     | none=>match l[o]? with
      | some x=>Sk g es hs k o l ob.length x
      | none=>none
     else none
    | none=>none
   | _=>none
  | _=>none
 | .store n x v=>match Al (gets sl) x with
  | .ptr g o=>match Ac ob g with
   | .box t l=>match (Al (gets sl) v).cellsN n with
    | some vs=>bif decide (o+n≤l.length)&&vs.all SV.one then some (.any,[(g,.box t (splice l o vs))],[]) else none
    | none=>none
   | _=>none
  | .eptr g sz k o=>match Ac ob g with
   | .row t sz' es=>match (Al (gets sl) v).cellsN n with
    | some vs=>match C4 (Ac ob) vs with
     | some ls=>match es[k]? with
      | some l=>bif (sz == sz')&&decide (o+n≤sz)&&!EH g (AV ls)&&E2 (AV ls) then some (.any,(g,.row t sz (es.set k (splice l o (Cv ls)))) :: Bs (AV ls),HT (Al (gets sl) v)) else none
      | none=>none
     | none=>none
    | none=>none
   | .tree es hs=>match (Al (gets sl) v).cellsN n with
    | some [v]=>match Ma v with
     | some x=>match CZ hs k o with
      | some _=>none
      | none=>match es[k]? with
       | some l=>bif (l.length == sz)&&decide (o < sz) then some (.any,[(g,.tree (es.set k (splice l o [x])) hs)],[]) else none
       | none=>none
     | none=>none
    | _=>none
   | _=>none
  | _=>none
 | .nilchk x=>match Al (gets sl) x with
  | .ptr g o=>Dw (.ptr g o)
  | .eptr g sz k o=>Dw (.eptr g sz k o)
  | .vptr es k o=>Dw (.vptr es k o)
  | _=>none
 | .bin op tb x y=>Qw (TI op tb (Al (gets sl) x) (Al (gets sl) y))
 | .un op x=>match Al (gets sl) x with
  | .bool b=>match op with
   | .not=>Dw (.bool (!b))
   | _=>none
  | .int k n=>match op with
   | .neg=>bif dec (inK k (0 - n)) then Dw (.int k (0 - n)) else none
   | _=>none
  | _=>none
 | .conv k x=>match Al (gets sl) x with
  | .int _ n=>Qw (FQ k n)
  | _=>none
 | .mkfn f caps=>Dw (.fn f (caps.map (Al (gets sl))))
 | .mkslice t sz bytes z len=>match Al (gets sl) len with
  | .int _ n=>match C4 (Ac ob) z with
   | some zl=>bif dec (0≤n)&&dec ((bytes:Int)*n≤140737488355328)&&dec (n≤9223372036854775807)&&(AV zl).isEmpty then some (.ref ob.length,[(ob.length,.row t sz (List.replicate n.toNat (Cv zl)))],[]) else none
   | none=>none
  | _=>none
 | .slice str sz x lo hi=>match Al (gets sl) x with
  | .str s=>match EB (Al (gets sl)) lo with
   | some l=>match Fz (Al (gets sl)) s.size hi with
    | some h=>bif dec (0≤l)&&dec (l≤h)&&dec (h≤s.size)&&str then Dw (.str (s.extract l.toNat h.toNat)) else none
    | none=>none
   | none=>none
  | .arr es=>match EB (Al (gets sl)) lo with
   | some l=>match Fz (Al (gets sl)) es.length hi with
    | some h=>bif dec (0≤l)&&dec (l≤h)&&dec (h≤es.length)&&!str&&es.all (fun e=>(e.length == sz)) then Dw (.arr ((es.take h.toNat).drop l.toNat)) else none
    | none=>none
   | none=>none
  | .ref g=>match Ac ob g with
   | .row t sz' es=>match EB (Al (gets sl)) lo with
    | some l=>match Fz (Al (gets sl)) es.length hi with
     | some h=>bif pfx lo hi then (bif dec (0≤l)&&dec (l≤h)&&dec (h≤es.length)&&!str&&(sz' == sz) then some (.ref ob.length,[(ob.length,.row t sz (es.take h.toNat)),(g,.gone)],[]) else none) else bif dec (0≤l)&&dec (l≤h)&&dec (h≤es.length)&&!str&&(sz' == sz)&&OT.At es then some (.arr (((OT.erss es).take h.toNat).drop l.toNat),[(g,.shd (OT.erss es))],[]) else none
     | none=>none
    | none=>none
   | .shd es=>match EB (Al (gets sl)) lo with
    | some l=>match Fz (Al (gets sl)) es.length hi with
     | some h=>bif dec (0≤l)&&dec (l≤h)&&dec (h≤es.length)&&!str&&es.all (fun e=>(e.length == sz)) then some (.arr ((es.take h.toNat).drop l.toNat),[],[g]) else none
     | none=>none
    | none=>none
   | _=>none
  | _=>none
 | .faddr off x=>match Al (gets sl) x with
  | .ptr g o=>Dw (.ptr g (o+off))
  | .vptr es k o=>Dw (.vptr es k (o+off))
  | .eptr g sz k o=>Dw (.eptr g sz k (o+off))
  | _=>none
 | .field agg off n x=>match Al (gets sl) x with
  | .agg l=>bif decide (off+n≤l.length) then Dw (bif agg then .agg ((l.drop off).take n) else l.getD off .any) else none
  | _=>none
 | .iaddr sz x i=>match Al (gets sl) x with
  | .arr es=>match Al (gets sl) i with
   | .int _ n=>bif dec (0≤n) then match es[n.toNat]? with
    | some l=>bif (l.length == sz) then Dw (.vptr es n.toNat 0) else none
    | none=>none
    else none
   | _=>none
  | .ref g=>match Al (gets sl) i with
   | .int _ n=>match Ac ob g with
    | .row _ sz' es=>bif (sz == sz')&&dec (0≤n)&&dec (n.toNat < es.length) then some (.eptr g sz n.toNat 0,[],[g]) else none
    | .tree es _=>bif dec (0≤n)&&dec (n.toNat < es.length) then some (.eptr g sz n.toNat 0,[],[g]) else none
    | _=>none
   | _=>none
  | _=>none
 | .idx x i=>match Al (gets sl) x with
  | .str s=>match Al (gets sl) i with
   | .int _ n=>bif dec (0≤n)&&dec (n.toNat < s.size) then Dw (.int .u8 (FK s n.toNat)) else none
   | _=>none
  | _=>none
 | .ext x k=>match Al (gets sl) x with
  | .tup l=>bif decide (k < l.length) then Dw (l.getD k .any) else none
  | _=>none
 | .call f args=>C f (args.map (Al (gets sl))) ob
 | .callv x args=>match Al (gets sl) x with
  | .fn f caps=>bif Hx P f then C f (args.map (Al (gets sl))++caps) ob else none
  | _=>none
 | .len str x=>match Al (gets sl) x with
  | .str s=>bif str then Dw (.int .i64 s.size) else none
  | .arr es=>bif str then none else Dw (.int .i64 es.length)
  | .nil=>bif str then none else Dw (.int .i64 0)
  | .ref g=>match Ac ob g with
   | .row _ _ es=>bif str then none else some (.int .i64 es.length,[],[g])
   | .tree es _=>bif str then none else some (.int .i64 es.length,[],[g])
   | _=>none
  | _=>none
 | .append t sz bytes z x y=>match eOp.addS (Ac ob) sz (Al (gets sl) y) with
  | some (new,gs)=>match Al (gets sl) x with
   | .nil=>bif dec ((new.length:Int)*bytes≤140737488355328)&&dec (new.length≤9223372036854775807)&&(new.all fun l=>(l.length == sz)) then some (.ref ob.length,(ob.length,.row t sz new) :: Bs gs,[]) else none
   | .ref g=>match Ac ob g with
    | .row t' sz' es=>bif (t == t')&&(sz == sz')&&dec (((es.length+new.length:Nat):Int)*bytes≤140737488355328)&&dec (es.length+new.length≤9223372036854775807)&&!EH g gs&&(new.all fun l=>(l.length == sz)) then some (.ref ob.length,(ob.length,.row t sz (es++new)) :: Bs (g :: gs),[]) else none
    | _=>none
   | _=>none
  | none=>none
 | .minmax mx x y=>match Al (gets sl) x with
  | .int k a=>match Al (gets sl) y with
   | .int k' b=>bif eqK k k' then Dw (.int k (bif mx then (bif dec (a < b) then b else a) else (bif dec (b < a) then b else a))) else none
   | _=>none
  | _=>none
 | .mkmap ks hint=>match hint with
  | none=>some (.ref ob.length,[(ob.length,.mp ks nomap)],[])
  | some x=>match Al (gets sl) x with
   | .int _ _=>some (.ref ob.length,[(ob.length,.mp ks nomap)],[])
   | _=>none
 | .mset ks m k v=>match Al (gets sl) m with
  | .ref g=>match Ac ob g with
   | .mp ks' f=>match svK ks (Al (gets sl) k) with
    | some q=>match svM (Al (gets sl) v) with
     | some x=>bif (ks' == ks) then some (.any,[(g,.mp ks (L6 f q x))],[]) else none
     | none=>none
    | none=>none
   | _=>none
  | _=>none
 | .mkit x=>match Al (gets sl) x with
  | .mp ks m=>some (.ptr ob.length 0,[(ob.length,.it ks m [] none)],[])
  | _=>none
 | .mcur x=>match Al (gets sl) x with
  | .ptr g o=>match Ac ob g with
   | .it _ _ _ (some (k,v))=>bif (o == 0) then some (.tup [MK.sv k,MV.sv v],[],[g]) else none
   | _=>none
  | _=>none
 | .mget ks ok agg z m k=>match Qj (Ac ob) (Al (gets sl) m) with
  | some (ks',f,rd)=>match svK ks (Al (gets sl) k) with
   | some q=>bif (ks' == ks) then VH ok agg z rd (f q) else none
   | none=>none
  | none=>none
theorem Af {α:Type} {b:Bool} {x:Option α} {r:α} (h:(bif b then x else none)=some r):b=true∧x=some r:=by
 cases b with
 | true=>exact ⟨rfl,h⟩
 | false=>cases h
theorem EI {α:Type} {b:Bool} {x:Option α} {r:α} (h:(bif b then none else x)=some r):b=false∧x=some r:=by
 cases b with
 | false=>exact ⟨rfl,h⟩
 | true=>cases h
theorem Bv {x y:SV} {u:List (Nat × Ob)} {rd:List Nat} (h:Dw x=some (y,u,rd)):x=y∧u=[]∧rd=[]:=by
 unfold Dw at h
 simp only [zB,zE] at h
 exact ⟨h.1,h.2.1.symm,h.2.2.symm⟩
theorem Of {x:Option SV} {y:SV} {u:List (Nat × Ob)} {rd:List Nat} (h:Qw x=some (y,u,rd)):x=some y∧u=[]∧rd=[]:=by
 cases x with
 | none=>cases h
 | some x =>
  have:=Bv (x:=x) h
  exact ⟨congrArg some this.1,this.2⟩
theorem K8 {k:IntKind} {r:Int} {x:SV} {K:Kont} (h:FQ k r=some x) (hK:K x [] []):E0 k r K:=by
  unfold FQ at h
  unfold E0
  cases k <;> simp only at h ⊢ <;> first
    | (obtain rfl:=zA h; exact hK)
    | (cases hd:dec (inK _ r) with
       | true=>rw [hd] at h; obtain rfl:=zA h; exact ⟨fun _=>hK,fun hn=>absurd (Ah.1 hd) hn⟩
       | false=>rw [hd] at h; obtain rfl:=zA h; exact ⟨fun hi=>absurd hi (Bi.1 hd),fun _=>hK⟩)
theorem TJ {op:BinOp} {k:IntKind} {a b:Int} {x:SV} {K:Kont} (h:Qu op k a b=some x) (hK:K x [] []):Tw op k a b K:=by
  cases op <;> simp only [Qu,Tw] at h ⊢ <;> first
    | exact K8 h hK
    | (obtain ⟨h1,h2⟩:=Af h; obtain rfl:=zA h2; exact ⟨Ah.1 h1,hK⟩)
    | (cases h0:dec (b=1) with
       | true=>rw [h0,cond_true] at h; obtain rfl:=zA h; exact .inl ⟨Ah.1 h0,hK⟩
       | false =>
         rw [h0,cond_false] at h
         obtain ⟨h1,h2⟩:=Af h
         rw [zD] at h1
         obtain rfl:=zA h2
         exact .inr ⟨⟨Ah.1 h1.1,of_decide_eq_true h1.2⟩,hK⟩)
    | (obtain ⟨h1,h2⟩:=EI h; first | exact ⟨Bi.1 h1,K8 h2 hK⟩ | (obtain rfl:=zA h2; exact ⟨Bi.1 h1,hK⟩))
    | (obtain rfl:=zA h; first | exact hK | (rw [IN] at hK; first | exact hK | (simpa [bne,beq_eq_decide] using hK)))
    | cases h
theorem TK {op:BinOp} {a b:ByteArray} {x:SV} {K:Kont} (h:Qv op a b=some x) (hK:K x [] []):Tx op a b K:=by
 cases op <;> simp only [Qv,Tx,QU] at h ⊢ <;> first
  |(obtain ⟨h1,h2⟩:=Af h; obtain rfl:=zA h2; exact ⟨Ah.1 h1,hK⟩)
  |(obtain rfl:=zA h; exact hK)
  |cases h
theorem UU {op:BinOp} {tb:Bool} {y z x:SV} {K:Kont} (h:TI op tb y z=some x) (hK:K x [] []):Ty op tb y z K:=by
 unfold TI at h
 unfold Ty
 split at h <;> simp only at h ⊢
 ·obtain ⟨h1,h2⟩:=Af h
  exact ⟨of_decide_eq_true h1,TJ h2 hK⟩
 ·exact TK h hK
 ·obtain ⟨h1,h2⟩:=Af h
  refine ⟨h1,?_⟩
  cases op <;> simp only [Sj,UK] at h2 ⊢ <;> first | (obtain rfl:=zA h2; exact hK) | cases h2
 ·cases h
theorem Sl {m:MF} {a b:Int} {x:MV}:L6 m (.int a) x (.int b)=bif dec (b=a) then some x else m (.int b):=by
 by_cases h:b=a
 ·subst h; rw [G6,AM rfl]; rfl
 ·rw [G7 (fun e=>h (by injection e)),AG h]; rfl
theorem Sm {m:MF} {a b:ByteArray} {x:MV}:L6 m (.str a) x (.str b)=bif dec (b=a) then some x else m (.str b):=by
 by_cases h:b=a
 ·subst h; rw [G6,AM rfl]; rfl
 ·rw [G7 (fun e=>h (by injection e)),AG h]; rfl
theorem Sn (k:MK):nomap k=none:=rfl
variable [Flag]
theorem Cm {a x:SV} {b u:List (Nat × Ob)} {c rd:List Nat} (h:(some (a,b,c):Option R3)=some (x,u,rd)):a=x∧b=u∧c=rd:=by
 simp only [zB,zE] at h; exact h
theorem Qx {α:Type} {l:List (List α)} {n:Nat} (h:(l.all fun e=>(e.length == n))=true):(l.all fun e=>e.length == n)=true:=by
 refine zO.2 fun e he=>?_
 exact beq_iff_eq.2 (eq_of_beq ((zO.1 h) e he))
theorem isEmpty_nil {l:List Nat} (h:l.isEmpty=true):l=[]:=List.isEmpty_iff.1 h
theorem VI {P:Program} {C:CallF} {so:SOp} {sl:List SV} {ob:List Ob} {x:SV} {u:List (Nat × Ob)} {rd:List Nat} {K:Kont} (h:fOp P C so sl ob=some (x,u,rd))
  (hC:∀ f xs x u rd,C f xs ob=some (x,u,rd)→∀ K:Kont,K x u rd→CallP P f xs (Ac ob) ob.length K) (hK:K x u rd):eOp P so (gets sl) (Ac ob) ob.length K:=by
 cases so with
 | mv y =>
  obtain ⟨rfl,rfl,rfl⟩:=Bv h
  exact hK
 | pick a b c =>
  simp only [fOp,eOp] at h ⊢
  split at h
  ·obtain ⟨rfl,rfl,rfl⟩:=Bv h
   rename_i t ht
   simp only [ht]
   cases t <;> exact hK
  ·cases h
 | alloc t z =>
  obtain ⟨rfl,rfl,rfl⟩:=Cm h
  exact hK
 | boxv t n y =>
  simp only [fOp,eOp] at h ⊢
  split at h
  ·rename_i l hl
   obtain ⟨rfl,rfl,rfl⟩:=Cm h
   simp only [hl]; exact hK
  ·cases h
 | build z parts =>
  simp only [fOp,eOp] at h ⊢
  split at h
  ·rename_i l hl
   obtain ⟨rfl,rfl,rfl⟩:=Bv h
   simp only [hl]; exact hK
  ·cases h
 | mkrow t sz z len parts =>
  simp only [fOp,eOp] at h ⊢
  split at h
  ·rename_i zl hz
   split at h
   ·rename_i es he
    obtain ⟨h1,h2⟩:=Af h
    obtain ⟨rfl,rfl,rfl⟩:=Cm h2
    rw [zD] at h1
    simp only [hz,he]
    exact ⟨⟨isEmpty_nil h1.1,DO.1 h1.2⟩,hK⟩
   ·cases h
  ·cases h
 | load agg n y =>
  simp only [fOp,eOp] at h ⊢
  split at h
  ·rename_i g o hy
   simp only [hy]
   split at h
   ·rename_i t l hl
    obtain ⟨h1,h2⟩:=Af h
    obtain ⟨rfl,rfl,rfl⟩:=Cm h2
    simp only [hl]
    exact ⟨of_decide_eq_true h1,by cases agg <;> exact hK⟩
   ·cases h
  ·rename_i es k o hy
   simp only [hy]
   split at h
   ·rename_i l hl
    obtain ⟨h1,h2⟩:=Af h
    obtain ⟨rfl,rfl,rfl⟩:=Bv h2
    exact ⟨l,hl,of_decide_eq_true h1,by cases agg <;> exact hK⟩
   ·cases h
  ·rename_i g sz k o hy
   simp only [hy]
   split at h
   ·rename_i t sz' es hl
    split at h
    ·rename_i l hl'
     obtain ⟨h1,h2⟩:=Af h
     obtain ⟨rfl,rfl,rfl⟩:=Cm h2
     rw [zD] at h1
     simp only [hl]
     exact ⟨eq_of_beq h1.1,l,hl',of_decide_eq_true h1.2,by cases agg <;> exact hK⟩
    ·cases h
   ·rename_i es hs hl
    split at h
    ·rename_i l hl'
     obtain ⟨h1,h2⟩:=Af h
     simp only [zD,zK,beq_iff_eq,decide_eq_true_eq] at h1
     simp only [hl]
     refine ⟨⟨h1.1.1.1,h1.1.1.2⟩,l,hl',⟨h1.1.2,h1.2⟩,?_⟩
     split at h2
     ·rename_i q hq
      obtain ⟨rfl,rfl,rfl⟩:=Cm h2
      simp only [hq]; exact hK
     ·rename_i hq
      simp only [hq]
      split at h2
      ·rename_i z hz
       refine ⟨z,hz,?_⟩
       cases z <;> simp only [Sk,Pq] at h2 ⊢ <;> first | (obtain ⟨e1,rfl,rfl⟩:=Cm h2; rw [←e1] at hK; exact hK) | cases h2
      ·cases h2
    ·cases h
   ·cases h
  ·cases h
 | store n y v =>
  simp only [fOp,eOp] at h ⊢
  split at h
  ·rename_i g o hy
   simp only [hy]
   split at h
   ·rename_i t l hl
    split at h
    ·rename_i vs hv
     obtain ⟨h1,h2⟩:=Af h
     obtain ⟨rfl,rfl,rfl⟩:=Cm h2
     rw [zD] at h1
     simp only [hl,hv]
     exact ⟨⟨of_decide_eq_true h1.1,h1.2⟩,hK⟩
    ·cases h
   ·cases h
  ·rename_i g sz k o hy
   simp only [hy]
   split at h
   ·rename_i t sz' es hl
    split at h
    ·rename_i vs hv
     split at h
     ·rename_i ls hls
      split at h
      ·rename_i l hl'
       obtain ⟨h1,h2⟩:=Af h
       obtain ⟨rfl,rfl,rfl⟩:=Cm h2
       simp only [zD,zK] at h1
       simp only [hl,hv,hls]
       refine ⟨⟨eq_of_beq h1.1.1.1,of_decide_eq_true h1.1.1.2,fun hm=>?_,DO.1 h1.2⟩,l,hl',hK⟩
       rw [C6.2 hm] at h1
       exact absurd h1.1.2 (by simp)
      ·cases h
     ·cases h
    ·cases h
   ·rename_i es hs hl
    split at h
    ·rename_i v0 hv
     split at h
     ·rename_i z hz
      split at h
      ·cases h
      ·rename_i hh
       split at h
       ·rename_i l hl'
        obtain ⟨h1,h2⟩:=Af h
        obtain ⟨rfl,rfl,rfl⟩:=Cm h2
        simp only [zD,beq_iff_eq,decide_eq_true_eq] at h1
        simp only [hl,hv]
        exact ⟨v0,z,rfl,hz,hh,l,hl',⟨h1.1,h1.2⟩,hK⟩
       ·cases h
     ·cases h
    ·cases h
   ·cases h
  ·cases h
 | nilchk y =>
  simp only [fOp,eOp] at h ⊢
  split at h
  all_goals first | (rename_i hy; simp only [hy]; obtain ⟨e1,rfl,rfl⟩:=Bv h; rw [e1]; exact hK) | cases h
 | bin op tb y z =>
  simp only [fOp,eOp] at h ⊢
  obtain ⟨h1,rfl,rfl⟩:=Of h
  exact UU h1 hK
 | un op y =>
  simp only [fOp,eOp] at h ⊢
  split at h
  ·rename_i b hy
   split at h
   ·obtain ⟨rfl,rfl,rfl⟩:=Bv h
    simp only [hy]; exact hK
   ·cases h
  ·rename_i k n hy
   split at h
   ·obtain ⟨h1,h2⟩:=Af h
    obtain ⟨rfl,rfl,rfl⟩:=Bv h2
    simp only [hy]; exact ⟨Ah.1 h1,hK⟩
   ·cases h
  ·cases h
 | conv k y =>
  simp only [fOp,eOp] at h ⊢
  split at h
  ·rename_i k' n hy
   obtain ⟨h1,rfl,rfl⟩:=Of h
   simp only [hy]
   exact K8 h1 hK
  ·cases h
 | mkfn f caps =>
  obtain ⟨rfl,rfl,rfl⟩:=Bv h
  exact hK
 | mkslice t sz bytes z len =>
  simp only [fOp,eOp] at h ⊢
  split at h
  ·rename_i k n hn
   split at h
   ·rename_i zl hz
    obtain ⟨h1,h2⟩:=Af h
    obtain ⟨rfl,rfl,rfl⟩:=Cm h2
    simp only [zD] at h1
    simp only [hn,hz]
    exact ⟨⟨Ah.1 h1.1.1.1,Ah.1 h1.1.1.2,Ah.1 h1.1.2,isEmpty_nil h1.2⟩,hK⟩
   ·cases h
  ·cases h
 | slice str sz y lo hi =>
  simp only [fOp,eOp] at h ⊢
  split at h
  ·rename_i s hy
   split at h
   ·rename_i l hl
    split at h
    ·rename_i q hq
     obtain ⟨h1,h2⟩:=Af h
     obtain ⟨rfl,rfl,rfl⟩:=Bv h2
     simp only [zD] at h1
     simp only [hy,hl,hq]
     exact ⟨⟨Ah.1 h1.1.1.1,Ah.1 h1.1.1.2,Ah.1 h1.1.2⟩,h1.2,hK⟩
    ·cases h
   ·cases h
  ·rename_i es hy
   split at h
   ·rename_i l hl
    split at h
    ·rename_i q hq
     obtain ⟨h1,h2⟩:=Af h
     obtain ⟨rfl,rfl,rfl⟩:=Bv h2
     simp only [zD,zK] at h1
     simp only [hy,hl,hq]
     refine ⟨⟨Ah.1 h1.1.1.1.1,Ah.1 h1.1.1.1.2,Ah.1 h1.1.1.2⟩,h1.1.2,fun e he=>?_,hK⟩
     exact eq_of_beq ((zO.1 h1.2) e he)
    ·cases h
   ·cases h
  ·rename_i g hy
   split at h
   ·rename_i t0 sz' es hg
    split at h
    ·rename_i l hl
     split at h
     ·rename_i q hq
      simp only [hy,hg,hl,hq]
      cases hpf:pfx lo hi with
      | true =>
       rw [hpf,cond_true] at h
       obtain ⟨h1,h2⟩:=Af h
       simp only [zB,zE] at h2
       obtain ⟨rfl,rfl,rfl⟩:=h2
       simp only [zD,zK] at h1
       exact ⟨⟨Ah.1 h1.1.1.1.1,Ah.1 h1.1.1.1.2,Ah.1 h1.1.1.2⟩,h1.1.2,eq_of_beq h1.2,.inr ⟨rfl,hK⟩⟩
      | false =>
       rw [hpf,cond_false] at h
       obtain ⟨h1,h2⟩:=Af h
       simp only [zB,zE] at h2
       obtain ⟨rfl,rfl,rfl⟩:=h2
       simp only [zD,zK] at h1
       exact ⟨⟨Ah.1 h1.1.1.1.1.1,Ah.1 h1.1.1.1.1.2,Ah.1 h1.1.1.1.2⟩,h1.1.1.2,eq_of_beq h1.1.2,.inl ⟨h1.2,hK⟩⟩
     ·cases h
    ·cases h
   ·rename_i es hg
    split at h
    ·rename_i l hl
     split at h
     ·rename_i q hq
      obtain ⟨h1,h2⟩:=Af h
      simp only [zB,zE] at h2
      obtain ⟨rfl,rfl,rfl⟩:=h2
      simp only [zD,zK] at h1
      simp only [hy,hg,hl,hq]
      refine ⟨⟨Ah.1 h1.1.1.1.1,Ah.1 h1.1.1.1.2,Ah.1 h1.1.1.2⟩,h1.1.2,fun e he=>?_,hK⟩
      exact eq_of_beq ((zO.1 h1.2) e he)
     ·cases h
    ·cases h
   ·cases h
  ·cases h
 | faddr off y =>
  simp only [fOp,eOp] at h ⊢
  split at h
  all_goals first | (rename_i hy; simp only [hy]; obtain ⟨e1,rfl,rfl⟩:=Bv h; rw [e1]; exact hK) | cases h
 | field agg off n y =>
  simp only [fOp,eOp] at h ⊢
  split at h
  ·rename_i l hy
   obtain ⟨h1,h2⟩:=Af h
   obtain ⟨rfl,rfl,rfl⟩:=Bv h2
   simp only [hy]
   exact ⟨of_decide_eq_true h1,by cases agg <;> exact hK⟩
  ·cases h
 | iaddr sz y i =>
  simp only [fOp,eOp] at h ⊢
  split at h
  ·rename_i es hy
   split at h
   ·rename_i k n hn
    obtain ⟨h1,h2⟩:=Af h
    split at h2
    ·rename_i l hl
     obtain ⟨h3,h4⟩:=Af h2
     obtain ⟨rfl,rfl,rfl⟩:=Bv h4
     simp only [hy,hn]
     exact ⟨Ah.1 h1,l,hl,eq_of_beq h3,hK⟩
    ·cases h2
   ·cases h
  ·rename_i g hy
   split at h
   ·rename_i k n hn
    split at h
    ·rename_i t sz' es hl
     obtain ⟨h1,h2⟩:=Af h
     obtain ⟨rfl,rfl,rfl⟩:=Cm h2
     simp only [zD] at h1
     simp only [hy,hn,hl]
     exact ⟨⟨eq_of_beq h1.1.1,Ah.1 h1.1.2,Ah.1 h1.2⟩,hK⟩
    ·rename_i es hs hl
     obtain ⟨h1,h2⟩:=Af h
     obtain ⟨rfl,rfl,rfl⟩:=Cm h2
     simp only [zD] at h1
     simp only [hy,hn,hl]
     exact ⟨⟨Ah.1 h1.1,Ah.1 h1.2⟩,hK⟩
    ·cases h
   ·cases h
  ·cases h
 | idx y i =>
  simp only [fOp,eOp] at h ⊢
  split at h
  ·rename_i s hy
   split at h
   ·rename_i k n hn
    obtain ⟨h1,h2⟩:=Af h
    obtain ⟨rfl,rfl,rfl⟩:=Bv h2
    simp only [zD] at h1
    simp only [hy,hn]
    exact ⟨⟨Ah.1 h1.1,Ah.1 h1.2⟩,hK⟩
   ·cases h
  ·cases h
 | ext y k =>
  simp only [fOp,eOp] at h ⊢
  split at h
  ·rename_i l hy
   obtain ⟨h1,h2⟩:=Af h
   obtain ⟨rfl,rfl,rfl⟩:=Bv h2
   simp only [hy]
   exact ⟨of_decide_eq_true h1,hK⟩
  ·cases h
 | call f args=>exact hC f _ x u rd h K hK
 | callv y args =>
  simp only [fOp,eOp] at h ⊢
  split at h
  ·rename_i f caps hy
   obtain ⟨h1,h2⟩:=Af h
   simp only [hy]
   exact ⟨h1,hC f _ x u rd h2 K hK⟩
  ·cases h
 | len str y =>
  simp only [fOp,eOp] at h ⊢
  split at h
  ·rename_i s hy
   obtain ⟨h1,h2⟩:=Af h
   obtain ⟨rfl,rfl,rfl⟩:=Bv h2
   simp only [hy]; exact ⟨h1,hK⟩
  ·rename_i es hy
   obtain ⟨h1,h2⟩:=EI h
   obtain ⟨rfl,rfl,rfl⟩:=Bv h2
   simp only [hy]; exact ⟨h1,hK⟩
  ·rename_i hy
   obtain ⟨h1,h2⟩:=EI h
   obtain ⟨rfl,rfl,rfl⟩:=Bv h2
   simp only [hy]; exact ⟨h1,hK⟩
  ·rename_i g hy
   split at h
   ·rename_i t sz es hl
    obtain ⟨h1,h2⟩:=EI h
    obtain ⟨rfl,rfl,rfl⟩:=Cm h2
    simp only [hy,hl]; exact ⟨h1,hK⟩
   ·rename_i es hs hl
    obtain ⟨h1,h2⟩:=EI h
    obtain ⟨rfl,rfl,rfl⟩:=Cm h2
    simp only [hy,hl]; exact ⟨h1,hK⟩
   ·cases h
  ·cases h
 | append t sz bytes z y w =>
  simp only [fOp,eOp] at h ⊢
  split at h
  ·rename_i new gs ha
   simp only [ha]
   split at h
   ·rename_i hy
    obtain ⟨h1,h2⟩:=Af h
    obtain ⟨rfl,rfl,rfl⟩:=Cm h2
    simp only [zD] at h1
    simp only [hy]
    exact ⟨⟨Ah.1 h1.1.1,Ah.1 h1.1.2,Qx h1.2⟩,hK⟩
   ·rename_i g hy
    split at h
    ·rename_i t' sz' es hl
     obtain ⟨h1,h2⟩:=Af h
     obtain ⟨rfl,rfl,rfl⟩:=Cm h2
     simp only [zD,zK] at h1
     simp only [hy,hl]
     refine ⟨⟨eq_of_beq h1.1.1.1.1.1,eq_of_beq h1.1.1.1.1.2,Ah.1 h1.1.1.1.2,Ah.1 h1.1.1.2,fun hm=>?_,Qx h1.2⟩,hK⟩
     rw [C6.2 hm] at h1
     exact absurd h1.1.2 (by simp)
    ·cases h
   ·cases h
  ·cases h
 | minmax mx y z =>
  simp only [fOp,eOp] at h ⊢
  split at h
  ·rename_i k a hy
   split at h
   ·rename_i k' b hz
    obtain ⟨h1,h2⟩:=Af h
    obtain ⟨rfl,rfl,rfl⟩:=Bv h2
    simp only [hy,hz]
    refine ⟨of_decide_eq_true h1,?_⟩
    cases mx
    ·by_cases q:b<a
     ·rw [AM q] at hK; simpa [q] using hK
     ·rw [AG q] at hK; simpa [q] using hK
    ·by_cases q:a<b
     ·rw [AM q] at hK; simpa [q] using hK
     ·rw [AG q] at hK; simpa [q] using hK
   ·cases h
  ·cases h
 | mkmap ks hint =>
  simp only [fOp,eOp] at h ⊢
  cases hint with
  | none =>
   obtain ⟨rfl,rfl,rfl⟩:=Cm h
   exact ⟨trivial,hK⟩
  | some y =>
   simp only at h ⊢
   split at h
   ·rename_i k n hy
    obtain ⟨rfl,rfl,rfl⟩:=Cm h
    rw [hy]
    exact ⟨rfl,hK⟩
   ·cases h
 | mset ks m k v =>
  simp only [fOp,eOp] at h ⊢
  split at h
  ·rename_i g hm
   simp only [hm]
   split at h
   ·rename_i ks' f hg
    simp only [hg]
    split at h
    ·rename_i q hq
     split at h
     ·rename_i y hy
      obtain ⟨h1,h2⟩:=Af h
      obtain ⟨rfl,rfl,rfl⟩:=Cm h2
      exact ⟨eq_of_beq h1,q,y,hq,hy,hK⟩
     ·cases h
    ·cases h
   ·cases h
  ·cases h
 | mkit y =>
  simp only [fOp,eOp] at h ⊢
  split at h
  ·rename_i ks m hy
   obtain ⟨rfl,rfl,rfl⟩:=Cm h
   simp only [hy]; exact hK
  ·cases h
 | mcur y =>
  simp only [fOp,eOp] at h ⊢
  split at h
  ·rename_i g o hy
   simp only [hy]
   split at h
   ·rename_i hg
    obtain ⟨h1,h2⟩:=Af h
    obtain ⟨rfl,rfl,rfl⟩:=Cm h2
    simp only [hg]
    exact ⟨by simpa using h1,hK⟩
   ·cases h
  ·cases h
 | mget ks ok agg z m k =>
  simp only [fOp,eOp] at h ⊢
  split at h
  ·rename_i ks' f rd' hm
   split at h
   ·rename_i q hq
    obtain ⟨h1,h2⟩:=Af h
    obtain rfl:=eq_of_beq h1
    refine ⟨f,rd',q,hm,hq,?_⟩
    cases hf:f q with
    | none =>
     rw [hf] at h2
     obtain ⟨rfl,rfl,rfl⟩:=Cm h2
     cases ok <;> cases agg <;> exact hK
    | some y =>
     rw [hf] at h2
     obtain ⟨rfl,rfl,rfl⟩:=Cm h2
     cases ok <;> exact hK
   ·cases h
  ·cases h
def QV (n:Nat):List (Nat × Ob)→Bool
 | []=>true
 | (g,_) :: r=>decide (g < n)&&QV n r
theorem Og {n:Nat}:∀ {u:List (Nat × Ob)},QV n u=true→okU n u
 | [],_=>trivial
 | (g,o) :: r,h=>by
  simp only [QV,zD] at h
  exact ⟨of_decide_eq_true h.1,Og h.2⟩
def GP (d:Option Tmp) (st:St):Option R3→Option (Ent × St)
 | some (x,[],rd)=>some (⟨true,x,[],rd⟩,⟨DM st.sl d x,st.ob⟩)
 | some (x,u,rd)=>bif QV (Cp st.ob u).length u then some (⟨true,x,u,rd⟩,⟨DM st.sl d x,Cp st.ob u⟩) else none
 | none=>none
def Pz:Bool→Bool→Bool
 | true,b=>b
 | false,true=>false
 | false,false=>true
noncomputable def GX (P:Program) (C:CallF) (o:SOper) (st:St):Option (Ent × St) :=
 match o.gd with
 | none=>GP o.dst st (fOp P C o.op st.sl st.ob)
 | some (k,want)=>match gets st.sl k with
  | .bool b=>bif Pz b want then GP o.dst st (fOp P C o.op st.sl st.ob) else some (⟨false,.tup [],[],[]⟩,⟨DM st.sl o.dst (.tup []),st.ob⟩)
  | .tup []=>some (⟨false,.tup [],[],[]⟩,⟨DM st.sl o.dst (.tup []),st.ob⟩)
  | _=>none
noncomputable def K9 (P:Program) (C:CallF):List SOper→St→Option St
 | [],st=>some st
 | o :: r,st=>match GX P C o st with
  | some (_,st')=>K9 P C r st'
  | none=>none
noncomputable def EJ (P:Program) (C:CallF):List SOper→List Ent→St→Option (List Ent × St)
 | [],acc,st=>some (acc,st)
 | o :: r,acc,st=>match GX P C o st with
  | some (e,st')=>EJ P C r (acc++[e]) st'
  | none=>none
def EK (P:Program) (C:CallF):Prop:=∀ ob f xs x u rd,C f xs ob=some (x,u,rd)→∀ K:Kont,K x u rd→CallP P f xs (Ac ob) ob.length K
section
variable {P:Program} {C:CallF}
theorem UV {d:Option Tmp} {st st':St} {r:Option R3} {e:Ent} (h:GP d st r=some (e,st')):∃ x u rd,r=some (x,u,rd)∧okU (Cp st.ob u).length u∧e=⟨true,x,u,rd⟩∧st'=st.app d x u:=by
 unfold GP at h
 split at h
 ·rename_i x rd
  simp only [zB,zE] at h
  refine ⟨x,[],rd,rfl,trivial,h.1.symm,?_⟩
  rw [←h.2]
  simp only [St.app,QT]
 ·rename_i x u rd _
  obtain ⟨h1,h2⟩:=Af h
  simp only [zB,zE] at h2
  exact ⟨x,u,rd,rfl,Og h1,h2.1.symm,h2.2.symm⟩
 ·cases h
theorem Qy (hC:EK P C) {o:SOper} {st st':St} {e:Ent} {K:Ent→St→Prop} (h:GX P C o st=some (e,st')) (hK:K e st'):Mj P o st K:=by
 have run:∀ {e:Ent} {st':St},GP o.dst st (fOp P C o.op st.sl st.ob)=some (e,st')→K e st'→eOp P o.op (gets st.sl) (Ac st.ob) st.ob.length fun x upd rd=>okU (Cp st.ob upd).length upd∧K ⟨true,x,upd,rd⟩ (st.app o.dst x upd):=fun h hK=>by
  obtain ⟨x,u,rd,h1,h2,rfl,rfl⟩:=UV h
  exact VI h1 (fun f xs x u rd=>hC st.ob f xs x u rd) ⟨h2,hK⟩
 unfold GX at h
 unfold Mj
 split at h
 ·rename_i hg
  try simp only [hg]
  exact run h hK
 ·rename_i k want hg
  try simp only [hg]
  split at h
  ·rename_i b hb
   simp only [hb]
   cases hw:Pz b want with
   | true =>
    rw [hw] at h
    have e:b=want:=by cases b <;> cases want <;> simp [Pz] at hw ⊢
    exact ⟨fun _=>run h hK,fun e'=>by subst e; cases b <;> cases e'⟩
   | false =>
    rw [hw] at h
    have e:¬ b=want:=by cases b <;> cases want <;> simp [Pz] at hw ⊢
    simp only [cond_false,zB,zE] at h
    obtain ⟨rfl,rfl⟩:=h
    exact ⟨fun e'=>absurd e' e,fun _=>hK⟩
  ·rename_i ht
   simp only [ht,zB,zE] at h ⊢
   obtain ⟨rfl,rfl⟩:=h
   exact ⟨trivial,hK⟩
  ·cases h
theorem So (hC:EK P C):∀ {l:List SOper} {st st':St} {K:St→Prop},K9 P C l st=some st'→K st'→Sh P l st K
 | [],st,st',K,h,hK=>by
  obtain rfl:=zA h
  exact hK
 | o :: r,st,st',K,h,hK=>by
  simp only [K9] at h
  split at h
  ·rename_i e st1 h1
   exact Qy hC h1 (So hC h hK)
  ·cases h
theorem Oh:∀ {l:List SOper} {acc:List Ent} {st:St} {out:List Ent × St},EJ P C l acc st=some out→∃ es,out.1=acc++es∧EJ P C l [] st=some (es,out.2)
 | [],acc,st,out,h=>by
  obtain rfl:=zA h
  exact ⟨[],by simp,rfl⟩
 | o :: r,acc,st,out,h=>by
  simp only [EJ] at h ⊢
  split at h
  ·rename_i e st1 h1
   obtain ⟨es,e1,e2⟩:=Oh h
   have:∃ es',e :: es=es'∧EJ P C r ([]++[e]) st1=some (es',out.2):=by
    have key:∀ (l:List SOper) (a b:List Ent) (s:St) (es:List Ent) (s':St),EJ P C l a s=some (es,s')→EJ P C l (b++a) s=some (b++es,s'):=by
     intro l
     induction l with
     | nil=>intro a b s es s' h; simp only [EJ,zB,zE] at h ⊢; exact ⟨by rw [h.1],h.2⟩
     | cons o r ih =>
      intro a b s es s' h
      simp only [EJ] at h ⊢
      split at h
      ·rename_i e s1 h1
       rw [yF]
       exact ih _ _ _ _ _ h
      ·cases h
    refine ⟨_,rfl,?_⟩
    have:=key r [] [e] st1 es out.2 e2
    simpa using this
   obtain ⟨es',rfl,h3⟩:=this
   exact ⟨e :: es,by rw [e1]; simp,h3⟩
  ·cases h
theorem Sp (hC:EK P C):∀ {l:List SOper} {st st':St} {es:List Ent} {K:List Ent→St→Prop},EJ P C l [] st=some (es,st')→K es st'→Sg P l st K
 | [],st,st',es,K,h,hK=>by
  simp only [EJ,zB,zE] at h
  obtain ⟨rfl,rfl⟩:=h
  exact hK
 | o :: r,st,st',es,K,h,hK=>by
  simp only [EJ] at h
  split at h
  ·rename_i e st1 h1
   obtain ⟨es',e1,e2⟩:=Oh h
   simp only at e1
   subst e1
   exact Qy hC h1 (Sp hC e2 (by simpa using hK))
  ·cases h
end
mutual
def SV.back (m:List Nat):SV→Option SV
 | .ref g=>match EF m g with
  | some i=>some (.ref i)
  | none=>none
 | .ptr g o=>match EF m g with
  | some i=>some (.ptr i o)
  | none=>none
 | .eptr g sz k o=>match EF m g with
  | some i=>some (.eptr i sz k o)
  | none=>none
 | .agg l=>match SV.J1 m l with
  | some l'=>some (.agg l')
  | none=>none
 | .tup l=>match SV.J1 m l with
  | some l'=>some (.tup l')
  | none=>none
 | .fn f l=>match SV.J1 m l with
  | some l'=>some (.fn f l')
  | none=>none
 | .any=>some .any
 | .int k n=>some (.int k n)
 | .bool b=>some (.bool b)
 | .str s=>some (.str s)
 | .nil=>some .nil
 | .arr es=>some (.arr es)
 | .vptr es k o=>some (.vptr es k o)
 | .mp ks m=>some (.mp ks m)
def SV.J1 (m:List Nat):List SV→Option (List SV)
 | []=>some []
 | x :: r=>match SV.back m x with
  | some y=>match SV.J1 m r with
   | some r'=>some (y :: r')
   | none=>none
  | none=>none
end
mutual
theorem SV.back_ren {m:List Nat} {p:Nat}:∀ {x y:SV},x.back m=some y→y.ren (sgp m p)=x
 | .ref g,y,h=>by
  simp only [SV.back] at h
  split at h
  ·rename_i i hi
   obtain rfl:=zA h
   simp only [SV.ren,GB hi]
  ·cases h
 | .ptr g o,y,h=>by
  simp only [SV.back] at h
  split at h
  ·rename_i i hi
   obtain rfl:=zA h
   simp only [SV.ren,GB hi]
  ·cases h
 | .eptr g sz k o,y,h=>by
  simp only [SV.back] at h
  split at h
  ·rename_i i hi
   obtain rfl:=zA h
   simp only [SV.ren,GB hi]
  ·cases h
 | .agg l,y,h=>by
  simp only [SV.back] at h
  split at h
  ·rename_i l' hl
   obtain rfl:=zA h
   simp only [SV.ren,SV.EM hl]
  ·cases h
 | .tup l,y,h=>by
  simp only [SV.back] at h
  split at h
  ·rename_i l' hl
   obtain rfl:=zA h
   simp only [SV.ren,SV.EM hl]
  ·cases h
 | .fn f l,y,h=>by
  simp only [SV.back] at h
  split at h
  ·rename_i l' hl
   obtain rfl:=zA h
   simp only [SV.ren,SV.EM hl]
  ·cases h
 | .any,y,h=>by obtain rfl:=zA h; rfl
 | .int k n,y,h=>by obtain rfl:=zA h; rfl
 | .bool b,y,h=>by obtain rfl:=zA h; rfl
 | .str s,y,h=>by obtain rfl:=zA h; rfl
 | .nil,y,h=>by obtain rfl:=zA h; rfl
 | .arr es,y,h=>by obtain rfl:=zA h; rfl
 | .vptr es k o,y,h=>by obtain rfl:=zA h; rfl
 | .mp ks m,y,h=>by obtain rfl:=zA h; rfl
theorem SV.EM {m:List Nat} {p:Nat}:∀ {x y:List SV},SV.J1 m x=some y→SV.HZ (sgp m p) y=x
 | [],y,h=>by obtain rfl:=zA h; rfl
 | x :: r,y,h=>by
  simp only [SV.J1] at h
  split at h
  ·rename_i y1 h1
   split at h
   ·rename_i r' h2
    obtain rfl:=zA h
    simp only [SV.HZ,SV.back_ren h1,SV.EM h2]
   ·cases h
  ·cases h
end
def EN (m:List Nat):List (Nat × Nat × Nat)→Option (List (Nat × Nat × Nat))
 | []=>some []
 | (k,o,q) :: r=>match EF m q with
  | some i=>match EN m r with
   | some r'=>some ((k,o,i) :: r')
   | none=>none
  | none=>none
theorem GY {m:List Nat} {p:Nat}:∀ {hs hs':List (Nat × Nat × Nat)},EN m hs=some hs'→hs'.map (fun h=>(h.1,h.2.1,sgp m p h.2.2))=hs
 | [],hs',h=>by obtain rfl:=zA h; rfl
 | (k,o,q) :: r,hs',h=>by
  simp only [EN] at h
  split at h
  ·rename_i i hi
   split at h
   ·rename_i r' hr
    obtain rfl:=zA h
    simp only [zN,GB hi,GY hr]
   ·cases h
  ·cases h
def Ob.back (m:List Nat):Ob→Option Ob
 | .box t l=>match SV.J1 m l with
  | some l'=>some (.box t l')
  | none=>none
 | .row t sz es=>some (.row t sz es)
 | .tree es hs=>match EN m hs with
  | some hs'=>some (.tree es hs')
  | none=>none
 | .gone=>some .gone
 | .mp ks m=>some (.mp ks m)
 | .it ks m seen cur=>some (.it ks m seen cur)
 | .shd _=>none
 | .free=>none
theorem Ob.back_ren {m:List Nat} {p:Nat} {x y:Ob} (h:x.back m=some y):y.ren (sgp m p)=x:=by
 cases x with
 | box t l =>
  simp only [Ob.back] at h
  split at h
  ·rename_i l' hl
   obtain rfl:=zA h
   simp only [Ob.ren,SV.EM hl]
  ·cases h
 | row t sz es=>obtain rfl:=zA h; rfl
 | tree es hs =>
  simp only [Ob.back] at h
  split at h
  ·rename_i hs' hl
   obtain rfl:=zA h
   simp only [Ob.ren,GY hl]
  ·cases h
 | gone=>obtain rfl:=zA h; rfl
 | mp ks m=>obtain rfl:=zA h; rfl
 | it ks m seen cur=>obtain rfl:=zA h; rfl
 | shd es=>cases h
 | free=>cases h
def DD (m:List Nat) (ob:List Ob):List Nat→Option (List Ob)
 | []=>some []
 | g :: r=>match (Ac ob g).back m with
  | some o=>match DD m ob r with
   | some l=>some (o :: l)
   | none=>none
  | none=>none
theorem J2 {m:List Nat} {ob:List Ob}:∀ {l:List Nat} {r:List Ob},DD m ob l=some r→r.length=l.length
 | [],r,h=>by obtain rfl:=zA h; rfl
 | g :: l,r,h=>by
  simp only [DD] at h
  split at h
  ·split at h
   ·rename_i l' hl
    obtain rfl:=zA h
    simp [J2 hl]
   ·cases h
  ·cases h
theorem J3 {m:List Nat} {ob:List Ob} {p:Nat}:∀ (l:List Nat) (r:List Ob) (k:Nat),DD m ob l=some r→(∀ j,j<l.length→sgp m p (k+j)=l.getD j 0)→Mk (Ac ob) (sgp m p) k r
 | [],r,k,h,_=>by obtain rfl:=zA h; trivial
 | a :: l,r,k,h,hs=>by
  simp only [DD] at h
  split at h
  ·rename_i o ho
   split at h
   ·rename_i l' hl
    obtain rfl:=zA h
    have h0:=hs 0 (by simp)
    simp only [Nat.add_zero,List.getD_cons_zero] at h0
    refine ⟨by rw [h0,Ob.back_ren ho],J3 l l' (k+1) hl fun j hj=>?_⟩
    have:=hs (j+1) (by simpa using hj)
    simpa [Nat.add_assoc,Nat.add_comm 1 j] using this
   ·cases h
  ·cases h
mutual
def SV.refs:SV→List Nat
 | .ref g=>[g]
 | .ptr g _=>[g]
 | .eptr g _ _ _=>[g]
 | .agg l=>SV.Mn l
 | .tup l=>SV.Mn l
 | .fn _ l=>SV.Mn l
 | _=>[]
def SV.Mn:List SV→List Nat
 | []=>[]
 | x :: r=>x.refs++SV.Mn r
end
def Ob.refs:Ob→List Nat
 | .box _ l=>SV.Mn l
 | .tree _ hs=>hs.map (·.2.2)
 | _=>[]
def Ob.liveB:Ob→Bool
 | .free=>false
 | .gone=>false
 | .shd _=>false
 | _=>true
def reach (ob:List Ob):Nat→List Nat→List Nat→List Nat
 | 0,_,acc=>acc
 | _+1,[],acc=>acc
 | n+1,g :: r,acc=>bif EH g acc || !(Ac ob g).liveB then reach ob n r acc else reach ob n (r++(Ac ob g).refs) (acc++[g])
mutual
def SV.ptrs:SV→List Nat
 | .ptr g _=>[g]
 | .eptr g _ _ _=>[g]
 | .agg l=>SV.Mo l
 | .tup l=>SV.Mo l
 | .fn _ l=>SV.Mo l
 | _=>[]
def SV.Mo:List SV→List Nat
 | []=>[]
 | x :: r=>x.ptrs++SV.Mo r
end
inductive RM where
 |asis
 |frz
 |late
 |own (l:List (Option (Nat × Nat)))
 |half (l:List (Option (Nat × Nat)))
 |frzg (d n:Nat)
 |halfg (d n:Nat) (l:List (Option (Nat × Nat)))
 |tr (l:List (Option (Nat × Nat)))
 |frl (l:List Nat)
structure FM where
 hand:List Bool
 res:RM
 ext:Option (List SV→List Ob→Option (SV × List Ob))
 tree:Bool
def EO:List Bool→List SV→List Nat
 | [],xs=>SV.Mo xs
 | _,[]=>[]
 | b :: bs,x :: xs=>(bif b then x.refs else x.ptrs)++EO bs xs
abbrev FEnv:=FuncId→List SV→List Ob→Option (SV × List Ob)
def Oi (r:SV) (fob:List Ob):Bool:=r.noSh&&fob.all Ob.noSh
def H3 (n:Nat):List Nat→Bool
 | []=>true
 | g :: r=>decide (g < n)&&H3 n r
def Fj (n:Nat):List Ob→Bool
 | []=>true
 | o :: r=>o.idsB n&&Fj n r
def Ei (sel lent:List Nat) (p:Nat) (r:SV) (fob':List Ob):R3 :=
 bif lent.isEmpty || Oi r fob' then (r.ren (sgp sel p),mkU (sgp sel p) 0 fob',lent++sel)
 else (r.ren (sgp sel p),mkU (sgp sel p) 0 fob'++Bs lent,lent++sel)
def Cb (hd:List Bool) (E:FEnv) (f:FuncId) (xs:List SV) (ob:List Ob) (sel:List Nat):Option R3 :=
 match DD sel ob sel with
 | some fob=>bif E2 sel&&H3 ob.length sel&&Fj fob.length fob then
   match E f (Eh hd (Ac ob) sel xs) fob with
   | some (r,fob')=>bif decide (fob.length≤fob'.length) then some (Ei sel (AF sel xs) ob.length r fob') else none
   | none=>none
   else none
 | none=>none
def C1 (gs:List Nat):List (Nat × Ob)→List (Nat × Ob)
 | []=>[]
 | (g,o) :: r=>(g,bif EH g gs then .gone else o) :: C1 gs r
def Oj (u:List (Nat × Ob)):List Nat→Bool
 | []=>true
 | g :: r=>EH g (u.map (·.1))&&Oj u r
def seen (u:List (Nat × Ob)) (g:Nat):Ob:=(As u g).getD .gone
def Ok:R3→Option R3
 | (x,u,rd)=>bif Oj u (AE [] x) then some (BA (seen u) [] x,C1 (AE [] x) u,rd) else none
def DP:RM→Option R3→Option R3
 | .late,some r=>Ok r
 | .late,none=>none
 | _,r=>r
def BT (M:FuncId→FM) (E:FEnv):CallF:=fun f xs ob=>DP (M f).res (Cb (M f).hand E f xs ob (reach ob 64 (EO (M f).hand xs) []))
theorem H4 {n:Nat}:∀ {l:List Nat},H3 n l=true→∀ g∈l,g<n
 | [],_,g,hg=>by cases hg
 | x :: r,h,g,hg=>by
  simp only [H3,zD] at h
  rcases zM.1 hg with rfl | hg
  ·exact of_decide_eq_true h.1
  ·exact H4 h.2 g hg
theorem FR {n:Nat}:∀ {l:List Ob},Fj n l=true→∀ o∈l,o.idsB n=true
 | [],_,g,hg=>by cases hg
 | x :: r,h,g,hg=>by
  simp only [Fj,zD] at h
  rcases zM.1 hg with rfl | hg
  ·exact h.1
  ·exact FR h.2 g hg
theorem IO {l:List (Nat × Ob)} {gs:List Nat} {g:Nat}:As (l++Bs gs) g=match As l g with | some o=>some o | none=>if g∈gs then some .gone else none:=by
 induction l with
 | nil =>
  simp only [List.nil_append,As]
  induction gs with
  | nil=>simp [Bs,As]
  | cons a r ih =>
   simp only [Bs,zN,As] at ih ⊢
   by_cases h:a=g
   ·subst h; simp
   ·have h':¬ g=a:=fun e=>h e.symm
    simp [h,h',ih]
 | cons x l ih =>
  obtain ⟨a,o⟩:=x
  simp only [yI,As]
  by_cases h:a=g
  ·simp [h]
  ·simp [h,ih]
theorem CallP.given {P:Program} {f:FuncId} {cas:List SV} {fob:List Ob} {r:SV} {fob':List Ob} (h:Fun P f cas fob r fob') {xs:List SV} {ob:Nat→Ob} {p:Nat} {K:Kont} (sel:List Nat)
  (hargs:∃ hd,Eh hd ob sel xs=cas) (hsel:sel.length=fob.length∧sel.Nodup) (hlt:∀ g,g∈sel→g<p) (hlen:fob.length≤fob'.length) (hob:Mk ob (sgp sel p) 0 fob) (hids:∀ o,o∈fob→o.idsB fob.length=true) (hfree:K6 ob p)
  (hK:K (r.ren (sgp sel p)) (mkU (sgp sel p) 0 fob'++Bs (AF sel xs)) (AF sel xs++sel)):CallP P f xs ob p K:=by
 refine ⟨_,_,_,hK,fun ob' hrd hup w I V B vs hwf hxs=>?_⟩
 obtain ⟨hsl,hsn⟩:=hsel
 have hs1:∀ k,k<fob.length→∃ g,sel[k]?=some g∧sgp sel p k=g∧g<p:=fun k hk=>by
  have:k<sel.length:=by omega
  refine ⟨sel[k],zG this,by rw [C9,zG this],hlt _ (zR this)⟩
 have hs2:∀ k,fob.length≤k→sgp sel p k=p+(k-fob.length):=fun k hk=>by
  rw [C9,z3 (by omega),hsl]
 have hinj:∀ i j,sgp sel p i=sgp sel p j→i=j:=fun i j e=>by
  rcases zF i fob.length with h1 | h1 <;> rcases zF j fob.length with h2 | h2
  ·obtain ⟨g,g1,g2,g3⟩:=hs1 i h1
   obtain ⟨g',g1',g2',g3'⟩:=hs1 j h2
   have e2:g=g':=by rw [←g2,← g2',e]
   subst e2
   have a1:=Fi hsn g1
   have a2:=Fi hsn g1'
   rw [a1] at a2
   exact zA a2
  ·obtain ⟨g,g1,g2,g3⟩:=hs1 i h1
   have:=hs2 j h2
   omega
  ·obtain ⟨g,g1,g2,g3⟩:=hs1 j h2
   have:=hs2 i h1
   omega
  ·have:=hs2 i h1
   have:=hs2 j h2
   omega
 have htm:∀ g,g∈(mkU (sgp sel p) 0 fob').map (·.1) ↔ ∃ k,k<fob'.length∧sgp sel p k=g:=fun g=>by
  rw [Nf]
  simp
 have htouch:∀ g,Ak (mkU (sgp sel p) 0 fob'++Bs (AF sel xs)) g ↔ (∃ k,k<fob'.length∧sgp sel p k=g)∨g∈AF sel xs:=fun g=>by
  unfold Ak
  rw [z7,zL,htm]
  simp [Bs]
 have hlook:∀ k,k<fob'.length→Ap ob' (mkU (sgp sel p) 0 fob'++Bs (AF sel xs)) (sgp sel p k)=(Ac fob' k).ren (sgp sel p):=fun k hk=>by
  have:=K5 (σ:=sgp sel p) (l:=fob') (k:=0) (j:=k) (fun i i' _ _ _ _ e=>hinj i i' e) hk
  rw [zP] at this
  unfold Ap
  rw [IO,this]; rfl
 have hlookg:∀ g,g∈AF sel xs→¬ (Ap ob' (mkU (sgp sel p) 0 fob'++Bs (AF sel xs)) g).live∨∃ k,k<fob'.length∧sgp sel p k=g:=fun g hg=>by
  by_cases h1:∃ k,k<fob'.length∧sgp sel p k=g
  ·exact .inr h1
  ·left
   have h2:As (mkU (sgp sel p) 0 fob') g=none:=IH (upd:=mkU (sgp sel p) 0 fob') fun h=>h1 ((htm g).1 h)
   unfold Ap
   rw [IO,h2]
   simp only [hg,if_true,Option.getD_some]
   exact fun h=>h
 have hobk:∀ k,k<fob.length→ob' (sgp sel p k)=(Ac fob k).ren (sgp sel p):=fun k hk=>by
  have:=H2 hob hk
  rw [zP] at this
  obtain ⟨g,g1,g2,g3⟩:=hs1 k hk
  rw [←this,g2]
  exact hrd g (z2 _ (z5 g1))
 have hnew:∀ k,fob.length≤k→k<fob'.length→ob' (sgp sel p k)=.free:=fun k h1 h2=>by
  rw [hup _ ((htouch _).2 (.inl ⟨k,h2,rfl⟩))]
  exact hfree _ (by rw [hs2 k h1]; omega)
 have hlv:∀ k,(Ac fob k).live→k<fob.length:=fun k hl=>by
  rcases zF k fob.length with h1 | h1
  ·exact h1
  ·rw [Az _ _ h1] at hl; exact hl.elim
 have hlv':∀ k,(Ac fob' k).live→k<fob'.length:=fun k hl=>by
  rcases zF k fob'.length with h1 | h1
  ·exact h1
  ·rw [Az _ _ h1] at hl; exact hl.elim
 have hlvo:∀ k,(Ac fob k).live→(ob' (sgp sel p k)).live:=fun k hl=>by
  rw [hobk k (hlv k hl)]
  exact (Ob.Ia _).2 hl
 have hlent:∀ g,g∈AF sel xs→ob' g=ob g:=fun g hg=>hrd g (List.mem_append_left _ hg)
 let Vc:Nat→Option Value:=fun k=>if k<fob.length then V (sgp sel p k) else none
 let Bc:Nat→Nat→Prop:=fun k=>B (sgp sel p k)
 let J:Nat→Prop:=fun b=>I b∨∃ g,g∈AF sel xs∧(ob' g).live∧B g b
 have notsel:∀ g,g∈AF sel xs→∀ k,k<fob.length→sgp sel p k≠g:=by
  intro g hg k hk e
  have h1:=DI xs g hg
  obtain ⟨g',g1,g2,_⟩:=hs1 k hk
  rw [g2] at e
  subst e
  rw [Fi hsn g1] at h1
  cases h1
 have hIJ:∀ b,I b→J b:=fun b hb=>.inl hb
 have hwfc:Wf w J Vc Bc (Ac fob):=by
  refine ⟨fun b hb=>?_,fun k hl=>?_,fun k b hl hb=>hwf.lt _ b (hlvo k hl) hb,fun k b hl hb hJ=>?_,fun k k' b hl hl' hb hb'=>hinj _ _ (hwf.dO _ _ b (hlvo k hl) (hlvo k' hl') hb hb'),fun k hf=>?_,hwf.gl.keep (KeepS.refl _ _) hIJ⟩
  ·rcases hb with hb | ⟨g,_,hl,hb⟩
   ·exact hwf.ilt b hb
   ·exact hwf.lt g b hl hb
  ·have hk:=hlv k hl
   obtain ⟨val,h1,h2⟩:=hwf.obj _ (hlvo k hl)
   refine ⟨val,by simp only [Vc,hk,if_true]; exact h1,?_⟩
   rw [hobk k hk] at h2
   have h3:=(ObR.ren _).1 h2
   have h4:=ObR.idsB (n:=fob.length) (V':=Vc) (fun g hg=>by simp only [Vc,hg,if_true]) (hids _ (Ib hk)) h3
   exact h4.keep ⟨zI _,fun _ _ _=>rfl⟩ hIJ (VLe.refl _) fun _ _ _=>rfl
  ·rcases hJ with hJ | ⟨g,hg,hlg,hgb⟩
   ·exact hwf.dI _ b (hlvo k hl) hb hJ
   ·exact notsel g hg k (hlv k hl) (hwf.dO _ _ b (hlvo k hl) hlg hb hgb)
  ·by_cases hk:k<fob.length
   ·simp only [Vc,hk,if_true]
    refine hwf.fr _ ?_
    rw [hobk k hk,hf]; rfl
   ·simp only [Vc,hk,if_false]
 have hargs':RepVs w J Vc cas vs:=by
  obtain ⟨hd,hargs⟩:=hargs
  rw [←hargs,← FP (ob:=ob) (ob':=ob') hd xs hlent]
  refine IL hwf hIJ (fun g i hi=>?_) hd xs vs (fun g b hg hl hb=>.inr ⟨g,hg,hl,hb⟩) hxs
  have hlt':i<fob.length:=by rw [←hsl]; exact (yC.1 (GA hi)).1
  simp only [Vc,hlt',if_true,GB hi]
 refine (h w J Vc Bc vs hwfc hargs').mono ?_
 rintro e w' ⟨v,I',V',B',rfl,hr,hpost⟩
 obtain ⟨hfr,hi0,hi1,hv,hwf',hbh⟩:=hpost
 have hHB:∀ b,HB Bc fob b→∃ g,Ak (mkU (sgp sel p) 0 fob'++Bs (AF sel xs)) g∧(ob' g).live∧B g b:=fun b ⟨k,hl,hb⟩=>⟨sgp sel p k,(htouch _).2 (.inl ⟨k,by have:=hlv k hl; omega,rfl⟩),hlvo k hl,hb⟩
 classical
 let V2:Nat→Option Value:=fun g=>if hg:∃ k,k<fob'.length∧sgp sel p k=g then V' (Classical.choose hg) else V g
 let B2:Nat→Nat→Prop:=fun g=>if hg:∃ k,k<fob'.length∧sgp sel p k=g then B' (Classical.choose hg) else B g
 have hV2:∀ k,k<fob'.length→V2 (sgp sel p k)=V' k:=fun k hk=>by
  have hg:∃ k',k' < fob'.length∧sgp sel p k'=sgp sel p k:=⟨k,hk,rfl⟩
  have:V2 (sgp sel p k)=V' (Classical.choose hg):=dif_pos hg
  rw [this,hinj _ _ (Classical.choose_spec hg).2]
 have hB2:∀ k,k<fob'.length→B2 (sgp sel p k)=B' k:=fun k hk=>by
  have hg:∃ k',k' < fob'.length∧sgp sel p k'=sgp sel p k:=⟨k,hk,rfl⟩
  have:B2 (sgp sel p k)=B' (Classical.choose hg):=dif_pos hg
  rw [this,hinj _ _ (Classical.choose_spec hg).2]
 have hV2n:∀ g,¬ (∃ k,k<fob'.length∧sgp sel p k=g)→V2 g=V g:=fun g hg=>dif_neg hg
 have hB2n:∀ g,¬ (∃ k,k<fob'.length∧sgp sel p k=g)→B2 g=B g:=fun g hg=>dif_neg hg
 have hVV:VLe V V2:=fun g u hu=>by
  by_cases hg:∃ k,k<fob'.length∧sgp sel p k=g
  ·obtain ⟨k,hk,rfl⟩:=hg
   rw [hV2 k hk]
   by_cases h1:k<fob.length
   ·exact hv k u (by simp only [Vc,h1,if_true]; exact hu)
   ·rw [hwf.fr _ (hnew k (by omega) hk)] at hu; cases hu
  ·rw [hV2n g hg]; exact hu
 have hV'σ:VLe V' (fun k=>V2 (sgp sel p k)):=fun k u hu=>by
  rcases zF k fob'.length with h1 | h1
  ·simp only [hV2 k h1]; exact hu
  ·rw [hwf'.fr k (Az _ _ h1)] at hu; cases hu
 have kr:KeepS I' w' w':=⟨zI _,fun _ _ _=>rfl⟩
 have hres:RepV w' I' V2 (r.ren (sgp sel p)) v:=(RepV.ren r v).2 (RepV.mono kr (fun b hb=>hb) hV'σ _ _ hr)
 have hobr:∀ k,(Ac fob' k).live→∃ val,V2 (sgp sel p k)=some val∧ObR w' I' V2 (B2 (sgp sel p k)) val ((Ac fob' k).ren (sgp sel p)):=fun k hl=>by
  have hk:=hlv' k hl
  obtain ⟨val,h1,h2⟩:=hwf'.obj k hl
  refine ⟨val,by rw [hV2 k hk]; exact h1,(ObR.ren _).2 ?_⟩
  rw [hB2 k hk]
  exact h2.keep kr (fun b hb=>hb) hV'σ fun _ _ _=>rfl
 let T:Nat→Prop:=Ak (mkU (sgp sel p) 0 fob'++Bs (AF sel xs))
 have hi2:∀ b,I' b→I b∨w.heap.size≤b∨∃ g,T g∧(ob' g).live∧B g b:=fun b hb=>by
  rcases hi1 b hb with h1 | h1 | h1
  ·rcases h1 with h1 | ⟨g,h1,h2,h3⟩
   ·exact .inl h1
   ·exact .inr (.inr ⟨g,(htouch g).2 (.inr h1),h2,h3⟩)
  ·exact .inr (.inl h1)
  ·exact .inr (.inr (hHB b h1))
 have hkeep:∀ b,b<w.heap.size→(∀ g,T g→(ob' g).live→¬ B g b)→w'.heap[b]?=w.heap[b]?:=fun b hb hno=>hfr.block b hb fun hH=>by
  obtain ⟨g,h1,h2,h3⟩:=hHB b hH
  exact hno g h1 h2 h3
 have live2:∀ k,k<fob'.length→(Ap ob' (mkU (sgp sel p) 0 fob'++Bs (AF sel xs)) (sgp sel p k)).live→(Ac fob' k).live:=fun k hk hl=>by
  rw [hlook k hk] at hl
  exact (Ob.Ia _).1 hl
 have liveT:∀ g,T g→(Ap ob' (mkU (sgp sel p) 0 fob'++Bs (AF sel xs)) g).live→∃ k,k<fob'.length∧sgp sel p k=g:=fun g hg hl=>by
  rcases (htouch g).1 hg with h1 | h1
  ·exact h1
  ·rcases hlookg g h1 with h2 | h2
   ·exact absurd hl h2
   ·exact h2
 have hbf:∀ k b,(Ac fob' k).live→B' k b→(w.heap.size≤b∧b<w'.heap.size)∨∃ g0,T g0∧(ob' g0).live∧B g0 b:=fun k b hl hb=>by
  rcases hbh k b hl hb with h1 | h1
  ·exact .inr (hHB b h1)
  ·exact .inl ⟨h1,hwf'.lt k b hl hb⟩
 have hwf2:Wf w' I' V2 B2 (Ap ob' (mkU (sgp sel p) 0 fob'++Bs (AF sel xs))):=by
  refine hwf.upd T hfr.size hkeep (fun b hb=>hi0 b (hIJ b hb)) hVV (fun g hg=>⟨G5 hg,hB2n g (fun h=>hg ((htouch g).2 (.inl h))),fun hf=>by rw [hV2n g (fun h=>hg ((htouch g).2 (.inl h)))]; exact hwf.fr g hf⟩) hi2 (fun b hb=>hwf'.ilt b hb) (fun g hg hl=>?_) (fun g b hg hl hb=>?_) (fun g b hg hl hb hI=>?_) (fun g g' b hg hg' hl hl' hb hb'=>?_) (fun g hg hf=>?_)
  ·obtain ⟨k,hk,rfl⟩:=liveT g hg hl
   rw [hlook k hk]
   exact hobr k (live2 k hk hl)
  ·obtain ⟨k,hk,rfl⟩:=liveT g hg hl
   rw [hB2 k hk] at hb
   exact hbf k b (live2 k hk hl) hb
  ·obtain ⟨k,hk,rfl⟩:=liveT g hg hl
   rw [hB2 k hk] at hb
   exact hwf'.dI k b (live2 k hk hl) hb hI
  ·obtain ⟨k,hk,rfl⟩:=liveT g hg hl
   obtain ⟨k',hk',rfl⟩:=liveT g' hg' hl'
   rw [hB2 k hk] at hb
   rw [hB2 k' hk'] at hb'
   rw [hwf'.dO k k' b (live2 k hk hl) (live2 k' hk' hl') hb hb']
  ·by_cases h1:∃ k,k<fob'.length∧sgp sel p k=g
   ·obtain ⟨k,hk,rfl⟩:=h1
    rw [hV2 k hk]
    rw [hlook k hk] at hf
    refine hwf'.fr k ?_
    cases hq:Ac fob' k <;> rw [hq] at hf <;> simp [Ob.ren] at hf ⊢
   ·exfalso
    rcases (htouch g).1 hg with h2 | h2
    ·exact h1 h2
    ·have h3:As (mkU (sgp sel p) 0 fob') g=none:=IH (upd:=mkU (sgp sel p) 0 fob') fun h=>h1 ((htm g).1 h)
     unfold Ap at hf
     rw [IO,h3] at hf
     simp only [h2,if_true,Option.getD_some] at hf
     cases hf
 refine ⟨v,I',V2,B2,rfl,hres,⟨hwf2,hfr.os,hfr.tape,hfr.output,hfr.size,hkeep,fun b hb=>hi0 b (hIJ b hb),hi2,hVV,fun g hg=>hB2n g fun h=>hg ((htouch g).2 (.inl h)),fun g b hg hl hb=>?_⟩⟩
 obtain ⟨k,hk,rfl⟩:=liveT g hg hl
 rw [hB2 k hk] at hb
 exact (hbf k b (live2 k hk hl) hb).imp (fun h=>h.1) id
theorem QW {r:SV} {l:List Ob} (h:Oi r l=true):r.noSh=true∧∀ o,o∈l→o.noSh=true:=by
 unfold Oi at h
 rw [zD] at h
 exact ⟨h.1,zO.1 h.2⟩
def GD (P:Program) (E:FEnv):Prop:=∀ f xs ob r ob',E f xs ob=some (r,ob')→Fun P f xs ob r ob'
theorem Bp {P:Program} {E:FEnv} (hE:GD P E) {hd:List Bool} {f:FuncId} {xs:List SV} {ob:List Ob} {sel:List Nat} {x:SV} {u:List (Nat × Ob)} {rd:List Nat} (h:Cb hd E f xs ob sel=some (x,u,rd)) (K:Kont) (hK:K x u rd):CallP P f xs (Ac ob) ob.length K:=by
 unfold Cb at h
 split at h
 ·rename_i fob hfob
  obtain ⟨h1,h2⟩:=Af h
  split at h2
  ·rename_i r fob' hr
   obtain ⟨h3,h4⟩:=Af h2
   simp only [zD] at h1
   have hlen:=J2 hfob
   have hsel:Mk (Ac ob) (sgp sel ob.length) 0 fob:=J3 sel fob 0 hfob fun j hj=>by
    rw [zP,C9,zG hj]
    simp [zU,zG hj]
   have h4:Ei sel (AF sel xs) ob.length r fob'=(x,u,rd):=zA h4
   unfold Ei at h4
   cases hb:((AF sel xs).isEmpty || Oi r fob') with
   | true =>
    rw [hb] at h4
    simp only [cond_true,zE] at h4
    obtain ⟨rfl,rfl,rfl⟩:=h4
    refine CallP.of (hE f _ _ _ _ hr) sel ⟨hd,rfl⟩ ⟨hlen.symm,DO.1 h1.1.1⟩ (H4 h1.1.2) (of_decide_eq_true h3) hsel (FR h1.2) (K7 rfl) ?_ hK
    rw [Bool.or_eq_true] at hb
    exact hb.imp isEmpty_nil QW
   | false =>
    rw [hb] at h4
    simp only [cond_false,zE] at h4
    obtain ⟨rfl,rfl,rfl⟩:=h4
    exact CallP.given (hE f _ _ _ _ hr) sel ⟨hd,rfl⟩ ⟨hlen.symm,DO.1 h1.1.1⟩ (H4 h1.1.2) (of_decide_eq_true h3) hsel (FR h1.2) (K7 rfl) hK
  ·cases h2
 ·cases h
theorem J4 {gs:List Nat} {g:Nat}:∀ {u:List (Nat × Ob)},As (C1 gs u) g=if g∈gs then (As u g).map (fun _=>.gone) else As u g
 | []=>by simp [C1,As]
 | (a,o) :: u=>by
  rw [C1,As,As]
  by_cases h:a=g
  ·subst h
   rw [if_pos rfl,if_pos rfl]
   by_cases hm:a∈gs
   ·rw [if_pos hm,C6.2 hm]; rfl
   ·have:EH a gs=false:=by
     cases e:EH a gs with
     | false=>rfl
     | true=>exact absurd (C6.1 e) hm
    rw [if_neg hm,this]; rfl
  ·rw [if_neg h,if_neg h,J4]
theorem FS {gs:List Nat}:∀ {u:List (Nat × Ob)},(C1 gs u).map (·.1)=u.map (·.1)
 | []=>rfl
 | (a,o) :: u=>by rw [C1,zN,zN,FS]
theorem Mp {u:List (Nat × Ob)}:∀ {l:List Nat},Oj u l=true→∀ g∈l,g∈u.map (·.1)
 | [],_,g,hg=>by cases hg
 | x :: r,h,g,hg=>by
  simp only [Oj,zD] at h
  rcases zM.1 hg with rfl | hg
  ·exact C6.1 h.1
  ·exact Mp h.2 g hg
theorem Ol {u:List (Nat × Ob)} {g:Nat} (h:g∈u.map (·.1)):∃ o,As u g=some o:=by
 induction u with
 | nil=>cases h
 | cons q r ih =>
  obtain ⟨a,o⟩:=q
  rw [As]
  by_cases e:a=g
  ·exact ⟨o,if_pos e⟩
  ·rw [if_neg e]
   simp only [zN,zM] at h
   exact ih (h.resolve_left fun h=>e h.symm)
theorem Wf.less {w:World} {I:Nat→Prop} {V:Nat→Option Value} {B:Nat→Nat→Prop} {ob ob2:Nat→Ob} (h:Wf w I V B ob) (hl:∀ g,ob2 g=ob g∨ob2 g=.gone):Wf w I V B ob2:=by
 have live:∀ g,(ob2 g).live→ob2 g=ob g:=fun g hg=>(hl g).resolve_right fun e=>by rw [e] at hg; exact hg.elim
 refine ⟨h.ilt,fun g hg=>?_,fun g b hg=>?_,fun g b hg=>?_,fun g g' b hg hg'=>?_,fun g hg=>?_,h.gl⟩
 ·have e:=live g hg
  rw [e] at hg ⊢; exact h.obj g hg
 ·rw [live g hg] at hg; exact h.lt g b hg
 ·rw [live g hg] at hg; exact h.dI g b hg
 ·rw [live g hg] at hg; rw [live g' hg'] at hg'; exact h.dO g g' b hg hg'
 ·rcases hl g with e | e
  ·rw [e] at hg; exact h.fr g hg
  ·rw [e] at hg; cases hg
theorem CallOK.late {P:Program} {f:FuncId} {xs:List SV} {ob:Nat→Ob} {x:SV} {u:List (Nat × Ob)} (h:CallOK P f xs ob x u) (hk:∀ g∈AE [] x,g∈u.map (·.1)):CallOK P f xs ob (BA (seen u) [] x) (C1 (AE [] x) u):=by
 intro w I V B vs hwf hvs
 refine (h w I V B vs hwf hvs).mono ?_
 rintro e w' ⟨v,I',V',B',rfl,hr,ha⟩
 have hwf':=ha.wf
 have hseen:∀ g,seen u g=Ap ob u g∨seen u g=.gone:=fun g=>by
  unfold seen Ap
  cases As u g with
  | none=>exact .inr rfl
  | some o=>exact .inl rfl
 have hseenk:∀ g,g∈u.map (·.1)→seen u g=Ap ob u g:=fun g hg=>by
  obtain ⟨o,ho⟩:=Ol hg
  unfold seen Ap
  rw [ho]; rfl
 have hnew:∀ g,Ap ob (C1 (AE [] x) u) g=if g∈AE [] x then .gone else Ap ob u g:=fun g=>by
  unfold Ap
  rw [J4]
  by_cases hm:g∈AE [] x
  ·obtain ⟨o,ho⟩:=Ol (hk g hm)
   rw [if_pos hm,if_pos hm,ho]; rfl
  ·rw [if_neg hm,if_neg hm]
 have hlive:∀ g,(Ap ob (C1 (AE [] x) u) g).live→(Ap ob u g).live∧g ∉ AE [] x:=fun g hl=>by
  rw [hnew g] at hl
  by_cases hm:g∈AE [] x
  ·rw [if_pos hm] at hl; exact hl.elim
  ·rw [if_neg hm] at hl; exact ⟨hl,hm⟩
 have htch:∀ g,Ak (C1 (AE [] x) u) g ↔ Ak u g:=fun g=>by unfold Ak; rw [FS]
 let J:Nat→Prop:=fun b=>I' b∨∃ g,g∈AE [] x∧(Ap ob u g).live∧B' g b
 refine ⟨v,J,V',B',rfl,?_,⟨⟨fun b hb=>?_,fun g hg=>?_,fun g b hg hb=>hwf'.lt g b (hlive g hg).1 hb,fun g b hg hb hJ=>?_,fun g g' b hg hg' hb hb'=>hwf'.dO g g' b (hlive g hg).1 (hlive g' hg').1 hb hb',fun g hg=>?_,hwf'.gl.keep (KeepS.refl _ _) fun _ h=>.inl h⟩,ha.os,ha.tape,ha.output,ha.size,fun b hb hno=>ha.block b hb fun g hg=>hno g ((htch g).2 hg),fun b hb=>.inl (ha.i0 b hb),fun b hb=>?_,ha.v,fun g hg=>ha.out g fun h=>hg ((htch g).2 h),fun g b hg hl hb=>?_⟩⟩
 ·exact GC (hwf'.less hseen) (fun b hb=>.inl hb) (fun g i hi=>by cases hi) x v (fun g b hm hl hb=>.inr ⟨g,hm,by rw [←hseenk g (hk g hm)]; exact hl,hb⟩) hr
 ·rcases hb with hb | ⟨g,_,hl,hb⟩
  ·exact hwf'.ilt b hb
  ·exact hwf'.lt g b hl hb
 ·obtain ⟨h1,h2⟩:=hlive g hg
  rw [hnew g,if_neg h2]
  obtain ⟨val,h3,h4⟩:=hwf'.obj g h1
  exact ⟨val,h3,h4.keep (KeepS.refl _ _) (fun _ h=>.inl h) (VLe.refl _) fun _ _ _=>rfl⟩
 ·obtain ⟨h1,h2⟩:=hlive g hg
  rcases hJ with hJ | ⟨g',hm,hl,hb'⟩
  ·exact hwf'.dI g b h1 hb hJ
  ·rw [hwf'.dO g g' b h1 hl hb hb'] at h2
   exact h2 hm
 ·rw [hnew g] at hg
  by_cases hm:g∈AE [] x
  ·rw [if_pos hm] at hg; cases hg
  ·rw [if_neg hm] at hg; exact hwf'.fr g hg
 ·rcases hb with hb | ⟨g,hm,hl,hb⟩
  ·rcases ha.i1 b hb with h1 | h1 | ⟨g,h1,h2⟩
   ·exact .inl h1
   ·exact .inr (.inl h1)
   ·exact .inr (.inr ⟨g,(htch g).2 h1,h2⟩)
  ·rcases ha.b1 g b (hk g hm) hl hb with h1 | ⟨g0,h1,h2⟩
   ·exact .inr (.inl h1)
   ·exact .inr (.inr ⟨g0,(htch g0).2 h1,h2⟩)
 ·rcases ha.b1 g b ((htch g).1 hg) (hlive g hl).1 hb with h1 | ⟨g0,h1,h2⟩
  ·exact .inl h1
  ·exact .inr ⟨g0,(htch g0).2 h1,h2⟩
theorem P0 {P:Program} {M:FuncId→FM} {E:FEnv} (hE:GD P E):EK P (BT M E):=fun ob f xs x u rd h K hK=>by
 unfold BT at h
 cases hm:(M f).res with
 | asis=>rw [hm] at h; exact Bp hE h K hK
 | frz=>rw [hm] at h; exact Bp hE h K hK
 | own l=>rw [hm] at h; exact Bp hE h K hK
 | tr l=>rw [hm] at h; exact Bp hE h K hK
 | half l=>rw [hm] at h; exact Bp hE h K hK
 | halfg d n l=>rw [hm] at h; exact Bp hE h K hK
 | frzg d n=>rw [hm] at h; exact Bp hE h K hK
 | frl l=>rw [hm] at h; exact Bp hE h K hK
 | late =>
  rw [hm] at h
  cases hq:Cb (M f).hand E f xs ob (reach ob 64 (EO (M f).hand xs) []) with
  | none=>rw [hq] at h; cases h
  | some q =>
   obtain ⟨x0,u0,rd0⟩:=q
   rw [hq] at h
   have h:Ok (x0,u0,rd0)=some (x,u,rd):=h
   unfold Ok at h
   obtain ⟨h1,h2⟩:=Af h
   simp only [zB,zE] at h2
   obtain ⟨rfl,rfl,rfl⟩:=h2
   obtain ⟨x1,u1,rd1,⟨rfl,rfl,rfl⟩,hall⟩:=Bp hE hq (fun a b c=>a=x0∧b=u0∧c=rd0) ⟨rfl,rfl,rfl⟩
   exact ⟨_,_,_,hK,fun ob' h3 h4=>(hall ob' h3 fun g hg=>h4 g (by rw [FS]; exact hg)).late (Mp h1)⟩
def Ic:Nat→List Nat
 | 0=>[]
 | n+1=>Ic n++[n]
theorem Sq {n g:Nat}:g∈Ic n ↔ g<n:=by
 induction n with
 | zero=>simp [Ic]
 | succ n ih=>simp [Ic,ih]; omega
theorem KA:∀ n,(Ic n).Nodup
 | 0=>yM
 | n+1=>by
  simp only [Ic,zY,KA n,z6,yJ,not_false_eq_true,yM,true_and]
  intro a ha b hb
  simp only [zM,yJ,or_false] at hb
  have:=Sq.1 ha
  omega
theorem FT:∀ n,(Ic n).length=n
 | 0=>rfl
 | n+1=>by simp [Ic,FT n]
theorem Om:∀ {n g:Nat},g<n→(Ic n)[g]?=some g
 | 0,g,h=>absurd h (by omega)
 | n+1,g,h=>by
  simp only [Ic]
  rcases zF g n with h1 | h1
  ·rw [yD (by rw [FT]; exact h1)]
   exact Om h1
  ·obtain rfl:g=n:=by omega
   rw [List.getElem?_append_right (by rw [FT]; omega),FT]
   simp
theorem IP (ob:List Ob):∀ (n:Nat) (todo acc:List Nat),∃ t,reach ob n todo acc=acc++t
 | 0,_,acc=>⟨[],by simp [reach]⟩
 | n+1,[],acc=>⟨[],by simp [reach]⟩
 | n+1,g :: r,acc=>by
  simp only [reach]
  cases (EH g acc || !(Ac ob g).liveB) with
  | true=>exact IP ob n r acc
  | false =>
   obtain ⟨t,h⟩:=IP ob n (r++(Ac ob g).refs) (acc++[g])
   exact ⟨g :: t,by simp only [cond_false,h]; simp⟩
theorem FU (ob:List Ob):∀ (n:Nat) (todo acc:List Nat),acc.Nodup→(reach ob n todo acc).Nodup
 | 0,_,acc,h=>by simpa [reach] using h
 | n+1,[],acc,h=>by simpa [reach] using h
 | n+1,g :: r,acc,h=>by
  simp only [reach]
  cases hb:(EH g acc || !(Ac ob g).liveB) with
  | true=>exact FU ob n r acc h
  | false =>
   refine FU ob n _ _ ?_
   rw [Bool.or_eq_false_iff] at hb
   rw [zY]
   refine ⟨h,by simp,fun a ha b hb' e=>?_⟩
   simp only [zM,yJ,or_false] at hb'
   subst hb' e
   have:=C6.2 ha
   rw [hb.1] at this; cases this
def J5 (m:List Nat) (ob:List Ob):List Nat→List Ob
 | []=>[]
 | g :: r=>(match (Ac ob g).back m with
  | some o=>o
  | none=>.gone) :: J5 m ob r
theorem Mq {m:List Nat} {ob:List Ob}:∀ {l:List Nat},(J5 m ob l).length=l.length
 | []=>rfl
 | g :: r=>by simp [J5,Mq (l:=r)]
theorem P1 {σ:Nat→Nat} {x y:SV} (h:x.ren σ=y):leV σ x y:=by cases x <;> first | exact trivial | exact h
theorem Sr {σ:Nat→Nat}:∀ {xs ys:List SV},SV.HZ σ xs=ys→leL σ xs ys
 | [],ys,h=>by simp only [SV.HZ] at h; subst h; trivial
 | x :: xs,ys,h=>by
  simp only [SV.HZ] at h
  subst h
  exact ⟨P1 rfl,Sr rfl⟩
theorem Ss {m:List Nat} {p:Nat} (o:Ob):leO (sgp m p) (match o.back m with | some o'=>o' | none=>.gone) o:=by
 split
 ·rename_i o' h
  have:=Ob.back_ren (p:=p) h
  cases o' with
  | gone=>exact trivial
  | free=>cases o <;> simp [Ob.back] at h <;> (split at h <;> cases h)
  | box t l=>subst this; exact ⟨rfl,Sr rfl⟩
  | row t sz es=>subst this; exact ⟨rfl,rfl,rfl⟩
  | mp ks m=>subst this; exact ⟨rfl,rfl⟩
  | it ks m seen cur=>subst this; exact ⟨rfl,rfl,rfl,rfl⟩
  | shd es=>cases o <;> simp [Ob.back] at h <;> (split at h <;> cases h)
  | tree es hs=>subst this; exact rfl
 ·trivial
theorem On {m:List Nat} {p:Nat} {ob:List Ob}:∀ {l:List Nat} {k:Nat},(∀ j,j<l.length→sgp m p (k+j)=l.getD j 0)→TB (sgp m p) ob k (J5 m ob l)
 | [],k,_=>trivial
 | g :: r,k,hs=>by
  have h0:=hs 0 (by simp)
  simp only [Nat.add_zero,List.getD_cons_zero] at h0
  refine ⟨by rw [h0]; exact Ss _,On fun j hj=>?_⟩
  have:=hs (j+1) (by simpa using hj)
  simpa [Nat.add_assoc,Nat.add_comm 1 j] using this
def Qz:Nat→List Ob→List Nat
 | 0,_=>[]
 | _+1,[]=>[]
 | n+1,o :: r=>o.refs++Qz n r
def names (n0:Nat) (ob:List Ob) (todo:List Nat):List Nat:=reach ob 64 (todo++Qz n0 ob) (Ic n0)
theorem KB {n0:Nat} {ob:List Ob} {todo:List Nat} {sl sl':List SV} (h:leL (sgp (names n0 ob todo) ob.length) sl' sl):WeakC n0 (names n0 ob todo) ⟨sl,ob⟩ ⟨sl',J5 (names n0 ob todo) ob (names n0 ob todo)⟩:=by
 obtain ⟨t,ht⟩:=IP ob 64 (todo++Qz n0 ob) (Ic n0)
 refine ⟨h,On fun j hj=>?_,⟨Mq.symm,FU _ _ _ _ (KA n0)⟩,?_⟩
 ·rw [zP,C9,zG hj]
  simp [zU,zG hj]
 ·have key:∀ n,n≤n0→TC (sgp (names n0 ob todo) ob.length) n:=by
   intro n
   induction n with
   | zero=>intro _; trivial
   | succ n ih =>
    intro hn
    refine ⟨?_,ih (by omega)⟩
    have:(names n0 ob todo)[n]?=some n:=by
     unfold names
     rw [ht,yD (by rw [FT]; omega)]
     exact Om (by omega)
    show sgp (names n0 ob todo) ob.length n=n
    rw [C9,this]
  exact key n0 (zI _)
section
variable {P:Program} {f:FuncId} {args:List SV} {ob:List Ob} {r:SV} {ob':List Ob}
theorem Fun.weak {r2:SV} {ob2:List Ob} {m:List Nat} (h:Fun P f args ob r ob') (hw:WeakC ob.length m ⟨[r],ob'⟩ ⟨[r2],ob2⟩):Fun P f args ob r2 ob2:=by
 intro w I V B vs hwf hvs
 refine (h w I V B vs hwf hvs).mono ?_
 rintro e w' ⟨v,I',V',B',rfl,hr,hp⟩
 refine ⟨v,I',fun g=>V' (sgp m ob'.length g),fun g=>B' (sgp m ob'.length g),rfl,?_,⟨hp.fr,hp.i0,hp.i1,fun g u hu=>?_,hw.wf hp.wf,fun g b hl hb=>?_⟩⟩
 ·have h1:=hw.1
  simp only [leL] at h1
  exact Kd h1.1 hr
 ·have hg:g<ob.length:=by
   rcases zF g ob.length with h1 | h1
   ·exact h1
   ·rw [hwf.fr g (Az _ _ h1)] at hu; cases hu
  rw [G9 hw.2.2.2 g hg]
  exact hp.v g u hu
 ·have hlt:g<ob2.length:=by
   rcases zF g ob2.length with h1 | h1
   ·exact h1
   ·rw [Az _ _ h1] at hl; exact hl.elim
  have h1:=DH (j:=g) hw.2.1 hlt
  rw [zP] at h1
  exact hp.bh _ b (Dt h1 hl) hb
end
def gc (n0:Nat) (r:SV) (ob:List Ob):Option (SV × List Ob) :=
 match r.back (names n0 ob r.refs) with
 | some r'=>some (r',J5 (names n0 ob r.refs) ob (names n0 ob r.refs))
 | none=>none
theorem Ej {n0:Nat} {r r':SV} {ob ob':List Ob} (h:gc n0 r ob=some (r',ob')):WeakC n0 (names n0 ob r.refs) ⟨[r],ob⟩ ⟨[r'],ob'⟩:=by
 unfold gc at h
 split at h
 ·rename_i r1 h1
  simp only [zB,zE] at h
  obtain ⟨rfl,rfl⟩:=h
  exact KB ⟨P1 (SV.back_ren h1),trivial⟩
 ·cases h
def D7 (gs:List Nat):Nat→List Ob→List Ob
 | _,[]=>[]
 | k,o :: r=>(bif EH k gs then .gone else o) :: D7 gs (k+1) r
theorem KC {gs:List Nat}:∀ {l:List Ob} {k j:Nat},Ac (D7 gs k l) j=if j<l.length∧k+j∈gs then .gone else Ac l j
 | [],k,j=>by simp [D7,Ac]
 | o :: r,k,0=>by
  simp only [D7,Ac,zH,Nat.zero_lt_succ,true_and,Nat.add_zero]
  by_cases h:k∈gs
  ·rw [if_pos h,C6.2 h]; rfl
  ·have:EH k gs=false:=by
    cases e:EH k gs with
    | false=>rfl
    | true=>exact absurd (C6.1 e) h
   rw [if_neg h,this]; rfl
 | o :: r,k,j+1=>by
  simp only [D7,Ac,zH,zS]
  rw [KC (l:=r) (k:=k+1) (j:=j),show k+1+j=k+(j+1) by omega]
section
variable {P:Program} {f:FuncId} {args:List SV} {ob:List Ob} {r:SV} {ob':List Ob}
theorem Fun.give (h:Fun P f args ob r ob'):Fun P f args ob (BA (Ac ob') [] r) (D7 (AE [] r) 0 ob'):=by
 intro w I V B vs hwf hvs
 refine (h w I V B vs hwf hvs).mono ?_
 rintro e w' ⟨v,I',V',B',rfl,hr,hp⟩
 have hwf':=hp.wf
 let J:Nat→Prop:=fun b=>I' b∨∃ g,g∈AE [] r∧(Ac ob' g).live∧B' g b
 have hg:∀ g,Ac (D7 (AE [] r) 0 ob') g=if g<ob'.length∧g∈AE [] r then .gone else Ac ob' g:=fun g=>by
  rw [KC,zP]
 have hlv:∀ g,(Ac (D7 (AE [] r) 0 ob') g).live→(Ac ob' g).live∧¬ g∈AE [] r:=fun g hl=>by
  rw [hg g] at hl
  split at hl
  ·exact hl.elim
  ·rename_i hn
   refine ⟨hl,fun hm=>hn ⟨?_,hm⟩⟩
   rcases zF g ob'.length with h1 | h1
   ·exact h1
   ·rw [Az _ _ h1] at hl; exact hl.elim
 refine ⟨v,J,V',B',rfl,?_,⟨hp.fr,fun b hb=>.inl (hp.i0 b hb),fun b hb=>?_,hp.v,?_,fun g b hl hb=>hp.bh g b (hlv g hl).1 hb⟩⟩
 ·exact GC hwf' (fun b hb=>.inl hb) (fun g i hi=>by cases hi) r v (fun g b hm hl hb=>.inr ⟨g,hm,hl,hb⟩) hr
 ·rcases hb with hb | ⟨g,hm,hl,hb⟩
  ·exact hp.i1 b hb
  ·exact .inr ((hp.bh g b hl hb).symm)
 ·refine hwf'.upd (w':=w') (fun g=>g∈AE [] r) (zI _) (fun _ _ _=>rfl) (fun b hb=>.inl hb) (VLe.refl _) (fun g hn=>⟨by rw [hg g,if_neg fun h=>hn h.2],rfl,fun hf=>hwf'.fr g hf⟩) (fun b hb=>?_) (fun b hb=>?_) (fun g hm hl=>absurd hm (hlv g hl).2) (fun g b hm hl=>absurd hm (hlv g hl).2) (fun g b hm hl=>absurd hm (hlv g hl).2) (fun g g' b hm hm' hl=>absurd hm (hlv g hl).2) (fun g hm hf=>?_)
  ·rcases hb with hb | ⟨g,hm,hl,hb⟩
   ·exact .inl hb
   ·exact .inr (.inr ⟨g,hm,hl,hb⟩)
  ·rcases hb with hb | ⟨g,hm,hl,hb⟩
   ·exact hwf'.ilt b hb
   ·exact hwf'.lt g b hl hb
  ·rw [hg g] at hf
   split at hf
   ·cases hf
   ·exact hwf'.fr g hf
end
mutual
def SV.own (n:Nat) (l:List (Option (Nat × Nat))):SV→SV × List Ob × List (Option (Nat × Nat))
 | .agg xs=>match SV.Nh n l xs with
  | (ys,os,l')=>(.agg ys,os,l')
 | .tup xs=>match SV.Nh n l xs with
  | (ys,os,l')=>(.tup ys,os,l')
 | .nil=>match l with
  | some (t,sz) :: l'=>(.ref n,[.row t sz []],l')
  | _ :: l'=>(.nil,[],l')
  | []=>(.nil,[],[])
 | .any=>(.any,[],l.drop 1)
 | .int k m=>(.int k m,[],l.drop 1)
 | .bool b=>(.bool b,[],l.drop 1)
 | .str s=>(.str s,[],l.drop 1)
 | .arr es=>(.arr es,[],l.drop 1)
 | .ref g=>(.ref g,[],l.drop 1)
 | .ptr g o=>(.ptr g o,[],l.drop 1)
 | .eptr g sz k o=>(.eptr g sz k o,[],l.drop 1)
 | .vptr es k o=>(.vptr es k o,[],l.drop 1)
 | .mp ks m=>(.mp ks m,[],l.drop 1)
 | .fn f caps=>(.fn f caps,[],l.drop 1)
def SV.Nh (n:Nat) (l:List (Option (Nat × Nat))):List SV→List SV × List Ob × List (Option (Nat × Nat))
 | []=>([],[],l)
 | x :: r=>match SV.own n l x with
  | (y,os,l1)=>match SV.Nh (n+os.length) l1 r with
   | (ys,os',l2)=>(y :: ys,os++os',l2)
end
def More (w:World) (I:Nat→Prop) (V:Nat→Option Value) (B:Nat→Nat→Prop) (ob:List Ob) (V':Nat→Option Value) (B':Nat→Nat→Prop) (ob':List Ob):Prop :=
 Wf w I V' B' (Ac ob')∧VLe V V'∧(∀ g,g<ob.length→Ac ob' g=Ac ob g∧B' g=B g)∧(∀ g b,ob.length≤g→¬ B' g b)
theorem More.refl {w:World} {I:Nat→Prop} {V:Nat→Option Value} {B:Nat→Nat→Prop} {ob:List Ob} (h:Wf w I V B (Ac ob)):∃ B',More w I V B ob V B' ob:=by
 have lt:∀ g,(Ac ob g).live→g<ob.length:=fun g hl=>by
  rcases zF g ob.length with h1 | h1
  ·exact h1
  ·rw [Az _ _ h1] at hl; exact hl.elim
 refine ⟨fun g=>if g<ob.length then B g else fun _=>False,⟨h.ilt,fun g hl=>?_,fun g b hl hb=>?_,fun g b hl hb=>?_,fun g g' b hl hl' hb hb'=>?_,h.fr,h.gl⟩,VLe.refl _,fun g hg=>⟨rfl,if_pos hg⟩,fun g b hg hb=>by simp only [if_neg (show ¬ g<ob.length by omega)] at hb⟩
 ·obtain ⟨val,h1,h2⟩:=h.obj g hl
  exact ⟨val,h1,by simp only [if_pos (lt g hl)]; exact h2⟩
 ·simp only [if_pos (lt g hl)] at hb; exact h.lt g b hl hb
 ·simp only [if_pos (lt g hl)] at hb; exact h.dI g b hl hb
 ·simp only [if_pos (lt g hl)] at hb
  simp only [if_pos (lt g' hl')] at hb'
  exact h.dO g g' b hl hl' hb hb'
theorem QX (ob:List Ob) (o:Ob):Ac (ob++[o]) ob.length=o:=by rw [HY]; simp [Ac]
theorem More.one {w:World} {I:Nat→Prop} {V:Nat→Option Value} {B:Nat→Nat→Prop} {ob:List Ob} (h:Wf w I V B (Ac ob)) (t sz:Nat):∃ V' B',More w I V B ob V' B' (ob++[.row t sz []])∧V' ob.length=some (.slice none 0 0):=by
 have hn:V ob.length=none:=h.fr _ (Az _ _ (zI _))
 have e:∀ g,g≠ob.length→Ac (ob++[Ob.row t sz []]) g=Ac ob g:=fun g hg=>by
  rw [HY]
  split
  ·rfl
  ·rename_i h1
   rw [Az ob g (by omega)]
   obtain ⟨q,hq⟩:∃ q,g-ob.length=q+1:=⟨g-ob.length-1,by omega⟩
   rw [hq]; rfl
 have e0:=QX ob (.row t sz [])
 have lt:∀ g,(Ac (ob++[Ob.row t sz []]) g).live→g=ob.length∨(g<ob.length∧(Ac ob g).live):=fun g hl=>by
  by_cases hg:g=ob.length
  ·exact .inl hg
  ·rw [e g hg] at hl
   refine .inr ⟨?_,hl⟩
   rcases zF g ob.length with h1 | h1
   ·exact h1
   ·rw [Az _ _ h1] at hl; exact hl.elim
 refine ⟨fun g=>if g=ob.length then some (.slice none 0 0) else V g,fun g=>if g<ob.length then B g else fun _=>False,⟨⟨h.ilt,fun g hl=>?_,fun g b hl hb=>?_,fun g b hl hb=>?_,fun g g' b hl hl' hb hb'=>?_,fun g hf=>?_,h.gl⟩,fun g u hu=>?_,fun g hg=>⟨e g (by omega),if_pos hg⟩,fun g b hg hb=>by simp only [if_neg (show ¬ g<ob.length by omega)] at hb⟩,if_pos rfl⟩
 ·rcases lt g hl with rfl | ⟨h1,h2⟩
  ·refine ⟨_,if_pos rfl,?_⟩
   rw [e0]
   exact RowR.nil _ _ _ _ _
  ·obtain ⟨val,h3,h4⟩:=h.obj g h2
   refine ⟨val,by simp only [if_neg (show ¬ g=ob.length by omega)]; exact h3,?_⟩
   rw [e g (by omega)]
   simp only [if_pos h1]
   refine h4.keep ⟨zI _,fun _ _ _=>rfl⟩ (fun _ h=>h) (fun g u hu=>?_) fun _ _ _=>rfl
   by_cases hg:g=ob.length
   ·subst hg; rw [hn] at hu; cases hu
   ·simp only [if_neg hg]; exact hu
 ·rcases lt g hl with rfl | ⟨h1,h2⟩
  ·simp at hb
  ·simp only [if_pos h1] at hb; exact h.lt g b h2 hb
 ·rcases lt g hl with rfl | ⟨h1,h2⟩
  ·simp at hb
  ·simp only [if_pos h1] at hb; exact h.dI g b h2 hb
 ·rcases lt g hl with rfl | ⟨h1,h2⟩
  ·simp at hb
  ·rcases lt g' hl' with rfl | ⟨h1',h2'⟩
   ·simp at hb'
   ·simp only [if_pos h1] at hb
    simp only [if_pos h1'] at hb'
    exact h.dO g g' b h2 h2' hb hb'
 ·have hg:g≠ob.length:=fun hg=>by subst hg; rw [e0] at hf; cases hf
  simp only [if_neg hg]
  rw [e g hg] at hf
  exact h.fr g hf
 ·by_cases hg:g=ob.length
  ·subst hg; rw [hn] at hu; cases hu
  ·simp only [if_neg hg]; exact hu
theorem More.trans {w:World} {I:Nat→Prop} {V V1 V2:Nat→Option Value} {B B1 B2:Nat→Nat→Prop} {ob ob1 ob2:List Ob} (h:More w I V B ob V1 B1 ob1) (k:More w I V1 B1 ob1 V2 B2 ob2) (hl:ob.length≤ob1.length):More w I V B ob V2 B2 ob2:=by
 refine ⟨k.1,h.2.1.trans k.2.1,fun g hg=>?_,fun g b hg hb=>?_⟩
 ·have h1:=h.2.2.1 g hg
  have h2:=k.2.2.1 g (by omega)
  exact ⟨h2.1.trans h1.1,h2.2.trans h1.2⟩
 ·rcases zF g ob1.length with h1 | h1
  ·rw [(k.2.2.1 g h1).2] at hb; exact h.2.2.2 g b hg hb
  ·exact k.2.2.2 g b h1 hb
section
variable {w:World} {I:Nat→Prop}
mutual
theorem SV.Q0:∀ (x:SV) (n:Nat) (l:List (Option (Nat × Nat))) (V:Nat→Option Value) (B:Nat→Nat→Prop) (ob:List Ob) (v:Value),n=ob.length→Wf w I V B (Ac ob)→RepV w I V x v→∃ V' B',More w I V B ob V' B' (ob++(SV.own n l x).2.1)∧RepV w I V' (SV.own n l x).1 v
 | .agg xs,n,l,V,B,ob,v,hn,hwf,h=>by
  simp only [RepV] at h
  obtain ⟨vs,rfl,h⟩:=h
  obtain ⟨V',B',h1,h2⟩:=SV.KD xs n l V B ob vs hn hwf h
  refine ⟨V',B',by simpa only [SV.own] using h1,?_⟩
  simp only [SV.own,RepV]
  exact ⟨vs,rfl,h2⟩
 | .tup xs,n,l,V,B,ob,v,hn,hwf,h=>by
  simp only [RepV] at h
  obtain ⟨vs,rfl,h⟩:=h
  obtain ⟨V',B',h1,h2⟩:=SV.KD xs n l V B ob vs hn hwf h
  refine ⟨V',B',by simpa only [SV.own] using h1,?_⟩
  simp only [SV.own,RepV]
  exact ⟨vs,rfl,h2⟩
 | .nil,n,l,V,B,ob,v,hn,hwf,h=>by
  have nil:∃ V' B',More w I V B ob V' B' (ob++[])∧RepV w I V' .nil v:=by
   obtain ⟨B',hm⟩:=More.refl hwf
   exact ⟨V,B',by rw [zJ]; exact hm,h⟩
  match l with
  | some (t,sz) :: l' =>
   obtain ⟨V',B',h1,h2⟩:=More.one hwf t sz
   refine ⟨V',B',h1,?_⟩
   simp only [RepV] at h
   subst h hn
   simp only [SV.own,RepV]
   exact ⟨h2,rfl⟩
  | none :: l'=>exact nil
  | []=>exact nil
 | .any,n,l,V,B,ob,v,hn,hwf,h=>by obtain ⟨B',hm⟩:=More.refl hwf; exact ⟨V,B',by simp only [SV.own,zJ]; exact hm,h⟩
 | .int _ _,n,l,V,B,ob,v,hn,hwf,h=>by obtain ⟨B',hm⟩:=More.refl hwf; exact ⟨V,B',by simp only [SV.own,zJ]; exact hm,h⟩
 | .bool _,n,l,V,B,ob,v,hn,hwf,h=>by obtain ⟨B',hm⟩:=More.refl hwf; exact ⟨V,B',by simp only [SV.own,zJ]; exact hm,h⟩
 | .str _,n,l,V,B,ob,v,hn,hwf,h=>by obtain ⟨B',hm⟩:=More.refl hwf; exact ⟨V,B',by simp only [SV.own,zJ]; exact hm,h⟩
 | .arr _,n,l,V,B,ob,v,hn,hwf,h=>by obtain ⟨B',hm⟩:=More.refl hwf; exact ⟨V,B',by simp only [SV.own,zJ]; exact hm,h⟩
 | .ref _,n,l,V,B,ob,v,hn,hwf,h=>by obtain ⟨B',hm⟩:=More.refl hwf; exact ⟨V,B',by simp only [SV.own,zJ]; exact hm,h⟩
 | .ptr _ _,n,l,V,B,ob,v,hn,hwf,h=>by obtain ⟨B',hm⟩:=More.refl hwf; exact ⟨V,B',by simp only [SV.own,zJ]; exact hm,h⟩
 | .eptr _ _ _ _,n,l,V,B,ob,v,hn,hwf,h=>by obtain ⟨B',hm⟩:=More.refl hwf; exact ⟨V,B',by simp only [SV.own,zJ]; exact hm,h⟩
 | .vptr _ _ _,n,l,V,B,ob,v,hn,hwf,h=>by obtain ⟨B',hm⟩:=More.refl hwf; exact ⟨V,B',by simp only [SV.own,zJ]; exact hm,h⟩
 | .mp _ _,n,l,V,B,ob,v,hn,hwf,h=>by obtain ⟨B',hm⟩:=More.refl hwf; exact ⟨V,B',by simp only [SV.own,zJ]; exact hm,h⟩
 | .fn _ _,n,l,V,B,ob,v,hn,hwf,h=>by obtain ⟨B',hm⟩:=More.refl hwf; exact ⟨V,B',by simp only [SV.own,zJ]; exact hm,h⟩
theorem SV.KD:∀ (xs:List SV) (n:Nat) (l:List (Option (Nat × Nat))) (V:Nat→Option Value) (B:Nat→Nat→Prop) (ob:List Ob) (vs:List Value),n=ob.length→Wf w I V B (Ac ob)→RepVs w I V xs vs→∃ V' B',More w I V B ob V' B' (ob++(SV.Nh n l xs).2.1)∧RepVs w I V' (SV.Nh n l xs).1 vs
 | [],n,l,V,B,ob,vs,hn,hwf,h=>by obtain ⟨B',hm⟩:=More.refl hwf; exact ⟨V,B',by simp only [SV.Nh,zJ]; exact hm,h⟩
 | x :: xs,n,l,V,B,ob,vs,hn,hwf,h=>by
  simp only [RepVs] at h
  obtain ⟨v,us,rfl,h1,h2⟩:=h
  obtain ⟨V1,B1,m1,r1⟩:=SV.Q0 x n l V B ob v hn hwf h1
  have h2':=RepVs.mono (w':=w) (I':=I) (V':=V1) ⟨zI _,fun _ _ _=>rfl⟩ (fun _ h=>h) m1.2.1 xs us h2
  obtain ⟨V2,B2,m2,r2⟩:=SV.KD xs (n+(SV.own n l x).2.1.length) (SV.own n l x).2.2 V1 B1 (ob++(SV.own n l x).2.1) us (by rw [yB,hn]) m1.1 h2'
  refine ⟨V2,B2,?_,?_⟩
  ·have:=m1.trans m2 (by simp)
   simpa only [SV.Nh,yF] using this
  ·simp only [SV.Nh,RepVs]
   exact ⟨v,us,rfl,RepV.mono (w':=w) (I':=I) (V':=V2) ⟨zI _,fun _ _ _=>rfl⟩ (fun _ h=>h) m2.2.1 _ _ r1,r2⟩
end
end
section
variable {P:Program} {f:FuncId} {args:List SV} {ob:List Ob} {r:SV} {ob':List Ob}
theorem Fun.rows (h:Fun P f args ob r ob') (l:List (Option (Nat × Nat))):Fun P f args ob (SV.own ob'.length l r).1 (ob'++(SV.own ob'.length l r).2.1):=by
 intro w I V B vs hwf hvs
 refine (h w I V B vs hwf hvs).mono ?_
 rintro e w' ⟨v,I',V',B',rfl,hr,hp⟩
 obtain ⟨V2,B2,hm,hr2⟩:=SV.Q0 r ob'.length l V' B' ob' v rfl hp.wf hr
 refine ⟨v,I',V2,B2,rfl,hr2,⟨hp.fr,hp.i0,hp.i1,hp.v.trans hm.2.1,hm.1,fun g b hl hb=>?_⟩⟩
 rcases zF g ob'.length with h1 | h1
 ·obtain ⟨e1,e2⟩:=hm.2.2.1 g h1
  rw [e1] at hl
  rw [e2] at hb
  exact hp.bh g b hl hb
 ·exact absurd hb (hm.2.2.2 g b h1)
end
def toTree:List Ob→List Ob
 | []=>[]
 | .row _ _ es :: r=>.tree es [] :: toTree r
 | .box t l :: r=>.box t l :: toTree r
 | .tree es hs :: r=>.tree es hs :: toTree r
 | .gone :: r=>.gone :: toTree r
 | .mp ks m :: r=>.mp ks m :: toTree r
 | .it ks m seen cur :: r=>.it ks m seen cur :: toTree r
 | .shd es :: r=>.shd es :: toTree r
 | .free :: r=>.free :: toTree r
theorem CC:∀ l,(toTree l).length=l.length
 | []=>rfl
 | o :: r=>by cases o <;> simp [toTree,CC r]
theorem Fk:∀ (l:List Ob) (g:Nat),Ac (toTree l) g=match Ac l g with | .row _ _ es=>.tree es [] | o=>o
 | [],g=>rfl
 | o :: r,0=>by cases o <;> rfl
 | o :: r,g+1=>by cases o <;> simp only [toTree,Ac] <;> exact Fk r g
theorem BU {l:List Ob} {g:Nat}:(Ac (toTree l) g).live ↔ (Ac l g).live:=by
 rw [Fk]
 cases Ac l g <;> exact Iff.rfl
theorem Wf.tree {w:World} {I:Nat→Prop} {V:Nat→Option Value} {B:Nat→Nat→Prop} {ob:List Ob} (hwf:Wf w I V B (Ac ob)):Wf w I V B (Ac (toTree ob)):=by
 refine ⟨hwf.ilt,fun g hl=>?_,fun g b hl hb=>hwf.lt g b (BU.1 hl) hb,fun g b hl hb=>hwf.dI g b (BU.1 hl) hb,fun g g' b hl hl' hb hb'=>hwf.dO g g' b (BU.1 hl) (BU.1 hl') hb hb',fun g hf=>?_,hwf.gl⟩
 ·obtain ⟨val,h1,h2⟩:=hwf.obj g (BU.1 hl)
  refine ⟨val,h1,?_⟩
  rw [Fk]
  cases hg:Ac ob g <;> rw [hg] at h2 <;> first | exact h2 | exact ⟨_,_,h2,fun q hq=>by cases hq⟩
 ·refine hwf.fr g ?_
  rw [Fk] at hf
  cases hg:Ac ob g <;> rw [hg] at hf <;> first | rfl | cases hf
theorem Fun.trees {P:Program} {f:FuncId} {args:List SV} {ob:List Ob} {r:SV} {ob':List Ob} (h:Fun P f args ob r ob'):Fun P f args ob r (toTree ob'):=by
 intro w I V B vs hwf hvs
 refine (h w I V B vs hwf hvs).mono ?_
 rintro e w' ⟨v,I',V',B',he,hr,hp⟩
 exact ⟨v,I',V',B',he,hr,⟨hp.fr,hp.i0,hp.i1,hp.v,hp.wf.tree,fun g b hl hb=>hp.bh g b (BU.1 hl) hb⟩⟩
theorem Fun.tree {P:Program} {f:FuncId} {args:List SV} {ob:List Ob} {r:SV} {ob':List Ob} (h:Fun P f args (toTree ob) r ob'):Fun P f args ob r ob':=by
 intro w I V B vs hwf hvs
 have hwf':Wf w I V B (Ac (toTree ob)):=hwf.tree
 have hHB:∀ b,HB B (toTree ob) b ↔ HB B ob b:=fun b=>⟨fun ⟨g,hl,hb⟩=>⟨g,BU.1 hl,hb⟩,fun ⟨g,hl,hb⟩=>⟨g,BU.2 hl,hb⟩⟩
 refine (h w I V B vs hwf' hvs).mono ?_
 rintro e w' ⟨v,I',V',B',he,hr,hp⟩
 exact ⟨v,I',V',B',he,hr,⟨⟨hp.fr.os,hp.fr.tape,hp.fr.output,hp.fr.size,fun b hb hn=>hp.fr.block b hb fun h=>hn ((hHB b).1 h)⟩,hp.i0,fun b hb=>(hp.i1 b hb).imp id (fun h=>h.imp id (hHB b).1),hp.v,hp.wf,fun g b hl hb=>(hp.bh g b hl hb).imp (hHB b).1 id⟩⟩
def OT.half:OT→OT
 | .ow es=>.sh (OT.erss es)
 | .int n=>.int n
 | .byte n=>.byte n
 | .bool b=>.bool b
 | .str s=>.str s
 | .sh es=>.sh es
 | .hole=>.hole
def OT.Oo:List OT→List OT
 | []=>[]
 | x :: r=>OT.half x :: OT.Oo r
def OT.Fl:List (List OT)→List (List OT)
 | []=>[]
 | x :: r=>OT.Oo x :: OT.Fl r
theorem OT.Mr:∀ l:List OT,OT.Oo l=l.map OT.half
 | []=>rfl
 | x :: r=>by simp [OT.Oo,OT.Mr r]
theorem OT.H5:∀ l:List (List OT),OT.Fl l=l.map (·.map OT.half)
 | []=>rfl
 | x :: r=>by simp [OT.Fl,OT.H5 r,OT.Mr]
def GZ:Ob→Ob
 | .row t sz es=>bif OT.At es then .row t sz (OT.Fl es) else .row t sz es
 | .free=>.free
 | .gone=>.gone
 | .box t l=>.box t l
 | .tree es hs=>.tree es hs
 | .mp ks m=>.mp ks m
 | .it ks m seen cur=>.it ks m seen cur
 | .shd es=>.shd es
def CV:Nat→List Ob→List Ob
 | _,[]=>[]
 | 0,o :: r=>GZ o :: CV 0 r
 | n+1,o :: r=>o :: CV n r
theorem Da:∀ (l:List Ob) (n g:Nat),Ac (CV n l) g=if n≤g then GZ (Ac l g) else Ac l g
 | [],n,g=>by
  have:CV n []=[]:=by cases n <;> rfl
  rw [this]
  show Ob.free=if n≤g then GZ .free else .free
  split <;> rfl
 | o :: r,0,0=>by simp [CV,Ac]
 | o :: r,0,g+1=>by
  have:=Da r 0 g
  simp only [CV,Ac,Nat.zero_le,if_true] at this ⊢
  exact this
 | o :: r,n+1,0=>by simp [CV,Ac]
 | o :: r,n+1,g+1=>by
  have:=Da r n g
  simp only [CV,Ac,Nat.add_le_add_iff_right] at this ⊢
  exact this
theorem KE {o:Ob}:(GZ o).live ↔ o.live:=by
 cases o <;> first | exact Iff.rfl | (simp only [GZ]; cases OT.At _ <;> exact Iff.rfl)
theorem ORep.half {w:World} {I S T:Nat→Prop} {o:OT} {v:Value} (h:ORep w I S o v) (hS:∀ b,S b→T b) (hI:∀ b,I b→T b) (hf:o.full=true):ORep w T (fun _=>False) o.half v:=by
 cases o with
 | int n=>cases h; exact .int _ _
 | byte n=>cases h; exact .byte _ _
 | bool b=>cases h; exact .bool _ _
 | str s=>cases h with | str _ _ hs=>exact .str _ _ hs
 | sh es=>cases h with | sh _ _ _ hs=>exact .sh _ _ _ (hs.up hI)
 | hole=>cases hf
 | ow es=>exact .sh _ _ _ (h.er hS hI hf)
theorem Wf.half {w:World} {I:Nat→Prop} {V:Nat→Option Value} {B:Nat→Nat→Prop} {ob:List Ob} (hwf:Wf w I V B (Ac ob)) (n:Nat) :
  ∃ (I':Nat→Prop) (B':Nat→Nat→Prop),Wf w I' V B' (Ac (CV n ob))∧(∀ b,I b→I' b)∧(∀ b,I' b→I b∨∃ g,(Ac ob g).live∧B g b)∧∀ g b,B' g b→B g b:=by
 classical
 obtain ⟨out,hout⟩:∃ out:Nat→Nat→Prop,out=fun g b=>∃ m c,V g=some (.slice (some ⟨b,0,none⟩) m c):=⟨_,rfl⟩
 obtain ⟨isH,hH⟩:∃ isH:Nat→Prop,isH=fun g=>n≤g∧∃ t sz es,Ac ob g=.row t sz es∧OT.At es=true:=⟨_,rfl⟩
 have lv:∀ g,(Ac (CV n ob) g).live ↔ (Ac ob g).live:=fun g=>by
  rw [Da]
  split
  ·exact KE
  ·exact Iff.rfl
 have Hl:∀ g,isH g→(Ac ob g).live:=fun g h=>by
  rw [hH] at h
  obtain ⟨_,t,sz,es,e,_⟩:=h
  rw [e]; trivial
 have Bn:∀ g,¬ isH g→(fun b=>B g b∧(isH g→out g b))=B g:=fun g h=>by
  funext b
  exact propext ⟨fun x=>x.1,fun x=>⟨x,fun h'=>absurd h' h⟩⟩
 refine ⟨fun b=>I b∨∃ g,isH g∧B g b∧¬ out g b,fun g b=>B g b∧(isH g→out g b),⟨fun b hb=>?_,fun g hl=>?_,fun g b hl hb=>hwf.lt g b ((lv g).1 hl) hb.1,fun g b hl hb hI=>?_,fun g g' b hl hl' hb hb'=>hwf.dO g g' b ((lv g).1 hl) ((lv g').1 hl') hb.1 hb'.1,fun g hf=>?_,hwf.gl.keep (KeepS.refl _ _) fun _ h=>.inl h⟩,fun _ h=>.inl h,fun b hb=>?_,fun _ _ h=>h.1⟩
 ·rcases hb with hb | ⟨g,h1,h2,_⟩
  ·exact hwf.ilt b hb
  ·exact hwf.lt g b (Hl g h1) h2
 ·obtain ⟨val,h1,h2⟩:=hwf.obj g ((lv g).1 hl)
  refine ⟨val,h1,?_⟩
  by_cases hg:isH g
  ·have hg':=hg
   rw [hH] at hg'
   obtain ⟨hn,t,sz,es,e,hf⟩:=hg'
   rw [e] at h2
   have h2:RowR w I (B g) t sz es val:=h2
   rw [Da,if_pos hn,e]
   simp only [GZ,hf,cond_true]
   show RowR _ _ _ _ _ _ _
   rcases h2 with ⟨rfl,rfl⟩ | ⟨b,cap,cur,Sub,rfl,hS,hb,g1,g2,g3,g4,g5,g6,g7⟩
   ·exact .inl ⟨rfl,rfl⟩
   ·have hlen:(OT.Fl es).length=es.length:=by rw [OT.H5,yL]
    have hob:out g b:=by rw [hout]; exact ⟨_,_,h1⟩
    have hou:∀ x,out g x→x=b:=fun x hx=>by
     rw [hout] at hx
     obtain ⟨m,c,hx⟩:=hx
     rw [h1] at hx
     injection hx with hx
     injection hx with hx
     injection hx with hx
     injection hx with hx
     exact hx.symm
    have get:∀ i (hi:i<es.length) (hi':i<(OT.Fl es).length),(OT.Fl es)[i]=es[i].map OT.half:=fun i hi hi'=>by
     simp only [OT.H5,List.getElem_map]
    refine .inr ⟨b,cap,cur,fun _ _ _=>False,by rw [hlen],⟨hS,fun _=>hob⟩,hb,by rw [hlen]; exact g1,g2,g3,fun i hi=>?_,fun _ _ _ h=>h.elim,fun _ _ _ _ _ h=>h.elim,fun i j hi hj=>?_⟩
    ·rw [get i (by omega) hi,yL]; exact g4 i (by omega)
    ·have hi2:i<es.length:=by omega
     have e2:=get i hi2 hi
     have hj2:j<es[i].length:=by rw [e2,yL] at hj; exact hj
     have e3:(OT.Fl es)[i][j]=(es[i][j]).half:=by simp only [e2,List.getElem_map]
     rw [e3]
     refine (g7 i j hi2 hj2).half (fun x hx=>.inr ⟨g,hg,(g5 i j x hx).1,fun ho=>(g5 i j x hx).2 (hou x ho)⟩) (fun x hx=>.inl hx) ?_
     exact OT.IG (OT.Hw hf es[i] (zR hi2)) _ (zR hj2)
  ·have e:Ac (CV n ob) g=Ac ob g:=by
    rw [Da]
    split
    ·rename_i hn
     cases ho:Ac ob g with
     | row t sz es =>
      cases hf:OT.At es with
      | true=>exact absurd (by rw [hH]; exact ⟨hn,t,sz,es,ho,hf⟩) hg
      | false=>simp only [GZ,hf,cond_false]
     | _=>rfl
    ·rfl
   rw [e,Bn g hg]
   exact ObR.keep h2 (KeepS.refl _ _) (fun _ h=>.inl h) (VLe.refl _) fun _ _ _=>rfl
 ·rcases hI with hI | ⟨g0,k1,k2,k3⟩
  ·exact hwf.dI g b ((lv g).1 hl) hb.1 hI
  ·obtain rfl:=hwf.dO g g0 b ((lv g).1 hl) (Hl g0 k1) hb.1 k2
   exact k3 (hb.2 k1)
 ·refine hwf.fr g ?_
  rw [Da] at hf
  split at hf
  ·cases ho:Ac ob g <;> rw [ho] at hf <;> first | rfl | cases hf | (simp only [GZ] at hf; cases OT.At _ <;> cases hf) | skip
   rename_i t sz es
   simp only [GZ] at hf
   cases h:OT.At es <;> rw [h] at hf <;> cases hf
  ·exact hf
 ·rcases hb with hb | ⟨g,h1,h2,_⟩
  ·exact .inl hb
  ·exact .inr ⟨g,Hl g h1,h2⟩
theorem Fun.half {P:Program} {f:FuncId} {args:List SV} {ob:List Ob} {r:SV} {ob':List Ob} (h:Fun P f args ob r ob') (n:Nat):Fun P f args ob r (CV n ob'):=by
 intro w I V B vs hwf hvs
 refine (h w I V B vs hwf hvs).mono ?_
 rintro e w' ⟨v,I',V',B',he,hr,hp⟩
 obtain ⟨I2,B2,k1,k2,k3,k4⟩:=hp.wf.half n
 have lv:∀ g,(Ac (CV n ob') g).live→(Ac ob' g).live:=fun g hl=>by
  rw [Da] at hl
  split at hl
  ·exact KE.1 hl
  ·exact hl
 refine ⟨v,I2,V',B2,he,RepV.mono (KeepS.refl _ _) k2 (VLe.refl _) _ _ hr,⟨hp.fr,fun b hb=>k2 b (hp.i0 b hb),fun b hb=>?_,hp.v,k1,fun g b hl hb=>hp.bh g b (lv g hl) (k4 g b hb)⟩⟩
 rcases k3 b hb with hb | ⟨g,h1,h2⟩
 ·exact hp.i1 b hb
 ·exact .inr ((hp.bh g b h1 h2).symm)
def order (res:RM) (n0:Nat) (r:SV) (ob:List Ob):Option (SV × List Ob) :=
 match res with
 | .asis=>some (r,ob)
 | .late=>some (r,ob)
 | .frz=>gc n0 (BA (Ac ob) [] r) (D7 (AE [] r) 0 ob)
 | .frl _=>gc n0 (BA (Ac ob) [] r) (D7 (AE [] r) 0 ob)
 | .frzg _ _=>gc n0 (BA (Ac ob) [] r) (D7 (AE [] r) 0 ob)
 | .own l=>match SV.own ob.length l r with
  | (r',os,_)=>bif os.isEmpty then some (r,ob) else gc n0 r' (ob++os)
 | .half l=>match SV.own ob.length l r with
  | (r',os,_)=>bif os.isEmpty then some (r,CV n0 ob) else match gc n0 r' (ob++os) with
   | some (r2,ob2)=>some (r2,CV n0 ob2)
   | none=>none
 | .halfg _ _ l=>match SV.own ob.length l r with
  | (r',os,_)=>bif os.isEmpty then some (r,CV n0 ob) else match gc n0 r' (ob++os) with
   | some (r2,ob2)=>some (r2,CV n0 ob2)
   | none=>none
 | .tr l=>match SV.own ob.length l r with
  | (r',os,_)=>bif os.isEmpty then some (r,toTree ob) else match gc n0 r' (ob++os) with
   | some (r2,ob2)=>some (r2,toTree ob2)
   | none=>none
theorem QY {P:Program} {f:FuncId} {args:List SV} {ob ob1 ob2:List Ob} {r r2:SV} {res:RM} (h:Fun P f args ob r ob1) (ho:order res ob.length r ob1=some (r2,ob2)):Fun P f args ob r2 ob2:=by
 unfold order at ho
 split at ho
 ·simp only [zB,zE] at ho
  obtain ⟨rfl,rfl⟩:=ho
  exact h
 ·simp only [zB,zE] at ho
  obtain ⟨rfl,rfl⟩:=ho
  exact h
 ·exact h.give.weak (Ej ho)
 ·exact h.give.weak (Ej ho)
 ·exact h.give.weak (Ej ho)
 ·rename_i l
  split at ho
  rename_i r' os l' he
  cases hb:os.isEmpty with
  | true =>
   rw [hb] at ho
   simp only [cond_true,zB,zE] at ho
   obtain ⟨rfl,rfl⟩:=ho
   exact h
  | false =>
   rw [hb] at ho
   have:=h.rows l
   rw [he] at this
   exact this.weak (Ej ho)
 ·rename_i l
  split at ho
  rename_i r' os l' he
  cases hb:os.isEmpty with
  | true =>
   rw [hb] at ho
   simp only [cond_true,zB,zE] at ho
   obtain ⟨rfl,rfl⟩:=ho
   exact h.half _
  | false =>
   rw [hb] at ho
   simp only [cond_false] at ho
   have:=h.rows l
   rw [he] at this
   cases hg:gc ob.length r' (ob1++os) with
   | none=>rw [hg] at ho; cases ho
   | some q =>
    rw [hg] at ho
    obtain ⟨r3,ob3⟩:=q
    simp only [zB,zE] at ho
    obtain ⟨rfl,rfl⟩:=ho
    exact (this.weak (Ej hg)).half _
 ·rename_i l
  split at ho
  rename_i r' os l' he
  cases hb:os.isEmpty with
  | true =>
   rw [hb] at ho
   simp only [cond_true,zB,zE] at ho
   obtain ⟨rfl,rfl⟩:=ho
   exact h.half _
  | false =>
   rw [hb] at ho
   simp only [cond_false] at ho
   have:=h.rows l
   rw [he] at this
   cases hg:gc ob.length r' (ob1++os) with
   | none=>rw [hg] at ho; cases ho
   | some q =>
    rw [hg] at ho
    obtain ⟨r3,ob3⟩:=q
    simp only [zB,zE] at ho
    obtain ⟨rfl,rfl⟩:=ho
    exact (this.weak (Ej hg)).half _
 ·rename_i l
  split at ho
  rename_i r' os l' he
  cases hb:os.isEmpty with
  | true =>
   rw [hb] at ho
   simp only [cond_true,zB,zE] at ho
   obtain ⟨rfl,rfl⟩:=ho
   exact h.trees
  | false =>
   rw [hb] at ho
   simp only [cond_false] at ho
   have:=h.rows l
   rw [he] at this
   cases hg:gc ob.length r' (ob1++os) with
   | none=>rw [hg] at ho; cases ho
   | some q =>
    rw [hg] at ho
    obtain ⟨r3,ob3⟩:=q
    simp only [zB,zE] at ho
    obtain ⟨rfl,rfl⟩:=ho
    exact (this.weak (Ej hg)).trees
def Ms (m:List Nat):List Nat→List SV→List SV
 | [],[]=>[]
 | _ :: _,[]=>[]
 | [],_ :: xs=>.any :: Ms m [] xs
 | 0 :: ks,_ :: xs=>.any :: Ms m ks xs
 | (_+1) :: ks,x :: xs=>(match x.back m with | some y=>y | none=>.any) :: Ms m ks xs
def DQ:List Nat→List SV→List Nat
 | (_+1) :: ks,x :: xs=>x.refs++DQ ks xs
 | 0 :: ks,_ :: xs=>DQ ks xs
 | _,_=>[]
def Dx:List Ob→Nat→Ob→List Ob
 | [],_,_=>[]
 | _ :: r,0,o=>o :: r
 | x :: r,g+1,o=>x :: Dx r g o
def Q1 (live:List Nat) (ob:List Ob) (g:Nat):Ob→List Ob
 | .tree es ((k,o,q) :: r)=>bif EH q live || (q == g) then ob else match Ac ob q with
  | .tree e2 []=>match es[k]? with
   | some l=>bif decide (o < l.length) then Dx (Dx ob g (.tree (es.set k (l.set o (.ow e2))) r)) q .gone else ob
   | none=>ob
  | _=>ob
 | _=>ob
def Oq (live:List Nat):Nat→Nat→List Ob→List Ob
 | 0,_,ob=>ob
 | n+1,g,ob=>Oq live n g (Q1 live ob g (Ac ob g))
def Q2 (live:List Nat):List Nat→List Ob→List Ob
 | [],ob=>ob
 | g :: r,ob=>Q2 live r (match Ac ob g with
  | .tree _ (_ :: _)=>Oq live 8 g ob
  | _=>ob)
def Su (n0:Nat) (keep:List Nat) (sl:List SV) (ob:List Ob):St :=
 ⟨Ms (names n0 ob (DQ keep sl)) keep sl,J5 (names n0 ob (DQ keep sl)) ob (names n0 ob (DQ keep sl))⟩
def KF (n0:Nat) (keep:List Nat) (st:St):St:=Su n0 keep st.sl (Q2 (DQ keep st.sl) (Ic st.ob.length) st.ob)
def Sv (n:Nat) (st:St):St :=
 match gets st.sl n with
 | .ref g=>match Ac st.ob g with
  | .row _ _ es=>bif OT.At es then ⟨st.sl.set n (.arr (OT.erss es)),Dx st.ob g .gone⟩ else st
  | _=>st
 | .nil=>⟨st.sl.set n (.arr []),st.ob⟩
 | _=>st
def Or (n:Nat) (st:St):St :=
 match gets st.sl n with
 | .ref g=>match Ac st.ob g with
  | .row _ _ es=>bif OT.At es then ⟨st.sl,Dx st.ob g (.shd (OT.erss es))⟩ else st
  | _=>st
 | _=>st
def canon (n0:Nat):List Nat→St→St
 | (n+7) :: ks,st=>canon n0 ks (Sv n st)
 | ks,st=>KF n0 ks st
theorem TL {n0:Nat} {ks:List Nat} {st:St}:canon n0 (0 :: ks) st=KF n0 (0 :: ks) st:=rfl
theorem TM {n0:Nat} {ks:List Nat} {st:St}:canon n0 (1 :: ks) st=KF n0 (1 :: ks) st:=rfl
theorem TN {n0 n:Nat} {ks:List Nat} {st:St}:canon n0 ((n+7) :: ks) st=canon n0 ks (Sv n st):=rfl
theorem CI:∀ {l:List Ob} {g j:Nat} {o:Ob},Ac (Dx l g o) j=if j=g∧g<l.length then o else Ac l j
 | [],g,j,o=>by simp [Dx,Ac]
 | x :: r,0,0,o=>by simp [Dx,Ac]
 | x :: r,0,j+1,o=>by simp [Dx,Ac]
 | x :: r,g+1,0,o=>by simp [Dx,Ac]
 | x :: r,g+1,j+1,o=>by
  simp only [Dx,Ac,zH,zS,zW]
  exact CI
theorem Wf.plug {w:World} {I:Nat→Prop} {V:Nat→Option Value} {B:Nat→Nat→Prop} {ob ob':Nat→Ob} (h:Wf w I V B ob) {g q k o:Nat} {es e2:List (List OT)} {r:List (Nat × Nat × Nat)} {l:List OT} (hg:ob g=.tree es ((k,o,q) :: r)) (hq:ob q=.tree e2 []) (hne:q≠g) (hl:es[k]?=some l) (ho:o<l.length)
  (h1:ob' g=.tree (es.set k (l.set o (.ow e2))) r) (h2:ob' q=.gone) (h3:∀ j,j≠g→j≠q→ob' j=ob j):Wf w I V (fun j x=>if j=g then B g x∨B q x else B j x) ob':=by
 have lg:(ob g).live:=by rw [hg]; trivial
 have lq:(ob q).live:=by rw [hq]; trivial
 obtain ⟨val,hV,t,sz,hR,hH⟩:∃ val,V g=some val∧TreeR w I V (B g) es ((k,o,q) :: r) val:=by
  obtain ⟨val,a,b⟩:=h.obj g lg
  rw [hg] at b; exact ⟨val,a,b⟩
 obtain ⟨val2,hV2,t2,sz2,hR2,_⟩:∃ val,V q=some val∧TreeR w I V (B q) e2 [] val:=by
  obtain ⟨val,a,b⟩:=h.obj q lq
  rw [hq] at b; exact ⟨val,a,b⟩
 refine h.upd (w':=w) (fun j=>j=g∨j=q) (zI _) (fun _ _ _=>rfl) (fun _ h=>h) (VLe.refl _) (fun j hj=>?_) (fun b hb=>.inl hb) h.ilt (fun j hj hlv=>?_) (fun j b hj hlv hb=>?_) (fun j b hj hlv hb hI=>?_) (fun j j' b hj hj' hlv hlv' _ _=>?_) (fun j hj hf=>?_)
 ·have a:¬ j=g:=fun e=>hj (.inl e)
  have b:¬ j=q:=fun e=>hj (.inr e)
  exact ⟨h3 j a b,by funext x; simp only [if_neg a],fun hf=>h.fr j hf⟩
 ·rcases hj with rfl | rfl
  ·refine ⟨val,hV,?_⟩
   rw [h1]
   obtain ⟨g1,g2,b2,c2,v2,e4,g3,g4,g5⟩:=hH (k,o,q) (by simp)
   obtain ⟨b,cap,v,S0,e1,e5,hb1,hb2,hc,_,hS,hnew⟩:=hR.leaf (l:=l) (off:=o) hl (.inr ho) ho
   subst e1
   have hbb:b2=b:=by rw [e4] at e5; simp at e5; exact e5.1
   subst hbb
   rw [hc] at g3
   obtain rfl:=zA g3
   rw [hV2] at g4
   obtain rfl:=zA g4
   refine ⟨t,l.length,(hnew (.ow e2) (B q) hR2.ot (fun x hx hx'=>absurd (h.dO q j x lq lg hx hx') hne)).up fun x hx=>?_,fun p hp=>?_⟩
   ·simp only [if_true]
    exact hx.imp (fun h=>h.1) id
   ·rw [List.length_set]
    exact hH p (by simp [hp])
  ·rw [h2] at hlv; exact hlv.elim
 ·rcases hj with rfl | rfl
  ·simp only [if_true] at hb
   rcases hb with hb | hb
   ·exact .inr ⟨j,.inl rfl,lg,hb⟩
   ·exact .inr ⟨q,.inr rfl,lq,hb⟩
  ·rw [h2] at hlv; exact hlv.elim
 ·rcases hj with rfl | rfl
  ·simp only [if_true] at hb
   rcases hb with hb | hb
   ·exact h.dI j b lg hb hI
   ·exact h.dI q b lq hb hI
  ·rw [h2] at hlv; exact hlv.elim
 ·rcases hj with rfl | rfl
  ·rcases hj' with rfl | rfl
   ·rfl
   ·rw [h2] at hlv'; exact hlv'.elim
  ·rw [h2] at hlv; exact hlv.elim
 ·rcases hj with rfl | rfl
  ·rw [h1] at hf; cases hf
  ·rw [h2] at hf; cases hf
theorem P2 {c:Ctx} {live:List Nat} {sl:List SV} {ob:List Ob} {g:Nat}:Weak c ⟨sl,ob⟩ ⟨sl,Q1 live ob g (Ac ob g)⟩:=by
 cases hgo:Ac ob g with
 | free=>exact Weak.C5 _
 | gone=>exact Weak.C5 _
 | box t l=>exact Weak.C5 _
 | row t sz es=>exact Weak.C5 _
 | mp ks m=>exact Weak.C5 _
 | it ks m seen cur=>exact Weak.C5 _
 | shd es=>exact Weak.C5 _
 | tree es hs =>
  cases hs with
  | nil=>exact Weak.C5 _
  | cons h r =>
   obtain ⟨k,o,q⟩:=h
   simp only [Q1]
   cases hc:(EH q live || (q == g)) with
   | true=>exact Weak.C5 _
   | false =>
    simp only [cond_false]
    split
    ·rename_i e2 hq
     split
     ·rename_i l hl
      cases hd:decide (o<l.length) with
      | false=>exact Weak.C5 _
      | true =>
       have ho:=of_decide_eq_true hd
       simp only [cond_true]
       have hne:q≠g:=by
        rw [Bool.or_eq_false_iff] at hc
        simpa using hc.2
       have lt:∀ j,(Ac ob j).live→j<ob.length:=fun j hj=>by
        rcases zF j ob.length with h | h
        ·exact h
        ·rw [Az _ _ h] at hj; exact hj.elim
       have hlg:=lt g (by rw [hgo]; trivial)
       have hlq:=lt q (by rw [hq]; trivial)
       have hsl:∀ (l:List Ob) (j:Nat) (x:Ob),(Dx l j x).length=l.length:=by
        intro l
        induction l with
        | nil=>intro j x; rfl
        | cons y r ih=>intro j x; cases j <;> simp [Dx,ih]
       have e1:Ac (Dx (Dx ob g (.tree (es.set k (l.set o (.ow e2))) r)) q .gone) g=.tree (es.set k (l.set o (.ow e2))) r:=by
        rw [CI,if_neg (fun h=>hne h.1.symm),CI,if_pos ⟨rfl,hlg⟩]
       have e2':Ac (Dx (Dx ob g (.tree (es.set k (l.set o (.ow e2))) r)) q .gone) q=.gone:=by
        rw [CI,if_pos ⟨rfl,by rw [hsl]; exact hlq⟩]
       have e3:∀ j,j≠g→j≠q→Ac (Dx (Dx ob g (.tree (es.set k (l.set o (.ow e2))) r)) q .gone) j=Ac ob j:=fun j h1 h2=>by
        rw [CI,if_neg (fun h=>h2 h.1),CI,if_neg (fun h=>h1 h.1)]
       intro hlen
       refine ⟨hlen,fun a w hr=>?_⟩
       obtain ⟨I,V,B,hr⟩:=hr
       refine ⟨I,V,_,hr.fr,hr.i0,hr.i1,hr.v0,hr.wf.plug (es:=es) (e2:=e2) (ob':=Ac (Dx (Dx ob g (.tree (es.set k (l.set o (.ow e2))) r)) q .gone)) hgo hq hne hl ho e1 e2' e3,fun j b hj hb=>?_,hr.nd,hr.sz,hr.slots⟩
       have hj:(Ac (Dx (Dx ob g (.tree (es.set k (l.set o (.ow e2))) r)) q .gone) j).live:=hj
       by_cases hjg:j=g
       ·subst hjg
        simp only [if_true] at hb
        rcases hb with hb | hb
        ·exact hr.bh j b (by show (Ac ob j).live; rw [hgo]; trivial) hb
        ·exact hr.bh q b (by show (Ac ob q).live; rw [hq]; trivial) hb
       ·simp only [if_neg hjg] at hb
        by_cases hjq:j=q
        ·subst hjq; rw [e2'] at hj; exact hj.elim
        ·rw [e3 j hjg hjq] at hj
         exact hr.bh j b hj hb
     ·exact Weak.C5 _
    ·exact Weak.C5 _
theorem KG {c:Ctx} {live:List Nat} {sl:List SV} {g:Nat}:∀ {n:Nat} {ob:List Ob},Weak c ⟨sl,ob⟩ ⟨sl,Oq live n g ob⟩
 | 0,ob=>Weak.C5 _
 | n+1,ob=>Weak.trans P2 KG
theorem KH {c:Ctx} {live:List Nat} {sl:List SV}:∀ {gs:List Nat} {ob:List Ob},Weak c ⟨sl,ob⟩ ⟨sl,Q2 live gs ob⟩
 | [],ob=>Weak.C5 _
 | g :: r,ob=>by
  have h1:Weak c ⟨sl,ob⟩ ⟨sl,match Ac ob g with
   | .tree _ (_ :: _)=>Oq live 8 g ob
   | _=>ob⟩:=by
   split
   ·exact KG
   ·exact Weak.C5 _
  exact Weak.trans h1 (KH (gs:=r))
theorem Id {m:List Nat} {p:Nat}:∀ {ks:List Nat} {xs:List SV},leL (sgp m p) (Ms m ks xs) xs
 | [],[]=>trivial
 | _ :: _,[]=>trivial
 | [],x :: xs=>⟨trivial,Id (ks:=[]) (xs:=xs)⟩
 | 0 :: ks,x :: xs=>⟨trivial,Id (ks:=ks) (xs:=xs)⟩
 | (k+1) :: ks,x :: xs=>by
  refine ⟨?_,Id (ks:=ks) (xs:=xs)⟩
  split
  ·rename_i y h
   exact P1 (SV.back_ren h)
  ·trivial
theorem BV {c:Ctx} {keep:List Nat} {st:St}:Weak c st (KF c.m keep st):=Weak.trans (KH (sl:=st.sl) (ob:=st.ob)) (TE _ (KB Id))
theorem Ot {sl:List SV} {n k:Nat} {x:SV}:gets (sl.set n x) k=if n=k∧n<sl.length then x else gets sl k:=by
 induction sl generalizing n k with
 | nil=>simp [gets]
 | cons y r ih =>
  cases n with
  | zero=>cases k with
   | zero=>simp [gets]
   | succ k=>simp [gets]
  | succ n=>cases k with
   | zero=>simp [gets]
   | succ k=>simp only [List.set_cons_succ,gets,zH,zS,zW]; exact ih
theorem QZ {c:Ctx} {n:Nat} {st:St}:Weak c st (Sv n st):=by
 unfold Sv
 split
 ·rename_i g hg
  split
  ·rename_i t sz es hob
   cases hf:OT.At es with
   | false=>exact Weak.C5 _
   | true =>
    rw [cond_true]
    intro hlen
    refine ⟨by simpa using hlen,fun a w hr=>?_⟩
    obtain ⟨I,V,B,hr⟩:=hr
    have hl:(Ac st.ob g).live:=by rw [hob]; trivial
    have hlt:g<st.ob.length:=by
     rcases zF g st.ob.length with h | h
     ·exact h
     ·rw [Az _ _ h] at hl; exact hl.elim
    have k:=hr.after (After.frz hr.wf (g:=g) hl)
    have eob:Ap (Ac st.ob) [(g,.gone)]=Ac (Dx st.ob g .gone):=by
     funext j
     rw [CI]
     by_cases e:j=g
     ·subst e; simp [Ap,As,hlt]
     ·have e':¬ g=j:=fun h=>e h.symm
      simp [Ap,As,e,e']
    have kw:Wf w (fun b=>I b∨B g b) V B (Ap (Ac st.ob) [(g,.gone)]):=k.wf
    have kb:∀ j b,(Ap (Ac st.ob) [(g,.gone)] j).live→B j b→c.H b∨c.w0.heap.size≤b:=k.bh
    rw [eob] at kw kb
    refine ⟨_,V,B,k.fr,k.i0,k.i1,k.v0,kw,kb,k.nd,k.sz,fun j=>?_⟩
    have hs:=k.slots j
    show RepV w _ V (gets (st.sl.set n (.arr (OT.erss es))) j) _
    rw [Ot]
    split
    ·rename_i hj
     obtain ⟨rfl,_⟩:=hj
     have hv:=hr.slots n
     have hv:RepV w I V (gets st.sl n) (a.tmps.getD n undef):=hv
     rw [hg] at hv
     simp only [RepV] at hv
     obtain ⟨val,h1,h2⟩:=hr.wf.obj g hl
     rw [hv.1] at h1
     obtain rfl:=zA h1
     have h2:ObR w I V (B g) _ (Ac st.ob g):=h2
     rw [hob] at h2
     simp only [RepV]
     exact RowR.er h2 (fun b hb=>.inr hb) (fun b hb=>.inl hb) hf
    ·exact hs
  ·exact Weak.C5 _
 ·rename_i hg
  intro hlen
  refine ⟨by simpa using hlen,fun a w hr=>?_⟩
  obtain ⟨I,V,B,hr⟩:=hr
  refine ⟨I,V,B,hr.fr,hr.i0,hr.i1,hr.v0,hr.wf,hr.bh,hr.nd,hr.sz,fun j=>?_⟩
  have hs:=hr.slots j
  show RepV w _ V (gets (st.sl.set n (.arr [])) j) _
  rw [Ot]
  split
  ·rename_i hj
   obtain ⟨rfl,_⟩:=hj
   have hv:RepV w I V (gets st.sl n) (a.tmps.getD n undef):=hr.slots n
   rw [hg] at hv
   simp only [RepV] at hv ⊢
   rw [hv]
   exact Jy _
  ·exact hs
 ·exact Weak.C5 _
theorem Ra {c:Ctx} {n:Nat} {st:St}:Weak c st (Or n st):=by
 unfold Or
 split
 ·rename_i g hg
  split
  ·rename_i t sz es hob
   cases hf:OT.At es with
   | false=>exact Weak.C5 _
   | true =>
    rw [cond_true]
    intro hlen
    refine ⟨hlen,fun a w hr=>?_⟩
    obtain ⟨I,V,B,hr⟩:=hr
    have hl:(Ac st.ob g).live:=by rw [hob]; trivial
    have hlt:g<st.ob.length:=by
     rcases zF g st.ob.length with h | h
     ·exact h
     ·rw [Az _ _ h] at hl; exact hl.elim
    obtain ⟨val,h1,h2⟩:=hr.wf.obj g hl
    have h2:ObR w I V (B g) _ (Ac st.ob g):=h2
    rw [hob] at h2
    have hD:DRep false w (fun b=>I b∨B g b) (.arr (OT.erss es)) val:=RowR.er h2 (fun b hb=>.inr hb) (fun b hb=>.inl hb) hf
    have k:=hr.after (After.shd hr.wf (g:=g) hl h1 hD)
    have eob:Ap (Ac st.ob) [(g,.shd (OT.erss es))]=Ac (Dx st.ob g (.shd (OT.erss es))):=by
     funext j
     rw [CI]
     by_cases e:j=g
     ·subst e; simp [Ap,As,hlt]
     ·have e':¬ g=j:=fun h=>e h.symm
      simp [Ap,As,e,e']
    have kw:Wf w (fun b=>I b∨B g b) V (fun x b=>x≠g∧B x b) (Ap (Ac st.ob) [(g,.shd (OT.erss es))]):=k.wf
    have kb:∀ j b,(Ap (Ac st.ob) [(g,.shd (OT.erss es))] j).live→(j≠g∧B j b)→c.H b∨c.w0.heap.size≤b:=k.bh
    rw [eob] at kw kb
    exact ⟨_,V,_,k.fr,k.i0,k.i1,k.v0,kw,kb,k.nd,k.sz,fun j=>k.slots j⟩
  ·exact Weak.C5 _
 ·exact Weak.C5 _
theorem CD {c:Ctx}:∀ {keep:List Nat} {st:St},Weak c st (canon c.m keep st)
 | [],st=>BV
 | 0 :: ks,st=>BV
 | 1 :: ks,st=>BV
 | 2 :: ks,st=>BV
 | 3 :: ks,st=>BV
 | 4 :: ks,st=>BV
 | 5 :: ks,st=>BV
 | 6 :: ks,st=>BV
 | (n+7) :: ks,st=>Weak.trans QZ (CD (keep:=ks))
def BK (r:Option (X × St)) (k:St→Option (X × St)):Option (X × St) :=
 match r with
 | some (.normal,st)=>k st
 | some (.exit i,st)=>some (.exit i,st)
 | some (.ret,st)=>some (.ret,st)
 | none=>none
def Fn (id:Nat) (r:Option (X × St)):Option (X × St) :=
 match r with
 | some (.normal,st)=>some (.normal,st)
 | some (.exit i,st)=>if i=id then some (.normal,st) else some (.exit i,st)
 | some (.ret,st)=>some (.ret,st)
 | none=>none
structure MI where
 keepO:List Nat
 it:SX
 nx:Nat
 more:Nat
abbrev LoopF:=Option MI→List Nat→(St→Option (X × St))→St→Option (X × St)
noncomputable def fr (P:Program) (C:CallF) (L:LoopF):SC→St→Option (X × St)
 | .skip,st=>some (.normal,st)
 | .reg ops,st=>match K9 P C ops st with
  | some st'=>some (.normal,st')
  | none=>none
 | .dreg anc ops,st=>match EJ P C ops [] st with
  | some (es,st')=>bif obB anc [] (Hu es) 0 then some (.normal,st') else none
  | none=>none
 | .seq a b,st=>BK (fr P C L a st) (fr P C L b)
 | .cond q a b,st=>match Al (gets st.sl) q with
  | .bool t=>bif t then fr P C L a st else fr P C L b st
  | _=>none
 | .block id b,st=>Fn id (fr P C L b st)
 | .loop keep b,st=>L none keep (fr P C L b) st
 | .exit id,st=>some (.exit id,st)
 | .ret,st=>some (.ret,st)
 | .next _ _ _,_=>none
 | .mloop keep keepO it nx more b,st=>L (some ⟨keepO,it,nx,more⟩) keep (fr P C L b) st
 | .ghost n b,st=>fr P C L b (Or n st)
def CK (n0:Nat) (keep:List Nat) (step:St→Option (X × St)):Nat→St→Option (X × St)
 | 0,_=>none
 | n+1,st=>BK (step (canon n0 keep st)) (CK n0 keep step n)
abbrev EL:=List (MK × MV)
structure Enum (f:MF) (l:EL):Prop where
 nd:(l.map (·.1)).Nodup
 mem:∀ k x,(k,x)∈l ↔ f k=some x
noncomputable def P3 {α β:Type} (p:α→Prop) (f:α→Option β):Option β :=
 match Classical.propDecidable ((∃ a,p a)∧∃ o,∀ a,p a→f a=some o) with
 | .isTrue h=>some (Classical.choose h.2)
 | .isFalse _=>none
theorem DR {α β:Type} {p:α→Prop} {f:α→Option β} {o:β}:P3 p f=some o ↔ (∃ a,p a)∧∀ a,p a→f a=some o:=by
 unfold P3
 split
 ·rename_i h _
  have hs:=Classical.choose_spec h.2
  constructor
  ·intro e
   obtain rfl:=zA e
   exact ⟨h.1,hs⟩
  ·rintro ⟨⟨a,ha⟩,h2⟩
   have:=(hs a ha).symm.trans (h2 a ha)
   exact this
 ·rename_i h _
  exact ⟨fun e=>(by cases e),fun ⟨h1,h2⟩=>absurd ⟨h1,o,h2⟩ h⟩
def Ou (it:SX) (st:St):Option (Nat × Bool × MF × List MK) :=
 match Al (gets st.sl) it with
 | .ptr g o=>match Ac st.ob g with
  | .it ks m seen _=>bif (o == 0) then some (g,ks,m,seen) else none
  | _=>none
 | _=>none
def P4:Option (X × St)→Option (X × St)
 | some (.normal,_)=>none
 | some (.exit i,st)=>some (.exit i,st)
 | some (.ret,st)=>some (.ret,st)
 | none=>none
noncomputable def DS (n0:Nat) (mi:MI) (keep:List Nat) (step:St→Option (X × St)) (f:MF):EL→List MK→St→Option (X × St)
 | [],seen,st=>match Ou mi.it (canon n0 keep st) with
  | some (_,_,f',seen')=>bif dec (f'=f)&&dec (seen'=seen) then P4 (step (E1 mi.nx mi.more (canon n0 keep st) false [])) else none
  | none=>none
 | (k,x) :: l,seen,st=>match Ou mi.it (canon n0 keep st) with
  | some (g,ks,f',seen')=>bif dec (f'=f)&&dec (seen'=seen) then BK (step (E1 mi.nx mi.more (canon n0 keep st) true [(g,.it ks f (k :: seen) (some (k,x)))])) (DS n0 mi keep step f l (k :: seen)) else none
  | none=>none
def LA (n0:Nat) (keepO:List Nat):Option (X × St)→Option (X × St)
 | some (x,st)=>some (x,canon n0 keepO st)
 | none=>none
noncomputable def FV (n0:Nat) (mi:MI) (keep:List Nat) (step:St→Option (X × St)) (st:St):Option (X × St) :=
 match Ou mi.it (canon n0 keep st) with
 | some (_,_,f,[])=>P3 (Enum f) fun l=>LA n0 mi.keepO (DS n0 mi keep step f l [] st)
 | _=>none
noncomputable def FW (n0:Nat):Option MI→List Nat→(St→Option (X × St))→Nat→St→Option (X × St)
 | none,keep,step,n,st=>CK n0 keep step n st
 | some mi,keep,step,_,st=>FV n0 mi keep step st
def BL:SC→SC→Prop
 | .ghost _ b,sc=>BL b sc
 | .skip,.skip=>True
 | .reg a,.reg b=>a=b
 | .dreg x a,.dreg y b=>x=y∧a=b
 | .seq a b,.seq a' b'=>BL a a'∧BL b b'
 | .cond q a b,.cond q' a' b'=>q=q'∧BL a a'∧BL b b'
 | .block i b,.block i' b'=>i=i'∧BL b b'
 | .loop _ b,.loop _ b'=>BL b b'
 | .exit i,.exit i'=>i=i'
 | .ret,.ret=>True
 | .next a b d,.next a' b' d'=>a=a'∧b=b'∧d=d'
 | .next _ _ _,.mloop _ _ _ _ _ _=>True
 | .next _ _ _,.ghost _ _=>True
 | .mloop _ _ it nx more b,.loop _ (.seq (.next it' nx' more') b')=>it=it'∧nx=nx'∧more=more'∧BL b b'
 | _,_=>False
section
variable {P:Program} {c:Ctx} {C:CallF}
def VJ (mi:Option MI) (b:SC):SC :=
 match mi with
 | none=>b
 | some mi=>.seq (.next mi.it mi.nx mi.more) b
def KI (P:Program) (c:Ctx) (L:LoopF):Prop:=∀ (mi:Option MI) (keep junk:List Nat) (step:St→Option (X × St)) (b:SC) (st:St) (out:X × St),
 (∀ st out,step st=some out→∀ K:X→St→Prop,K out.1 out.2→Run P c b K st)→L mi keep step st=some out→∀ K:X→St→Prop,K out.1 out.2→Run P c (.loop junk (VJ mi b)) K st
theorem P5 (hm:P.follows .mixedOrders=true) (n:Nat) (keep junk:List Nat) (step:St→Option (X × St)) (b:SC) (st:St) (out:X × St) (hstep:∀ st out,step st=some out→∀ K:X→St→Prop,K out.1 out.2→Run P c b K st) (h:CK c.m keep step n st=some out) (K:X→St→Prop) (hK:K out.1 out.2):Run P c (.loop junk b) K st:=by
 let A:={ p:Nat × St // BK (step p.2) (CK c.m keep step p.1)=some out }
 have start:∀ n st,CK c.m keep step n st=some out→∃ a:A,a.1.2=canon c.m keep st∧a.1.1<n:=fun n st h=>by
  cases n with
  | zero=>cases h
  | succ n=>exact ⟨⟨(n,canon c.m keep st),h⟩,rfl,Nat.lt_succ_self n⟩
 obtain ⟨a0,ha0,_⟩:=start n st h
 refine NY (α:=A) (fun a=>a.1.2) (fun a=>a.1.1) a0 (by show Weak c st a0.1.2; rw [ha0]; exact CD) fun a=>?_
 obtain ⟨⟨m,s⟩,ha⟩:=a
 simp only at ha ⊢
 unfold BK at ha
 split at ha
 ·rename_i st' hs
  refine hstep s _ hs _ ?_
  obtain ⟨y,hy1,hy2⟩:=start m st' ha
  exact ⟨y,hy2,by show Weak c st' y.1.2; rw [hy1]; exact CD⟩
 ·rename_i i st' hs
  obtain rfl:=zA ha
  exact hstep s _ hs _ hK
 ·rename_i st' hs
  obtain rfl:=zA ha
  exact hstep s _ hs _ hK
 ·cases ha
theorem Run.VK {sc:SC} {K:X→St→Prop} {st:St} (h:Run P c sc (fun x s=>∃ s',Weak c s s'∧K x s') st):Run P c sc K st:=by
 intro code hc a w Q hl hr hq
 refine h code hc a w Q hl hr fun x s a' w' hk hl' hr'=>?_
 obtain ⟨s',hw,hk⟩:=hk
 obtain ⟨h1,h2⟩:=hw hl'
 exact hq x s' a' w' hk h1 (h2 a' w' hr')
theorem Rb {it:SX} {st:St} {g:Nat} {ks:Bool} {f:MF} {seen:List MK} (h:Ou it st=some (g,ks,f,seen)):Al (gets st.sl) it=.ptr g 0∧∃ cur,Ac st.ob g=.it ks f seen cur:=by
 unfold Ou at h
 split at h
 ·rename_i g' o hg
  split at h
  ·rename_i ks' m' seen' cur hob
   obtain ⟨h1,h2⟩:=Af h
   simp only [zB,zE] at h2
   obtain ⟨rfl,rfl,rfl,rfl⟩:=h2
   have:o=0:=by simpa using h1
   subst this
   exact ⟨hg,cur,hob⟩
  ·cases h
 ·cases h
theorem Mt {r:Option (X × St)} {o:X × St} (h:P4 r=some o):r=some o∧o.1≠.normal:=by
 unfold P4 at h
 split at h
 ·cases h
 ·obtain rfl:=zA h; exact ⟨rfl,fun e=>by cases e⟩
 ·obtain rfl:=zA h; exact ⟨rfl,fun e=>by cases e⟩
 ·cases h
theorem IQ {n0:Nat} {keepO:List Nat} {r:Option (X × St)} {o:X × St} (h:LA n0 keepO r=some o):∃ st,r=some (o.1,st)∧o.2=canon n0 keepO st:=by
 unfold LA at h
 split at h
 ·obtain rfl:=zA h; exact ⟨_,rfl,rfl⟩
 ·cases h
theorem filter_lt {α:Type} {p q:α→Bool}:∀ {l:List α} {a:α},(∀ x,q x=true→p x=true)→a∈l→p a=true→q a=false→(l.filter q).length<(l.filter p).length
 | [],a,_,ha,_,_=>by cases ha
 | x :: l,a,hpq,ha,hp,hq=>by
  have mono:∀ l:List α,(l.filter q).length≤(l.filter p).length:=by
   intro l
   induction l with
   | nil=>exact zI _
   | cons y l ih =>
    rw [z4,z4]
    cases hy:q y with
    | true=>rw [hpq y hy]; simpa using ih
    | false =>
     cases p y with
     | true=>simp only [if_true,zH]; simp; omega
     | false=>simpa using ih
  rw [z4,z4]
  rcases zM.1 ha with rfl | ha
  ·rw [hp,hq]
   have:=mono l
   simp; omega
  ·have ih:=filter_lt hpq ha hp hq
   cases hx:q x with
   | true=>rw [hpq x hx]; simpa using ih
   | false =>
    cases p x with
    | true=>simp; omega
    | false=>simpa using ih
theorem P6 (hm:P.follows .mixedOrders=true) (mi:MI) (keep junk:List Nat) (step:St→Option (X × St)) (b:SC) (st:St) (out:X × St) (hstep:∀ st out,step st=some out→∀ K:X→St→Prop,K out.1 out.2→Run P c b K st) (h:FV c.m mi keep step st=some out) (K:X→St→Prop) (hK:K out.1 out.2):Run P c (.loop junk (.seq (.next mi.it mi.nx mi.more) b)) K st:=by
 unfold FV at h
 split at h
 ·rename_i g0 ks0 f hit
  obtain ⟨⟨L0,hL0⟩,hall⟩:=DR.1 h
  let G:EL→St→Prop:=fun l s=>(l.map (·.1)).Nodup∧(∀ e,e∈l→f e.1=some e.2)∧∀ rest,Enum f (l++rest)→LA c.m mi.keepO (DS c.m mi keep step f rest (l.map (·.1)).reverse s)=some out
  have more:∀ l:EL,(l.map (·.1)).Nodup→(∀ e,e∈l→f e.1=some e.2)→∃ rest,Enum f (l++rest):=fun l h1 h2=>by
   refine ⟨L0.filter fun e=>!dec (e.1∈l.map (·.1)),?_,fun k x=>?_⟩
   ·rw [z7,zY]
    refine ⟨h1,(List.filter_sublist.map _).nodup hL0.nd,fun a ha b hb e=>?_⟩
    obtain ⟨q,hq,rfl⟩:=z9.1 hb
    rw [List.mem_filter,zK,Bi] at hq
    subst e
    exact hq.2 ha
   ·rw [zL,List.mem_filter,zK,Bi]
    constructor
    ·rintro (h3 | h3)
     ·exact h2 _ h3
     ·exact (hL0.mem k x).1 h3.1
    ·intro h3
     by_cases h4:k∈l.map (·.1)
     ·obtain ⟨⟨k',x'⟩,h5,rfl⟩:=z9.1 h4
      have h6:=h2 _ h5
      have h6:f k'=some x':=h6
      rw [h3] at h6
      obtain rfl:=zA h6
      exact .inl h5
     ·exact .inr ⟨(hL0.mem k x).2 h3,h4⟩
  have hG0:G [] st:=⟨yM,fun e he=>(by cases he),fun rest hr=>hall rest (by simpa using hr)⟩
  let A:={ q:EL × St // G q.1 q.2 }
  let μ:A→Nat:=fun q=>(L0.filter fun e=>!dec (e.1∈q.1.1.map (·.1))).length
  refine Run.VK (NY (α:=A) (fun q=>canon c.m keep q.1.2) μ ⟨([],st),hG0⟩ CD fun q=>?_)
  obtain ⟨⟨l,s⟩,hG⟩:=q
  obtain ⟨g1,g2,g3⟩:=hG
  refine Run.seq (DN hm _ _ _ ?_)
  obtain ⟨r0,hr0⟩:=more l g1 g2
  have hitl:∃ g ks,Ou mi.it (canon c.m keep s)=some (g,ks,f,(l.map (·.1)).reverse):=by
   obtain ⟨st1,h1,_⟩:=IQ (g3 r0 hr0)
   have key:∀ rest,∀ o,DS c.m mi keep step f rest (l.map (·.1)).reverse s=some o→∃ g ks,Ou mi.it (canon c.m keep s)=some (g,ks,f,(l.map (·.1)).reverse):=fun rest o ho=>by
    cases rest with
    | nil =>
     unfold DS at ho
     split at ho
     ·rename_i g ks f' seen' he
      obtain ⟨h2,_⟩:=Af ho
      rw [zD,Ah,Ah] at h2
      obtain ⟨rfl,rfl⟩:=h2
      exact ⟨g,ks,he⟩
     ·cases ho
    | cons e rest =>
     obtain ⟨k,x⟩:=e
     unfold DS at ho
     split at ho
     ·rename_i g ks f' seen' he
      obtain ⟨h2,_⟩:=Af ho
      rw [zD,Ah,Ah] at h2
      obtain ⟨rfl,rfl⟩:=h2
      exact ⟨g,ks,he⟩
     ·cases ho
   exact key r0 _ h1
  obtain ⟨g,ks,hitl⟩:=hitl
  obtain ⟨e1,cur,e2⟩:=Rb hitl
  simp only [sw]
  rw [e1]
  simp only
  rw [e2]
  simp only
  refine ⟨trivial,fun hend=>?_,fun k x hk hn=>?_⟩
  ·
   have hE:Enum f (l++[]):=by
    rw [zJ]
    refine ⟨g1,fun k x=>⟨fun hm=>g2 _ hm,fun hk=>?_⟩⟩
    have:=hend k x hk
    rw [List.mem_reverse] at this
    obtain ⟨⟨k',x'⟩,h5,rfl⟩:=z9.1 this
    have h6:f k'=some x':=g2 _ h5
    rw [hk] at h6
    obtain rfl:=zA h6
    exact h5
   obtain ⟨st1,h1,h2⟩:=IQ (g3 [] hE)
   unfold DS at h1
   rw [hitl] at h1
   simp only [AM rfl,AM True.intro,yH,cond_true] at h1
   obtain ⟨h3,h4⟩:=Mt h1
   have hfin:∃ s',Weak c st1 s'∧K out.1 s':=⟨canon c.m mi.keepO st1,CD,by rw [←h2]; exact hK⟩
   refine hstep _ (out.1,st1) h3 _ ?_
   dsimp only
   cases ho:out.1 with
   | normal=>exact absurd ho h4
   | exit i=>rw [ho] at hfin; exact hfin
   | ret=>rw [ho] at hfin; exact hfin
  ·
   have hn':k ∉ l.map (·.1):=fun hm=>hn (List.mem_reverse.2 hm)
   have k1:((l++[(k,x)]).map (·.1)).Nodup:=by
    rw [z7,zY]
    refine ⟨g1,by simp,fun a ha b hb e=>?_⟩
    simp only [zN,yK,zX] at hb
    subst hb e
    exact hn' ha
   have k2:∀ e,e∈l++[(k,x)]→f e.1=some e.2:=fun e he=>by
    rcases zL.1 he with he | he
    ·exact g2 e he
    ·rw [zX.1 he]; exact hk
   have hrev:((l++[(k,x)]).map (·.1)).reverse=k :: (l.map (·.1)).reverse:=by simp
   have one:∀ rest,Enum f ((l++[(k,x)])++rest)→LA c.m mi.keepO (BK (step (E1 mi.nx mi.more (canon c.m keep s) true [(g,.it ks f (k :: (l.map (·.1)).reverse) (some (k,x)))])) (DS c.m mi keep step f rest (k :: (l.map (·.1)).reverse)))=some out:=fun rest hr=>by
    have h3:=g3 ((k,x) :: rest) (by rw [yF] at hr; exact hr)
    rw [DS] at h3
    rw [hitl] at h3
    simp only [AM rfl,AM True.intro,yH,cond_true] at h3
    exact h3
   obtain ⟨r1,hr1⟩:=more _ k1 k2
   obtain ⟨st1,h1,h2⟩:=IQ (one r1 hr1)
   cases hs:step (E1 mi.nx mi.more (canon c.m keep s) true [(g,.it ks f (k :: (l.map (·.1)).reverse) (some (k,x)))]) with
   | none=>rw [hs] at h1; cases h1
   | some o1 =>
    obtain ⟨x1,s1⟩:=o1
    rw [hs] at h1
    refine hstep _ _ hs _ ?_
    have hfin:some (x1,s1)=some (out.1,st1)→∃ s',Weak c s1 s'∧K x1 s':=fun e=>by
     simp only [zB,zE] at e
     obtain ⟨rfl,rfl⟩:=e
     exact ⟨canon c.m mi.keepO s1,CD,by rw [←h2]; exact hK⟩
    cases x1 with
    | normal =>
     have hG':G (l++[(k,x)]) s1:=⟨k1,k2,fun rest hr=>by
      have h3:=one rest hr
      rw [hs] at h3
      rw [hrev]
      exact h3⟩
     refine ⟨⟨(l++[(k,x)],s1),hG'⟩,?_,CD⟩
     refine filter_lt (a:=(k,x)) (fun e he=>?_) ((hL0.mem k x).2 hk) (by rw [zK,Bi]; exact hn') (by rw [Bool.not_eq_false',Ah]; simp)
     rw [zK,Bi] at he ⊢
     exact fun hm=>he (by simp only [z7,zL]; exact .inl hm)
    | exit i=>exact hfin h1
    | ret=>exact hfin h1
 ·cases h
theorem Ov (hm:P.follows .mixedOrders=true) (n:Nat):KI P c fun mi keep step st=>FW c.m mi keep step n st:=by
 intro mi keep junk step b st out hstep h K hK
 cases mi with
 | none=>exact P5 hm n keep junk step b st out hstep h K hK
 | some mi=>exact P6 hm mi keep junk step b st out hstep h K hK
theorem Db (hm:P.follows .mixedOrders=true) (hC:EK P C) {L:LoopF} (hL:KI P c L):∀ (sc' sc:SC) (st:St) (out:X × St),BL sc' sc→fr P C L sc' st=some out→∀ K:X→St→Prop,K out.1 out.2→Run P c sc K st
 | .skip,sc,st,out,hl,h,K,hK=>by
  cases sc <;> simp only [BL] at hl
  obtain rfl:=zA h
  exact DN hm _ _ _ hK
 | .reg ops,sc,st,out,hl,h,K,hK=>by
  cases sc <;> simp only [BL] at hl
  subst hl
  simp only [fr] at h
  split at h
  ·rename_i st' hs
   obtain rfl:=zA h
   exact DN hm _ _ _ (So hC hs hK)
  ·cases h
 | .dreg anc ops,sc,st,out,hl,h,K,hK=>by
  cases sc <;> simp only [BL] at hl
  obtain ⟨rfl,rfl⟩:=hl
  simp only [fr] at h
  split at h
  ·rename_i es st' hs
   obtain ⟨h1,h2⟩:=Af h
   obtain rfl:=zA h2
   exact DN hm _ _ _ (Sp hC hs ⟨h1,hK⟩)
  ·cases h
 | .seq a b,sc,st,out,hl,h,K,hK=>by
  cases sc <;> simp only [BL] at hl
  simp only [fr,BK] at h
  refine Run.seq ?_
  split at h
  ·rename_i st' hs
   exact Db hm hC hL a _ st _ hl.1 hs _ (Db hm hC hL b _ st' out hl.2 h K hK)
  ·rename_i i st' hs
   obtain rfl:=zA h
   exact Db hm hC hL a _ st _ hl.1 hs _ hK
  ·rename_i st' hs
   obtain rfl:=zA h
   exact Db hm hC hL a _ st _ hl.1 hs _ hK
  ·cases h
 | .cond q a b,sc,st,out,hl,h,K,hK=>by
  cases sc <;> simp only [BL] at hl
  obtain ⟨rfl,h1,h2⟩:=hl
  simp only [fr] at h
  split at h
  ·rename_i t ht
   refine Run.cond ht (fun e=>?_) fun e=>?_
   ·subst e; exact Db hm hC hL a _ st out h1 h K hK
   ·subst e; exact Db hm hC hL b _ st out h2 h K hK
  ·cases h
 | .block id b,sc,st,out,hl,h,K,hK=>by
  cases sc <;> simp only [BL] at hl
  obtain ⟨rfl,h1⟩:=hl
  simp only [fr,Fn] at h
  refine Run.block ?_
  split at h
  ·rename_i st' hs
   obtain rfl:=zA h
   exact Db hm hC hL b _ st _ h1 hs _ hK
  ·rename_i i st' hs
   refine Db hm hC hL b _ st _ h1 hs _ ?_
   by_cases hi:i=id
   ·simp only [if_pos hi] at h ⊢
    obtain rfl:=zA h
    exact hK
   ·simp only [if_neg hi] at h ⊢
    obtain rfl:=zA h
    exact hK
  ·rename_i st' hs
   obtain rfl:=zA h
   exact Db hm hC hL b _ st _ h1 hs _ hK
  ·cases h
 | .loop keep b,sc,st,out,hl,h,K,hK=>by
  cases sc <;> simp only [BL] at hl
  simp only [fr] at h
  exact hL none keep _ _ _ st out (fun st out hs K hK=>Db hm hC hL b _ st out hl hs K hK) h K hK
 | .next _ _ _,sc,st,out,hl,h,K,hK=>by cases h
 | .ghost n b,sc,st,out,hl,h,K,hK=>Run.weak Ra (Db hm hC hL b sc (Or n st) out hl h K hK)
 | .mloop keep keepO it nx more b,sc,st,out,hl,h,K,hK=>by
  cases sc <;> (try simp only [BL] at hl)
  case loop j b' =>
   cases b' <;> (try simp only [BL] at hl)
   case seq x y =>
    cases x <;> (try simp only [BL] at hl)
    case next it' nx' more' =>
     obtain ⟨rfl,rfl,rfl,hl⟩:=hl
     simp only [fr] at h
     exact hL (some ⟨keepO,it,nx,more⟩) keep j _ _ st out (fun st out hs K hK=>Db hm hC hL b _ st out hl hs K hK) h K hK
 | .exit id,sc,st,out,hl,h,K,hK=>by
  cases sc <;> simp only [BL] at hl
  subst hl
  obtain rfl:=zA h
  exact DN hm _ _ _ hK
 | .ret,sc,st,out,hl,h,K,hK=>by
  cases sc <;> simp only [BL] at hl
  obtain rfl:=zA h
  exact DN hm _ _ _ hK
end
def Q3 (k s:Nat):Nat:=s ||| (1 <<< k)
def P7 (k s:Nat):Nat:=s ^^^ (s &&& (1 <<< k))
def SX.live (s:Nat):SX→Nat
 | .t k=>Q3 k s
 | .c _=>s
def SX.Mu (s:Nat):List SX→Nat
 | []=>s
 | x :: r=>SX.Mu (x.live s) r
def SX.Sw (s:Nat):Option SX→Nat
 | some x=>x.live s
 | none=>s
def SOp.live (s:Nat):SOp→Nat
 | .mv x=>x.live s
 | .pick a b c=>c.live (b.live (a.live s))
 | .alloc _ _=>s
 | .boxv _ _ x=>x.live s
 | .build _ parts=>SX.Mu s (parts.map (·.2.2))
 | .mkrow _ _ _ _ parts=>SX.Mu s (parts.map (·.2))
 | .load _ _ x=>x.live s
 | .store _ x v=>v.live (x.live s)
 | .nilchk x=>x.live s
 | .bin _ _ x y=>y.live (x.live s)
 | .un _ x=>x.live s
 | .conv _ x=>x.live s
 | .mkfn _ caps=>SX.Mu s caps
 | .mkslice _ _ _ _ x=>x.live s
 | .slice _ _ x lo hi=>SX.Sw (SX.Sw (x.live s) lo) hi
 | .faddr _ x=>x.live s
 | .field _ _ _ x=>x.live s
 | .iaddr _ x i=>i.live (x.live s)
 | .idx x i=>i.live (x.live s)
 | .ext x _=>x.live s
 | .call _ args=>SX.Mu s args
 | .callv x args=>SX.Mu (x.live s) args
 | .len _ x=>x.live s
 | .append _ _ _ _ x y=>y.live (x.live s)
 | .minmax _ x y=>y.live (x.live s)
 | .mkmap _ x=>SX.Sw s x
 | .mset _ m k v=>v.live (k.live (m.live s))
 | .mget _ _ _ _ m k=>k.live (m.live s)
 | .mkit x=>x.live s
 | .mcur x=>x.live s
def SOper.live (o:SOper) (s:Nat):Nat :=
 let s1:=match o.dst with | some d=>P7 d s | none=>s
 let s2:=o.op.live s1
 match o.gd with | some (k,_)=>Q3 k s2 | none=>s2
def Ni:List SOper→Nat→Nat
 | [],s=>s
 | o :: r,s=>o.live (Ni r s)
def Sx:List (Nat × Nat)→Nat→Nat
 | [],_=>0
 | (i,s) :: r,k=>if i=k then s else Sx r k
def CL (ex:List (Nat × Nat)) (ret:Nat):SC→Nat→Nat
 | .skip,out=>out
 | .reg ops,out=>Ni ops out
 | .dreg _ ops,out=>Ni ops out
 | .seq a b,out=>CL ex ret a (CL ex ret b out)
 | .cond q a b,out=>q.live (CL ex ret a out ||| CL ex ret b out)
 | .block id b,out=>CL ((id,out) :: ex) ret b out
 | .loop _ b,_=>CL ex ret b (CL ex ret b 0)
 | .exit id,_=>Sx ex id
 | .ret,_=>ret
 | .next it nx more,out=>it.live (P7 nx (P7 more out))
 | .mloop _ _ _ _ _ b,out=>CL ex ret b out
 | .ghost _ b,out=>CL ex ret b out
def U8:List (Nat × Nat)→Nat
 | []=>0
 | (_,s) :: r=>s ||| U8 r
def mask (nt s:Nat):List Nat:=(List.range nt).map fun k=>(s >>> k) % 2
def ann (nt:Nat) (ex:List (Nat × Nat)) (ret:Nat):SC→Nat→SC
 | .seq a b,out=>.seq (ann nt ex ret a (CL ex ret b out)) (ann nt ex ret b out)
 | .cond q a b,out=>.cond q (ann nt ex ret a out) (ann nt ex ret b out)
 | .block id b,out=>.block id (ann nt ((id,out) :: ex) ret b out)
 | .loop j (.seq (.next it nx more) b),out=>.mloop (mask nt (CL ex ret (.loop j (.seq (.next it nx more) b)) out)) (mask nt (ret ||| U8 ex)) it nx more (ann nt ex ret b (CL ex ret (.loop j (.seq (.next it nx more) b)) out))
 | .loop j b,out=>.loop (mask nt (CL ex ret (.loop j b) out)) (ann nt ex ret b (CL ex ret (.loop j b) out))
 | .mloop _ _ it nx more _,_=>.next it nx more
 | .ghost _ _,_=>.next (.t 0) 0 0
 | sc,_=>sc
theorem AN {nt:Nat} {ret:Nat}:∀ (sc:SC) (ex:List (Nat × Nat)) (out:Nat),BL (ann nt ex ret sc out) sc
 | .skip,_,_=>trivial
 | .reg _,_,_=>rfl
 | .dreg _ _,_,_=>⟨rfl,rfl⟩
 | .seq a b,ex,out=>⟨AN a _ _,AN b _ _⟩
 | .cond q a b,ex,out=>⟨rfl,AN a _ _,AN b _ _⟩
 | .block id b,ex,out=>⟨rfl,AN b _ _⟩
 | .loop j b,ex,out=>by
  cases b with
  | seq x y =>
   cases x with
   | next it nx more=>exact ⟨rfl,rfl,rfl,AN y _ _⟩
   | skip=>exact AN (.seq .skip y) _ _
   | reg o=>exact AN (.seq (.reg o) y) _ _
   | dreg a o=>exact AN (.seq (.dreg a o) y) _ _
   | seq u v=>exact AN (.seq (.seq u v) y) _ _
   | cond q u v=>exact AN (.seq (.cond q u v) y) _ _
   | block i u=>exact AN (.seq (.block i u) y) _ _
   | loop j' u=>exact AN (.seq (.loop j' u) y) _ _
   | exit i=>exact AN (.seq (.exit i) y) _ _
   | ret=>exact AN (.seq .ret y) _ _
   | mloop a b' d e g u=>exact AN (.seq (.mloop a b' d e g u) y) _ _
   | ghost n u=>exact AN (.seq (.ghost n u) y) _ _
  | skip=>exact trivial
  | reg o=>exact rfl
  | dreg a o=>exact ⟨rfl,rfl⟩
  | cond q u v=>exact AN (nt:=nt) (ret:=ret) (.cond q u v) ex _
  | block i u=>exact AN (nt:=nt) (ret:=ret) (.block i u) ex _
  | loop j' u=>exact AN (nt:=nt) (ret:=ret) (.loop j' u) ex _
  | exit i=>exact rfl
  | ret=>exact trivial
  | next a b' d=>exact ⟨rfl,rfl,rfl⟩
  | mloop a b' d e g u=>exact trivial
  | ghost n u=>exact trivial
 | .next _ _ _,_,_=>⟨rfl,rfl,rfl⟩
 | .mloop _ _ _ _ _ _,_,_=>trivial
 | .ghost _ _,_,_=>trivial
 | .exit id,_,_=>rfl
 | .ret,_,_=>trivial
def IR:List RX→Nat→Nat
 | [],s=>s
 | .tmp t :: r,s=>Q3 t (IR r s)
 | .cell a _ _ :: r,s=>Q3 a (IR r s)
def SC.mark (l:List Nat):SC→SC
 | .seq a b=>.seq (SC.mark l a) (SC.mark l b)
 | .cond q a b=>.cond q (SC.mark l a) (SC.mark l b)
 | .block id b=>.block id (SC.mark l b)
 | .loop j b=>.loop (l++j) (SC.mark l b)
 | sc=>sc
theorem Dc {l:List Nat}:∀ (a sc:SC),BL a sc→BL (SC.mark l a) sc
 | .seq a b,sc,h=>by
  cases sc <;> first | exact h.elim | exact ⟨Dc a _ h.1,Dc b _ h.2⟩
 | .cond q a b,sc,h=>by
  cases sc <;> first | exact h.elim | exact ⟨h.1,Dc a _ h.2.1,Dc b _ h.2.2⟩
 | .block id b,sc,h=>by
  cases sc <;> first | exact h.elim | exact ⟨h.1,Dc b _ h.2⟩
 | .loop j b,sc,h=>by
  cases sc <;> first | exact h.elim | exact Dc b _ h
 | .skip,sc,h=>h
 | .reg _,sc,h=>h
 | .dreg _ _,sc,h=>h
 | .next _ _ _,sc,h=>h
 | .mloop _ _ _ _ _ _,sc,h=>h
 | .ghost _ _,sc,h=>h
 | .exit _,sc,h=>h
 | .ret,sc,h=>h
def Sy (d:Nat):List SOper→Bool
 | ⟨some k,_,_⟩ :: _=>k == d
 | _=>false
def SC.Cw (d n:Nat):SC→SC
 | .seq a b=>.seq (SC.Cw d n a) (SC.Cw d n b)
 | .cond q a b=>.cond q (SC.Cw d n a) (SC.Cw d n b)
 | .block id b=>.block id (SC.Cw d n b)
 | .loop j b=>.loop j (SC.Cw d n b)
 | .dreg anc ops=>bif Sy d ops then .ghost n (.dreg anc ops) else .dreg anc ops
 | .skip=>.skip
 | .reg ops=>.reg ops
 | .next a b e=>.next a b e
 | .mloop a b e g u v=>.mloop a b e g u v
 | .exit i=>.exit i
 | .ret=>.ret
 | .ghost m b=>.ghost m b
theorem CE {d n:Nat}:∀ (a sc:SC),BL a sc→BL (SC.Cw d n a) sc
 | .seq a b,sc,h=>by
  cases sc <;> first | exact h.elim | exact ⟨CE a _ h.1,CE b _ h.2⟩
 | .cond q a b,sc,h=>by
  cases sc <;> first | exact h.elim | exact ⟨h.1,CE a _ h.2.1,CE b _ h.2.2⟩
 | .block id b,sc,h=>by
  cases sc <;> first | exact h.elim | exact ⟨h.1,CE b _ h.2⟩
 | .loop j b,sc,h=>by
  cases sc <;> first | exact h.elim | exact CE b _ h
 | .skip,sc,h=>h
 | .reg _,sc,h=>h
 | .dreg anc ops,sc,h=>by
  simp only [SC.Cw]
  cases Sy d ops with
  | true=>exact h
  | false=>exact h
 | .next _ _ _,sc,h=>h
 | .mloop _ _ _ _ _ _,sc,h=>h
 | .exit _,sc,h=>h
 | .ret,sc,h=>h
 | .ghost _ _,sc,h=>h
def DT:RM→SC→SC
 | .halfg d n _,sc=>SC.Cw d n sc
 | .frzg d n,sc=>SC.Cw d n sc
 | .frl l,sc=>SC.mark l sc
 | .asis,sc=>sc
 | .frz,sc=>sc
 | .late,sc=>sc
 | .own _,sc=>sc
 | .half _,sc=>sc
 | .tr _,sc=>sc
theorem P8 {res:RM} {a sc:SC} (h:BL a sc):BL (DT res a) sc:=by
 cases res <;> first | exact h | exact Dc _ _ h | exact CE _ _ h
theorem TO {sc:SC}:DT .asis sc=sc:=rfl
theorem TP {sc:SC}:DT .frz sc=sc:=rfl
theorem TQ {sc:SC}:DT .late sc=sc:=rfl
theorem TR {l:List (Option (Nat × Nat))} {sc:SC}:DT (.own l) sc=sc:=rfl
theorem TS {l:List (Option (Nat × Nat))} {sc:SC}:DT (.half l) sc=sc:=rfl
theorem TT {l:List (Option (Nat × Nat))} {sc:SC}:DT (.tr l) sc=sc:=rfl
theorem TU {d n:Nat} {sc:SC}:DT (.frzg d n) sc=SC.Cw d n sc:=rfl
theorem TV {d n:Nat} {l:List (Option (Nat × Nat))} {sc:SC}:DT (.halfg d n l) sc=SC.Cw d n sc:=rfl
theorem TW {l:List Nat} {sc:SC}:DT (.frl l) sc=SC.mark l sc:=rfl
structure FC where
 nt:Nat
 sc:SC
 rs:List RX
def Aj (P:Program) (f:FuncId):Option FC :=
 match P.funcs[f]? with
 | some fn=>match fn.body with
  | some code=>match trC P fn.ntmps code with
   | some sc=>match AU (fn.results.toList.map (Ng P fn.ntmps)) with
    | some rs=>some ⟨fn.ntmps,ann fn.ntmps [] (IR rs 0) sc (IR rs 0),rs⟩
    | none=>none
   | none=>none
  | none=>none
 | none=>none
def fin (res:RM) (n0:Nat) (rs:List RX) (x:X) (st:St):Option (SV × List Ob) :=
 match x with
 | .exit _=>none
 | _=>match L9 st rs with
  | some r0=>match gc n0 r0 st.ob with
   | some (r,ob)=>order res n0 r ob
   | none=>none
  | none=>none
def UW (res:RM) (n0:Nat) (rs:List RX):Option (X × St)→Option (SV × List Ob)
 | some (x,st)=>fin res n0 rs x st
 | none=>none
def Ie (g:List SV→Option SV) (xs:List SV) (ob:List Ob):Option (SV × List Ob) :=
 match ob with
 | []=>match g xs with
  | some r=>some (r,[])
  | none=>none
 | _ :: _=>none
theorem EP {P:Program} {g:List SV→Option SV} {f:FuncId} (h:∀ {xs:List SV} {r:SV},g xs=some r→Fun P f xs [] r []) {xs:List SV} {ob:List Ob} {r:SV} {ob':List Ob} (hx:Ie g xs ob=some (r,ob')):Fun P f xs ob r ob':=by
 unfold Ie at hx
 split at hx
 ·split at hx
  ·rename_i r1 h1
   simp only [zB,zE] at hx
   obtain ⟨rfl,rfl⟩:=hx
   exact h h1
  ·cases hx
 ·cases hx
def Ke (P:Program) (M:FuncId→FM):Prop:=∀ f g xs ob r ob',(M f).ext=some g→g xs ob=some (r,ob')→Fun P f xs ob r ob'
def entry (b:Bool) (ob:List Ob):List Ob:=bif b then toTree ob else ob
theorem Mv (b:Bool) (ob:List Ob):(entry b ob).length=ob.length:=by cases b <;> simp [entry,CC]
theorem Fun.entry {P:Program} {f:FuncId} {args:List SV} {ob:List Ob} {r:SV} {ob':List Ob} {b:Bool} (h:Fun P f args (entry b ob) r ob'):Fun P f args ob r ob':=by
 cases b with
 | true=>exact h.tree
 | false=>exact h
noncomputable def Ek (P:Program) (M:FuncId→FM) (E:FEnv) (L:Nat→LoopF):FEnv:=fun f xs ob =>
 match (M f).ext with
 | some g=>g xs ob
 | none=>match Aj P f with
  | some fc=>bif decide (xs.length≤fc.nt) then UW (M f).res ob.length fc.rs (fr P (BT M E) (L ob.length) (DT (M f).res fc.sc) ⟨xs++IM (fc.nt-xs.length),entry (M f).tree ob⟩) else none
  | none=>none
noncomputable def evN (P:Program) (M:FuncId→FM):Nat→FEnv
 | 0=>fun _ _ _=>none
 | n+1=>Ek P M (evN P M n) fun n0 mi keep step st=>FW n0 mi keep step n st
theorem Rc {P:Program} (hm:P.follows .mixedOrders=true) {M:FuncId→FM} (hX:Ke P M) {E:FEnv} (hE:GD P E) {L:Nat→LoopF} (hL:∀ c:Ctx,KI P c (L c.m)):GD P (Ek P M E L):=by
 intro f xs ob r ob' h
 unfold Ek Aj at h
 split at h
 ·rename_i g hg
  exact hX f g xs _ _ _ hg h
 cases hf:P.funcs[f]? with
 | none=>rw [hf] at h; cases h
 | some fn =>
  rw [hf] at h
  simp only at h
  cases hb:fn.body with
  | none=>rw [hb] at h; cases h
  | some code =>
   rw [hb] at h
   simp only at h
   cases ht:trC P fn.ntmps code with
   | none=>rw [ht] at h; cases h
   | some sc =>
    rw [ht] at h
    simp only at h
    cases hr:AU (fn.results.toList.map (Ng P fn.ntmps)) with
    | none=>rw [hr] at h; cases h
    | some rs =>
     rw [hr] at h
     simp only at h
     obtain ⟨h1,h2⟩:=Af h
     have hn:xs.length≤fn.ntmps:=of_decide_eq_true h1
     cases ho:fr P (BT M E) (L ob.length) (DT (M f).res (ann fn.ntmps [] (IR rs 0) sc (IR rs 0))) ⟨xs++IM (fn.ntmps-xs.length),entry (M f).tree ob⟩ with
     | none=>rw [ho] at h2; cases h2
     | some out =>
      rw [ho] at h2
      obtain ⟨x,st⟩:=out
      have h2:fin (M f).res ob.length rs x st=some (r,ob'):=h2
      unfold fin at h2
      have hx:x=.ret∨x=.normal:=by
       cases x with
       | exit i=>cases h2
       | normal=>exact .inr rfl
       | ret=>exact .inl rfl
      have h3:(match L9 st rs with
       | some r0=>match gc ob.length r0 st.ob with
        | some (r,ob2)=>order (M f).res ob.length r ob2
        | none=>none
       | none=>none)=some (r,ob'):=by
       rcases hx with rfl | rfl <;> exact h2
      clear h2
      split at h3
      ·rename_i r0 hr0
       split at h3
       ·rename_i r1 ob1 hg
        refine QY (Fun.entry (b:=(M f).tree) (US hf hb ht hr hn fun c hc1 hc2=>?_)) h3
        refine Db hm (P0 hE) (hL c) _ sc _ (x,st) (P8 (AN sc _ _)) (by rw [hc2,Mv]; exact ho) _ ?_
        rw [Mv]
        exact ⟨hx,r0,_,hr0,Ej hg⟩
       ·cases h3
      ·cases h3
theorem Ow {P:Program} (hm:P.follows .mixedOrders=true) {M:FuncId→FM} (hX:Ke P M):∀ n,GD P (evN P M n)
 | 0=>fun f xs ob r ob' h=>by cases h
 | n+1=>Rc hm hX (Ow hm hX n) fun c=>Ov hm n
def ELe (E E':FEnv):Prop:=∀ f xs ob r,E f xs ob=some r→E' f xs ob=some r
def CLe (C C':CallF):Prop:=∀ f xs ob r,C f xs ob=some r→C' f xs ob=some r
theorem LB {hd:List Bool} {E E':FEnv} (h:ELe E E') {f:FuncId} {xs:List SV} {ob:List Ob} {sel:List Nat} {r:R3} (hr:Cb hd E f xs ob sel=some r):Cb hd E' f xs ob sel=some r:=by
 unfold Cb at hr ⊢
 split at hr
 ·obtain ⟨h1,h2⟩:=Af hr
  rw [h1]
  split at h2
  ·rename_i r0 fob' he
   rw [cond_true,h _ _ _ _ he]
   exact h2
  ·cases h2
 ·cases hr
theorem P9 {m:RM} {a b:Option R3} (h:∀ r,a=some r→b=some r) {r:R3} (hr:DP m a=some r):DP m b=some r:=by
 cases m with
 | asis=>exact h r hr
 | frz=>exact h r hr
 | own l=>exact h r hr
 | tr l=>exact h r hr
 | half l=>exact h r hr
 | halfg d n l=>exact h r hr
 | frzg d n=>exact h r hr
 | frl l=>exact h r hr
 | late =>
  cases a with
  | none=>cases hr
  | some q=>rw [h q rfl]; exact hr
theorem Dd {M:FuncId→FM} {E E':FEnv} (h:ELe E E'):CLe (BT M E) (BT M E'):=fun f xs ob r hr=>P9 (fun r hr=>LB h hr) hr
section
variable {P:Program} {C C':CallF}
theorem Sz (h:CLe C C') {so:SOp} {sl:List SV} {ob:List Ob} {r:R3} (hr:fOp P C so sl ob=some r):fOp P C' so sl ob=some r:=by
 cases so
 case call f args=>exact h _ _ _ _ hr
 case callv x args =>
  simp only [fOp] at hr ⊢
  split at hr
  ·obtain ⟨h1,h2⟩:=Af hr
   rw [h1]
   exact h _ _ _ _ h2
  ·cases hr
 all_goals exact hr
theorem Fo (h:CLe C C') {o:SOper} {st:St} {r:Ent × St} (hr:GX P C o st=some r):GX P C' o st=some r:=by
 have one:∀ r,GP o.dst st (fOp P C o.op st.sl st.ob)=some r→GP o.dst st (fOp P C' o.op st.sl st.ob)=some r:=fun r hr=>by
  cases he:fOp P C o.op st.sl st.ob with
  | none=>rw [he] at hr; cases hr
  | some q=>rw [Sz h he]; rw [he] at hr; exact hr
 unfold GX at hr ⊢
 split at hr
 ·exact one _ hr
 ·split at hr
  ·cases hb:Pz _ _ with
   | true=>rw [hb] at hr; exact one _ hr
   | false=>rw [hb] at hr; exact hr
  ·exact hr
  ·cases hr
theorem IS (h:CLe C C'):∀ {l:List SOper} {st st':St},K9 P C l st=some st'→K9 P C' l st=some st'
 | [],st,st',hr=>hr
 | o :: r,st,st',hr=>by
  simp only [K9] at hr ⊢
  split at hr
  ·rename_i e st1 h1
   rw [Fo h h1]
   exact IS h hr
  ·cases hr
theorem IT (h:CLe C C'):∀ {l:List SOper} {acc:List Ent} {st:St} {r:List Ent × St},EJ P C l acc st=some r→EJ P C' l acc st=some r
 | [],acc,st,r,hr=>hr
 | o :: l,acc,st,r,hr=>by
  simp only [EJ] at hr ⊢
  split at hr
  ·rename_i e st1 h1
   rw [Fo h h1]
   exact IT h hr
  ·cases hr
def LLe (L L':LoopF):Prop:=∀ mi keep (step step':St→Option (X × St)) st o,(∀ st o,step st=some o→step' st=some o)→L mi keep step st=some o→L' mi keep step' st=some o
theorem Fp {r r':Option (X × St)} {k k':St→Option (X × St)} {o:X × St} (h1:∀ o,r=some o→r'=some o) (h2:∀ st o,k st=some o→k' st=some o) (h:BK r k=some o):BK r' k'=some o:=by
 unfold BK at h
 split at h
 ·rw [h1 _ rfl]; exact h2 _ _ h
 ·rw [h1 _ rfl]; exact h
 ·rw [h1 _ rfl]; exact h
 ·cases h
theorem Ox {id:Nat} {r r':Option (X × St)} {o:X × St} (h1:∀ o,r=some o→r'=some o) (h:Fn id r=some o):Fn id r'=some o:=by
 cases r with
 | none=>cases h
 | some q=>rw [h1 _ rfl]; exact h
theorem Dm (h:CLe C C') {L L':LoopF} (hL:LLe L L'):∀ (sc:SC) (st:St) (o:X × St),fr P C L sc st=some o→fr P C' L' sc st=some o
 | .skip,st,o,hr=>hr
 | .reg ops,st,o,hr=>by
  simp only [fr] at hr ⊢
  split at hr
  ·rename_i st' hs
   rw [IS h hs]; exact hr
  ·cases hr
 | .dreg anc ops,st,o,hr=>by
  simp only [fr] at hr ⊢
  split at hr
  ·rename_i es st' hs
   rw [IT h hs]; exact hr
  ·cases hr
 | .seq a b,st,o,hr=>Fp (fun o=>Dm h hL a st o) (fun st o=>Dm h hL b st o) hr
 | .cond q a b,st,o,hr=>by
  simp only [fr] at hr ⊢
  split at hr
  ·rename_i t ht
   cases t with
   | true=>exact Dm h hL a st o hr
   | false=>exact Dm h hL b st o hr
  ·cases hr
 | .block id b,st,o,hr=>Ox (fun o=>Dm h hL b st o) hr
 | .loop keep b,st,o,hr=>hL none keep _ _ st o (fun st o=>Dm h hL b st o) hr
 | .next _ _ _,st,o,hr=>by cases hr
 | .mloop keep keepO it nx more b,st,o,hr=>hL (some ⟨keepO,it,nx,more⟩) keep _ _ st o (fun st o=>Dm h hL b st o) hr
 | .ghost n b,st,o,hr=>Dm h hL b (Or n st) o hr
 | .exit id,st,o,hr=>hr
 | .ret,st,o,hr=>hr
end
theorem De {n0:Nat} {keep:List Nat} {step step':St→Option (X × St)} (h:∀ st o,step st=some o→step' st=some o):∀ {n m:Nat} {st:St} {o:X × St},n≤m→CK n0 keep step n st=some o→CK n0 keep step' m st=some o
 | 0,m,st,o,_,hr=>by cases hr
 | n+1,0,st,o,hn,hr=>absurd hn (by omega)
 | n+1,m+1,st,o,hn,hr=>Fp (fun o ho=>h _ o ho) (fun st o ho=>De h (by omega) ho) hr
theorem Rd {r r':Option (X × St)} {o:X × St} (h:∀ o,r=some o→r'=some o) (hr:P4 r=some o):P4 r'=some o:=by
 cases r with
 | none=>cases hr
 | some q=>rw [h q rfl]; exact hr
theorem Mw {n0:Nat} {keepO:List Nat} {r r':Option (X × St)} {o:X × St} (h:∀ o,r=some o→r'=some o) (hr:LA n0 keepO r=some o):LA n0 keepO r'=some o:=by
 cases r with
 | none=>cases hr
 | some q=>rw [h q rfl]; exact hr
theorem GE {n0:Nat} {mi:MI} {keep:List Nat} {step step':St→Option (X × St)} {f:MF} (h:∀ st o,step st=some o→step' st=some o):∀ {l:EL} {seen:List MK} {st:St} {o:X × St},DS n0 mi keep step f l seen st=some o→DS n0 mi keep step' f l seen st=some o
 | [],seen,st,o,hr=>by
  unfold DS at hr ⊢
  split at hr
  ·obtain ⟨h1,h2⟩:=Af hr
   rw [h1,cond_true]
   exact Rd (fun o=>h _ o) h2
  ·cases hr
 | (k,x) :: l,seen,st,o,hr=>by
  unfold DS at hr ⊢
  split at hr
  ·obtain ⟨h1,h2⟩:=Af hr
   rw [h1,cond_true]
   exact Fp (fun o=>h _ o) (fun st o=>GE h) h2
  ·cases hr
theorem KJ {n0:Nat} {mi:MI} {keep:List Nat} {step step':St→Option (X × St)} (h:∀ st o,step st=some o→step' st=some o) {st:St} {o:X × St} (hr:FV n0 mi keep step st=some o):FV n0 mi keep step' st=some o:=by
 unfold FV at hr ⊢
 split at hr
 ·obtain ⟨h1,h2⟩:=DR.1 hr
  exact DR.2 ⟨h1,fun l hl=>Mw (fun o=>GE h) (h2 l hl)⟩
 ·cases hr
theorem J6 {n0:Nat} {mi:Option MI} {keep:List Nat} {step step':St→Option (X × St)} (h:∀ st o,step st=some o→step' st=some o) {n m:Nat} {st:St} {o:X × St} (hn:n≤m) (hr:FW n0 mi keep step n st=some o):FW n0 mi keep step' m st=some o:=by
 cases mi with
 | none=>exact De h hn hr
 | some mi=>exact KJ h hr
theorem My {res:RM} {n0:Nat} {rs:List RX} {r:Option (X × St)} {o:SV × List Ob} (h:UW res n0 rs r=some o):∃ q,r=some q∧fin res n0 rs q.1 q.2=some o:=by
 cases r with
 | none=>cases h
 | some q=>exact ⟨q,rfl,h⟩
theorem KK {P:Program} {M:FuncId→FM} {E E':FEnv} (h:ELe E E') {L L':Nat→LoopF} (hL:∀ n0,LLe (L n0) (L' n0)):ELe (Ek P M E L) (Ek P M E' L'):=by
 intro f xs ob r hr
 unfold Ek at hr ⊢
 split at hr
 ·exact hr
 split at hr
 ·obtain ⟨h1,h2⟩:=Af hr
  rw [h1]
  obtain ⟨q,h3,h4⟩:=My h2
  rw [cond_true,Dm (Dd h) (hL _) _ _ _ h3]
  exact h4
 ·cases hr
theorem Oy {P:Program} {M:FuncId→FM}:∀ n,ELe (evN P M n) (evN P M (n+1))
 | 0=>fun f xs ob r h=>by cases h
 | n+1=>KK (Oy n) fun n0 mi keep step step' st o hs h=>J6 hs (yG n) h
theorem DU {P:Program} {M:FuncId→FM} {n m:Nat} (h:n≤m):ELe (evN P M n) (evN P M m):=by
 induction h with
 | refl=>exact fun f xs ob r h=>h
 | step _ ih=>exact fun f xs ob r h=>Oy _ _ _ _ _ (ih f xs ob r h)
noncomputable def Mz (n0:Nat):List Nat→(St→Option (X × St))→St→Option (X × St):=fun keep step st =>
 match Classical.propDecidable (∃ n o,CK n0 keep step n st=some o) with
 | .isTrue h=>CK n0 keep step (Classical.choose h) st
 | .isFalse _=>none
theorem EQ {n0:Nat} {keep:List Nat} {step:St→Option (X × St)} {st:St} {o:X × St}:Mz n0 keep step st=some o ↔ ∃ n,CK n0 keep step n st=some o:=by
 unfold Mz
 split
 ·rename_i h _
  constructor
  ·intro e; exact ⟨_,e⟩
  ·rintro ⟨n,hn⟩
   obtain ⟨o',ho'⟩:=Classical.choose_spec h
   have h1:=De (fun _ _ h=>h) (zT n (Classical.choose h)) hn
   have h2:=De (fun _ _ h=>h) (zQ n (Classical.choose h)) ho'
   rw [h1] at h2
   rw [ho',← h2]
 ·rename_i h _
  exact ⟨fun e=>(by cases e),fun ⟨n,hn⟩=>absurd ⟨n,o,hn⟩ h⟩
theorem FX {n0:Nat} {keep:List Nat} {step:St→Option (X × St)} {st:St}:Mz n0 keep step st=BK (step (canon n0 keep st)) (Mz n0 keep step):=by
 refine Option.ext fun o=>?_
 rw [EQ]
 constructor
 ·rintro ⟨n,hn⟩
  cases n with
  | zero=>cases hn
  | succ n=>exact Fp (fun o h=>h) (fun st o ho=>EQ.2 ⟨n,ho⟩) hn
 ·intro h
  unfold BK at h
  split at h
  ·rename_i st' hs
   obtain ⟨n,hn⟩:=EQ.1 h
   exact ⟨n+1,by simp only [CK,BK,hs]; exact hn⟩
  ·rename_i i st' hs
   exact ⟨1,by simp only [CK,BK,hs]; exact h⟩
  ·rename_i st' hs
   exact ⟨1,by simp only [CK,BK,hs]; exact h⟩
  ·cases h
noncomputable def H6 (n0:Nat):LoopF:=fun mi keep step st =>
 match mi with
 | none=>Mz n0 keep step st
 | some mi=>FV n0 mi keep step st
theorem VL {α:Type} (A:List α):∀ (k:Nat) (Q:Nat→List α→Prop),(∀ n m l,n≤m→Q n l→Q m l)→(∀ l:List α,l.length=k→(∀ a,a∈l→a∈A)→∃ n,Q n l)→∃ n,∀ l:List α,l.length=k→(∀ a,a∈l→a∈A)→Q n l
 | 0,Q,_,h=>by
  obtain ⟨n,hn⟩:=h [] rfl (fun a ha=>by cases ha)
  exact ⟨n,fun l hl _=>by rw [List.eq_nil_of_length_eq_zero hl]; exact hn⟩
 | k+1,Q,hQ,h=>by
  have one:∀ a,a∈A→∃ n,∀ l:List α,l.length=k→(∀ b,b∈l→b∈A)→Q n (a :: l):=fun a ha =>
   VL A k (fun n l=>Q n (a :: l)) (fun n m l hn hq=>hQ n m _ hn hq) fun l hl hm=>h (a :: l) (by simp [hl]) fun b hb=>by
    rcases zM.1 hb with rfl | hb
    ·exact ha
    ·exact hm b hb
  have many:∀ B:List α,(∀ a,a∈B→a∈A)→∃ n,∀ a,a∈B→∀ l:List α,l.length=k→(∀ b,b∈l→b∈A)→Q n (a :: l):=by
   intro B
   induction B with
   | nil=>intro _; exact ⟨0,fun a ha=>by cases ha⟩
   | cons a B ih =>
    intro hB
    obtain ⟨n1,h1⟩:=one a (hB a (by simp))
    obtain ⟨n2,h2⟩:=ih fun b hb=>hB b (by simp [hb])
    refine ⟨max n1 n2,fun b hb l hl hm=>?_⟩
    rcases zM.1 hb with rfl | hb
    ·exact hQ _ _ _ (zT _ _) (h1 l hl hm)
    ·exact hQ _ _ _ (zQ _ _) (h2 b hb l hl hm)
  obtain ⟨n,hn⟩:=many A fun _ h=>h
  refine ⟨n,fun l hl hm=>?_⟩
  cases l with
  | nil=>cases hl
  | cons a l=>exact hn a (hm a (by simp)) l (by simpa using hl) fun b hb=>hm b (by simp [hb])
theorem KL {α:Type}:∀ {l A:List α},l.Nodup→(∀ a,a∈l→a∈A)→l.length≤A.length
 | [],A,_,_=>Nat.zero_le _
 | a :: l,A,hn,hm=>by
  classical
  obtain ⟨h1,h2⟩:=z6.1 hn
  have ha:=hm a (by simp)
  have:=KL (l:=l) (A:=A.erase a) h2 fun b hb=>by
   have hb':=hm b (by simp [hb])
   exact (List.mem_erase_of_ne (fun e=>h1 (by rw [←e]; exact hb))).2 hb'
  rw [List.length_erase_of_mem ha] at this
  have hp:0<A.length:=List.length_pos_of_mem ha
  simp only [zH]; omega
theorem Enum.nodup {f:MF} {l:EL} (h:Enum f l):l.Nodup:=List.Pairwise.of_map (fun x:MK × MV=>x.1) (fun a b hab e=>hab (by rw [e])) h.nd
theorem Enum.len {f:MF} {l l':EL} (h:Enum f l) (h':Enum f l'):l.length=l'.length :=
 Nat.le_antisymm (KL h.nodup fun a ha=>(h'.mem a.1 a.2).2 ((h.mem a.1 a.2).1 ha)) (KL h'.nodup fun a ha=>(h.mem a.1 a.2).2 ((h'.mem a.1 a.2).1 ha))
noncomputable def ev (P:Program) (M:FuncId→FM):FEnv:=fun f xs ob =>
 match Classical.propDecidable (∃ n o,evN P M n f xs ob=some o) with
 | .isTrue h=>evN P M (Classical.choose h) f xs ob
 | .isFalse _=>none
section
variable {P:Program} {M:FuncId→FM}
theorem Nj {f:FuncId} {xs:List SV} {ob:List Ob} {o:SV × List Ob}:ev P M f xs ob=some o ↔ ∃ n,evN P M n f xs ob=some o:=by
 unfold ev
 split
 ·rename_i h _
  constructor
  ·intro e; exact ⟨_,e⟩
  ·rintro ⟨n,hn⟩
   obtain ⟨o',ho'⟩:=Classical.choose_spec h
   have h1:=DU (zT n (Classical.choose h)) _ _ _ _ hn
   have h2:=DU (zQ n (Classical.choose h)) _ _ _ _ ho'
   rw [h1] at h2
   rw [ho',← h2]
 ·rename_i h _
  exact ⟨fun e=>(by cases e),fun ⟨n,hn⟩=>absurd ⟨n,o,hn⟩ h⟩
theorem TX (hm:P.follows .mixedOrders=true) (hX:Ke P M):GD P (ev P M):=fun f xs ob r ob' h=>by
 obtain ⟨n,hn⟩:=Nj.1 h
 exact Ow hm hX n f xs ob r ob' hn
theorem VM (n:Nat):ELe (evN P M n) (ev P M):=fun f xs ob r h=>Nj.2 ⟨n,h⟩
theorem LC {hd:List Bool} {f:FuncId} {xs:List SV} {ob:List Ob} {sel:List Nat} {r:R3} (h:Cb hd (ev P M) f xs ob sel=some r):∃ n,Cb hd (evN P M n) f xs ob sel=some r:=by
 unfold Cb at h
 split at h
 ·rename_i fob hfob
  obtain ⟨h1,h2⟩:=Af h
  split at h2
  ·rename_i r0 fob' he
   obtain ⟨n,hn⟩:=Nj.1 he
   refine ⟨n,?_⟩
   unfold Cb
   rw [hfob]
   simp only
   rw [h1,cond_true,hn]
   exact h2
  ·cases h2
 ·cases h
theorem KM {f:FuncId} {xs:List SV} {ob:List Ob} {r:R3} (h:BT M (ev P M) f xs ob=some r):∃ n,BT M (evN P M n) f xs ob=some r:=by
 unfold BT at h ⊢
 cases hq:Cb (M f).hand (ev P M) f xs ob (reach ob 64 (EO (M f).hand xs) []) with
 | none =>
  rw [hq] at h
  cases hm:(M f).res <;> rw [hm] at h <;> cases h
 | some q =>
  obtain ⟨n,hn⟩:=LC hq
  exact ⟨n,by rw [hn,← hq]; exact h⟩
theorem S2 {so:SOp} {sl:List SV} {ob:List Ob} {r:R3} (hr:fOp P (BT M (ev P M)) so sl ob=some r):∃ n,fOp P (BT M (evN P M n)) so sl ob=some r:=by
 cases so
 case call f args=>exact KM hr
 case callv x args =>
  simp only [fOp] at hr ⊢
  split at hr
  ·obtain ⟨h1,h2⟩:=Af hr
   rw [h1]
   exact KM h2
  ·cases hr
 all_goals exact ⟨0,hr⟩
theorem KN {o:SOper} {st:St} {r:Ent × St} (hr:GX P (BT M (ev P M)) o st=some r):∃ n,GX P (BT M (evN P M n)) o st=some r:=by
 have one:∀ r,GP o.dst st (fOp P (BT M (ev P M)) o.op st.sl st.ob)=some r→∃ n,GP o.dst st (fOp P (BT M (evN P M n)) o.op st.sl st.ob)=some r:=fun r hr=>by
  cases he:fOp P (BT M (ev P M)) o.op st.sl st.ob with
  | none=>rw [he] at hr; cases hr
  | some q =>
   obtain ⟨n,hn⟩:=S2 he
   exact ⟨n,by rw [hn]; rw [he] at hr; exact hr⟩
 unfold GX at hr ⊢
 split at hr
 ·exact one _ hr
 ·split at hr
  ·cases hb:Pz _ _ with
   | true=>rw [hb] at hr; exact one _ hr
   | false=>rw [hb] at hr; exact ⟨0,hr⟩
  ·exact ⟨0,hr⟩
  ·cases hr
theorem M0:∀ {l:List SOper} {st st':St},K9 P (BT M (ev P M)) l st=some st'→∃ n,K9 P (BT M (evN P M n)) l st=some st'
 | [],st,st',hr=>⟨0,hr⟩
 | o :: r,st,st',hr=>by
  simp only [K9] at hr ⊢
  split at hr
  ·rename_i e st1 h1
   obtain ⟨n1,g1⟩:=KN h1
   obtain ⟨n2,g2⟩:=M0 hr
   refine ⟨max n1 n2,?_⟩
   rw [Fo (Dd (DU (zT n1 n2))) g1]
   exact IS (Dd (DU (zQ n1 n2))) g2
  ·cases hr
theorem M1:∀ {l:List SOper} {acc:List Ent} {st:St} {r:List Ent × St},EJ P (BT M (ev P M)) l acc st=some r→∃ n,EJ P (BT M (evN P M n)) l acc st=some r
 | [],acc,st,r,hr=>⟨0,hr⟩
 | o :: l,acc,st,r,hr=>by
  simp only [EJ] at hr ⊢
  split at hr
  ·rename_i e st1 h1
   obtain ⟨n1,g1⟩:=KN h1
   obtain ⟨n2,g2⟩:=M1 hr
   refine ⟨max n1 n2,?_⟩
   rw [Fo (Dd (DU (zT n1 n2))) g1]
   exact IT (Dd (DU (zQ n1 n2))) g2
  ·cases hr
noncomputable abbrev frN (P:Program) (M:FuncId→FM) (n0 n:Nat):SC→St→Option (X × St):=fr P (BT M (evN P M n)) fun mi keep step st=>FW n0 mi keep step n st
theorem DV {n0 n m:Nat} (h:n≤m) (sc:SC) (st:St) (o:X × St) (hr:frN P M n0 n sc st=some o):frN P M n0 m sc st=some o :=
 Dm (L:=fun mi keep step st=>FW n0 mi keep step n st) (L':=fun mi keep step st=>FW n0 mi keep step m st) (Dd (DU h)) (fun mi keep step step' st o hs h'=>J6 hs h h') sc st o hr
theorem PA {r:Option (X × St)} {o:X × St} (h:P4 r=some o):r=some o∧P4 (some o)=some o:=by
 obtain ⟨h1,_⟩:=Mt h
 exact ⟨h1,by rw [h1] at h; exact h⟩
theorem M2 {n0:Nat} {mi:MI} {keep:List Nat} {step:St→Option (X × St)} {stepN:Nat→St→Option (X × St)} {f:MF} (hm:∀ n m st o,n≤m→stepN n st=some o→stepN m st=some o) (h:∀ st o,step st=some o→∃ n,stepN n st=some o):∀ {l:EL} {seen:List MK} {st:St} {o:X × St},DS n0 mi keep step f l seen st=some o→∃ n,DS n0 mi keep (stepN n) f l seen st=some o
 | [],seen,st,o,hr=>by
  unfold DS at hr
  split at hr
  ·rename_i g ks f' seen' he
   obtain ⟨h1,h2⟩:=Af hr
   obtain ⟨h3,h4⟩:=PA h2
   obtain ⟨n,hn⟩:=h _ _ h3
   refine ⟨n,?_⟩
   unfold DS
   rw [he]
   simp only
   rw [h1,cond_true,hn]
   exact h4
  ·cases hr
 | (k,x) :: l,seen,st,o,hr=>by
  unfold DS at hr
  split at hr
  ·rename_i g ks f' seen' he
   obtain ⟨h1,h2⟩:=Af hr
   unfold BK at h2
   split at h2
   ·rename_i st' hs
    obtain ⟨n1,g1⟩:=h _ _ hs
    obtain ⟨n2,g2⟩:=M2 hm h h2
    refine ⟨max n1 n2,?_⟩
    unfold DS
    rw [he]
    simp only
    rw [h1,cond_true,hm _ _ _ _ (zT n1 n2) g1]
    exact GE (fun st o=>hm _ _ st o (zQ n1 n2)) g2
   ·rename_i i st' hs
    obtain ⟨n1,g1⟩:=h _ _ hs
    refine ⟨n1,?_⟩
    unfold DS
    rw [he]
    simp only
    rw [h1,cond_true,g1]
    exact h2
   ·rename_i st' hs
    obtain ⟨n1,g1⟩:=h _ _ hs
    refine ⟨n1,?_⟩
    unfold DS
    rw [he]
    simp only
    rw [h1,cond_true,g1]
    exact h2
   ·cases h2
  ·cases hr
theorem Re {n0:Nat} {keepO:List Nat} {r:Option (X × St)} {rN:Nat→Option (X × St)} {o:X × St} (h:∀ o,r=some o→∃ n,rN n=some o) (hr:LA n0 keepO r=some o):∃ n,LA n0 keepO (rN n)=some o:=by
 cases r with
 | none=>cases hr
 | some q =>
  obtain ⟨n,hn⟩:=h q rfl
  exact ⟨n,by rw [hn]; exact hr⟩
theorem PB {n0:Nat} {mi:MI} {keep:List Nat} {step:St→Option (X × St)} {stepN:Nat→St→Option (X × St)} (hm:∀ n m st o,n≤m→stepN n st=some o→stepN m st=some o) (h:∀ st o,step st=some o→∃ n,stepN n st=some o) {st:St} {o:X × St} (hr:FV n0 mi keep step st=some o):∃ n,FV n0 mi keep (stepN n) st=some o:=by
 unfold FV at hr
 split at hr
 ·rename_i g ks f he
  obtain ⟨⟨L0,h1⟩,h2⟩:=DR.1 hr
  obtain ⟨n,hn⟩:=VL L0 L0.length (fun n l=>Enum f l→LA n0 mi.keepO (DS n0 mi keep (stepN n) f l [] st)=some o) (fun n m l hn hq hl=>Mw (fun o=>GE fun st o=>hm _ _ st o hn) (hq hl)) fun l _ _=>by
   by_cases hl:Enum f l
   ·obtain ⟨n,hn⟩:=Re (rN:=fun n=>DS n0 mi keep (stepN n) f l [] st) (fun o ho=>M2 hm h ho) (h2 l hl)
    exact ⟨n,fun _=>hn⟩
   ·exact ⟨0,fun hl'=>absurd hl' hl⟩
  refine ⟨n,?_⟩
  unfold FV
  rw [he]
  exact DR.2 ⟨⟨L0,h1⟩,fun l hl=>hn l (hl.len h1) (fun a ha=>(h1.mem a.1 a.2).2 ((hl.mem a.1 a.2).1 ha)) hl⟩
 ·cases hr
theorem Cx {n0:Nat}:∀ (sc:SC) (st:St) (o:X × St),fr P (BT M (ev P M)) (H6 n0) sc st=some o→∃ n,frN P M n0 n sc st=some o
 | .skip,st,o,hr=>⟨0,hr⟩
 | .reg ops,st,o,hr=>by
  simp only [fr] at hr
  split at hr
  ·rename_i st' hs
   obtain ⟨n,hn⟩:=M0 hs
   exact ⟨n,by simp only [frN,fr,hn]; exact hr⟩
  ·cases hr
 | .dreg anc ops,st,o,hr=>by
  simp only [fr] at hr
  split at hr
  ·rename_i es st' hs
   obtain ⟨n,hn⟩:=M1 hs
   exact ⟨n,by simp only [frN,fr,hn]; exact hr⟩
  ·cases hr
 | .seq a b,st,o,hr=>by
  simp only [fr,BK] at hr
  split at hr
  ·rename_i st' hs
   obtain ⟨n1,g1⟩:=Cx a st _ hs
   obtain ⟨n2,g2⟩:=Cx b st' _ hr
   refine ⟨max n1 n2,?_⟩
   have h1:=DV (zT n1 n2) _ _ _ g1
   have h2:=DV (zQ n1 n2) _ _ _ g2
   simp only [frN] at h1 h2
   simp only [frN,fr,BK,h1,h2]
  ·rename_i i st' hs
   obtain ⟨n1,g1⟩:=Cx a st _ hs
   simp only [frN] at g1
   exact ⟨n1,by simp only [frN,fr,BK,g1]; exact hr⟩
  ·rename_i st' hs
   obtain ⟨n1,g1⟩:=Cx a st _ hs
   simp only [frN] at g1
   exact ⟨n1,by simp only [frN,fr,BK,g1]; exact hr⟩
  ·cases hr
 | .cond q a b,st,o,hr=>by
  simp only [fr] at hr
  split at hr
  ·rename_i t ht
   cases t with
   | true =>
    obtain ⟨n,hn⟩:=Cx a st o hr
    exact ⟨n,by simp only [frN,fr,ht]; exact hn⟩
   | false =>
    obtain ⟨n,hn⟩:=Cx b st o hr
    exact ⟨n,by simp only [frN,fr,ht]; exact hn⟩
  ·cases hr
 | .block id b,st,o,hr=>by
  simp only [fr] at hr
  cases he:fr P (BT M (ev P M)) (H6 n0) b st with
  | none=>rw [he] at hr; cases hr
  | some q =>
   obtain ⟨n,hn⟩:=Cx b st q he
   rw [he] at hr
   simp only [frN] at hn
   exact ⟨n,by simp only [frN,fr,hn]; exact hr⟩
 | .loop keep b,st,o,hr=>by
  simp only [fr] at hr
  obtain ⟨m,hm⟩:=EQ.1 hr
  clear hr
  have key:∀ (m:Nat) (st:St),CK n0 keep (fr P (BT M (ev P M)) (H6 n0) b) m st=some o→∃ n,CK n0 keep (frN P M n0 n b) n st=some o:=by
   intro m
   induction m with
   | zero=>intro st h; cases h
   | succ m ih =>
    intro st h
    simp only [CK,BK] at h
    split at h
    ·rename_i st' hs
     obtain ⟨n1,g1⟩:=Cx b _ _ hs
     obtain ⟨n2,g2⟩:=ih st' h
     refine ⟨max n1 n2+1,?_⟩
     have h1:=DV (Nat.le_trans (zT n1 n2) (yG _)) _ _ _ g1
     have h2:=De (step':=frN P M n0 (max n1 n2+1) b) (fun st o h=>DV (Nat.le_trans (zQ n1 n2) (yG _)) _ _ _ h) (zQ n1 n2) g2
     simp only [CK,BK,h1]
     exact h2
    ·rename_i i st' hs
     obtain ⟨n1,g1⟩:=Cx b _ _ hs
     refine ⟨n1+1,?_⟩
     have h1:=DV (yG n1) _ _ _ g1
     simp only [CK,BK,h1]; exact h
    ·rename_i st' hs
     obtain ⟨n1,g1⟩:=Cx b _ _ hs
     refine ⟨n1+1,?_⟩
     have h1:=DV (yG n1) _ _ _ g1
     simp only [CK,BK,h1]; exact h
    ·cases h
  obtain ⟨n,hn⟩:=key m st hm
  exact ⟨n,hn⟩
 | .next _ _ _,st,o,hr=>by cases hr
 | .mloop keep keepO it nx more b,st,o,hr=>by
  simp only [fr] at hr
  obtain ⟨n,hn⟩:=PB (stepN:=fun n=>frN P M n0 n b) (fun n m st o hn=>DV hn b st o) (fun st o=>Cx b st o) hr
  exact ⟨n,hn⟩
 | .ghost n b,st,o,hr=>Cx b (Or n st) o hr
 | .exit id,st,o,hr=>⟨0,hr⟩
 | .ret,st,o,hr=>⟨0,hr⟩
theorem U9 {f:FuncId} {xs:List SV} {ob:List Ob}:ev P M f xs ob=Ek P M (ev P M) H6 f xs ob:=by
 refine Option.ext fun o=>?_
 rw [Nj]
 constructor
 ·rintro ⟨n,hn⟩
  cases n with
  | zero=>cases hn
  | succ n =>
   refine KK (L:=fun n0 mi keep step st=>FW n0 mi keep step n st) (L':=H6) (VM n) (fun n0 mi keep step step' st o hs h=>?_) _ _ _ _ hn
   cases mi with
   | none=>exact EQ.2 ⟨n,De hs (zI n) h⟩
   | some mi=>exact KJ hs h
 ·intro h
  unfold Ek at h
  cases hg:(M f).ext with
  | some g =>
   rw [hg] at h
   refine ⟨1,?_⟩
   show Ek P M (evN P M 0) _ f xs ob=some o
   unfold Ek
   rw [hg]; exact h
  | none =>
  rw [hg] at h
  simp only at h
  cases hc:Aj P f with
  | none=>rw [hc] at h; cases h
  | some fc =>
   rw [hc] at h
   simp only at h
   obtain ⟨h1,h2⟩:=Af h
   obtain ⟨q,h3,h4⟩:=My h2
   obtain ⟨n,hn⟩:=Cx _ _ _ h3
   refine ⟨n+1,?_⟩
   show Ek P M (evN P M n) _ f xs ob=some o
   unfold Ek
   rw [hg,hc]
   simp only
   rw [h1,cond_true]
   show UW (M f).res ob.length fc.rs (frN P M ob.length n (DT (M f).res fc.sc) ⟨xs++IM (fc.nt-xs.length),entry (M f).tree ob⟩)=some o
   rw [hn]
   exact h4
end
end Go.Proofs.Ytmhjhclgihoaeaa
set_option maxRecDepth 100000
set_option linter.unusedSimpArgs false
set_option linter.unusedVariables false
set_option linter.unusedSectionVars false
namespace Go.Proofs.Ytmhjhclgihoaeaa
open Go.RowKit
structure Tb where
 name:ByteArray
 arity:Int
 pred:Bool
 vals:List Int
inductive Tm where
 |mk (name:ByteArray) (args:List Tm)
def Tm.name:Tm→ByteArray
 | .mk a _=>a
def Tm.args:Tm→List Tm
 | .mk _ a=>a
mutual
def Tm.d:Tm→List D
 | .mk name args=>[.str name,.arr (Tm.ds args)]
def Tm.ds:List Tm→List (List D)
 | []=>[]
 | x :: xs=>Tm.d x :: Tm.ds xs
end
theorem Tm.UA:∀ xs:List Tm,Tm.ds xs=xs.map Tm.d
 | []=>rfl
 | x :: xs=>by rw [Tm.ds,Tm.UA xs]; rfl
theorem Tm.d_eq (x:Tm):Tm.d x=[.str x.name,.arr (x.args.map Tm.d)]:=by
 obtain ⟨name,args⟩:=x
 rw [Tm.d,Tm.UA]; rfl
mutual
def Tm.bulk:Tm→Nat
 | .mk name args=>name.size+(args.length+Tm.sumB args)
def Tm.sumB:List Tm→Nat
 | []=>0
 | x :: xs=>Tm.bulk x+Tm.sumB xs
end
theorem Tm.bulk_eq (x:Tm):x.bulk=x.name.size+(x.args.length+Tm.sumB x.args):=by
 obtain ⟨name,args⟩:=x
 rw [Tm.bulk]; rfl
theorem Tm.Av {x y:Tm} (h:y∈x.args):SizeOf.sizeOf y<SizeOf.sizeOf x:=by
 obtain ⟨name,args⟩:=x
 have:=List.sizeOf_lt_of_mem h
 simp only [Tm.args] at this
 simp only [Tm.mk.sizeOf_spec]
 omega
def Tm.zero:Tm:=.mk ⟨#[]⟩ []
theorem Tm.bulk_le:∀ (xs:List Tm) (k:Nat) (h:k<xs.length),xs[k].bulk≤Tm.sumB xs
 | [],k,h=>absurd h (by simp)
 | x :: xs,0,_=>by rw [Tm.sumB]; simp
 | x :: xs,k+1,h=>by
  have:=Tm.bulk_le xs k (by simpa using h)
  rw [Tm.sumB]; simp only [zV]; omega
inductive Fm where
 |mk (op:Int) (atom:Tm) (var:ByteArray) (parts:List Fm)
def Fm.zero:Fm:=.mk 0 Tm.zero ⟨#[]⟩ []
structure Lt where
 pos:Bool
 atom:Tm
def Lt.d (x:Lt):List D:=[.bool x.pos,.str x.atom.name,.arr (x.atom.args.map Tm.d)]
theorem Lt.d_eq (x:Lt):Lt.d x=[.bool x.pos,.str x.atom.name,.arr (x.atom.args.map Tm.d)]:=rfl
def Lt.bulk (x:Lt):Nat:=x.atom.bulk
theorem Lt.bulk_eq (x:Lt):x.bulk=x.atom.bulk:=rfl
def Lt.sumB:List Lt→Nat
 | []=>0
 | x :: xs=>x.bulk+Lt.sumB xs
def Lt.zero:Lt:=⟨false,Tm.zero⟩
theorem Lt.bulk_le:∀ (xs:List Lt) (k:Nat) (h:k<xs.length),xs[k].bulk≤Lt.sumB xs
 | [],k,h=>absurd h (by simp)
 | x :: xs,0,_=>by rw [Lt.sumB]; simp
 | x :: xs,k+1,h=>by
  have:=Lt.bulk_le xs k (by simpa using h)
  rw [Lt.sumB]; simp only [zV]; omega
structure Cl where
 lits:List Lt
def Cl.d (x:Cl):List D:=[.arr (x.lits.map Lt.d)]
theorem Cl.d_eq (x:Cl):Cl.d x=[.arr (x.lits.map Lt.d)]:=rfl
def Cl.bulk (x:Cl):Nat:=(x.lits.length+Lt.sumB x.lits)
theorem Cl.bulk_eq (x:Cl):x.bulk=(x.lits.length+Lt.sumB x.lits):=rfl
def Cl.sumB:List Cl→Nat
 | []=>0
 | x :: xs=>x.bulk+Cl.sumB xs
def Cl.zero:Cl:=⟨[]⟩
theorem Cl.bulk_le:∀ (xs:List Cl) (k:Nat) (h:k<xs.length),xs[k].bulk≤Cl.sumB xs
 | [],k,h=>absurd h (by simp)
 | x :: xs,0,_=>by rw [Cl.sumB]; simp
 | x :: xs,k+1,h=>by
  have:=Cl.bulk_le xs k (by simpa using h)
  rw [Cl.sumB]; simp only [zV]; omega
structure Ag where
 var:ByteArray
 elem:Int
structure Bd where
 var:ByteArray
 term:Tm
structure Sb where
 binds:List Bd
structure Df where
 name:ByteArray
 vars:List ByteArray
 form:Fm
structure Tl where
 name:ByteArray
 arity:Int
 pred:Bool
 vals:List Int
def Tl.d (x:Tl):List D:=[.str x.name,.int x.arity,.bool x.pred,.arr (x.vals.map fun n=>[.int n])]
theorem Tl.d_eq (x:Tl):Tl.d x=[.str x.name,.int x.arity,.bool x.pred,.arr (x.vals.map fun n=>[.int n])]:=rfl
def Tl.bulk (x:Tl):Nat:=x.name.size+x.vals.length
theorem Tl.bulk_eq (x:Tl):x.bulk=x.name.size+x.vals.length:=rfl
def Tl.sumB:List Tl→Nat
 | []=>0
 | x :: xs=>x.bulk+Tl.sumB xs
theorem Tl.bulk_le:∀ (xs:List Tl) (k:Nat) (h:k<xs.length),xs[k].bulk≤Tl.sumB xs
 | [],k,h=>absurd h (by simp)
 | x :: xs,0,_=>by rw [Tl.sumB]; simp
 | x :: xs,k+1,h=>by
  have:=Tl.bulk_le xs k (by simpa using h)
  rw [Tl.sumB]; simp only [zV]; omega
instance flagNo:Flag:=⟨False⟩
theorem Fun.PC {f:FuncId} {args:List SV} {r:SV} {rv:Value} (hr:∀ (w:World) (I:Nat→Prop) (V:Nat→Option Value),RepV w I V r rv)
  (h:∀ (w:World) (I:Nat→Prop) (V:Nat→Option Value) (vs:List Value),RepVs w I V args vs→Calls Try.prog f vs.toArray w (Ret w rv)):Fun Try.prog f args [] r []:=by
 intro w I V B vs hwf hvs
 refine (h w I V vs hvs).mono ?_
 rintro e w' ⟨rfl,hb⟩
 refine ⟨rv,I,V,B,rfl,hr _ _ _,⟨⟨hb.os,⟨hb.tape,fun h=>False.elim h⟩,hb.output,hb.size,fun b hlt _=>hb.block b hlt⟩,fun _ h=>h,fun _ h=>.inl h,VLe.refl _,?_,fun g b hl=>by simp [Ac,Ob.live] at hl⟩⟩
 exact ⟨fun b hb'=>Nat.lt_of_lt_of_le (hwf.ilt b hb') hb.size,fun g hl=>by simp [Ac,Ob.live] at hl,fun g b hl=>by simp [Ac,Ob.live] at hl,fun g b hl=>by simp [Ac,Ob.live] at hl,fun g g' b hl=>by simp [Ac,Ob.live] at hl,fun g hf=>hwf.fr g rfl,hwf.gl.keep ⟨hb.size,fun b _ hlt=>hb.block b hlt⟩ fun _ h=>h⟩
theorem Fun.of_same {f:FuncId} {args:List SV} {r:SV} {rv:Value} (hr:∀ (w:World) (I:Nat→Prop) (V:Nat→Option Value),RepV w I V r rv)
  (h:∀ (w:World) (I:Nat→Prop) (V:Nat→Option Value) (vs:List Value),RepVs w I V args vs→Calls Try.prog f vs.toArray w (Same w rv)):Fun Try.prog f args [] r [] :=
 Fun.PC hr fun w I V vs hvs=>Same.ret (h w I V vs hvs)
section
variable {w:World} {I:Nat→Prop} {V:Nat→Option Value} {vs:List Value}
theorem KO (h:RepVs w I V [] vs):vs=[]:=by simpa [RepVs] using h
theorem BP {x:SV} {xs:List SV} (h:RepVs w I V (x :: xs) vs):∃ v r,vs=v :: r∧RepV w I V x v∧RepVs w I V xs r:=by simpa only [RepVs] using h
theorem Kf {s:ByteArray} {v:Value} (h:RepV w I V (.str s) v):v=.string s∧s.size≤9223372036854775807:=by simpa only [RepV] using h
theorem TY {k:IntKind} {n:Int} {v:Value} (h:RepV w I V (.int k n) v):v=.int k n:=by simpa only [RepV] using h
end
section
variable {w:World} {I:Nat→Prop} {V:Nat→Option Value}
end
theorem TZ (xs:List ByteArray):OT.erss (xs.map fun s=>[OT.str s])=xs.map fun s=>[D.str s]:=by
 induction xs with
 | nil=>rfl
 | cons x r ih=>simp only [zN,OT.erss,OT.ers,OT.er,ih]
theorem Q4 (xs:List Int):OT.erss (xs.map fun s=>[OT.int s])=xs.map fun s=>[D.int s]:=by
 induction xs with
 | nil=>rfl
 | cons x r ih=>simp only [zN,OT.erss,OT.ers,OT.er,ih]
theorem Ua (xs:List ByteArray):OT.BI (xs.map fun s=>[OT.str s])=true:=by
 induction xs with
 | nil=>rfl
 | cons x r ih=>simp only [zN,OT.BI,OT.Du,OT.noSh,ih,yH]
theorem Q5 (xs:List Int):OT.BI (xs.map fun s=>[OT.int s])=true:=by
 induction xs with
 | nil=>rfl
 | cons x r ih=>simp only [zN,OT.BI,OT.Du,OT.noSh,ih,yH]
def szR (left:Int) (n:Nat):Int:=if (n:Int)≤left then left-n else -1
def mkT (k:Nat) (acc:List UInt8):List UInt8:=if h:k=0 then acc else mkT (k / 10) (UInt8.ofNat (48+k % 10) :: acc)
termination_by k
decreasing_by omega
def D8 (k:Int):ByteArray:=⟨(109 :: mkT k.toNat []).toArray⟩
theorem M3 (a b:Array UInt8):(⟨a⟩++⟨b⟩:ByteArray)=⟨a++b⟩:=by apply ByteArray.ext; simp
theorem Ub (k:Nat) (acc:List UInt8):(mkT k acc).length≤acc.length+k:=by
 induction k using Nat.strongRecOn generalizing acc with
 | _ k ih =>
  unfold mkT
  split
  ·omega
  ·have:=ih (k / 10) (by omega) (UInt8.ofNat (48+k % 10) :: acc)
   simp only [zH] at this
   omega
theorem PD {k:Int} (h:0≤k) (h1:k≤1099511627776):(D8 k).size≤9223372036854775807:=by
 have:=Ub k.toNat []
 show (109 :: mkT k.toNat []).toArray.size≤_
 simp only [yE,zH,List.length_nil] at *
 omega
theorem Nk (K:Nat) (w:World) (h1:1≤K) (h2:(K:Int)≤1099511627776):Calls Try.prog 24 #[.int .i64 (K:Int)] w (Ret w (.string (D8 K))):=by
 go_enter Try.func24,Try.ntmps24
 go_wp2
 go_loopw [0,3] (fun n s wr=>∃ (k:Nat) (acc:List UInt8),n=.int .i64 k∧s=.string ⟨acc.toArray⟩∧acc.length+k≤K∧mkT k acc=mkT K []∧Below w.heap.size w wr) (fun n _ _=>(intOf n).toNat)
 case atStart=>exact ⟨K,[],rfl,rfl,by simp,rfl,Below.refl _ _⟩
 case round =>
  obtain ⟨k,acc,rfl,rfl,hle,hok,hbw⟩:=hrel
  have hzw:=hbw.size
  have Hok:=Lib.hid hok
  clear hok
  by_cases hlt:k=0
  ·subst hlt
   go_wp2_with fail
   go_ret
   refine Ret.bel ?_ hbw
   have h0:=Hok.out
   rw [mkT,dif_pos rfl] at h0
   unfold D8
   rw [Int.toNat_natCast,← h0]
   show Value.string (⟨#[109]⟩++⟨acc.toArray⟩)=_
   rw [M3]
   simp
  ·have hk0:(0:Int)<k:=by omega
   have hr:(wr.alloc (.cells #[.int .u8 (48+(k:Int) % 10)] 5)).cell? ⟨wr.heap.size,0,none⟩=some (.int .u8 (48+(k:Int) % 10)):=by rw [World.cell?_alloc_at _ _ _ _ rfl]; rfl
   have hcv:=run_convert_bytes_back (P:=Try.prog) (wr.alloc (.cells #[.int .u8 (48+(k:Int) % 10)] 5)) 77 9 5 ⟨wr.heap.size,0,none⟩ 1 [UInt8.ofNat (48+k % 10)] Try.underlying77 Try.underlying5 Try.underlying9 (fun j hj=>by
    obtain rfl:j=0:=by simpa using hj
    rw [show (⟨wr.heap.size,0,none⟩:Addr).add 0=⟨wr.heap.size,0,none⟩ from rfl,hr]
    have:(UInt8.ofNat (48+k % 10)).toNat=48+k % 10:=by rw [UInt8.toNat_ofNat']; omega
    simp only [List.getElem_cons_zero,this]
    push_cast
    rfl)
   simp only [zH,List.length_nil,zP] at hcv
   clear hr
   go_wp2_with fail
   refine ⟨⟨k / 10,UInt8.ofNat (48+k % 10) :: acc,by go_num,?_,?_,?_,(by (repeat' first | (with_reducible exact Below.refl _ _) | (with_reducible refine Below.setCell ?_ ?_ _) | (with_reducible refine Below.alloc ?_ ?_ _) | (with_reducible refine Below.UH ?_ _) | (with_reducible refine Below.via ?_ (by assumption) ?_) | (with_reducible exact zI _) | (simp; done) | (simp; omega) | omega))⟩,?_⟩
   ·rw [M3]; simp
   ·simp only [zH]; omega
   ·rw [←Hok.out,mkT.eq_def k acc,dif_neg hlt]
   ·simp only [intOf]; omega
def Oz (b:Int):Bool:=decide (97≤b)&&decide (b≤122)
def Uc (b:Int):Bool:=decide (48≤b)&&decide (b≤57)
def Nl (b:Int):Bool:=decide (65≤b)&&decide (b≤90)
def inB (n lo hi:Int):Bool:=decide (lo≤n)&&decide (n≤hi)
theorem H7 (n lo hi:Int) (w:World) :
  Calls Try.prog 87 #[.int .i64 n,.int .i64 lo,.int .i64 hi] w (Same w (.bool (inB n lo hi))):=by
 by_cases h1:lo≤n <;> by_cases h2:n≤hi
 all_goals
  go_enter Try.func87,Try.ntmps87
  go_wp2
  go_ret
  exact Same.mk' _ (by simp [inB,h1,h2])
theorem FY (n lo hi:Int) (w:World) :
  Calls Try.prog 50 #[.int .i64 n,.int .i64 lo,.int .i64 hi] w (Same w (.bool (inB n lo hi))):=by
 by_cases h1:lo≤n <;> by_cases h2:n≤hi
 all_goals
  go_enter Try.func50,Try.ntmps50
  go_wp2
  go_ret
  exact Same.mk' _ (by simp [inB,h1,h2])
theorem J7 (n:Int) (w:World):Calls Try.prog 85 #[.int .u8 n] w (Same w (.bool (Oz n))):=by
 by_cases h1:97≤n <;> by_cases h2:n≤122
 all_goals
  go_enter Try.func85,Try.ntmps85
  go_wp2
  go_ret
  exact Same.mk' _ (by simp [Oz,h1,h2])
theorem J8 (n:Int) (w:World):Calls Try.prog 86 #[.int .u8 n] w (Same w (.bool (Uc n))):=by
 by_cases h1:48≤n <;> by_cases h2:n≤57
 all_goals
  go_enter Try.func86,Try.ntmps86
  go_wp2
  go_ret
  exact Same.mk' _ (by simp [Uc,h1,h2])
theorem O0 (n:Int) (w:World):Calls Try.prog 58 #[.int .u8 n] w (Same w (.bool (Nl n))):=by
 by_cases h1:65≤n <;> by_cases h2:n≤90
 all_goals
  go_enter Try.func58,Try.ntmps58
  go_wp2
  go_ret
  exact Same.mk' _ (by simp [Nl,h1,h2])
def Fq (n:Int):Bool:=Oz n || Uc n
theorem J9 (n:Int) (w:World):Calls Try.prog 51 #[.int .u8 n] w (Same w (.bool (Fq n))):=by
 by_cases h1:97≤n <;> by_cases h2:n≤122 <;> by_cases h3:48≤n <;> by_cases h4:n≤57 <;> first | (exfalso; omega) | skip
 all_goals
  go_enter Try.func51,Try.ntmps51
  go_wp2
  go_ret
  exact Same.mk' _ (by simp [Fq,Oz,Uc,h1,h2,h3,h4])
def FZ (s:ByteArray) (k:Nat):Int:=((s.toList.getD k 0).toNat:Int)
theorem Dg {s:ByteArray} {k:Nat} (h:k<s.size):(s[k].toNat:Int)=FZ s k:=by
 have h':k<s.data.toList.length:=h
 unfold FZ
 rw [ByteArray.toList_eq,zU,zG h']
 rfl
def CW (p:Nat→Int→Bool) (s:ByteArray) (k:Nat):Bool:=(List.range k).all fun j=>p j (FZ s j)
theorem DW {p:Nat→Int→Bool} {s:ByteArray} {k:Nat}:CW p s (k+1)=(CW p s k&&p k (FZ s k)):=by
 unfold CW
 rw [List.range_succ,List.all_append]
 simp
theorem Fs {p:Nat→Int→Bool} {s:ByteArray} {k:Nat} (h:CW p s k=true) (hk:p k (FZ s k)=true):CW p s (k+1)=true:=by
 rw [DW,h,hk]; rfl
theorem PE {p:Nat→Int→Bool} {s:ByteArray} {k n:Nat} (h:CW p s k=false) (hn:k≤n):CW p s n=false:=by
 induction n with
 | zero =>
      have:k=0:=by omega
      subst this; exact h
 | succ n ih =>
  by_cases hk:k=n+1
  ·subst hk; exact h
  ·rw [DW,ih (by omega)]; rfl
theorem Dh {p:Nat→Int→Bool} {s:ByteArray} {k:Nat} (hk:k<s.size) (h:p k (FZ s k)=false):CW p s s.size=false :=
 PE (k:=k+1) (by rw [DW,h]; simp) (by omega)
def Ha (k:Nat) (b:Int):Bool:=(k != 0 || Oz b)&&(Fq b || b == 95)
def Ga (k:Nat) (b:Int):Bool:=(k != 0 || Nl b)&&(k == 0 || Fq b)
def words:List (List UInt8):=[[116,114,117,101],[102,97,108,115,101],[116,114,117,116,104],[98,111,116,104],[101,105,116,104,101,114],[105,102],[97,108,108],[115,111,109,101]]
def S3 (s:ByteArray):Bool:=RK (fun k=>s.toList == words.getD k []) 8
def CU (s:ByteArray):Bool:=CW Ha s s.size&&inB s.size 1 6&&!S3 s
def AY (s:ByteArray):Bool:=CW Ga s s.size&&inB s.size 1 4
theorem KP (s:ByteArray) (w:World) (hs:s.size≤9223372036854775807):Calls Try.prog 82 #[.string s] w (Same w (.bool (AY s))):=by
  go_enter Try.func82,Try.ntmps82
  go_wp2
  go_loopw [6] (fun i wr=>Cnt w s.size (fun k=>CW Ga s k=true) i wr) (fun i _=>s.size-(intOf i).toNat)
  case atStart=>exact ⟨0,Nat.zero_le _,rfl,rfl,rfl⟩
  case round =>
    obtain ⟨k,hk,rfl,hok,rfl⟩:=hrel
    have Hok:=Lib.hid hok
    clear hok
    by_cases hlt:k<s.size
    · have Hb:=Lib.hid (Dg hlt)
      rcases Nat.eq_zero_or_pos k with rfl | hpos
      all_goals
        go_wp2_with (first
          | (go_at_call 85; refine (J7 _ _).mono ?_; rintro e w' ⟨rfl,rfl⟩)
          | (go_at_call 58; refine (O0 _ _).mono ?_; rintro e w' ⟨rfl,rfl⟩)
          | (go_at_call 86; refine (J8 _ _).mono ?_; rintro e w' ⟨rfl,rfl⟩))
        all_goals first
          | (go_ret
             refine Same.mk' _ ?_
             unfold AY
             rw [Dh hlt (by rw [←Hb.out]; simp_all [Ga,Fq] <;> omega)]
             rfl)
          | (go_roundw
             case rel=>exact ⟨_,hlt,by go_num,Fs Hok.out (by rw [←Hb.out]; simp_all [Ga,Fq] <;> omega),rfl⟩
             case measure=>first | exact FH hlt | (simp [intOf]; omega))
    · obtain rfl:k=s.size:=by omega
      go_wp2_with (first
        | (go_at_call 87; refine (H7 _ _ _ _).mono ?_; rintro e w' ⟨rfl,rfl⟩))
      go_ret
      exact Same.mk' _ (by unfold AY; rw [Hok.out]; rfl)
end Go.Proofs.Ytmhjhclgihoaeaa
