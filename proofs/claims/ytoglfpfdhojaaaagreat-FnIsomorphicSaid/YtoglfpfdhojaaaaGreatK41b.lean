/-
  Texts of this claim, one behind the other, each built on those ahead of it. No condition.
-/
import Derived.Test.YtoglfpfdhojaaaaGreatK41a
import Derived.Laws.IdiomRangeMap
import Derived.Laws.IdiomStrings
set_option maxHeartbeats 16000000
open Option.some renaming inj → zA, injEq → zB
open Option renaming map_eq_some_iff → zC
open Bool renaming and_eq_true → zD, not_eq_true' → zJ, and_self → yL
open Prod.mk renaming injEq → zE
open Nat renaming lt_or_ge → zF, le_refl → zH, le_max_right → zP, zero_add → zQ, add_lt_add_iff_right → zS, le_max_left → zT, add_right_cancel_iff → zV, add_sub_add_right → zY, zero_le → yJ, le_succ → yK
open List renaming getElem?_eq_getElem → zG, append_nil → zI, mem_append → zK, mem_cons → zL, length_cons → zM, map_cons → zN, all_eq_true → zO, getElem_mem → zR, getD_eq_getElem?_getD → zU, mem_singleton → zW, nodup_append → zX, mem_append_right → zZ, getElem?_eq_none → z6, filter_cons → z7, mem_of_getElem? → z8, nodup_cons → yA, map_append → yB, mem_map → yD, length_append → yF, getElem?_eq_some_iff → yG, getElem?_append_left → yH, append_assoc → yI, cons_append → yM, not_mem_nil → yN, map_nil → yO, length_map → yP, nodup_nil → yQ
open Array renaming getD_eq_getD_getElem? → yC, ext' → yE
set_option maxRecDepth 100000
set_option linter.unusedSimpArgs false
set_option linter.unusedVariables false
set_option linter.unusedSectionVars false
namespace Go.Proofs.YtoglfpfdhojaaaaGreat
open Go.RowKit
variable [Flag]
def QV:Obj→Bool
 | .cells _ _ _=>false
 | _=>true
theorem HE {P:Program} {w:World} {r:Nat} {o:Obj} (hb:w.heap[r]?=some o) (hc:QV o=true):(getObj r).run P w=.ok o w:=by
 simp only [getObj,Sem.run,hb]
 cases o <;> first | rfl | cases hc
theorem U8 {P:Program} {w:World} {r:Nat} {o:Obj} (o':Obj) (hb:w.heap[r]?=some o) (hc:QV o=true):(setObj r o').run P w=.ok () { w with heap:=w.heap.setIfInBounds r o' }:=by
 simp only [setObj,Sem.run,hb]
 cases o <;> first | rfl | cases hc
theorem run_next_at {P:Program} {w:World} (ty:TypeId) {bi bm clock:Nat} {seen:Array Nat} {es:Array MapEntry} (hi:w.heap[bi]?=some (.mapIter (some bm) clock seen clock)) (hb:w.heap[bm]?=some (.map es clock)) (hold:∀ x∈es.toList,x.born<clock) :
  ((∀ e,e∈es.toList→e.born∈seen)∧(Instr.next (.pointer (some ⟨bi,0,none⟩)) false ty).run P w=.ok (.tuple #[.bool false]) w) ∨
  ∃ e,e∈es.toList∧e.born ∉ seen∧∃ n:Nat,(Instr.next (.pointer (some ⟨bi,0,none⟩)) false ty).run P w=.ok (.tuple #[.bool true,e.key,e.val]) { w.drewN n with heap:=w.heap.setIfInBounds bi (.mapIter (some bm) clock (seen.push e.born) clock) }:=by
 have hleft:∀ x,x∈(Array.filter (fun e=>!seen.contains e.born) es).toList ↔ x∈es.toList∧x.born ∉ seen:=fun x=>by simp
 simp only [Instr.next,Sem.run_bind,HE hi rfl,HE hb rfl,Result.andThen,next_test_false seen es clock clock hold (zH _),Bool.false_eq_true,if_false]
 have hmem:∀ x∈(Array.filter (fun e=>!seen.contains e.born) es).toList,x.born<clock:=fun x hx=>hold x ((hleft x).1 hx).1
 generalize hL:Array.filter (fun e=>!seen.contains e.born) es=L at hmem hleft ⊢
 have e1:L.filter (fun x=>decide (x.born<clock))=L:=Array.filter_eq_self.2 (fun x hx=>by simpa using hmem x (by simpa using hx))
 have e2:L.filter (fun x=>decide (x.born ≥ clock))=#[]:=by
  rw [Array.filter_eq_empty_iff]
  intro x hx
  have:=hmem x (by simpa using hx)
  simp
  omega
 simp only [e1,e2,Array.append_empty]
 by_cases h0:L.size=0
 ·left
  have:L=#[]:=Array.eq_empty_of_size_eq_zero h0
  subst this
  refine ⟨fun e he=>?_,?_⟩
  ·exact Classical.byContradiction fun hn=>by have:=(hleft e).2 ⟨he,hn⟩; simp at this
  ·simp [choose,Sem.run,Question.forced]
 ·right
  have hne:L.isEmpty=false:=by simp [Array.isEmpty,h0]
  simp only [hne,Bool.false_eq_true,if_false,Array.empty_append,Array.size_map]
  have hch:∃ (j:Nat) (n:Nat),j<L.size∧(choose (Question.mapNext L.size)).run P w=.ok j (w.drewN n):=by
   by_cases hf:L.size≤1
   ·exact ⟨0,0,by omega,by simp [choose,Sem.run,Question.forced,hf,World.drewN]⟩
   ·exact ⟨_,1,Nat.mod_lt _ (by omega),by
     simp only [choose,Sem.run,Question.forced,decide_eq_true_eq,hf,if_false,Question.cut]
     rfl⟩
  obtain ⟨j,n,hj,hrun⟩:=hch
  have hm:=(hleft L[j]).1 (by simp)
  refine ⟨L[j],hm.1,hm.2,n,?_⟩
  have hi':(w.drewN n).heap[bi]?=some (.mapIter (some bm) clock seen clock):=hi
  simp only [hrun,Array.getElem?_map,Array.getElem?_eq_getElem hj,Option.map_some,Sem.run_bind,U8 _ hi' rfl,Result.andThen]
  rfl
section
variable {P:Program} {c:Ctx} {ops:Array Oper} {s:Fst} {K:Kont} {o:Oper} {p:Nat}
theorem After.Wc {I:Nat→Prop} {V:Nat→Option Value} {B:Nat→Nat→Prop} {w:World} {ob:Nat→Ob} (h:Wf w I V B ob) {p:Nat} (hp:ob p=.free) {ks:Bool} {m:MF} {x:Obj}
  (hx:ItO (w.alloc x) I (fun b=>b=w.heap.size) ks m [] none (.pointer (some ⟨w.heap.size,0,none⟩))) :
  After w I V B ob [(p,.it ks m [] none)] (w.alloc x) I (fun g=>if g=p then some (.pointer (some ⟨w.heap.size,0,none⟩)) else V g) (fun g b=>if g=p then b=w.heap.size else B g b):=by
 have hVp:=h.fr p hp
 have hV:VLe V (fun g=>if g=p then some (.pointer (some ⟨w.heap.size,0,none⟩)) else V g):=fun g u hu=>by
  by_cases e:g=p
  ·subst e; rw [hVp] at hu; cases hu
  ·simp only [e,if_false]; exact hu
 have ht:∀ g,A7 [(p,Ob.it ks m [] none)] g ↔ g=p:=fun g=>by simp [A7]
 have hu:AL ob [(p,.it ks m [] none)] p=.it ks m [] none:=by simp [AL,Bb]
 refine After.mk' h rfl (TapeOk.mk' rfl rfl) rfl (by simp) (fun b hb _=>Below.heap_alloc w _ b hb) hV (fun g hg=>?_) (fun g hg hl'=>?_) (fun g b hg hl' hb=>?_) (fun g g' b hg hg' _ _ _ _=>?_) (fun g hg hf=>?_)
 ·have hg:¬ g=p:=fun e=>hg ((ht g).2 e)
  exact ⟨by funext b; simp only [hg,if_false],fun hf=>by simp only [hg,if_false]; exact h.fr g hf⟩
 ·obtain rfl:=(ht g).1 hg
  refine ⟨_,by simp only [if_true]; rfl,?_⟩
  rw [hu]
  simp only [if_true]
  exact hx
 ·obtain rfl:=(ht g).1 hg
  simp only [if_true] at hb
  subst hb
  exact .inl ⟨zH _,by simp⟩
 ·rw [(ht g).1 hg,(ht g').1 hg']
 ·obtain rfl:=(ht g).1 hg
  rw [hu] at hf; cases hf
theorem Zu {I:Nat→Prop} {V:Nat→Option Value} {B:Nat→Nat→Prop} {a:Act} {w:World} (hr:RepI c I V B s a w) {g:Nat} {ks:Bool} {m:MF} {seen:List MK} {cur:Option (MK × MV)} (hg:s.ob g=.it ks m seen cur) {v:Value} (hv:RepV w I V (.ptr g 0) v):V g=some v∧ItO w I (B g) ks m seen cur v:=by
 obtain ⟨val,h1,h2⟩:=hr.wf.obj g (by rw [hg]; trivial)
 rw [hg] at h2
 simp only [RepV] at hv
 obtain ⟨b,h3,h4⟩:=hv
 have h2':=h2
 obtain ⟨b',h5,_⟩:=h2'
 rw [h1,h5] at h3
 have e:b'=b:=by injection h3 with h3; injection h3 with h3; injection h3 with h3; injection h3
 subst e
 rw [h4,← h5]
 exact ⟨h1,h2⟩
theorem Yf {t:TypeId} {x:Operand} {q:Bool × TypeId} (hop:o.op=.range t x) (hq:Ec P t=some q) (hd:B4 c.nt o.dst=true) (hp:s.ob p=.free) (h:eOp P (.mkit (trX x)) s.sl s.ob p K):Good P c o ops s K:=by
 obtain ⟨kt,d,hu,_,_⟩:=FD hq
 simp only [eOp] at h
 split at h
 ·rename_i ks m he
  refine ⟨_,_,_,h,fun s' ha hrd hup=>De hd fun I V B a w hr=>?_⟩
  have hx:=A5 hr x
  rw [ha.ev (y:=x) (by simp [hop,Op.operands]),he] at hx
  simp only [RepV] at hx
  have hnew:∀ y:Obj,(w.alloc y).heap[w.heap.size]?=some y:=fun y=>(MapKept.heap_alloc w y).1
  rcases hx with ⟨h1,h2⟩ | ⟨r,es,clock,h1,h2,h3,h4⟩
  ·refine ⟨.pointer (some ⟨w.heap.size,0,none⟩),w.alloc (.mapIter none 0 #[] 0),_,_,_,?_,After.Wc hr.wf (by rw [hup p (by simp),hp]) ⟨w.heap.size,rfl,fun _=>Iff.rfl,.inl ⟨hnew _,h2,rfl⟩⟩,?_⟩
   ·simp only [execOp,hop,h1]
    exact B8 (run_range_nilMap w t kt q.2 hu)
   ·simp only [RepV,if_true]
    exact ⟨w.heap.size,rfl,rfl⟩
  ·have hlt:r<w.heap.size:=(Array.getElem?_eq_some_iff.1 h3).1
   have hk:KeepS I w (w.alloc (.mapIter (some r) clock #[] clock)):=⟨by simp,fun b _ hb=>Below.heap_alloc w _ b hb⟩
   refine ⟨.pointer (some ⟨w.heap.size,0,none⟩),w.alloc (.mapIter (some r) clock #[] clock),_,_,_,?_,After.Wc hr.wf (by rw [hup p (by simp),hp]) ⟨w.heap.size,rfl,fun _=>Iff.rfl,.inr ⟨r,es,clock,#[],hnew _,h2,by rw [Below.heap_alloc w _ r hlt]; exact h3,h4.mono hk fun _ h=>h,fun e he=>by simp,fun k x hc=>by cases hc⟩⟩,?_⟩
   ·simp only [execOp,hop,h1]
    exact B8 (run_range_map w t kt q.2 r es clock hu h3)
   ·simp only [RepV,if_true]
    exact ⟨w.heap.size,rfl,rfl⟩
 ·exact h.elim
theorem MKR.sv {w:World} {I:Nat→Prop} {V:Nat→Option Value} {k:MK} {v:Value} (h:MKR k v):RepV w I V (MK.sv k) v:=by
 cases k <;> simpa only [MK.sv,RepV,MKR] using h
theorem Yg {x:Operand} (hop:o.op=.entry x) (hd:B4 c.nt o.dst=true) (h:eOp P (.mcur (trX x)) s.sl s.ob p K):Good P c o ops s K:=by
 simp only [eOp] at h
 split at h
 ·rename_i g off he
  split at h
  ·rename_i ks m seen k mv hob
   obtain ⟨rfl,hK⟩:=h
   refine AG hd hK fun s' ha hrd I V B a w hr=>?_
   have hx:=A5 hr x
   rw [ha.ev (by simp [hop,Op.operands]),he] at hx
   obtain ⟨_,b,h1,_,h3⟩:=Zu hr (by rw [hrd g (by simp),hob]) hx
   rcases h3 with ⟨_,_,h3⟩ | ⟨r,es,clock,sn,h3,_,h5,h6,_,h8⟩
   ·cases h3
   ·obtain ⟨e,g1,g2,g3,g4⟩:=h8 k mv rfl
    refine ⟨.tuple #[e.key,e.val],?_,?_⟩
    ·simp only [execOp,hop,h1]
     refine B8 ?_
     have hf:es.find? (·.born == e.born)=some e:=by rw [←Array.find?_toList]; exact find_born e es.toList ((MapKept.stamped_iff _ _).1 h6.st).2.1 g1
     simp [Instr.entry,HE h3 rfl,HE h5 rfl,g2,hf,Result.andThen]
    ·simp only [RepV]
     refine ⟨[e.key,e.val],rfl,?_⟩
     simp only [RepVs]
     exact ⟨_,_,rfl,g3.sv,_,_,rfl,g4.sv,rfl⟩
  ·exact h.elim
 ·exact h.elim
theorem After.Yh {I:Nat→Prop} {V:Nat→Option Value} {B:Nat→Nat→Prop} {w:World} {ob:Nat→Ob} (h:Wf w I V B ob) {g:Nat} {ks:Bool} {m:MF} {seen:List MK} {cur:Option (MK × MV)} (hg:ob g=.it ks m seen cur) {bi r:Nat} {es:Array MapEntry} {clock:Nat} {sn:Array Nat}
  (hV:V g=some (.pointer (some ⟨bi,0,none⟩))) (hB:∀ x,B g x ↔ x=bi) (hi:w.heap[bi]?=some (.mapIter (some r) clock sn clock)) (hIr:I r) (hb:w.heap[r]?=some (.map es clock)) (hent:EntR w I ks m es clock)
  (hsn:∀ e,e∈es.toList→(e.born∈sn ↔ ∃ k,k∈seen∧MKR k e.key)) {e:MapEntry} (he:e∈es.toList) {k:MK} {x:MV} (hk:MKR k e.key) (hx:MVR w I x e.val) (n:Nat) :
  After w I V B ob [(g,.it ks m (k :: seen) (some (k,x)))] { w.drewN n with heap:=w.heap.setIfInBounds bi (.mapIter (some r) clock (sn.push e.born) clock) } I V B:=by
 have ht:∀ g',A7 [(g,Ob.it ks m (k :: seen) (some (k,x)))] g' ↔ g'=g:=fun g'=>by simp [A7]
 have hu:AL ob [(g,.it ks m (k :: seen) (some (k,x)))] g=.it ks m (k :: seen) (some (k,x)):=by simp [AL,Bb]
 have hlive:(ob g).live:=by rw [hg]; trivial
 obtain ⟨hs1,hs2⟩:=MapKept.heap_set (o':=Obj.mapIter (some r) clock (sn.push e.born) clock) hi
 have hnI:∀ b,I b→b≠bi:=fun b hI e'=>h.dI g b hlive ((hB b).2 e') hI
 have hkp:KeepS I w { w.drewN n with heap:=w.heap.setIfInBounds bi (.mapIter (some r) clock (sn.push e.born) clock) }:=⟨by simp,fun b hI _=>hs2 b (hnI b hI)⟩
 refine After.mk' h rfl (TapeOk.le rfl (Nat.le_add_right _ _)) rfl (by simp) (fun b' hb' hno=>hs2 b' fun e=>hno g ((ht g).2 rfl) hlive ((hB b').2 e)) (VLe.refl _) (fun g' hg'=>⟨rfl,fun hf=>h.fr g' hf⟩) (fun g' hg' hl'=>?_) (fun g' b' hg' hl' hb'=>?_) (fun g1 g2 b hg hg' _ _ _ _=>?_) (fun g' hg' hf=>?_)
 ·obtain rfl:=(ht g').1 hg'
  refine ⟨_,hV,?_⟩
  rw [hu]
  refine ⟨bi,rfl,hB,.inr ⟨r,es,clock,sn.push e.born,hs1,hIr,?_,hent.mono hkp fun _ h=>h,fun e' he'=>?_,fun k' x' hc=>?_⟩⟩
  ·rw [hs2 r (hnI r hIr)]; exact hb
  ·rw [Array.mem_push,hsn e' he']
   constructor
   ·rintro (⟨k',h1,h2⟩ | h1)
    ·exact ⟨k',by simp [h1],h2⟩
    ·have:e'=e:=by
      have h1':=find_born e es.toList ((MapKept.stamped_iff _ _).1 hent.st).2.1 he
      have h2':=find_born e' es.toList ((MapKept.stamped_iff _ _).1 hent.st).2.1 he'
      rw [h1] at h2'
      rw [h1'] at h2'
      exact (zA h2').symm
     subst this
     exact ⟨k,by simp,hk⟩
   ·rintro ⟨k',h1,h2⟩
    rcases zL.1 h1 with rfl | h1
    ·right
     have hkey:e'.key=e.key:=h2.val hk
     have hp:=((MapKept.stamped_iff _ _).1 hent.st).2.2
     obtain ⟨i,hi',rfl⟩:=List.getElem_of_mem he
     obtain ⟨j,hj',rfl⟩:=List.getElem_of_mem he'
     rw [List.pairwise_iff_getElem] at hp
     rcases Nat.lt_trichotomy i j with h5 | h5 | h5
     ·exact absurd hkey.symm (hp i j hi' hj' h5)
     ·subst h5; rfl
     ·exact absurd hkey (hp j i hj' hi' h5)
    ·exact .inl ⟨k',h1,h2⟩
  ·obtain ⟨rfl,rfl⟩:k=k'∧x=x':=by simpa using hc
   exact ⟨e,he,by simp,hk,hx.mono hkp fun _ h=>h⟩
 ·obtain rfl:=(ht g').1 hg'
  exact .inr ⟨g',hg',hlive,hb'⟩
 ·rw [(ht g1).1 hg,(ht g2).1 hg']
 ·obtain rfl:=(ht g').1 hg'
  rw [hu] at hf; cases hf
theorem U9 {I:Nat→Prop} {V:Nat→Option Value} {B:Nat→Nat→Prop} {a:Act} {w:World} (hr:RepI c I V B s a w) {it:Operand} {g:Nat} {ks:Bool} {m:MF} {seen:List MK} {cur:Option (MK × MV)} (he:A8 s.sl (trX it)=.ptr g 0) (hg:s.ob g=.it ks m seen cur) (ty:TypeId) :
  ((∀ k x,m k=some x→k∈seen)∧(Instr.next (a.eval it) false ty).run P w=.ok (.tuple #[.bool false]) w) ∨
  ∃ k x w' u v,m k=some x∧k ∉ seen∧(Instr.next (a.eval it) false ty).run P w=.ok (.tuple #[.bool true,u,v]) w'∧After w I V B s.ob [(g,.it ks m (k :: seen) (some (k,x)))] w' I V B:=by
 have hx:=A5 hr it
 rw [he] at hx
 obtain ⟨hV,b,h1,hB,h3⟩:=Zu hr hg hx
 rcases h3 with ⟨h3,h4,_⟩ | ⟨r,es,clock,sn,h3,h4,h5,h6,h7,_⟩
 ·refine .inl ⟨fun k x hk=>(by rw [h4 k] at hk; cases hk),?_⟩
  rw [h1]
  simp [Instr.next,HE h3 rfl,Result.andThen]
 ·rw [h1] at hV ⊢
  rcases run_next_at (P:=P) ty h3 h5 h6.st.1 with ⟨g1,g2⟩ | ⟨e,g1,g2,n,g3⟩
  ·refine .inl ⟨fun k x hk=>?_,g2⟩
   obtain ⟨e,he1,he2⟩:=h6.all k x hk
   obtain ⟨k',hk1,hk2⟩:=(h7 e he1).1 (g1 e he1)
   rw [he2.inj hk2]; exact hk1
  ·obtain ⟨k,x,hk1,_,hk3,hk4⟩:=h6.ent e g1
   refine .inr ⟨k,x,_,e.key,e.val,hk3,fun hs=>g2 ((h7 e g1).2 ⟨k,hs,hk1⟩),g3,?_⟩
   exact After.Yh hr.wf hg hV hB h3 h4 h5 h6 h7 g1 hk1 hk4 n
end
section
variable {P:Program} {c:Ctx} {ops:Array Oper} {s:Fst} {K:Kont} {p:Nat}
theorem Wd:∀ {o:Oper} {so:SOp},DH P o=some so→B4 c.nt o.dst=true→s.ob p=.free→eOp P so s.sl s.ob p K→Good P c o ops s K:=by
 intro o so ho hd hp h
 obtain ⟨dst,op,ty,pos,after,guard⟩:=o
 cases op with
 | move x=>simp only [DH,zB] at ho; subst ho; exact TB (.inl rfl) hd h
 | assign x=>simp only [DH,zB] at ho; subst ho; exact TB (.inr rfl) hd h
 | pick x y z=>simp only [DH,zB] at ho; subst ho; exact XW rfl hd h
 | alloc t =>
  simp only [DH] at ho
  obtain ⟨z,hz,rfl⟩:=zC.1 ho
  exact VR rfl hz hd hp h
 | box t x =>
  simp only [DH] at ho
  obtain ⟨i,hi,rfl⟩:=zC.1 ho
  exact Z5 rfl hd hp h
 | build t parts =>
  simp only [DH] at ho
  split at ho
  ·rename_i fs z hu hz
   split at ho
   ·cases ho
   ·rename_i hall
    obtain ⟨qs,hq,rfl⟩:=zC.1 ho
    refine Wa rfl hu hz hq (fun f hf=>?_) hd h
    simp only [Bool.not_eq_true,Bool.not_eq_false',zO] at hall
    exact Option.isSome_iff_exists.1 (hall f hf)
  ·cases ho
 | buildSlice t len parts =>
  simp only [DH] at ho
  split at ho
  ·rename_i e hu
   split at ho
   ·rename_i i z hi hz
    split at ho
    ·rename_i hc
     obtain rfl:=zA ho
     simp only [zD,decide_eq_true_eq,beq_iff_eq,zO] at hc
     exact VZ rfl hu hi hz hc.1.1.1 hc.1.1.2 hc.1.2 hc.2 hd hp h
    ·cases ho
   ·cases ho
  ·cases ho
 | load t x =>
  simp only [DH] at ho
  split at ho
  ·rename_i g i hg hi
   split at ho
   ·rename_i h1
    obtain rfl:=zA ho
    exact XX rfl hg hi h1 hd hp h
   ·cases ho
  ·cases ho
 | store t x y =>
  simp only [DH] at ho
  obtain ⟨i,hi,rfl⟩:=zC.1 ho
  simp only [eOp] at h
  split at h
  ·rename_i g off he
   split at h
   ·rename_i t0 l vs hob hc
    exact Qd rfl hi hd he hob hc h.1.1 h.1.2 h.2
   ·exact h.elim
  ·rename_i g sz k off he
   split at h
   ·rename_i t0 sz' es vs hob hc
    split at h
    ·rename_i ls hls
     obtain ⟨⟨rfl,h1,h2,h3⟩,l,hl,hK⟩:=h
     exact Qf rfl hi hd he hob hc hls h1 h2 h3 hl hK
    ·exact h.elim
   ·rename_i es hs vs hob hc
    obtain ⟨v,z,rfl,h1,h2,l,hl,⟨h3,h4⟩,hK⟩:=h
    exact OA rfl hi hd he hob hc h1 h2 hl h3 h4 hK
   ·exact h.elim
  ·exact h.elim
 | nilCheck x=>simp only [DH,zB] at ho; subst ho; exact Z9 rfl hd h
 | binOp op t x y t'=>simp only [DH,zB] at ho; subst ho; exact Z8 rfl hd h
 | unOp op t x=>simp only [DH,zB] at ho; subst ho; exact Qa9 rfl hd h
 | convert sr ds x =>
  simp only [DH] at ho
  split at ho
  ·rename_i d k h1 h2
   obtain rfl:=zA ho
   exact XZ rfl h1 h2 hd h
  ·cases ho
 | makeFunc fn first caps =>
  cases fn <;> simp only [DH] at ho <;> try (cases ho; done)
  rename_i f
  split at ho
  ·rename_i hf
   obtain rfl:=zA ho
   have:first=#[]:=by simpa using hf
   subst this
   exact Ya rfl hd h
  ·cases ho
 | makeSlice t l cp =>
  simp only [DH] at ho
  split at ho
  ·rename_i e hu
   split at ho
   ·rename_i i z hi hz
    split at ho
    ·rename_i hc
     obtain rfl:=zA ho
     simp only [zD,decide_eq_true_eq,beq_iff_eq] at hc
     exact S3 rfl hc.1.1 hu hi hz hc.1.2 hc.2 hd hp h
    ·cases ho
   ·cases ho
  ·cases ho
 | slice t x lo hi mx =>
  cases mx <;> simp only [DH] at ho <;> try (cases ho; done)
  split at ho
  ·rename_i hu
   obtain rfl:=zA ho
   exact Qe rfl hu hd h
  ·rename_i e hu
   obtain ⟨i,hi',rfl⟩:=zC.1 ho
   exact VW rfl hu hi' hd hp h
  ·cases ho
 | fieldAddr t x k =>
  simp only [DH] at ho
  split at ho
  ·rename_i off n g hf
   split at ho
   ·cases ho
   ·rename_i hn
    obtain rfl:=zA ho
    exact VS rfl hf hn hd h
  ·cases ho
 | field t x k =>
  simp only [DH] at ho
  split at ho
  ·rename_i off n g hf
   split at ho
   ·rename_i h1
    obtain rfl:=zA ho
    exact VT rfl hf h1 hd h
   ·cases ho
  ·cases ho
 | indexAddr t x i =>
  simp only [DH] at ho
  split at ho
  ·rename_i e hu
   obtain ⟨j,hj,rfl⟩:=zC.1 ho
   exact VV rfl hu hj hd h
  ·cases ho
 | index t x i =>
  simp only [DH] at ho
  split at ho
  ·rename_i hu
   obtain rfl:=zA ho
   exact Z7 rfl hu hd h
  ·cases ho
 | extract x k=>simp only [DH,zB] at ho; subst ho; exact Z6 rfl hd h
 | makeMap t hint =>
  simp only [DH] at ho
  obtain ⟨q,hq,rfl⟩:=zC.1 ho
  exact Wb rfl hq hd hp h
 | mapUpdate t m k v =>
  simp only [DH] at ho
  obtain ⟨q,hq,rfl⟩:=zC.1 ho
  exact TI (.inl rfl) hq hd h
 | insert t m k v =>
  simp only [DH] at ho
  obtain ⟨q,hq,rfl⟩:=zC.1 ho
  exact TI (.inr rfl) hq hd h
 | range t x =>
  simp only [DH] at ho
  obtain ⟨q,hq,rfl⟩:=zC.1 ho
  exact Yf rfl hq hd hp h
 | entry x=>simp only [DH,zB] at ho; subst ho; exact Yg rfl hd h
 | makeInterface t x=>simp only [DH,zB] at ho; subst ho; simp only [eOp,A8] at h
 | panic x=>simp only [DH,zB] at ho; subst ho; simp only [eOp,A8] at h
 | lookup t m k ok =>
  simp only [DH] at ho
  split at ho
  ·rename_i ks et hq
   split at ho
   ·rename_i z g hz hg
    obtain rfl:=zA ho
    exact Ye rfl hq hz hg hd h
   ·cases ho
  ·cases ho
 | call cl =>
  obtain ⟨callee,args,ts⟩:=cl
  cases callee with
  | value f =>
   cases f with
   | func g =>
    simp only [DH] at ho
    split at ho
    ·rename_i hg
     obtain rfl:=zA ho
     exact Yb rfl hg hd h
    ·cases ho
   | tmp k=>simp only [DH,zB] at ho; subst ho; exact Np rfl hd h
   | const v=>simp only [DH,zB] at ho; subst ho; exact Np rfl hd h
   | global k=>simp only [DH,zB] at ho; subst ho; exact Np rfl hd h
  | invoke x m=>simp only [DH] at ho; cases ho
  | builtin b =>
   cases b <;> simp only [DH] at ho <;> try (cases ho; done)
   case append =>
    split at ho
    ·rename_i x y t t' ha ht
     split at ho
     ·rename_i e hu
      split at ho
      ·rename_i i z hi hz
       split at ho
       ·rename_i hc
        obtain rfl:=zA ho
        simp only [zD,decide_eq_true_eq,beq_iff_eq] at hc
        obtain ⟨⟨rfl,hc1⟩,hc2⟩:=hc
        obtain rfl:args=#[x,y]:=yE ha
        obtain rfl:ts=#[t,t]:=yE ht
        exact U7 rfl hu hi hz hc1 hc2 hd hp h
       ·cases ho
      ·cases ho
     ·cases ho
    ·cases ho
   case len =>
    split at ho
    ·rename_i x t ha ht
     obtain rfl:args=#[x]:=yE ha
     obtain rfl:ts=#[t]:=yE ht
     split at ho
     ·rename_i hu
      obtain rfl:=zA ho
      exact VU rfl (fun _=>hu) (fun e=>by cases e) hd h
     ·rename_i e hu
      obtain rfl:=zA ho
      exact VU rfl (fun e=>by cases e) (fun _=>⟨e,hu⟩) hd h
     ·cases ho
    ·cases ho
   case max =>
    split at ho
    ·rename_i x y ha
     obtain rfl:args=#[x,y]:=yE ha
     obtain rfl:=zA ho
     exact Pf (mx:=true) rfl hd h
    ·cases ho
   case min =>
    split at ho
    ·rename_i x y ha
     obtain rfl:args=#[x,y]:=yE ha
     obtain rfl:=zA ho
     exact Pf (mx:=false) rfl hd h
    ·cases ho
 | _=>simp only [DH] at ho; cases ho
end
structure St where
 sl:List SV
 ob:List Ob
def gets:List SV→Nat→SV
 | [],_=>.any
 | x :: _,0=>x
 | _ :: r,k+1=>gets r k
def As:List Ob→Nat→Ob
 | [],_=>.free
 | x :: _,0=>x
 | _ :: r,k+1=>As r k
def OB:List SV→Nat→SV→List SV
 | [],_,_=>[]
 | _ :: r,0,y=>y :: r
 | x :: r,k+1,y=>x :: OB r k y
def St.f (s:St):Fst:=⟨gets s.sl,As s.ob⟩
def KR (upd:List (Nat × Ob)):Nat→List Ob→List Ob
 | _,[]=>[]
 | k,o :: r=>(Bb upd k).getD o :: KR upd (k+1) r
def Nz (upd:List (Nat × Ob)):Nat→Nat→List Ob
 | 0,_=>[]
 | n+1,k=>match Bb upd k with
  | some o=>o :: Nz upd n (k+1)
  | none=>[]
def Ed (l:List Ob) (upd:List (Nat × Ob)):List Ob:=KR upd 0 l++Nz upd upd.length l.length
def G5 (l:List SV) (d:Option Tmp) (x:SV):List SV :=
 match d with
 | some k=>OB l k x
 | none=>l
def St.app (s:St) (d:Option Tmp) (x:SV) (upd:List (Nat × Ob)):St:=⟨G5 s.sl d x,Ed s.ob upd⟩
def okU (n:Nat):List (Nat × Ob)→Prop
 | []=>True
 | (g,_) :: r=>g < n∧okU n r
theorem Pj:∀ (l:List SV) (k j:Nat) (x:SV),k<l.length→gets (OB l k x) j=if k=j then x else gets l j
 | [],k,j,x,h=>absurd h (by simp)
 | y :: r,0,0,x,_=>by simp [OB,gets]
 | y :: r,0,j+1,x,_=>by simp [OB,gets]
 | y :: r,k+1,0,x,_=>by simp [OB,gets]
 | y :: r,k+1,j+1,x,h=>by
  simp only [OB,gets,zV]
  exact Pj r k j x (by simpa using h)
theorem KS:∀ (l:List SV) (k:Nat) (x:SV),(OB l k x).length=l.length
 | [],_,_=>rfl
 | _ :: _,0,_=>rfl
 | _ :: r,k+1,x=>by simp [OB,KS r k x]
theorem Pk (upd:List (Nat × Ob)):∀ (l:List Ob) (k j:Nat),j<l.length→As (KR upd k l) j=(Bb upd (k+j)).getD (As l j)
 | [],k,j,h=>absurd h (by simp)
 | o :: r,k,0,_=>by simp [KR,As]
 | o :: r,k,j+1,h=>by
  simp only [KR,As]
  rw [Pk upd r (k+1) j (by simpa using h),show k+1+j=k+(j+1) by omega]
theorem KT (upd:List (Nat × Ob)):∀ (l:List Ob) (k:Nat),(KR upd k l).length=l.length
 | [],_=>rfl
 | o :: r,k=>by simp [KR,KT upd r (k+1)]
theorem KU:∀ (l l':List Ob) (j:Nat),As (l++l') j=if j<l.length then As l j else As l' (j-l.length)
 | [],l',j=>by simp
 | o :: r,l',0=>by simp [As]
 | o :: r,l',j+1=>by
  simp only [yM,As,zM,zS,zY]
  exact KU r l' j
theorem QW (upd:List (Nat × Ob)):∀ (n k j:Nat),j<(Nz upd n k).length→As (Nz upd n k) j=(Bb upd (k+j)).getD .free
 | 0,k,j,h=>absurd h (by simp [Nz])
 | n+1,k,j,h=>by
  simp only [Nz] at h ⊢
  split
  ·rename_i o ho
   rw [ho] at h
   cases j with
   | zero=>simp [As,ho]
   | succ j =>
    simp only [As]
    rw [QW upd n (k+1) j (by simpa using h),show k+1+j=k+(j+1) by omega]
  ·rename_i ho
   rw [ho] at h
   simp at h
theorem B6:∀ (l:List Ob) (j:Nat),l.length≤j→As l j=.free
 | [],j,_=>rfl
 | o :: r,0,h=>by simp at h
 | o :: r,j+1,h=>B6 r j (by simpa using h)
theorem QX {n:Nat}:∀ {upd:List (Nat × Ob)},okU n upd→∀ g,Bb upd g≠none→g<n
 | [],_,g,h=>absurd rfl h
 | (k,o) :: r,h,g,hg=>by
  simp only [okU] at h
  simp only [Bb] at hg
  split at hg
  ·rename_i e; subst e; exact h.1
  ·exact QX h.2 g hg
theorem We {l:List Ob} {upd:List (Nat × Ob)} (h:okU (Ed l upd).length upd) (g:Nat):As (Ed l upd) g=(Bb upd g).getD (As l g):=by
 unfold Ed at h ⊢
 rw [KU,KT]
 by_cases h1:g<l.length
 ·rw [if_pos h1,Pk upd l 0 g h1,zQ]
 ·rw [if_neg h1,B6 l g (by omega)]
  rcases zF (g-l.length) (Nz upd upd.length l.length).length with h2 | h2
  ·rw [QW upd _ _ _ h2,show l.length+(g-l.length)=g by omega]
  ·rw [B6 _ _ h2]
   cases hl:Bb upd g with
   | none=>rfl
   | some o =>
    have:=QX h g (by rw [hl]; simp)
    rw [yF,KT] at this
    omega
theorem St.QY {s:St} {d:Option Tmp} {x:SV} {upd:List (Nat × Ob)} (hd:B4 s.sl.length d=true) (h:okU (Ed s.ob upd).length upd):(s.app d x upd).f=s.f.app d x upd:=by
 unfold St.app St.f Fst.app Fst.setO Fst.put
 congr 1
 ·funext k
  cases d with
  | none=>simp [G5]
  | some d =>
   simp only [B4,decide_eq_true_eq] at hd
   simp only [G5,zB]
   exact Pj _ _ _ _ hd
 ·funext g
  exact We h g
structure SOper where
 dst:Option Tmp
 gd:Option (Nat × Bool)
 op:SOp
def Pl (P:Program) (o:SOper) (st:St) (K:Ent→St→Prop):Prop :=
 match o.gd with
 | none=>eOp P o.op (gets st.sl) (As st.ob) st.ob.length fun x upd rd=>okU (Ed st.ob upd).length upd∧K ⟨true,x,upd,rd⟩ (st.app o.dst x upd)
 | some (k,want)=>match gets st.sl k with
  | .bool b=>(b=want→eOp P o.op (gets st.sl) (As st.ob) st.ob.length fun x upd rd=>okU (Ed st.ob upd).length upd∧K ⟨true,x,upd,rd⟩ (st.app o.dst x upd))∧(b=!want→K ⟨false,.tup [],[],[]⟩ ⟨G5 st.sl o.dst (.tup []),st.ob⟩)
  | .tup l=>l=[]∧K ⟨false,.tup [],[],[]⟩ ⟨G5 st.sl o.dst (.tup []),st.ob⟩
  | _=>False
def Wg (P:Program):List SOper→St→(List Ent→St→Prop)→Prop
 | [],st,K=>K [] st
 | o :: r,st,K=>Pl P o st fun e st'=>Wg P r st' fun es st''=>K (e :: es) st''
def Wh (P:Program):List SOper→St→(St→Prop)→Prop
 | [],st,K=>K st
 | o :: r,st,K=>Pl P o st fun _ st'=>Wh P r st' K
def Wi (ops:Array Oper) (o:Oper):Option (Option (Nat × Bool)) :=
 match o.guard with
 | none=>some none
 | some (j,want)=>((ops[j]?).bind (·.dst)).map fun d=>some (d,want)
def Ks (P:Program) (ops:Array Oper) (o:Oper):Option SOper :=
 match Wi ops o,DH P o with
 | some g,some so=>some ⟨o.dst,g,so⟩
 | _,_=>none
section
variable {P:Program} {c:Ctx} {ops:Array Oper}
theorem J4 {o:Oper} {g:Option (Nat × Bool)} (h:Wi ops o=some g) (s:Fst) (b:Bool) (hb:match g with | none=>b=true | some (k,want)=>s.sl k=.bool (b == want)∨(b=false∧s.sl k=.tup [])):J2 ops o s b:=by
 unfold Wi at h
 unfold J2
 cases hg:o.guard with
 | none=>rw [hg] at h; simp only [zB] at h; subst h; exact hb
 | some q =>
  obtain ⟨j,want⟩:=q
  rw [hg] at h
  simp only at h
  obtain ⟨d,hd,rfl⟩:=zC.1 h
  exact ⟨d,hd,hb⟩
theorem N0 {o:Oper} {k:Nat} {want:Bool} (h:Wi ops o=some (some (k,want))):k∈o.looksAt ops:=by
 unfold Wi at h
 cases hg:o.guard with
 | none=>rw [hg] at h; simp at h
 | some q =>
  obtain ⟨j,w'⟩:=q
  rw [hg] at h
  simp only at h
  obtain ⟨d,hd,h2⟩:=zC.1 h
  simp only [zB,zE] at h2
  obtain ⟨rfl,rfl⟩:=h2
  unfold Oper.looksAt
  refine zZ _ ?_
  rw [hg]
  simp only [hd,Option.toList_some,zW]
theorem Mr {o:Oper} {so:SOper} {st:St} {K:Ent→St→Prop} (ho:Ks P ops o=some so) (hlen:st.sl.length=c.nt) (hd:B4 c.nt o.dst=true) (h:Pl P so st K) :
  ∃ e st',K e st'∧PZ P c ops o e st.f∧st'.f=st.f.app o.dst e.x e.upd∧st'.sl.length=c.nt:=by
 unfold Ks at ho
 split at ho
 ·rename_i g op hg hop
  obtain rfl:=zA ho
  have hp:st.f.ob st.ob.length=.free:=B6 _ _ (zH _)
  have plen:∀ x,(G5 st.sl o.dst x).length=c.nt:=fun x=>by cases o.dst <;> simp [G5,KS,hlen]
  have main:(∀ s':Fst,(∀ k,k∈o.looksAt ops→s'.sl k=st.f.sl k)→J2 ops o s' true)→(eOp P op (gets st.sl) (As st.ob) st.ob.length fun x upd rd=>okU (Ed st.ob upd).length upd∧K ⟨true,x,upd,rd⟩ (st.app o.dst x upd)) →
    ∃ e st',K e st'∧PZ P c ops o e st.f∧st'.f=st.f.app o.dst e.x e.upd∧st'.sl.length=c.nt:=fun hgd h=>by
   obtain ⟨x,upd,rd,⟨hU,hK⟩,hv⟩:=Wd (c:=c) (ops:=ops) (s:=st.f) hop hd hp h
   refine ⟨⟨true,x,upd,rd⟩,st.app o.dst x upd,hK,fun s' h1 h2 h3=>⟨hgd s' h1,?_⟩,St.QY (by rw [hlen]; exact hd) hU,plen x⟩
   rw [if_pos rfl]
   exact hv s' h1 h2 h3
  unfold Pl at h
  cases g with
  | none =>
   simp only at h
   exact main (fun s' _=>J4 hg s' true rfl) h
  | some q =>
   obtain ⟨k,want⟩:=q
   simp only at h
   split at h
   ·rename_i b hb
    by_cases hw:b=want
    ·exact main (fun s' h1=>J4 hg s' true (by
      simp only
      rw [h1 k (N0 hg)]
      left
      show gets st.sl k=_
      rw [hb,hw]; simp)) (h.1 hw)
    ·have hbw:b=!want:=by cases b <;> cases want <;> simp_all
     refine ⟨⟨false,.tup [],[],[]⟩,⟨G5 st.sl o.dst (.tup []),st.ob⟩,h.2 hbw,fun s' h1 _ _=>⟨J4 hg s' false (by
      simp only
      rw [h1 k (N0 hg)]
      left
      show gets st.sl k=_
      rw [hb,hbw]; simp),by rw [if_neg (by simp)]; exact ⟨rfl,rfl⟩⟩,?_,plen _⟩
     have:Ed st.ob []=st.ob:=by
      have:∀ (l:List Ob) k,KR [] k l=l:=by
       intro l
       induction l with
       | nil=>intro k; rfl
       | cons o r ih=>intro k; simp [KR,Bb,ih]
      simp [Ed,this,Nz]
     have h2:=St.QY (s:=st) (d:=o.dst) (x:=.tup []) (upd:=[]) (by rw [hlen]; exact hd) (by simp [okU])
     unfold St.app at h2
     rw [this] at h2
     exact h2
   ·rename_i l hb
    refine ⟨⟨false,.tup [],[],[]⟩,⟨G5 st.sl o.dst (.tup []),st.ob⟩,h.2,fun s' h1 _ _=>⟨J4 hg s' false (by
     simp only
     rw [h1 k (N0 hg)]
     right
     refine ⟨trivial,?_⟩
     show gets st.sl k=_
     rw [hb,h.1]),by rw [if_neg (by simp)]; exact ⟨rfl,rfl⟩⟩,?_,plen _⟩
    have:Ed st.ob []=st.ob:=by
     have:∀ (l:List Ob) k,KR [] k l=l:=by
      intro l
      induction l with
      | nil=>intro k; rfl
      | cons o r ih=>intro k; simp [KR,Bb,ih]
     simp [Ed,this,Nz]
    have h2:=St.QY (s:=st) (d:=o.dst) (x:=.tup []) (upd:=[]) (by rw [hlen]; exact hd) (by simp [okU])
    unfold St.app at h2
    rw [this] at h2
    exact h2
   ·exact h.elim
 ·cases ho
theorem N1:∀ {l:List Oper} {sl:List SOper} {st:St} {K:List Ent→St→Prop},Cf (l.map (Ks P ops))=some sl→st.sl.length=c.nt→(∀ o∈l,B4 c.nt o.dst=true)→Wg P sl st K →
  ∃ es st',K es st'∧TextOk P c ops l es st.f∧MH l es st.f=st'.f∧st'.sl.length=c.nt
 | [],sl,st,K,hs,hlen,_,h=>by
  simp only [yO,Cf,zB] at hs
  subst hs
  exact ⟨[],st,h,rfl,rfl,hlen⟩
 | o :: l,sl,st,K,hs,hlen,hd,h=>by
  simp only [zN] at hs
  cases ho:Ks P ops o with
  | none=>rw [ho] at hs; cases hs
  | some so =>
   rw [ho] at hs
   simp only [Cf] at hs
   obtain ⟨sl',hs',rfl⟩:=zC.1 hs
   simp only [Wg] at h
   obtain ⟨e,st1,h1,h2,h3,h4⟩:=Mr ho hlen (hd o (by simp)) h
   obtain ⟨es,st2,g1,g2,g3,g4⟩:=N1 hs' h4 (fun o' ho'=>hd o' (by simp [ho'])) h1
   refine ⟨e :: es,st2,g1,?_,?_,g4⟩
   ·simp only [TextOk]
    exact ⟨e,es,rfl,h2,by rw [←h3]; exact g2⟩
   ·simp only [MH]
    rw [←h3]; exact g3
theorem N2:∀ {l:List Oper} {sl:List SOper} {st:St} {K:St→Prop},Cf (l.map (Ks P ops))=some sl→st.sl.length=c.nt→(∀ o∈l,B4 c.nt o.dst=true)→Wh P sl st K →
  ∃ es st',K st'∧TextOk P c ops l es st.f∧MH l es st.f=st'.f∧st'.sl.length=c.nt
 | [],sl,st,K,hs,hlen,_,h=>by
  simp only [yO,Cf,zB] at hs
  subst hs
  exact ⟨[],st,h,rfl,rfl,hlen⟩
 | o :: l,sl,st,K,hs,hlen,hd,h=>by
  simp only [zN] at hs
  cases ho:Ks P ops o with
  | none=>rw [ho] at hs; cases hs
  | some so =>
   rw [ho] at hs
   simp only [Cf] at hs
   obtain ⟨sl',hs',rfl⟩:=zC.1 hs
   simp only [Wh] at h
   obtain ⟨e,st1,h1,h2,h3,h4⟩:=Mr ho hlen (hd o (by simp)) h
   obtain ⟨es,st2,g1,g2,g3,g4⟩:=N2 hs' h4 (fun o' ho'=>hd o' (by simp [ho'])) h1
   refine ⟨e :: es,st2,g1,?_,?_,g4⟩
   ·simp only [TextOk]
    exact ⟨e,es,rfl,h2,by rw [←h3]; exact g2⟩
   ·simp only [MH]
    rw [←h3]; exact g3
end
inductive SC where
 |skip
 |reg (ops:List SOper)
 |dreg (anc:List (List Nat)) (ops:List SOper)
 |seq (a b:SC)
 |cond (c:SX) (a b:SC)
 |block (id:Nat) (b:SC)
 |loop (junk:List Nat) (b:SC)
 |exit (id:Nat)
 |ret
 |next (it:SX) (nx more:Nat)
 |mloop (keep keepO:List Nat) (it:SX) (nx more:Nat) (b:SC)
 |ghost (n:Nat) (b:SC)
def wrC:SC→List Nat
 | .reg ops=>ops.filterMap (·.dst)
 | .dreg _ ops=>ops.filterMap (·.dst)
 | .seq a b=>wrC a++wrC b
 | .cond _ a b=>wrC a++wrC b
 | .block _ b=>wrC b
 | .loop j _=>j
 | .next _ a b=>[a,b]
 | _=>[]
def S4 (nt:Nat) (ops:Array Oper) (draw:Bool):Option (SX × Nat × Nat) :=
 match ops.toList with
 | [o1,o2]=>match o1.op,o1.dst,o1.guard,o2.op,o2.dst,o2.guard with
  | .next x false,some nx,none,.extract (.tmp k) 0,some more,none=>if draw=false∧k=nx∧nx < nt∧more < nt∧nx≠more then some (trX x,nx,more) else none
  | _,_,_,_,_,_=>none
 | _=>none
theorem QZ {nt:Nat} {ops:Array Oper} {draw:Bool} {q:SX × Nat × Nat} (h:S4 nt ops draw=some q):draw=false∧∃ x o1 o2,ops.toList=[o1,o2]∧o1.dst=some q.2.1∧o1.op=.next x false∧o1.guard=none∧o2.dst=some q.2.2∧o2.op=.extract (.tmp q.2.1) 0∧o2.guard=none∧q.1=trX x∧q.2.1<nt∧q.2.2<nt∧q.2.1≠q.2.2:=by
 unfold S4 at h
 split at h
 ·rename_i o1 o2 hl
  split at h
  ·rename_i x nx k more h1 h2 h3 h4 h5 h6
   split at h
   ·rename_i hc
    obtain ⟨rfl,rfl,hc1,hc2,hc3⟩:=hc
    obtain rfl:=zA h
    exact ⟨rfl,x,o1,o2,hl,h2,h1,h3,h5,h4,h6,rfl,hc1,hc2,hc3⟩
   ·cases h
  ·cases h
 ·cases h
def trC (P:Program) (nt:Nat):Code→Option SC
 | .skip=>some .skip
 | .region _ ops draw=>match S4 nt ops draw with
  | some q=>some (.next q.1 q.2.1 q.2.2)
  | none=>match Cf (ops.toList.map (Ks P ops)) with
   | some sl=>if ops.toList.all (fun o=>B4 nt o.dst&&QK nt ops o) then
     if draw then
      if QM ops.toList (Ss ops.toList [])&&decide ((Ss ops.toList []).length=ops.toList.length) then some (.dreg (Ss ops.toList []) sl) else none
     else some (.reg sl)
    else none
   | none=>none
 | .seq a b=>match trC P nt a,trC P nt b with
  | some x,some y=>some (.seq x y)
  | _,_=>none
 | .cond c a b=>match trC P nt a,trC P nt b with
  | some x,some y=>some (.cond (trX c) x y)
  | _,_=>none
 | .block id b=>(trC P nt b).map (.block id)
 | .loop b=>(trC P nt b).map fun x=>.loop (wrC x).eraseDups x
 | .exit id=>some (.exit id)
 | .ret=>some .ret
 | _=>none
inductive X where
 |normal
 |exit (id:Nat)
 |ret
def X.exit':X→Exit
 | .normal=>.normal
 | .exit id=>.exit id
 | .ret=>.ret
def Run (P:Program) (c:Ctx) (sc:SC) (K:X→St→Prop) (st:St):Prop :=
 ∀ (code:Code),trC P c.nt code=some sc→∀ (a:Act) (w:World) (Q:Exit→Act→World→Prop),st.sl.length=c.nt→Rep c st.f a w →
  (∀ x st' a' w',K x st'→st'.sl.length=c.nt→Rep c st'.f a' w'→Q x.exit' a' w')→code.wp P Q a w
def Gc (nx more:Nat) (st:St) (b:Bool) (u:List (Nat × Ob)):St:=(st.app (some nx) .any u).app (some more) (.bool b) []
def sw (P:Program) (c:Ctx):SC→(X→St→Prop)→St→Prop
 | .skip,K,st=>K .normal st
 | .reg ops,K,st=>Wh P ops st (K .normal)
 | .dreg anc ops,K,st=>Wg P ops st fun es st'=>obB anc [] (Ko es) 0=true∧K .normal st'
 | .seq a b,K,st=>sw P c a (fun x st'=>match x with | .normal=>sw P c b K st' | x=>K x st') st
 | .cond cx a b,K,st=>match A8 (gets st.sl) cx with
  | .bool t=>(t=true→sw P c a K st)∧(t=false→sw P c b K st)
  | _=>False
 | .block id b,K,st=>sw P c b (fun x st'=>match x with | .exit i=>if i=id then K .normal st' else K (.exit i) st' | x=>K x st') st
 | .loop j b,K,st=>Run P c (.loop j b) K st
 | .exit id,K,st=>K (.exit id) st
 | .ret,K,st=>K .ret st
 | .next it nx more,K,st=>match A8 (gets st.sl) it with
  | .ptr g o=>match As st.ob g with
   | .it ks m seen cur=>o=0∧((∀ k x,m k=some x→k∈seen)→K .normal (Gc nx more st false []))∧∀ k x,m k=some x→k ∉ seen→K .normal (Gc nx more st true [(g,.it ks m (k :: seen) (some (k,x)))])
   | _=>False
  | _=>False
 | .mloop _ _ _ _ _ _,_,_=>False
 | .ghost _ _,_,_=>False
section
variable {P:Program} {c:Ctx}
theorem G6 (hm:P.follows .mixedOrders=true):∀ (sc:SC) (K:X→St→Prop) (st:St),sw P c sc K st→Run P c sc K st
 | .skip,K,st,h=>by
  intro code hc a w Q hl hr hq
  cases code <;> simp only [trC] at hc <;> (try (cases hc; done)) <;> (try (split at hc <;> (try split at hc) <;> (try split at hc) <;> (try split at hc) <;> (try split at hc) <;> cases hc; done)) <;> (try (obtain ⟨_,_,e⟩:=zC.1 hc; cases e; done))
  exact wp_skip (hq _ _ _ _ h hl hr)
 | .exit id,K,st,h=>by
  intro code hc a w Q hl hr hq
  cases code <;> simp only [trC] at hc <;> (try (cases hc; done)) <;> (try (split at hc <;> (try split at hc) <;> (try split at hc) <;> (try split at hc) <;> (try split at hc) <;> cases hc; done)) <;> (try (obtain ⟨_,_,e⟩:=zC.1 hc; cases e; done))
  obtain rfl:=SC.exit.inj (zA hc)
  exact wp_exit (hq _ _ _ _ h hl hr)
 | .ret,K,st,h=>by
  intro code hc a w Q hl hr hq
  cases code <;> simp only [trC] at hc <;> (try (cases hc; done)) <;> (try (split at hc <;> (try split at hc) <;> (try split at hc) <;> (try split at hc) <;> (try split at hc) <;> cases hc; done)) <;> (try (obtain ⟨_,_,e⟩:=zC.1 hc; cases e; done))
  exact wp_ret (hq _ _ _ _ h hl hr)
 | .loop j b,K,st,h=>h
 | .mloop _ _ _ _ _ _,K,st,h=>h.elim
 | .ghost _ _,K,st,h=>h.elim
 | .next it nx more,K,st,h=>by
  intro code hc a w Q hl hr hq
  cases code <;> simp only [trC] at hc <;> (try (cases hc; done)) <;> (try (obtain ⟨_,_,e⟩:=zC.1 hc; cases e; done))
  case seq=>split at hc <;> cases hc
  case cond=>split at hc <;> cases hc
  case region id ops draw =>
   split at hc
   ·rename_i q hn
    obtain ⟨rfl,x,o1,o2,hops,d1,p1,g1,d2,p2,g2,e1,l1,l2,l3⟩:=QZ hn
    obtain ⟨rfl,rfl,rfl⟩:=SC.next.inj (zA hc)
    obtain ⟨I,V,B,hr⟩:=hr
    simp only [sw] at h
    split at h
    ·rename_i g o he
     split at h
     ·rename_i ks m seen cur hob
      obtain ⟨rfl,hN,hS⟩:=h
      rw [e1] at he
      have hlt:q.2.1<st.sl.length:=by rw [hl]; exact l1
      have hlt2:q.2.2<st.sl.length:=by rw [hl]; exact l2
      have hgl:g<st.ob.length:=by
       rcases zF g st.ob.length with h1 | h1
       ·exact h1
       ·rw [B6 _ _ h1] at hob; cases hob
      refine wp_region_list ?_
      rw [hops]
      have fin:∀ (b:Bool) (u:List (Nat × Ob)) (w':World) (v:Value),okU (Ed st.ob u).length u→RepI c I V B (st.f.setO u) a w'→(Instr.extract v 0).run P w'=.ok (.bool b) w'→(Instr.next (a.eval x) false o1.type).run P w=.ok v w'→K .normal (Gc q.2.1 q.2.2 st b u)→wpList P ops Q [o1,o2] a w:=fun b u w' v hu hr2 hx hrun hK=>by
       have ht:∀ tm,Region.wanted o1 tm=true:=fun tm=>by unfold Region.wanted; rw [g1]
       have ht2:∀ tm,Region.wanted o2 tm=true:=fun tm=>by unfold Region.wanted; rw [g2]
       unfold wpList
       rw [ht,if_pos rfl]
       left
       unfold Oper.wp
       have hx1:(execOp a.eval o1).run P w=.ok (.value v) w':=by simp only [execOp,p1]; exact B8 hrun
       rw [hx1,Oper.upon_value]
       have r1:RepI c I V B ((st.f.setO u).put (some q.2.1) .any) (a.put (some q.2.1) v) w':=hr2.put (by simpa [B4] using l1) (by simp [RepV])
       unfold wpList
       rw [ht2,if_pos rfl]
       left
       unfold Oper.wp
       have hv:(a.put o1.dst v).eval (.tmp q.2.1)=v:=by
        rw [d1]
        have:q.2.1<a.tmps.size:=by rw [hr.sz]; exact l1
        simp [Act.eval,Act.put,yC,this]
       have hx2:(execOp (a.put o1.dst v).eval o2).run P w'=.ok (.value (.bool b)) w':=by simp only [execOp,p2]; rw [hv]; exact B8 hx
       rw [hx2,Oper.upon_value,d1,d2]
       have r2:=r1.put (d:=some q.2.2) (by simpa [B4] using l2) (x:=.bool b) (v:=.bool b) (by simp [RepV])
       refine hq .normal _ _ _ hK (by simp [Gc,St.app,G5,KS,hl]) ⟨I,V,B,?_⟩
       have e1:(st.app (some q.2.1) .any u).f=st.f.app (some q.2.1) .any u:=St.QY (by simpa [B4] using hlt) hu
       have e2:(Gc q.2.1 q.2.2 st b u).f=(st.app (some q.2.1) .any u).f.app (some q.2.2) (.bool b) []:=St.QY (by simpa [B4,St.app,G5,KS] using hlt2) (by simp [okU])
       rw [e2,e1]
       exact r2
      rcases U9 hr (s:=st.f) he hob o1.type with ⟨h1,h2⟩ | ⟨k,y,w',u,v,h1,h2,h3,h4⟩
      ·refine fin false [] w (.tuple #[.bool false]) (by simp [okU]) ?_ (by simp [Instr.extract]) h2 (hN h1)
       exact hr
      ·refine fin true _ w' (.tuple #[.bool true,u,v]) ?_ (hr.after h4) (by simp [Instr.extract]) h3 (hS k y h1 h2)
       simp [okU,Ed,KT,hgl]
       omega
     ·exact h.elim
    ·exact h.elim
   ·split at hc <;> (try split at hc) <;> (try split at hc) <;> (try split at hc) <;> cases hc
 | .reg sl,K,st,h=>by
  intro code hc a w Q hl hr hq
  cases code <;> simp only [trC] at hc <;> (try (cases hc; done)) <;> (try (obtain ⟨_,_,e⟩:=zC.1 hc; cases e; done))
  case region id ops draw =>
   split at hc
   ·cases hc
   rename_i hnn
   split at hc
   ·rename_i sl' hsl
    split at hc
    ·rename_i hall
     split at hc
     ·split at hc <;> cases hc
     ·rename_i hdr
      obtain rfl:=SC.reg.inj (zA hc)
      have hdr:draw=false:=by simpa using hdr
      subst hdr
      have hall:∀ o∈ops.toList,B4 c.nt o.dst=true∧QK c.nt ops o=true:=fun o ho=>by
       have:=(zO.1 hall) o ho
       simpa using this
      obtain ⟨es,st',h1,h2,h3,h4⟩:=N2 (c:=c) hsl hl (fun o ho=>(hall o ho).1) h
      exact wp_region_list (Ml ops.toList es st.f a w hall h2 hr fun a' w' hr'=>hq .normal st' a' w' h1 h4 (by rw [←h3]; exact hr'))
    ·cases hc
   ·cases hc
  case seq=>split at hc <;> cases hc
  case cond=>split at hc <;> cases hc
 | .dreg anc sl,K,st,h=>by
  intro code hc a w Q hl hr hq
  cases code <;> simp only [trC] at hc <;> (try (cases hc; done)) <;> (try (obtain ⟨_,_,e⟩:=zC.1 hc; cases e; done))
  case region id ops draw =>
   split at hc
   ·cases hc
   rename_i hnn
   split at hc
   ·rename_i sl' hsl
    split at hc
    ·rename_i hall
     split at hc
     ·rename_i hdr
      split at hc
      ·rename_i hsb
       obtain ⟨rfl,rfl⟩:=SC.dreg.inj (zA hc)
       have hdr:draw=true:=by simpa using hdr
       subst hdr
       have hall:∀ o∈ops.toList,B4 c.nt o.dst=true∧QK c.nt ops o=true:=fun o ho=>by
        have:=(zO.1 hall) o ho
        simpa using this
       rw [zD] at hsb
       obtain ⟨es,st',⟨hob,h1⟩,h2,h3,h4⟩:=N1 (c:=c) hsl hl (fun o ho=>(hall o ho).1) h
       have:=Nl (P:=P) (c:=c) (Q:=Q) (l:=ops.toList) (es:=es) (anc:=Ss ops.toList []) (id:=id) (a:=a) (w:=w) (s:=st.f) hm hsb.1 rfl hsb.2 hob (by simpa using hall) (by simpa using h2) hr (fun a' w' hr'=>hq .normal st' a' w' h1 h4 (by rw [←h3]; exact hr'))
       simpa using this
      ·cases hc
     ·cases hc
    ·cases hc
   ·cases hc
  case seq=>split at hc <;> cases hc
  case cond=>split at hc <;> cases hc
 | .seq x y,K,st,h=>by
  intro code hc a w Q hl hr hq
  cases code <;> simp only [trC] at hc <;> (try (cases hc; done)) <;> (try (obtain ⟨_,_,e⟩:=zC.1 hc; cases e; done))
  case region=>split at hc <;> (try split at hc) <;> (try split at hc) <;> (try split at hc) <;> (try split at hc) <;> cases hc
  case cond=>split at hc <;> cases hc
  case seq u v =>
   split at hc
   ·rename_i x' y' hx hy
    obtain ⟨rfl,rfl⟩:=SC.seq.inj (zA hc)
    simp only [sw] at h
    refine wp_seq (G6 hm _ _ st h u hx a w _ hl hr fun e st' a' w' hk hl' hr'=>?_)
    cases e with
    | normal=>exact G6 hm _ _ st' hk v hy a' w' Q hl' hr' hq
    | exit id=>exact hq _ _ _ _ hk hl' hr'
    | ret=>exact hq _ _ _ _ hk hl' hr'
   ·cases hc
 | .cond cx x y,K,st,h=>by
  intro code hc a w Q hl hr hq
  cases code <;> simp only [trC] at hc <;> (try (cases hc; done)) <;> (try (obtain ⟨_,_,e⟩:=zC.1 hc; cases e; done))
  case region=>split at hc <;> (try split at hc) <;> (try split at hc) <;> (try split at hc) <;> (try split at hc) <;> cases hc
  case seq=>split at hc <;> cases hc
  case cond q u v =>
   split at hc
   ·rename_i x' y' hx hy
    obtain ⟨rfl,rfl,rfl⟩:=SC.cond.inj (zA hc)
    simp only [sw] at h
    split at h
    ·rename_i t ht
     have hv:a.eval q=.bool t:=by
      obtain ⟨I,V,B,hr⟩:=hr
      have:=A5 hr q
      have e:A8 st.f.sl (trX q)=.bool t:=ht
      rw [e] at this
      simpa only [RepV] using this
     refine wp_cond_split hv (fun e=>?_) (fun e=>?_)
     ·exact G6 hm _ _ st (h.1 e) u hx a w Q hl hr hq
     ·exact G6 hm _ _ st (h.2 e) v hy a w Q hl hr hq
    ·exact h.elim
   ·cases hc
 | .block id b,K,st,h=>by
  intro code hc a w Q hl hr hq
  cases code <;> simp only [trC] at hc <;> (try (cases hc; done))
  case region=>split at hc <;> (try split at hc) <;> (try split at hc) <;> (try split at hc) <;> (try split at hc) <;> cases hc
  case seq=>split at hc <;> cases hc
  case cond=>split at hc <;> cases hc
  case loop=>obtain ⟨_,_,e⟩:=zC.1 hc; cases e
  case block id' u =>
   obtain ⟨x',hx,e⟩:=zC.1 hc
   obtain ⟨rfl,rfl⟩:=SC.block.inj e
   simp only [sw] at h
   refine wp_block (G6 hm _ _ st h u hx a w _ hl hr fun e st' a' w' hk hl' hr'=>?_)
   cases e with
   | normal=>exact hq .normal st' a' w' hk hl' hr'
   | ret=>exact hq .ret st' a' w' hk hl' hr'
   | exit i =>
    simp only at hk
    simp only [X.exit',Exit.inBlock]
    by_cases hi:i=id'
    ·rw [if_pos hi] at hk ⊢
     exact hq .normal st' a' w' hk hl' hr'
    ·rw [if_neg hi] at hk ⊢
     exact hq (.exit i) st' a' w' hk hl' hr'
def Weak (c:Ctx) (st st':St):Prop:=st.sl.length=c.nt→st'.sl.length=c.nt∧∀ a w,Rep c st.f a w→Rep c st'.f a w
theorem Weak.trans {a b d:St} (h:Weak c a b) (k:Weak c b d):Weak c a d:=fun hl =>
 have h1:=h hl
 have h2:=k h1.1
 ⟨h2.1,fun x w hr=>h2.2 x w (h1.2 x w hr)⟩
theorem Run.weak {sc:SC} {K:X→St→Prop} {st st':St} (h:Weak c st st') (k:Run P c sc K st'):Run P c sc K st:=by
 intro code hc a w Q hl hr hq
 have h1:=h hl
 exact k code hc a w Q h1.1 (h1.2 a w hr) hq
theorem Run.seq {x y:SC} {K:X→St→Prop} {st:St} (h:Run P c x (fun e st'=>match e with | .normal=>Run P c y K st' | e=>K e st') st):Run P c (.seq x y) K st:=by
 intro code hc a w Q hl hr hq
 cases code <;> simp only [trC] at hc <;> (try (cases hc; done)) <;> (try (obtain ⟨_,_,e⟩:=zC.1 hc; cases e; done))
 case region=>split at hc <;> (try split at hc) <;> (try split at hc) <;> (try split at hc) <;> (try split at hc) <;> cases hc
 case cond=>split at hc <;> cases hc
 case seq u v =>
  split at hc
  ·rename_i x' y' hx hy
   obtain ⟨rfl,rfl⟩:=SC.seq.inj (zA hc)
   refine wp_seq (h u hx a w _ hl hr fun e st' a' w' hk hl' hr'=>?_)
   cases e with
   | normal=>exact hk v hy a' w' Q hl' hr' hq
   | exit id=>exact hq _ _ _ _ hk hl' hr'
   | ret=>exact hq _ _ _ _ hk hl' hr'
  ·cases hc
theorem Run.cond {cx:SX} {x y:SC} {K:X→St→Prop} {st:St} {t:Bool} (ht:A8 (gets st.sl) cx=.bool t) (h1:t=true→Run P c x K st) (h2:t=false→Run P c y K st):Run P c (.cond cx x y) K st:=by
 intro code hc a w Q hl hr hq
 cases code <;> simp only [trC] at hc <;> (try (cases hc; done)) <;> (try (obtain ⟨_,_,e⟩:=zC.1 hc; cases e; done))
 case region=>split at hc <;> (try split at hc) <;> (try split at hc) <;> (try split at hc) <;> (try split at hc) <;> cases hc
 case seq=>split at hc <;> cases hc
 case cond q u v =>
  split at hc
  ·rename_i x' y' hx hy
   obtain ⟨rfl,rfl,rfl⟩:=SC.cond.inj (zA hc)
   have hv:a.eval q=.bool t:=by
    obtain ⟨I,V,B,hr⟩:=hr
    have:=A5 hr q
    have e:A8 st.f.sl (trX q)=.bool t:=ht
    rw [e] at this
    simpa only [RepV] using this
   refine wp_cond_split hv (fun e=>?_) (fun e=>?_)
   ·exact h1 e u hx a w Q hl hr hq
   ·exact h2 e v hy a w Q hl hr hq
  ·cases hc
theorem Run.block {id:Nat} {b:SC} {K:X→St→Prop} {st:St} (h:Run P c b (fun e st'=>match e with | .exit i=>if i=id then K .normal st' else K (.exit i) st' | e=>K e st') st):Run P c (.block id b) K st:=by
 intro code hc a w Q hl hr hq
 cases code <;> simp only [trC] at hc <;> (try (cases hc; done))
 case region=>split at hc <;> (try split at hc) <;> (try split at hc) <;> (try split at hc) <;> (try split at hc) <;> cases hc
 case seq=>split at hc <;> cases hc
 case cond=>split at hc <;> cases hc
 case loop=>obtain ⟨_,_,e⟩:=zC.1 hc; cases e
 case block id' u =>
  obtain ⟨x',hx,e⟩:=zC.1 hc
  obtain ⟨rfl,rfl⟩:=SC.block.inj e
  refine wp_block (h u hx a w _ hl hr fun e st' a' w' hk hl' hr'=>?_)
  cases e with
  | normal=>exact hq .normal st' a' w' hk hl' hr'
  | ret=>exact hq .ret st' a' w' hk hl' hr'
  | exit i =>
   simp only at hk
   simp only [X.exit',Exit.inBlock]
   by_cases hi:i=id'
   ·rw [if_pos hi] at hk ⊢
    exact hq .normal st' a' w' hk hl' hr'
   ·rw [if_neg hi] at hk ⊢
    exact hq (.exit i) st' a' w' hk hl' hr'
theorem Ra {α:Type} {junk:List Nat} {b:SC} {K:X→St→Prop} {st:St} (H:α→St) (μ:α→Nat) (x0:α) (h0:Weak c st (H x0))
  (round:∀ x,Run P c b (fun e st'=>match e with | .normal=>∃ y,μ y < μ x∧Weak c st' (H y) | e=>K e st') (H x)):Run P c (.loop junk b) K st:=by
 intro code hc a w Q hl hr hq
 cases code <;> simp only [trC] at hc <;> (try (cases hc; done))
 case region=>split at hc <;> (try split at hc) <;> (try split at hc) <;> (try split at hc) <;> (try split at hc) <;> cases hc
 case seq=>split at hc <;> cases hc
 case cond=>split at hc <;> cases hc
 case block=>obtain ⟨_,_,e⟩:=zC.1 hc; cases e
 case loop u =>
  obtain ⟨x',hx,e⟩:=zC.1 hc
  obtain ⟨_,rfl⟩:=SC.loop.inj e
  classical
  let I:Act→World→Prop:=fun a w=>∃ x,(H x).sl.length=c.nt∧Rep c (H x).f a w
  let Mx:Act→World→Nat→Prop:=fun a w n=>∃ x,(H x).sl.length=c.nt∧Rep c (H x).f a w∧μ x≤n
  have hex:∀ a w,I a w→∃ n,Mx a w n:=fun a w ⟨x,h1,h2⟩=>⟨μ x,x,h1,h2,zH _⟩
  have least:∀ (p:Nat→Prop),(∃ n,p n)→∃ n,p n∧∀ m,m<n→¬ p m:=fun p ⟨n,hn⟩=>by
   induction n using Nat.strongRecOn with
   | _ n ih =>
    by_cases h:∃ m,m<n∧p m
    ·obtain ⟨m,h1,h2⟩:=h; exact ih m h1 h2
    ·exact ⟨n,hn,fun m h1 h2=>h ⟨m,h1,h2⟩⟩
  let ν:Act→World→Nat:=fun a w=>if h:∃ n,Mx a w n then Classical.choose (least _ h) else 0
  have hν:∀ a w,(∃ n,Mx a w n)→Mx a w (ν a w)∧∀ m,m < ν a w→¬ Mx a w m:=fun a w h=>by
   have e:ν a w=Classical.choose (least _ h):=dif_pos h
   rw [e]
   exact Classical.choose_spec (least _ h)
  refine wp_loop I ν ?_ ?_
  ·exact ⟨x0,(h0 hl).1,(h0 hl).2 a w hr⟩
  ·intro a1 w1 hI
   obtain ⟨x,h1,h2,h3⟩:=(hν a1 w1 (hex a1 w1 hI)).1
   refine round x u hx a1 w1 _ h1 h2 fun e st' a' w' hk hl' hr'=>?_
   cases e with
   | normal =>
    obtain ⟨y,hy1,hy2⟩:=hk
    have h4:=hy2 hl'
    have hM:Mx a' w' (μ y):=⟨y,h4.1,h4.2 a' w' hr',zH _⟩
    refine ⟨⟨y,h4.1,h4.2 a' w' hr'⟩,?_⟩
    have h5:=(hν a' w' ⟨_,hM⟩).2
    rcases zF (ν a' w') (ν a1 w1) with h6 | h6
    ·exact h6
    ·exact absurd hM (h5 (μ y) (by omega))
   | exit id=>exact hq _ _ _ _ hk hl' hr'
   | ret=>exact hq _ _ _ _ hk hl' hr'
end
mutual
def SV.ren (σ:Nat→Nat):SV→SV
 | .ref g=>.ref (σ g)
 | .ptr g o=>.ptr (σ g) o
 | .eptr g sz k o=>.eptr (σ g) sz k o
 | .agg l=>.agg (SV.KV σ l)
 | .tup l=>.tup (SV.KV σ l)
 | .fn f l=>.fn f (SV.KV σ l)
 | .any=>.any
 | .int k n=>.int k n
 | .bool b=>.bool b
 | .str s=>.str s
 | .nil=>.nil
 | .arr es=>.arr es
 | .vptr es k o=>.vptr es k o
 | .mp ks m=>.mp ks m
def SV.KV (σ:Nat→Nat):List SV→List SV
 | []=>[]
 | x :: r=>SV.ren σ x :: SV.KV σ r
end
def Ob.ren (σ:Nat→Nat):Ob→Ob
 | .box t l=>.box t (SV.KV σ l)
 | .tree es hs=>.tree es (hs.map fun h=>(h.1,h.2.1,σ h.2.2))
 | o=>o
section
variable {w:World} {I:Nat→Prop} {V:Nat→Option Value} {σ:Nat→Nat}
mutual
theorem RepV.ren:∀ (x:SV) (v:Value),RepV w I V (x.ren σ) v ↔ RepV w I (fun g=>V (σ g)) x v
 | .any,v=>by simp [SV.ren,RepV]
 | .int k n,v=>by simp [SV.ren,RepV]
 | .bool b,v=>by simp [SV.ren,RepV]
 | .str s,v=>by simp [SV.ren,RepV]
 | .nil,v=>by simp [SV.ren,RepV]
 | .arr es,v=>by simp [SV.ren,RepV]
 | .vptr es k o,v=>by simp [SV.ren,RepV]
 | .mp ks m,v=>by simp [SV.ren,RepV]
 | .ref g,v=>by simp [SV.ren,RepV]
 | .ptr g o,v=>by simp [SV.ren,RepV]
 | .eptr g sz k o,v=>by simp [SV.ren,RepV]
 | .agg l,v=>by
  simp only [SV.ren,RepV]
  exact ⟨fun ⟨vs,e,h⟩=>⟨vs,e,(RepVs.ren l vs).1 h⟩,fun ⟨vs,e,h⟩=>⟨vs,e,(RepVs.ren l vs).2 h⟩⟩
 | .tup l,v=>by
  simp only [SV.ren,RepV]
  exact ⟨fun ⟨vs,e,h⟩=>⟨vs,e,(RepVs.ren l vs).1 h⟩,fun ⟨vs,e,h⟩=>⟨vs,e,(RepVs.ren l vs).2 h⟩⟩
 | .fn f l,v=>by
  simp only [SV.ren,RepV]
  exact ⟨fun ⟨vs,e,h⟩=>⟨vs,e,(RepVs.ren l vs).1 h⟩,fun ⟨vs,e,h⟩=>⟨vs,e,(RepVs.ren l vs).2 h⟩⟩
theorem RepVs.ren:∀ (l:List SV) (vs:List Value),RepVs w I V (SV.KV σ l) vs ↔ RepVs w I (fun g=>V (σ g)) l vs
 | [],vs=>by simp [SV.KV,RepVs]
 | x :: r,vs=>by
  simp only [SV.KV,RepVs]
  exact ⟨fun ⟨v,q,e,h1,h2⟩=>⟨v,q,e,(RepV.ren x v).1 h1,(RepVs.ren r q).1 h2⟩,fun ⟨v,q,e,h1,h2⟩=>⟨v,q,e,(RepV.ren x v).2 h1,(RepVs.ren r q).2 h2⟩⟩
end
theorem Ob.KW (o:Ob):(o.ren σ).live ↔ o.live:=by cases o <;> simp [Ob.ren,Ob.live]
theorem TreeR.ren {S:Nat→Prop} {val:Value} (es:List (List OT)) (hs:List (Nat × Nat × Nat)):TreeR w I V S es (hs.map fun h=>(h.1,h.2.1,σ h.2.2)) val ↔ TreeR w I (fun g=>V (σ g)) S es hs val:=by
 constructor
 ·rintro ⟨t,sz,h1,h2⟩
  exact ⟨t,sz,h1,fun h hh=>h2 (h.1,h.2.1,σ h.2.2) (yD.2 ⟨h,hh,rfl⟩)⟩
 ·rintro ⟨t,sz,h1,h2⟩
  refine ⟨t,sz,h1,fun h hh=>?_⟩
  obtain ⟨q,hq,rfl⟩:=yD.1 hh
  exact h2 q hq
theorem ObR.ren {S:Nat→Prop} {val:Value} (o:Ob):ObR w I V S val (o.ren σ) ↔ ObR w I (fun g=>V (σ g)) S val o:=by
 cases o with
 | free=>simp [Ob.ren,ObR]
 | gone=>simp [Ob.ren,ObR]
 | row t sz es=>simp [Ob.ren,ObR]
 | tree es hs=>exact TreeR.ren es hs
 | mp ks m=>simp [Ob.ren,ObR]
 | it ks m seen cur=>simp [Ob.ren,ObR]
 | shd es=>simp [Ob.ren,ObR]
 | box t l =>
  simp only [Ob.ren,ObR]
  exact ⟨fun ⟨b,vs,h1,h2,h3,h4⟩=>⟨b,vs,h1,h2,h3,(RepVs.ren l vs).1 h4⟩,fun ⟨b,vs,h1,h2,h3,h4⟩=>⟨b,vs,h1,h2,h3,(RepVs.ren l vs).2 h4⟩⟩
end
def sgp:List Nat→Nat→Nat→Nat
 | [],p,g=>p+g
 | x :: _,_,0=>x
 | _ :: r,p,g+1=>sgp r p g
theorem EE:∀ (m:List Nat) (p g:Nat),sgp m p g=match m[g]? with | some x=>x | none=>p+(g-m.length)
 | [],p,g=>by simp [sgp]
 | x :: r,p,0=>by simp [sgp]
 | x :: r,p,g+1=>by simp only [sgp,List.getElem?_cons_succ,zM,zY]; exact EE r p g
def leV (σ:Nat→Nat):SV→SV→Prop
 | .any,_=>True
 | x,y=>x.ren σ=y
def leL (σ:Nat→Nat):List SV→List SV→Prop
 | [],[]=>True
 | x :: xs,y :: ys=>leV σ x y∧leL σ xs ys
 | _,_=>False
def leO (σ:Nat→Nat):Ob→Ob→Prop
 | .gone,_=>True
 | .box t l,.box t' l'=>t=t'∧leL σ l l'
 | .row t sz es,.row t' sz' es'=>t=t'∧sz=sz'∧es=es'
 | .mp ks m,.mp ks' m'=>ks=ks'∧m=m'
 | .it ks m seen cur,.it ks' m' seen' cur'=>ks=ks'∧m=m'∧seen=seen'∧cur=cur'
 | .tree es hs,o=>(Ob.tree es hs).ren σ=o
 | _,_=>False
def Yi (σ:Nat→Nat) (ob:List Ob):Nat→List Ob→Prop
 | _,[]=>True
 | k,o :: r=>leO σ o (As ob (σ k))∧Yi σ ob (k+1) r
def Yj (σ:Nat→Nat):Nat→Prop
 | 0=>True
 | n+1=>σ n=n∧Yj σ n
def WeakC (n0:Nat) (m:List Nat) (st st':St):Prop :=
 leL (sgp m st.ob.length) st'.sl st.sl∧Yi (sgp m st.ob.length) st.ob 0 st'.ob∧(m.length=st'.ob.length∧m.Nodup)∧Yj (sgp m st.ob.length) n0
section
variable {w:World} {I:Nat→Prop} {V:Nat→Option Value} {B:Nat→Nat→Prop} {σ:Nat→Nat}
theorem MZ {x y:SV} {v:Value} (h:leV σ x y) (hy:RepV w I V y v):RepV w I (fun g=>V (σ g)) x v:=by
 cases x <;> simp only [leV] at h <;> first | (simp [RepV]; done) | (subst h; exact (RepV.ren _ v).1 hy)
theorem TJ:∀ {xs ys:List SV} {vs:List Value},leL σ xs ys→RepVs w I V ys vs→RepVs w I (fun g=>V (σ g)) xs vs
 | [],[],vs,_,h=>by simpa [RepVs] using h
 | x :: xs,y :: ys,vs,h,hy=>by
  simp only [leL] at h
  simp only [RepVs] at hy ⊢
  obtain ⟨v,r,e,h1,h2⟩:=hy
  exact ⟨v,r,e,MZ h.1 h1,TJ h.2 h2⟩
 | [],_ :: _,_,h,_=>h.elim
 | _ :: _,[],_,h,_=>h.elim
theorem TK:∀ {xs ys:List SV},leL σ xs ys→xs.length=ys.length
 | [],[],_=>rfl
 | x :: xs,y :: ys,h=>by simp [TK h.2]
 | [],_ :: _,h=>h.elim
 | _ :: _,[],h=>h.elim
theorem Rb:∀ {xs ys:List SV} (k:Nat),leL σ xs ys→leV σ (gets xs k) (gets ys k)
 | [],[],k,_=>by simp [gets,leV]
 | x :: xs,y :: ys,0,h=>h.1
 | x :: xs,y :: ys,k+1,h=>Rb k h.2
 | [],_ :: _,_,h=>h.elim
 | _ :: _,[],_,h=>h.elim
theorem Yk {S:Nat→Prop} {val:Value} {o o':Ob} (h:leO σ o o') (hl:o.live) (ho:ObR w I V S val o'):ObR w I (fun g=>V (σ g)) S val o:=by
 by_cases ht:∃ es hs,o=.tree es hs
 ·obtain ⟨es,hs,rfl⟩:=ht
  have h:(Ob.tree es hs).ren σ=o':=by cases o' <;> exact h
  subst h
  exact (ObR.ren _).1 ho
 cases o <;> cases o' <;> (try exact absurd ⟨_,_,rfl⟩ ht) <;> simp only [leO] at h <;> first | exact hl.elim | exact h.elim | skip
 ·obtain ⟨rfl,h⟩:=h
  obtain ⟨b,vs,h1,h2,h3,h4⟩:=ho
  exact ⟨b,vs,h1,h2,h3,TJ h h4⟩
 ·obtain ⟨rfl,rfl,rfl⟩:=h
  exact ho
 ·obtain ⟨rfl,rfl⟩:=h
  exact ho
 ·obtain ⟨rfl,rfl,rfl,rfl⟩:=h
  exact ho
theorem FL {o o':Ob} (h:leO σ o o') (hl:o.live):o'.live:=by
 by_cases ht:∃ es hs,o=.tree es hs
 ·obtain ⟨es,hs,rfl⟩:=ht
  have h:(Ob.tree es hs).ren σ=o':=by cases o' <;> exact h
  subst h
  trivial
 cases o <;> cases o' <;> (try exact absurd ⟨_,_,rfl⟩ ht) <;> simp only [leO] at h <;> first | exact hl.elim | exact h.elim | trivial
theorem Gw {ob:List Ob}:∀ {l:List Ob} {k j:Nat},Yi σ ob k l→j<l.length→leO σ (As l j) (As ob (σ (k+j)))
 | [],k,j,_,hj=>absurd hj (by simp)
 | o :: r,k,0,h,_=>h.1
 | o :: r,k,j+1,h,hj=>by
  have:=Gw (j:=j) h.2 (by simpa using hj)
  rwa [show k+1+j=k+(j+1) by omega] at this
theorem J5:∀ {n:Nat},Yj σ n→∀ g,g<n→σ g=g
 | 0,_,g,h=>by omega
 | n+1,h,g,hg=>by
  by_cases e:g=n
  ·subst e; exact h.1
  ·exact J5 h.2 g (by omega)
theorem WeakC.wf {n0:Nat} {m:List Nat} {st st':St} (h:WeakC n0 m st st') (hw:Wf w I V B (As st.ob)):Wf w I (fun g=>V (sgp m st.ob.length g)) (fun g=>B (sgp m st.ob.length g)) (As st'.ob):=by
 obtain ⟨_,hO,⟨hlen,hnd⟩,_⟩:=h
 have hlt:∀ g,(As st'.ob g).live→g<st'.ob.length:=fun g hl=>by
  rcases zF g st'.ob.length with h1 | h1
  ·exact h1
  ·rw [B6 _ _ h1] at hl; exact hl.elim
 have hle:∀ g,(As st'.ob g).live→leO (sgp m st.ob.length) (As st'.ob g) (As st.ob (sgp m st.ob.length g)):=fun g hl=>by
  have:=Gw (j:=g) hO (hlt g hl)
  rwa [zQ] at this
 refine ⟨hw.ilt,fun g hl=>?_,fun g b hl hb=>?_,fun g b hl hb=>?_,fun g g' b hl hl' hb hb'=>?_,fun g hf=>?_,hw.gl⟩
 ·obtain ⟨val,h1,h2⟩:=hw.obj _ (FL (hle g hl) hl)
  exact ⟨val,h1,Yk (hle g hl) hl h2⟩
 ·exact hw.lt _ b (FL (hle g hl) hl) hb
 ·exact hw.dI _ b (FL (hle g hl) hl) hb
 ·have e:=hw.dO _ _ b (FL (hle g hl) hl) (FL (hle g' hl') hl') hb hb'
  have h1:=hlt g hl
  have h2:=hlt g' hl'
  rw [←hlen] at h1 h2
  rw [EE,EE,zG h1,zG h2] at e
  exact (List.getElem_inj hnd).1 e
 ·rcases zF g st'.ob.length with h1 | h1
  ·have:=Gw (j:=g) hO h1
   rw [hf] at this
   cases As st.ob (sgp m st.ob.length (0+g)) <;> exact this.elim
  ·refine hw.fr _ (B6 _ _ ?_)
   rw [EE,z6 (by omega)]
   simp only; omega
theorem Yl {c:Ctx} (m:List Nat) {st st':St} (h:WeakC c.m m st st'):Weak c st st':=by
 intro hl
 have hL:=h.1
 refine ⟨(TK hL).trans hl,fun a w hr=>?_⟩
 obtain ⟨I,V,B,hr⟩:=hr
 have hwf:=h.wf hr.wf
 refine ⟨I,_,_,hr.fr,hr.i0,hr.i1,fun g u hu=>?_,hwf,fun g b hlv hb=>?_,hr.nd,hr.sz,fun k=>?_⟩
 ·have hg:g<c.m:=by
   rcases zF g c.m with h1 | h1
   ·exact h1
   ·rw [c.vm g h1] at hu; cases hu
  rw [J5 h.2.2.2 g hg]
  exact hr.v0 g u hu
 ·have hlt:g<st'.ob.length:=by
   rcases zF g st'.ob.length with h1 | h1
   ·exact h1
   ·have:As st'.ob g=.free:=B6 _ _ h1
    have hlv':(As st'.ob g).live:=hlv
    rw [this] at hlv'; exact hlv'.elim
  have:=Gw (j:=g) h.2.1 hlt
  rw [zQ] at this
  exact hr.bh _ b (FL this hlv) hb
 ·exact MZ (Rb k hL) (hr.slots k)
end
mutual
def OT.noSh:OT→Bool
 | .sh _=>false
 | .ow es=>OT.CJ es
 | _=>true
def OT.EP:List OT→Bool
 | []=>true
 | x :: r=>OT.noSh x&&OT.EP r
def OT.CJ:List (List OT)→Bool
 | []=>true
 | x :: r=>OT.EP x&&OT.CJ r
end
theorem OT.LF:∀ {l:List OT},OT.EP l=true→∀ x∈l,OT.noSh x=true
 | [],_,x,h=>by cases h
 | y :: r,h,x,hx=>by
  simp only [OT.EP,zD] at h
  rcases zL.1 hx with rfl | hx
  ·exact h.1
  ·exact OT.LF h.2 x hx
theorem OT.Kt:∀ {l:List (List OT)},OT.CJ l=true→∀ x∈l,OT.EP x=true
 | [],_,x,h=>by cases h
 | y :: r,h,x,hx=>by
  simp only [OT.CJ,zD] at h
  rcases zL.1 hx with rfl | hx
  ·exact h.1
  ·exact OT.Kt h.2 x hx
theorem ORep.noSh {w:World} {I I' S:Nat→Prop} {o:OT} {v:Value} (h:ORep w I S o v) (hn:o.noSh=true):ORep w I' S o v:=by
 induction h with
 | int S n=>exact .int _ n
 | byte S n=>exact .byte _ n
 | bool S b=>exact .bool _ b
 | str S s h=>exact .str _ s h
 | sh S es v h=>simp [OT.noSh] at hn
 | nil S=>exact .nil _
 | hole S v h=>exact .hole _ v h
 | row S t sz es b cap cur Sub hs hb h1 h2 h3 h4 h5 h6 h7 ih =>
  refine .row _ t sz es b cap cur Sub hs hb h1 h2 h3 h4 h5 h6 fun i j hi hj=>ih i j hi hj ?_
  simp only [OT.noSh] at hn
  exact OT.LF (OT.Kt hn _ (zR hi)) _ (zR hj)
theorem RowR.noSh {w:World} {I I' S:Nat→Prop} {t:TypeId} {sz:Nat} {es:List (List OT)} {v:Value} (h:RowR w I S t sz es v) (hn:OT.CJ es=true):RowR w I' S t sz es v:=by
 rcases h with h | ⟨b,cap,cur,Sub,rfl,hs,hb,h1,h2,h3,h4,h5,h6,h7⟩
 ·exact .inl h
 ·exact .inr ⟨b,cap,cur,Sub,rfl,hs,hb,h1,h2,h3,h4,h5,h6,fun i j hi hj=>(h7 i j hi hj).noSh (OT.LF (OT.Kt hn _ (zR hi)) _ (zR hj))⟩
mutual
def SV.noSh:SV→Bool
 | .arr _=>false
 | .vptr _ _ _=>false
 | .mp _ _=>false
 | .agg l=>SV.Ms l
 | .tup l=>SV.Ms l
 | .fn _ l=>SV.Ms l
 | _=>true
def SV.Ms:List SV→Bool
 | []=>true
 | x :: r=>SV.noSh x&&SV.Ms r
end
def Ob.noSh:Ob→Bool
 | .box _ l=>SV.Ms l
 | .row _ _ es=>OT.CJ es
 | .tree es _=>OT.CJ es
 | .mp _ _=>false
 | .it _ _ _ _=>false
 | .shd _=>false
 | _=>true
section
variable {w:World} {I I':Nat→Prop} {V:Nat→Option Value}
mutual
theorem RepV.noSh:∀ (x:SV) (v:Value),x.noSh=true→RepV w I V x v→RepV w I' V x v
 | .any,v,_,_=>by simp [RepV]
 | .int k n,v,_,h=>by simpa [RepV] using h
 | .bool b,v,_,h=>by simpa [RepV] using h
 | .str s,v,_,h=>by simpa [RepV] using h
 | .nil,v,_,h=>by simpa [RepV] using h
 | .arr es,v,hn,_=>by simp [SV.noSh] at hn
 | .vptr es k o,v,hn,_=>by simp [SV.noSh] at hn
 | .mp ks m,v,hn,_=>by simp [SV.noSh] at hn
 | .ref g,v,_,h=>by simpa [RepV] using h
 | .ptr g o,v,_,h=>by simpa [RepV] using h
 | .eptr g sz k o,v,_,h=>by simpa [RepV] using h
 | .agg l,v,hn,h=>by
  simp only [RepV] at h ⊢
  obtain ⟨vs,e,h⟩:=h
  exact ⟨vs,e,RepVs.noSh l vs (by simpa [SV.noSh] using hn) h⟩
 | .tup l,v,hn,h=>by
  simp only [RepV] at h ⊢
  obtain ⟨vs,e,h⟩:=h
  exact ⟨vs,e,RepVs.noSh l vs (by simpa [SV.noSh] using hn) h⟩
 | .fn f l,v,hn,h=>by
  simp only [RepV] at h ⊢
  obtain ⟨vs,e,h⟩:=h
  exact ⟨vs,e,RepVs.noSh l vs (by simpa [SV.noSh] using hn) h⟩
theorem RepVs.noSh:∀ (l:List SV) (vs:List Value),SV.Ms l=true→RepVs w I V l vs→RepVs w I' V l vs
 | [],vs,_,h=>by simpa [RepVs] using h
 | x :: r,vs,hn,h=>by
  simp only [SV.Ms,zD] at hn
  simp only [RepVs] at h ⊢
  obtain ⟨v,q,e,h1,h2⟩:=h
  exact ⟨v,q,e,RepV.noSh x v hn.1 h1,RepVs.noSh r q hn.2 h2⟩
end
theorem ObR.noSh {S:Nat→Prop} {val:Value} {o:Ob} (h:ObR w I V S val o) (hn:o.noSh=true):ObR w I' V S val o:=by
 cases o with
 | free=>trivial
 | gone=>trivial
 | row t sz es=>exact RowR.noSh h hn
 | tree es hs =>
  obtain ⟨t,sz,h1,h2⟩:=h
  exact ⟨t,sz,RowR.noSh h1 hn,h2⟩
 | mp ks m=>cases hn
 | it ks m seen cur=>cases hn
 | shd es=>cases hn
 | box t l =>
  obtain ⟨b,vs,h1,h2,h3,h4⟩:=h
  exact ⟨b,vs,h1,h2,h3,RepVs.noSh l vs hn h4⟩
end
def HB (B:Nat→Nat→Prop) (ob:List Ob) (b:Nat):Prop:=∃ g,(As ob g).live∧B g b
structure FunPost (w:World) (I:Nat→Prop) (V:Nat→Option Value) (B:Nat→Nat→Prop) (ob ob':List Ob) (w':World) (I':Nat→Prop) (V':Nat→Option Value) (B':Nat→Nat→Prop):Prop where
 fr:Fr w (HB B ob) w'
 i0:∀ b,I b→I' b
 i1:∀ b,I' b→I b∨w.heap.size≤b∨HB B ob b
 v:VLe V V'
 wf:Wf w' I' V' B' (As ob')
 bh:∀ g b,(As ob' g).live→B' g b→HB B ob b∨w.heap.size≤b
def Fun (P:Program) (f:FuncId) (args:List SV) (ob:List Ob) (r:SV) (ob':List Ob):Prop :=
 ∀ (w:World) (I:Nat→Prop) (V:Nat→Option Value) (B:Nat→Nat→Prop) (vs:List Value),Wf w I V B (As ob)→RepVs w I V args vs →
  Calls P f vs.toArray w (fun e w'=>∃ v I' V' B',e=.returned v∧RepV w' I' V' r v∧FunPost w I V B ob ob' w' I' V' B')
def HF:List Nat→Nat→Option Nat
 | [],_=>none
 | x :: r,g=>if x=g then some 0 else (HF r g).map (·+1)
theorem J6:∀ {m:List Nat} {g i:Nat},HF m g=some i→m[i]?=some g
 | [],g,i,h=>by cases h
 | x :: r,g,i,h=>by
  simp only [HF] at h
  split at h
  ·rename_i e; obtain rfl:=zA h; simp [e]
  ·obtain ⟨j,hj,rfl⟩:=zC.1 h
   simpa using J6 hj
mutual
def Da (ob:Nat→Ob) (sel:List Nat):SV→SV
 | .ref g=>match HF sel g with
  | some i=>.ref i
  | none=>match ob g with
   | .row _ _ es=>bif OT.AC es then .arr (OT.erss es) else .any
   | .tree es hs=>bif OT.AC es then .arr (OT.erss es) else .any
   | .mp ks m=>.mp ks m
   | _=>.any
 | .ptr g o=>match HF sel g with
  | some i=>.ptr i o
  | none=>.any
 | .nil=>.arr []
 | .agg l=>.agg (I7 ob sel l)
 | .tup l=>.tup (I7 ob sel l)
 | .fn f l=>.fn f (I7 ob sel l)
 | .eptr _ _ _ _=>.any
 | .any=>.any
 | .int k n=>.int k n
 | .bool b=>.bool b
 | .str s=>.str s
 | .arr es=>.arr es
 | .vptr es k o=>.vptr es k o
 | .mp ks m=>.mp ks m
def I7 (ob:Nat→Ob) (sel:List Nat):List SV→List SV
 | []=>[]
 | x :: r=>Da ob sel x :: I7 ob sel r
end
mutual
def BK (sel:List Nat):SV→List Nat
 | .ref g=>match HF sel g with
  | some _=>[]
  | none=>[g]
 | .agg l=>BL sel l
 | .tup l=>BL sel l
 | .fn _ l=>BL sel l
 | _=>[]
def BL (sel:List Nat):List SV→List Nat
 | []=>[]
 | x :: r=>BK sel x++BL sel r
end
section
variable {w:World} {I J:Nat→Prop} {V:Nat→Option Value} {B:Nat→Nat→Prop} {ob:Nat→Ob} {sel:List Nat} {p:Nat}
theorem J7 {m:List Nat} {g i:Nat} (h:HF m g=some i):sgp m p i=g:=by rw [EE,J6 h]
theorem Mt (T:Nat→Prop):DRep false w T (.arr []) (.slice none 0 0):=.arr _ 0 [] none 0 (fun _ _=>undef) (fun _ _ _=>False) (zH _) (by omega) (.inl rfl) (fun i h=>absurd h (by simp)) (fun _ _ _ h=>h.elim) (fun e=>by cases e) (fun i j h=>absurd h (by simp))
variable {Vc:Nat→Option Value}
mutual
theorem J8 (hwf:Wf w I V B ob) (hI:∀ b,I b→J b) (hVc:∀ g i,HF sel g=some i→Vc i=V g):∀ (x:SV) (v:Value),(∀ g b,g∈BK sel x→(ob g).live→B g b→J b)→RepV w I V x v→RepV w J Vc (Da ob sel x) v
 | .any,v,_,_=>by simp [Da,RepV]
 | .eptr _ _ _ _,v,_,_=>by simp [Da,RepV]
 | .int k n,v,_,h=>by simpa [Da,RepV] using h
 | .bool b,v,_,h=>by simpa [Da,RepV] using h
 | .str s,v,_,h=>by simpa [Da,RepV] using h
 | .nil,v,_,h=>by
  simp only [RepV] at h
  subst h
  simp only [Da,RepV]
  exact Mt _
 | .arr es,v,_,h=>by
  simp only [Da,RepV] at h ⊢
  exact h.up hI
 | .mp ks m,v,_,h=>by
  simp only [Da,RepV] at h ⊢
  exact h.mono (KeepS.refl _ _) hI
 | .vptr es k o,v,_,h=>by
  simp only [Da,RepV] at h ⊢
  obtain ⟨b,off,c,h1,h2⟩:=h
  exact ⟨b,off,c,h1.up hI,h2⟩
 | .ref g,v,hU,h=>by
  simp only [Da]
  simp only [BK] at hU
  split
  ·rename_i i hi
   simp only [RepV] at h ⊢
   rw [hVc _ _ hi]; exact h
  ·rename_i hi
   split
   ·rename_i t sz es hob
    rw [hi] at hU
    cases hf:OT.AC es with
    | false=>simp [RepV]
    | true =>
     obtain ⟨val,h1,h2⟩:=hwf.obj g (by rw [hob]; trivial)
     rw [hob] at h2
     simp only [RepV,cond_true] at h ⊢
     rw [h1] at h
     obtain rfl:=zA h.1
     exact RowR.er h2 (fun b hb=>hU g b (by simp) (by rw [hob]; trivial) hb) hI hf
   ·rename_i es hs hob
    rw [hi] at hU
    cases hf:OT.AC es with
    | false=>simp [RepV]
    | true =>
     obtain ⟨val,h1,h2⟩:=hwf.obj g (by rw [hob]; trivial)
     rw [hob] at h2
     simp only [RepV,cond_true] at h ⊢
     rw [h1] at h
     obtain rfl:=zA h.1
     obtain ⟨t,sz,h3,_⟩:=h2
     exact RowR.er h3 (fun b hb=>hU g b (by simp) (by rw [hob]; trivial) hb) hI hf
   ·rename_i ks m hob
    rw [hi] at hU
    obtain ⟨val,h1,h2⟩:=hwf.obj g (by rw [hob]; trivial)
    rw [hob] at h2
    simp only [RepV] at h ⊢
    rw [h1] at h
    obtain rfl:=zA h.1
    exact MapO.give h2 (fun b hb=>hU g b (by simp) (by rw [hob]; trivial) hb) hI
   ·simp [RepV]
 | .ptr g o,v,_,h=>by
  simp only [Da]
  split
  ·rename_i i hi
   simp only [RepV] at h ⊢
   rw [hVc _ _ hi]; exact h
  ·simp [RepV]
 | .agg l,v,hU,h=>by
  simp only [Da,RepV] at h ⊢
  obtain ⟨vs,e,h⟩:=h
  exact ⟨vs,e,HG hwf hI hVc l vs (by simpa only [BK] using hU) h⟩
 | .tup l,v,hU,h=>by
  simp only [Da,RepV] at h ⊢
  obtain ⟨vs,e,h⟩:=h
  exact ⟨vs,e,HG hwf hI hVc l vs (by simpa only [BK] using hU) h⟩
 | .fn f l,v,hU,h=>by
  simp only [Da,RepV] at h ⊢
  obtain ⟨vs,e,h⟩:=h
  exact ⟨vs,e,HG hwf hI hVc l vs (by simpa only [BK] using hU) h⟩
theorem HG (hwf:Wf w I V B ob) (hI:∀ b,I b→J b) (hVc:∀ g i,HF sel g=some i→Vc i=V g):∀ (l:List SV) (vs:List Value),(∀ g b,g∈BL sel l→(ob g).live→B g b→J b)→RepVs w I V l vs→RepVs w J Vc (I7 ob sel l) vs
 | [],vs,_,h=>by simpa [I7,RepVs] using h
 | x :: r,vs,hU,h=>by
  simp only [I7,RepVs] at h ⊢
  obtain ⟨v,q,e,h1,h2⟩:=h
  exact ⟨v,q,e,J8 hwf hI hVc x v (fun g b hg hl hb=>hU g b (by simp only [BL,zK]; exact .inl hg) hl hb) h1,HG hwf hI hVc r q (fun g b hg hl hb=>hU g b (by simp only [BL,zK]; exact .inr hg) hl hb) h2⟩
end
mutual
theorem UA:∀ (x:SV) (g:Nat),g∈BK sel x→HF sel g=none
 | .ref g0,g,h=>by
  simp only [BK] at h
  split at h
  ·cases h
  ·rename_i hp; rw [zW.1 h]; exact hp
 | .agg l,g,h=>Gx l g (by simpa only [BK] using h)
 | .tup l,g,h=>Gx l g (by simpa only [BK] using h)
 | .fn f l,g,h=>Gx l g (by simpa only [BK] using h)
 | .any,g,h=>by simp [BK] at h
 | .eptr _ _ _ _,g,h=>by simp [BK] at h
 | .int k n,g,h=>by simp [BK] at h
 | .bool b,g,h=>by simp [BK] at h
 | .str s,g,h=>by simp [BK] at h
 | .nil,g,h=>by simp [BK] at h
 | .arr es,g,h=>by simp [BK] at h
 | .vptr es k o,g,h=>by simp [BK] at h
 | .mp ks m,g,h=>by simp [BK] at h
 | .ptr _ _,g,h=>by simp [BK] at h
theorem Gx:∀ (l:List SV) (g:Nat),g∈BL sel l→HF sel g=none
 | [],g,h=>by simp [BL] at h
 | x :: r,g,h=>by
  simp only [BL,zK] at h
  rcases h with h | h
  ·exact UA x g h
  ·exact Gx r g h
end
mutual
theorem Mu {ob':Nat→Ob}:∀ (x:SV),(∀ g,g∈BK sel x→ob' g=ob g)→Da ob' sel x=Da ob sel x
 | .any,_=>rfl
 | .eptr _ _ _ _,_=>rfl
 | .int k n,_=>rfl
 | .bool b,_=>rfl
 | .str s,_=>rfl
 | .nil,_=>rfl
 | .arr es,_=>rfl
 | .mp ks m,_=>rfl
 | .vptr es k o,_=>rfl
 | .ptr g o,_=>rfl
 | .ref g,h=>by
  simp only [Da]
  simp only [BK] at h
  split
  ·rfl
  ·rename_i hi
   rw [hi] at h
   rw [h g (by simp)]
 | .agg l,h=>by simp only [Da]; rw [FN l h]
 | .tup l,h=>by simp only [Da]; rw [FN l h]
 | .fn f l,h=>by simp only [Da]; rw [FN l h]
theorem FN {ob':Nat→Ob}:∀ (l:List SV),(∀ g,g∈BL sel l→ob' g=ob g)→I7 ob' sel l=I7 ob sel l
 | [],_=>rfl
 | x :: r,h=>by
  simp only [I7]
  rw [Mu x (fun g hg=>h g (by simp only [BL,zK]; exact .inl hg)),FN r (fun g hg=>h g (by simp only [BL,zK]; exact .inr hg))]
end
def SV.isNil:SV→Bool
 | .nil=>true
 | .any=>false
 | .int _ _=>false
 | .bool _=>false
 | .str _=>false
 | .arr _=>false
 | .agg _=>false
 | .tup _=>false
 | .ref _=>false
 | .ptr _ _=>false
 | .eptr _ _ _ _=>false
 | .vptr _ _ _=>false
 | .fn _ _=>false
 | .mp _ _=>false
def Rc (b:Bool) (ob:Nat→Ob) (sel:List Nat) (x:SV):SV:=bif b&&x.isNil then .nil else Da ob sel x
def Ha:List Bool→(Nat→Ob)→List Nat→List SV→List SV
 | [],ob,sel,xs=>I7 ob sel xs
 | _ :: _,_,_,[]=>[]
 | b :: h,ob,sel,x :: r=>Rc b ob sel x :: Ha h ob sel r
theorem UC (hwf:Wf w I V B ob) (hI:∀ b,I b→J b) (hVc:∀ g i,HF sel g=some i→Vc i=V g) (b:Bool) (x:SV) (v:Value) (hU:∀ g b,g∈BK sel x→(ob g).live→B g b→J b) (h:RepV w I V x v):RepV w J Vc (Rc b ob sel x) v:=by
 unfold Rc
 cases hb:b&&x.isNil with
 | false=>exact J8 hwf hI hVc x v hU h
 | true =>
  rw [cond_true]
  rw [zD] at hb
  cases x with
  | nil=>simpa only [RepV] using h
  | _=>cases hb.2
theorem LG (hwf:Wf w I V B ob) (hI:∀ b,I b→J b) (hVc:∀ g i,HF sel g=some i→Vc i=V g):∀ (hd:List Bool) (l:List SV) (vs:List Value),(∀ g b,g∈BL sel l→(ob g).live→B g b→J b)→RepVs w I V l vs→RepVs w J Vc (Ha hd ob sel l) vs
 | [],l,vs,hU,h=>HG hwf hI hVc l vs hU h
 | b :: hd,[],vs,_,h=>by simpa [Ha,RepVs] using h
 | b :: hd,x :: r,vs,hU,h=>by
  simp only [Ha,RepVs] at h ⊢
  obtain ⟨v,q,e,h1,h2⟩:=h
  exact ⟨v,q,e,UC hwf hI hVc b x v (fun g b hg hl hb=>hU g b (by simp only [BL,zK]; exact .inl hg) hl hb) h1,LG hwf hI hVc hd r q (fun g b hg hl hb=>hU g b (by simp only [BL,zK]; exact .inr hg) hl hb) h2⟩
theorem IQ {ob':Nat→Ob}:∀ (hd:List Bool) (l:List SV),(∀ g,g∈BL sel l→ob' g=ob g)→Ha hd ob' sel l=Ha hd ob sel l
 | [],l,h=>FN l h
 | b :: hd,[],_=>rfl
 | b :: hd,x :: r,h=>by
  simp only [Ha,Rc]
  rw [Mu x (fun g hg=>h g (by simp only [BL,zK]; exact .inl hg)),IQ hd r (fun g hg=>h g (by simp only [BL,zK]; exact .inr hg))]
end
mutual
def SV.idsB (n:Nat):SV→Bool
 | .ref g=>decide (g < n)
 | .ptr g _=>decide (g < n)
 | .eptr g _ _ _=>decide (g < n)
 | .agg l=>SV.Mv n l
 | .tup l=>SV.Mv n l
 | .fn _ l=>SV.Mv n l
 | _=>true
def SV.Mv (n:Nat):List SV→Bool
 | []=>true
 | x :: r=>SV.idsB n x&&SV.Mv n r
end
def Ob.idsB (n:Nat):Ob→Bool
 | .box _ l=>SV.Mv n l
 | .tree _ hs=>hs.all fun h=>decide (h.2.2 < n)
 | _=>true
section
variable {w:World} {I:Nat→Prop} {V V':Nat→Option Value} {n:Nat}
mutual
theorem RepV.idsB (hV:∀ g,g<n→V' g=V g):∀ (x:SV) (v:Value),x.idsB n=true→RepV w I V x v→RepV w I V' x v
 | .any,v,_,_=>by simp [RepV]
 | .int k m,v,_,h=>by simpa [RepV] using h
 | .bool b,v,_,h=>by simpa [RepV] using h
 | .str s,v,_,h=>by simpa [RepV] using h
 | .nil,v,_,h=>by simpa [RepV] using h
 | .arr es,v,_,h=>by simpa [RepV] using h
 | .vptr es k o,v,_,h=>by simpa [RepV] using h
 | .mp ks m,v,_,h=>by simpa [RepV] using h
 | .ref g,v,hn,h=>by
  simp only [SV.idsB,decide_eq_true_eq] at hn
  simp only [RepV] at h ⊢
  rw [hV g hn]; exact h
 | .ptr g o,v,hn,h=>by
  simp only [SV.idsB,decide_eq_true_eq] at hn
  simp only [RepV] at h ⊢
  rw [hV g hn]; exact h
 | .eptr g sz k o,v,hn,h=>by
  simp only [SV.idsB,decide_eq_true_eq] at hn
  simp only [RepV] at h ⊢
  rw [hV g hn]; exact h
 | .agg l,v,hn,h=>by
  simp only [RepV] at h ⊢
  obtain ⟨vs,e,h⟩:=h
  exact ⟨vs,e,RepVs.idsB hV l vs (by simpa [SV.idsB] using hn) h⟩
 | .tup l,v,hn,h=>by
  simp only [RepV] at h ⊢
  obtain ⟨vs,e,h⟩:=h
  exact ⟨vs,e,RepVs.idsB hV l vs (by simpa [SV.idsB] using hn) h⟩
 | .fn f l,v,hn,h=>by
  simp only [RepV] at h ⊢
  obtain ⟨vs,e,h⟩:=h
  exact ⟨vs,e,RepVs.idsB hV l vs (by simpa [SV.idsB] using hn) h⟩
theorem RepVs.idsB (hV:∀ g,g<n→V' g=V g):∀ (l:List SV) (vs:List Value),SV.Mv n l=true→RepVs w I V l vs→RepVs w I V' l vs
 | [],vs,_,h=>by simpa [RepVs] using h
 | x :: r,vs,hn,h=>by
  simp only [SV.Mv,zD] at hn
  simp only [RepVs] at h ⊢
  obtain ⟨v,q,e,h1,h2⟩:=h
  exact ⟨v,q,e,RepV.idsB hV x v hn.1 h1,RepVs.idsB hV r q hn.2 h2⟩
end
theorem ObR.idsB {S:Nat→Prop} {val:Value} {o:Ob} (hV:∀ g,g<n→V' g=V g) (hn:o.idsB n=true) (h:ObR w I V S val o):ObR w I V' S val o:=by
 cases o with
 | free=>trivial
 | mp ks m=>exact h
 | it ks m seen cur=>exact h
 | shd es=>exact h
 | gone=>trivial
 | row t sz es=>exact h
 | tree es hs =>
  obtain ⟨t,sz,h1,h2⟩:=h
  refine ⟨t,sz,h1,fun q hq=>?_⟩
  obtain ⟨g1,g2,b,c,v,e,g3,g4,g5⟩:=h2 q hq
  have hb:q.2.2<n:=of_decide_eq_true (zO.1 hn q hq)
  exact ⟨g1,g2,b,c,v,e,g3,by rw [hV _ hb]; exact g4,g5⟩
 | box t l =>
  obtain ⟨b,vs,h1,h2,h3,h4⟩:=h
  exact ⟨b,vs,h1,h2,h3,RepVs.idsB hV l vs hn h4⟩
end
def mkU (σ:Nat→Nat):Nat→List Ob→List (Nat × Ob)
 | _,[]=>[]
 | k,o :: r=>(σ k,o.ren σ) :: mkU σ (k+1) r
def Pm (ob:Nat→Ob) (σ:Nat→Nat):Nat→List Ob→Prop
 | _,[]=>True
 | k,o :: r=>ob (σ k)=o.ren σ∧Pm ob σ (k+1) r
theorem Ku {ob:Nat→Ob} {σ:Nat→Nat}:∀ {l:List Ob} {k j:Nat},Pm ob σ k l→j<l.length→ob (σ (k+j))=(As l j).ren σ
 | [],k,j,_,h=>absurd h (by simp)
 | o :: r,k,0,h,_=>h.1
 | o :: r,k,j+1,h,hj=>by
  have:=Ku (j:=j) h.2 (by simpa using hj)
  rwa [show k+1+j=k+(j+1) by omega] at this
theorem KX:∀ {l:List Ob} {j:Nat},j<l.length→As l j∈l
 | [],j,h=>absurd h (by simp)
 | o :: r,0,_=>by simp [As]
 | o :: r,j+1,h=>by simp only [As,zL]; exact .inr (KX (by simpa using h))
theorem Qh {σ:Nat→Nat}:∀ {l:List Ob} {k g:Nat},g∈(mkU σ k l).map (·.1) ↔ ∃ j,j<l.length∧σ (k+j)=g
 | [],k,g=>by simp [mkU]
 | o :: r,k,g=>by
  simp only [mkU,zN,zL]
  rw [Qh]
  constructor
  ·rintro (h | ⟨j,h1,h2⟩)
   ·exact ⟨0,by simp,h.symm⟩
   ·exact ⟨j+1,by simp; omega,by rw [←h2]; congr 1; omega⟩
  ·rintro ⟨j,h1,h2⟩
   cases j with
   | zero=>exact .inl h2.symm
   | succ j=>exact .inr ⟨j,by simp at h1; omega,by rw [←h2]; congr 1; omega⟩
theorem N3 {σ:Nat→Nat}:∀ {l:List Ob} {k j:Nat},(∀ i i',k≤i→i<k+l.length→k≤i'→i' < k+l.length→σ i=σ i'→i=i')→j<l.length→Bb (mkU σ k l) (σ (k+j))=some ((As l j).ren σ)
 | [],k,j,_,h=>absurd h (by simp)
 | o :: r,k,0,_,_=>by simp [mkU,Bb,As]
 | o :: r,k,j+1,hi,hj=>by
  simp only [mkU,Bb]
  simp only [zM] at hi hj
  rw [if_neg (fun e=>by have:=hi k (k+(j+1)) (zH _) (by omega) (by omega) (by omega) e; omega)]
  have:=N3 (l:=r) (k:=k+1) (j:=j) (fun i i' h1 h2 h3 h4 e=>hi i i' (by omega) (by omega) (by omega) (by omega) e) (by omega)
  rwa [show k+1+j=k+(j+1) by omega] at this
def N4 (ob:Nat→Ob) (p:Nat):Prop:=∀ g,p≤g→ob g=.free
theorem Ie:∀ {m:List Nat} {g i:Nat},m.Nodup→m[i]?=some g→HF m g=some i
 | [],g,i,_,h=>by simp at h
 | x :: r,g,i,hn,h=>by
  rw [yA] at hn
  simp only [HF]
  cases i with
  | zero=>simp only [List.getElem?_cons_zero,zB] at h; rw [if_pos h]
  | succ i =>
   simp only [List.getElem?_cons_succ] at h
   have hne:¬ x=g:=fun e=>hn.1 (e▸z8 h)
   rw [if_neg hne,Ie hn.2 h]; rfl
theorem CallP.of {P:Program} {f:FuncId} {cas:List SV} {fob:List Ob} {r:SV} {fob':List Ob} (h:Fun P f cas fob r fob') {xs:List SV} {ob:Nat→Ob} {p:Nat} {K:Kont} (sel:List Nat)
  (hargs:∃ hd,Ha hd ob sel xs=cas) (hsel:sel.length=fob.length∧sel.Nodup) (hlt:∀ g,g∈sel→g<p) (hlen:fob.length≤fob'.length) (hob:Pm ob (sgp sel p) 0 fob) (hids:∀ o,o∈fob→o.idsB fob.length=true) (hfree:N4 ob p)
  (hsh:BL sel xs=[]∨(r.noSh=true∧∀ o,o∈fob'→o.noSh=true)) (hK:K (r.ren (sgp sel p)) (mkU (sgp sel p) 0 fob') (BL sel xs++sel)):CallP P f xs ob p K:=by
 refine ⟨_,_,_,hK,fun ob' hrd hup w I V B vs hwf hxs=>?_⟩
 obtain ⟨hsl,hsn⟩:=hsel
 have hs1:∀ k,k<fob.length→∃ g,sel[k]?=some g∧sgp sel p k=g∧g<p:=fun k hk=>by
  have:k<sel.length:=by omega
  refine ⟨sel[k],zG this,by rw [EE,zG this],hlt _ (zR this)⟩
 have hs2:∀ k,fob.length≤k→sgp sel p k=p+(k-fob.length):=fun k hk=>by
  rw [EE,z6 (by omega),hsl]
 have hinj:∀ i j,sgp sel p i=sgp sel p j→i=j:=fun i j e=>by
  rcases zF i fob.length with h1 | h1 <;> rcases zF j fob.length with h2 | h2
  ·obtain ⟨g,g1,g2,g3⟩:=hs1 i h1
   obtain ⟨g',g1',g2',g3'⟩:=hs1 j h2
   have e2:g=g':=by rw [←g2,← g2',e]
   subst e2
   have a1:=Ie hsn g1
   have a2:=Ie hsn g1'
   rw [a1] at a2
   exact zA a2
  ·obtain ⟨g,g1,g2,g3⟩:=hs1 i h1
   have:=hs2 j h2
   omega
  ·obtain ⟨g,g1,g2,g3⟩:=hs1 j h2
   have:=hs2 i h1
   omega
  ·have:=hs2 i h1
   have:=hs2 j h2
   omega
 have htouch:∀ g,A7 (mkU (sgp sel p) 0 fob') g ↔ ∃ k,k<fob'.length∧sgp sel p k=g:=fun g=>by
  unfold A7
  rw [Qh]
  simp
 have hlook:∀ k,k<fob'.length→AL ob' (mkU (sgp sel p) 0 fob') (sgp sel p k)=(As fob' k).ren (sgp sel p):=fun k hk=>by
  have:=N3 (σ:=sgp sel p) (l:=fob') (k:=0) (j:=k) (fun i i' _ _ _ _ e=>hinj i i' e) hk
  rw [zQ] at this
  unfold AL
  rw [this]; rfl
 have hobk:∀ k,k<fob.length→ob' (sgp sel p k)=(As fob k).ren (sgp sel p):=fun k hk=>by
  have:=Ku hob hk
  rw [zQ] at this
  obtain ⟨g,g1,g2,g3⟩:=hs1 k hk
  rw [←this,g2]
  exact hrd g (zZ _ (z8 g1))
 have hnew:∀ k,fob.length≤k→k<fob'.length→ob' (sgp sel p k)=.free:=fun k h1 h2=>by
  rw [hup _ ((htouch _).2 ⟨k,h2,rfl⟩)]
  exact hfree _ (by rw [hs2 k h1]; omega)
 have hlv:∀ k,(As fob k).live→k<fob.length:=fun k hl=>by
  rcases zF k fob.length with h1 | h1
  ·exact h1
  ·rw [B6 _ _ h1] at hl; exact hl.elim
 have hlv':∀ k,(As fob' k).live→k<fob'.length:=fun k hl=>by
  rcases zF k fob'.length with h1 | h1
  ·exact h1
  ·rw [B6 _ _ h1] at hl; exact hl.elim
 have hlvo:∀ k,(As fob k).live→(ob' (sgp sel p k)).live:=fun k hl=>by
  rw [hobk k (hlv k hl)]
  exact (Ob.KW _).2 hl
 have hlent:∀ g,g∈BL sel xs→ob' g=ob g:=fun g hg=>hrd g (List.mem_append_left _ hg)
 let Vc:Nat→Option Value:=fun k=>if k<fob.length then V (sgp sel p k) else none
 let Bc:Nat→Nat→Prop:=fun k=>B (sgp sel p k)
 let J:Nat→Prop:=fun b=>I b∨∃ g,g∈BL sel xs∧(ob' g).live∧B g b
 have notsel:∀ g,g∈BL sel xs→∀ k,k<fob.length→sgp sel p k≠g:=by
  intro g hg k hk e
  have h1:=Gx xs g hg
  obtain ⟨g',g1,g2,_⟩:=hs1 k hk
  rw [g2] at e
  subst e
  rw [Ie hsn g1] at h1
  cases h1
 have hIJ:∀ b,I b→J b:=fun b hb=>.inl hb
 have hwfc:Wf w J Vc Bc (As fob):=by
  refine ⟨fun b hb=>?_,fun k hl=>?_,fun k b hl hb=>hwf.lt _ b (hlvo k hl) hb,fun k b hl hb hJ=>?_,fun k k' b hl hl' hb hb'=>hinj _ _ (hwf.dO _ _ b (hlvo k hl) (hlvo k' hl') hb hb'),fun k hf=>?_,hwf.gl.keep (KeepS.refl _ _) hIJ⟩
  ·rcases hb with hb | ⟨g,_,hl,hb⟩
   ·exact hwf.ilt b hb
   ·exact hwf.lt g b hl hb
  ·have hk:=hlv k hl
   obtain ⟨val,h1,h2⟩:=hwf.obj _ (hlvo k hl)
   refine ⟨val,by simp only [Vc,hk,if_true]; exact h1,?_⟩
   rw [hobk k hk] at h2
   have h3:=(ObR.ren _).1 h2
   have h4:=ObR.idsB (n:=fob.length) (V':=Vc) (fun g hg=>by simp only [Vc,hg,if_true]) (hids _ (KX hk)) h3
   exact h4.keep ⟨zH _,fun _ _ _=>rfl⟩ hIJ (VLe.refl _) fun _ _ _=>rfl
  ·rcases hJ with hJ | ⟨g,hg,hlg,hgb⟩
   ·exact hwf.dI _ b (hlvo k hl) hb hJ
   ·exact notsel g hg k (hlv k hl) (hwf.dO _ _ b (hlvo k hl) hlg hb hgb)
  ·by_cases hk:k<fob.length
   ·simp only [Vc,hk,if_true]
    refine hwf.fr _ ?_
    rw [hobk k hk,hf]; rfl
   ·simp only [Vc,hk,if_false]
 have hargs':RepVs w J Vc cas vs:=by
  obtain ⟨hd,hargs⟩:=hargs
  rw [←hargs,← IQ (ob:=ob) (ob':=ob') hd xs hlent]
  refine LG hwf hIJ (fun g i hi=>?_) hd xs vs (fun g b hg hl hb=>.inr ⟨g,hg,hl,hb⟩) hxs
  have hlt':i<fob.length:=by rw [←hsl]; exact (yG.1 (J6 hi)).1
  simp only [Vc,hlt',if_true,J7 hi]
 refine (h w J Vc Bc vs hwfc hargs').mono ?_
 rintro e w' ⟨v,I',V',B',rfl,hr,hpost⟩
 obtain ⟨hfr,hi0,hi1,hv,hwf',hbh⟩:=hpost
 have hHB:∀ b,HB Bc fob b→∃ g,A7 (mkU (sgp sel p) 0 fob') g∧(ob' g).live∧B g b:=fun b ⟨k,hl,hb⟩=>⟨sgp sel p k,(htouch _).2 ⟨k,by have:=hlv k hl; omega,rfl⟩,hlvo k hl,hb⟩
 classical
 let V2:Nat→Option Value:=fun g=>if hg:∃ k,k<fob'.length∧sgp sel p k=g then V' (Classical.choose hg) else V g
 let B2:Nat→Nat→Prop:=fun g=>if hg:∃ k,k<fob'.length∧sgp sel p k=g then B' (Classical.choose hg) else B g
 let I2:Nat→Prop:=fun b=>I b∨(I' b∧¬ ∃ g,g∈BL sel xs∧(ob' g).live∧B g b)
 have hV2:∀ k,k<fob'.length→V2 (sgp sel p k)=V' k:=fun k hk=>by
  have hg:∃ k',k' < fob'.length∧sgp sel p k'=sgp sel p k:=⟨k,hk,rfl⟩
  have:V2 (sgp sel p k)=V' (Classical.choose hg):=dif_pos hg
  rw [this,hinj _ _ (Classical.choose_spec hg).2]
 have hB2:∀ k,k<fob'.length→B2 (sgp sel p k)=B' k:=fun k hk=>by
  have hg:∃ k',k' < fob'.length∧sgp sel p k'=sgp sel p k:=⟨k,hk,rfl⟩
  have:B2 (sgp sel p k)=B' (Classical.choose hg):=dif_pos hg
  rw [this,hinj _ _ (Classical.choose_spec hg).2]
 have hV2n:∀ g,¬ A7 (mkU (sgp sel p) 0 fob') g→V2 g=V g:=fun g hg=>dif_neg fun h=>hg ((htouch g).2 h)
 have hB2n:∀ g,¬ A7 (mkU (sgp sel p) 0 fob') g→B2 g=B g:=fun g hg=>dif_neg fun h=>hg ((htouch g).2 h)
 have hI2':∀ b,I2 b→I' b:=fun b hb=>by
  rcases hb with hb | hb
  ·exact hi0 b (hIJ b hb)
  ·exact hb.1
 have hVV:VLe V V2:=fun g u hu=>by
  by_cases hg:A7 (mkU (sgp sel p) 0 fob') g
  ·obtain ⟨k,hk,rfl⟩:=(htouch g).1 hg
   rw [hV2 k hk]
   by_cases h1:k<fob.length
   ·exact hv k u (by simp only [Vc,h1,if_true]; exact hu)
   ·rw [hwf.fr _ (hnew k (by omega) hk)] at hu; cases hu
  ·rw [hV2n g hg]; exact hu
 have hV'σ:VLe V' (fun k=>V2 (sgp sel p k)):=fun k u hu=>by
  rcases zF k fob'.length with h1 | h1
  ·simp only [hV2 k h1]; exact hu
  ·rw [hwf'.fr k (B6 _ _ h1)] at hu; cases hu
 have kr:KeepS I' w' w':=⟨zH _,fun _ _ _=>rfl⟩
 have kr2:KeepS I2 w' w':=⟨zH _,fun _ _ _=>rfl⟩
 have hmove:∀ {b},I' b→BL sel xs=[]→I2 b:=fun {b} hb hn=>.inr ⟨hb,fun ⟨g,hg,_⟩=>by rw [hn] at hg; cases hg⟩
 have hres:RepV w' I2 V2 (r.ren (sgp sel p)) v:=by
  refine (RepV.ren r v).2 ?_
  rcases hsh with hn | ⟨hn,_⟩
  ·exact RepV.mono kr (fun b hb=>hmove hb hn) hV'σ _ _ hr
  ·exact RepV.mono kr2 (fun _ h=>h) hV'σ _ _ (RepV.noSh (I:=I') (I':=I2) r v hn hr)
 have hobr:∀ k,(As fob' k).live→∃ val,V2 (sgp sel p k)=some val∧ObR w' I2 V2 (B2 (sgp sel p k)) val ((As fob' k).ren (sgp sel p)):=fun k hl=>by
  have hk:=hlv' k hl
  obtain ⟨val,h1,h2⟩:=hwf'.obj k hl
  refine ⟨val,by rw [hV2 k hk]; exact h1,(ObR.ren _).2 ?_⟩
  rw [hB2 k hk]
  rcases hsh with hn | ⟨_,hn⟩
  ·exact h2.keep kr (fun b hb=>hmove hb hn) hV'σ fun _ _ _=>rfl
  ·exact (ObR.noSh (I':=I2) h2 (hn _ (KX hk))).keep kr2 (fun _ h=>h) hV'σ fun _ _ _=>rfl
 have hi2:∀ b,I2 b→I b∨w.heap.size≤b∨∃ g,A7 (mkU (sgp sel p) 0 fob') g∧(ob' g).live∧B g b:=fun b hb=>by
  rcases hb with hb | ⟨hb,hno⟩
  ·exact .inl hb
  ·rcases hi1 b hb with h1 | h1 | h1
   ·rcases h1 with h1 | h1
    ·exact .inl h1
    ·exact (hno h1).elim
   ·exact .inr (.inl h1)
   ·exact .inr (.inr (hHB b h1))
 have hkeep:∀ b,b<w.heap.size→(∀ g,A7 (mkU (sgp sel p) 0 fob') g→(ob' g).live→¬ B g b)→w'.heap[b]?=w.heap[b]?:=fun b hb hno=>hfr.block b hb fun hH=>by
  obtain ⟨g,h1,h2,h3⟩:=hHB b hH
  exact hno g h1 h2 h3
 have live2:∀ k,k<fob'.length→(AL ob' (mkU (sgp sel p) 0 fob') (sgp sel p k)).live→(As fob' k).live:=fun k hk hl=>by
  rw [hlook k hk] at hl
  exact (Ob.KW _).1 hl
 have hbf:∀ k b,(As fob' k).live→B' k b→(w.heap.size≤b∧b<w'.heap.size)∨∃ g0,A7 (mkU (sgp sel p) 0 fob') g0∧(ob' g0).live∧B g0 b:=fun k b hl hb=>by
  rcases hbh k b hl hb with h1 | h1
  ·exact .inr (hHB b h1)
  ·exact .inl ⟨h1,hwf'.lt k b hl hb⟩
 have hwf2:Wf w' I2 V2 B2 (AL ob' (mkU (sgp sel p) 0 fob')):=by
  refine hwf.upd (A7 (mkU (sgp sel p) 0 fob')) hfr.size hkeep (fun b hb=>.inl hb) hVV (fun g hg=>⟨J3 hg,hB2n g hg,fun hf=>by rw [hV2n g hg]; exact hwf.fr g hf⟩) hi2 (fun b hb=>hwf'.ilt b (hI2' b hb)) (fun g hg hl=>?_) (fun g b hg hl hb=>?_) (fun g b hg hl hb hI=>?_) (fun g g' b hg hg' hl hl' hb hb'=>?_) (fun g hg hf=>?_)
  ·obtain ⟨k,hk,rfl⟩:=(htouch g).1 hg
   rw [hlook k hk]
   exact hobr k (live2 k hk hl)
  ·obtain ⟨k,hk,rfl⟩:=(htouch g).1 hg
   rw [hB2 k hk] at hb
   exact hbf k b (live2 k hk hl) hb
  ·obtain ⟨k,hk,rfl⟩:=(htouch g).1 hg
   rw [hB2 k hk] at hb
   exact hwf'.dI k b (live2 k hk hl) hb (hI2' b hI)
  ·obtain ⟨k,hk,rfl⟩:=(htouch g).1 hg
   obtain ⟨k',hk',rfl⟩:=(htouch g').1 hg'
   rw [hB2 k hk] at hb
   rw [hB2 k' hk'] at hb'
   rw [hwf'.dO k k' b (live2 k hk hl) (live2 k' hk' hl') hb hb']
  ·obtain ⟨k,hk,rfl⟩:=(htouch g).1 hg
   rw [hV2 k hk]
   rw [hlook k hk] at hf
   refine hwf'.fr k ?_
   cases hq:As fob' k <;> rw [hq] at hf <;> simp [Ob.ren] at hf ⊢
 refine ⟨v,I2,V2,B2,rfl,hres,⟨hwf2,hfr.os,hfr.tape,hfr.output,hfr.size,hkeep,fun b hb=>.inl hb,hi2,hVV,fun g hg=>hB2n g hg,fun g b hg hl hb=>?_⟩⟩
 obtain ⟨k,hk,rfl⟩:=(htouch g).1 hg
 rw [hB2 k hk] at hb
 exact (hbf k b (live2 k hk hl) hb).imp (fun h=>h.1) id
inductive RX where
 |tmp (t:Nat)
 |cell (a:Nat) (agg:Bool) (n:Nat)
def Qi (P:Program) (nt:Nat):ResultVar→Option RX
 | .tmp t=>some (.tmp t)
 | .cell a t=>match IL P t,P.info? t with
  | some g,some i=>if g || i.size == 1 then some (.cell a g i.size) else none
  | _,_=>none
def rxV (st:St):RX→Option SV
 | .tmp t=>some (gets st.sl t)
 | .cell a agg n=>match gets st.sl a with
  | .ptr g o=>match As st.ob g with
   | .box _ l=>if o+n≤l.length then some (if agg then .agg ((l.drop o).take n) else l.getD o .any) else none
   | _=>none
  | _=>none
def S5 (st:St):List RX→Option (List SV)
 | []=>some []
 | x :: r=>match rxV st x,S5 st r with
  | some v,some vs=>some (v :: vs)
  | _,_=>none
def OC (st:St) (rs:List RX):Option SV :=
 match S5 st rs with
 | some [x]=>some x
 | some xs=>some (.tup xs)
 | none=>none
section
variable {P:Program} {c:Ctx}
def Ym (tmps:Array Value):ResultVar→Sem Value
 | .tmp t=>pure (tmps.getD t undef)
 | .cell q t=>do loadVar t (← asAddr (tmps.getD q undef))
theorem S6 (fn:Func) (tmps:Array Value):results fn tmps=(fn.results.mapM (Ym tmps) >>= fun vs=>pure (if h:vs.size=1 then vs[0] else .tuple vs)):=by
 unfold results
 congr 1
theorem Yn {a:Act} {w:World} {I:Nat→Prop} {V:Nat→Option Value} {B:Nat→Nat→Prop} {st:St} {rv:ResultVar} {rx:RX} {x:SV} (hr:RepI c I V B st.f a w) (hx:Qi P c.nt rv=some rx) (hv:rxV st rx=some x) :
  ∃ v,(Ym a.tmps rv).run P w=.ok v w∧RepV w I V x v:=by
 cases rv with
 | tmp t =>
  simp only [Qi,zB] at hx
  subst hx
  simp only [rxV,zB] at hv
  subst hv
  exact ⟨_,rfl,hr.slots t⟩
 | cell q t =>
  simp only [Qi] at hx
  split at hx
  ·rename_i g i hg hi
   split at hx
   ·rename_i h1
    obtain rfl:=zA hx
    simp only [rxV] at hv
    split at hv
    ·rename_i g0 off he
     split at hv
     ·rename_i t0 l hob
      split at hv
      ·rename_i hn
       obtain rfl:=zA hv
       have hp:=hr.slots q
       have he':st.f.sl q=.ptr g0 off:=he
       rw [he'] at hp
       obtain ⟨b,vs,h2,h3,h4,h5,h6⟩:=Sy hr (show st.f.ob g0=.box t0 l from hob) hp
       have hlen:=h6.len
       have:=IO (P:=P) (w:=w) hg hi h1 b off ((vs.drop off).take i.size) (by simp; omega) (fun j v hj=>by
        rw [cell_of_row w b _ _ _ _ h5]
        rw [List.getElem?_take] at hj
        split at hj
        ·rw [List.getElem?_drop] at hj; simpa using hj
        ·cases hj)
       refine ⟨_,?_,IP h6 hn h1⟩
       simp only [Ym,Sem.run_bind,h2,asAddr,Sem.run_pure,Result.andThen_ok]
       exact this
      ·cases hv
     ·cases hv
    ·cases hv
   ·cases hx
  ·cases hx
theorem TL {a:Act} {w:World} {I:Nat→Prop} {V:Nat→Option Value} {B:Nat→Nat→Prop} {st:St} (hr:RepI c I V B st.f a w):∀ (rvs:List ResultVar) (rxs:List RX) (xs:List SV),Cf (rvs.map (Qi P c.nt))=some rxs→S5 st rxs=some xs →
  ∃ vs:List Value,(rvs.mapM (Ym a.tmps):Sem (List Value)).run P w=.ok vs w∧RepVs w I V xs vs
 | [],rxs,xs,h,hx=>by
  simp only [yO,Cf,zB] at h
  subst h
  simp only [S5,zB] at hx
  subst hx
  exact ⟨[],by simp,by simp [RepVs]⟩
 | rv :: rvs,rxs,xs,h,hx=>by
  simp only [zN] at h
  cases h1:Qi P c.nt rv with
  | none=>rw [h1] at h; cases h
  | some rx =>
   rw [h1] at h
   simp only [Cf] at h
   obtain ⟨rxs',h2,rfl⟩:=zC.1 h
   simp only [S5] at hx
   split at hx
   ·rename_i x xs' h3 h4
    obtain rfl:=zA hx
    obtain ⟨v,g1,g2⟩:=Yn (P:=P) hr h1 h3
    obtain ⟨vs,g3,g4⟩:=TL hr rvs rxs' xs' h2 h4
    refine ⟨v :: vs,?_,by simp only [RepVs]; exact ⟨v,vs,rfl,g2,g4⟩⟩
    rw [List.mapM_cons,Sem.run_bind,g1,Result.andThen_ok,Sem.run_bind,g3]
    rfl
   ·cases hx
theorem Rd {fn:Func} {a:Act} {w:World} {I:Nat→Prop} {V:Nat→Option Value} {B:Nat→Nat→Prop} {st:St} (hr:RepI c I V B st.f a w) {rxs:List RX} {x:SV} (h:Cf (fn.results.toList.map (Qi P c.nt))=some rxs) (hx:OC st rxs=some x) :
  ∃ v,(results fn a.tmps).run P w=.ok v w∧RepV w I V x v:=by
 unfold OC at hx
 cases hxs:S5 st rxs with
 | none=>rw [hxs] at hx; cases hx
 | some xs =>
  rw [hxs] at hx
  obtain ⟨vs,h1,h2⟩:=TL hr _ _ _ h hxs
  have hrun:(results fn a.tmps).run P w=.ok (if h:vs.toArray.size=1 then vs.toArray[0] else .tuple vs.toArray) w:=by
   rw [S6,Sem.run_bind,Array.mapM_eq_mapM_toList,Sem.run_map,h1]
   rfl
  refine ⟨_,hrun,?_⟩
  match xs,vs,h2,hx with
  | [],vs,h2,hx =>
   simp only [zB] at hx
   subst hx
   simp only [RepVs] at h2
   subst h2
   simp only [RepV]
   exact ⟨[],by simp,by simp [RepVs]⟩
  | [y],vs,h2,hx =>
   simp only [zB] at hx
   subst hx
   simp only [RepVs] at h2
   obtain ⟨v,r,rfl,h3,rfl⟩:=h2
   simpa using h3
  | y :: z :: ys,vs,h2,hx =>
   simp only [zB] at hx
   subst hx
   have hlen:=h2.len
   simp only [zM] at hlen
   simp only [RepV]
   refine ⟨vs,?_,h2⟩
   rw [dif_neg (by rw [List.size_toArray]; omega)]
def KY:Nat→List SV
 | 0=>[]
 | n+1=>.any :: KY n
theorem Pn:∀ (n k:Nat),gets (KY n) k=.any
 | 0,_=>rfl
 | n+1,0=>rfl
 | n+1,k+1=>Pn n k
theorem Re:∀ (l l':List SV) (k:Nat),gets (l++l') k=if k<l.length then gets l k else gets l' (k-l.length)
 | [],l',k=>by simp
 | x :: r,l',0=>by simp [gets]
 | x :: r,l',k+1=>by
  simp only [yM,gets,zM,zS,zY]
  exact Re r l' k
theorem Rf:∀ n,(KY n).length=n
 | 0=>rfl
 | n+1=>by simp [KY,Rf n]
theorem RepVs.gets {w:World} {I:Nat→Prop} {V:Nat→Option Value}:∀ {l:List SV} {vs:List Value} (k:Nat),RepVs w I V l vs→k<l.length→RepV w I V (gets l k) (vs.getD k undef)
 | [],vs,k,_,h=>absurd h (by simp)
 | x :: r,vs,0,h,_=>by
  simp only [RepVs] at h
  obtain ⟨v,q,rfl,h1,_⟩:=h
  simpa [Proofs.YtoglfpfdhojaaaaGreat.gets] using h1
 | x :: r,vs,k+1,h,hk=>by
  simp only [RepVs] at h
  obtain ⟨v,q,rfl,_,h2⟩:=h
  simpa [Proofs.YtoglfpfdhojaaaaGreat.gets] using RepVs.gets k h2 (by simpa using hk)
def Fin (rs:List RX) (n0:Nat) (r:SV) (ob':List Ob) (e:X) (st:St):Prop :=
 (e=.ret∨e=.normal)∧∃ r0 m,OC st rs=some r0∧WeakC n0 m ⟨[r0],st.ob⟩ ⟨[r],ob'⟩
theorem ZC {f:FuncId} {fn:Func} {code:Code} {sc:SC} {rs:List RX} {args:List SV} {ob:List Ob} {r:SV} {ob':List Ob} (hf:P.funcs[f]?=some fn) (hb:fn.body=some code) (ht:trC P fn.ntmps code=some sc) (hrs:Cf (fn.results.toList.map (Qi P fn.ntmps))=some rs) (hn:args.length≤fn.ntmps)
  (h:∀ c:Ctx,c.nt=fn.ntmps→c.m=ob.length→Run P c sc (Fin rs ob.length r ob') ⟨args++KY (fn.ntmps-args.length),ob⟩):Fun P f args ob r ob':=by
 intro w I V B vs hwf hvs
 let c:Ctx:=⟨w,HB B ob,I,V,fn.ntmps,ob.length,fun g hg=>hwf.fr g (B6 _ _ hg)⟩
 have hvl:=hvs.len
 have hrep:Rep c (St.f ⟨args++KY (fn.ntmps-args.length),ob⟩) { tmps:=vs.toArray++Array.replicate (fn.ntmps-vs.toArray.size) undef,defers:=[] } w:=by
  refine ⟨I,V,B,⟨⟨rfl,TapeOk.mk' rfl rfl,rfl,zH _,fun _ _ _=>rfl⟩,fun _ h=>h,fun _ h=>.inl h,VLe.refl _,hwf,fun g b hl hb=>.inl ⟨g,hl,hb⟩,rfl,?_,fun k=>?_⟩⟩
  ·simp only [Array.size_append,List.size_toArray,Array.size_replicate]
   show vs.length+(fn.ntmps-vs.length)=fn.ntmps
   omega
  ·show RepV w I V (gets (args++KY (fn.ntmps-args.length)) k) _
   rw [Re]
   by_cases hk:k<args.length
   ·rw [if_pos hk]
    have:=hvs.gets k hk
    have e:(vs.toArray++Array.replicate (fn.ntmps-vs.toArray.size) undef).getD k undef=vs.getD k undef:=by
     rw [yC,Array.getElem?_append_left (by simp; omega)]
     simp [zU]
    rw [e]; exact this
   ·rw [if_neg hk,Pn]; simp [RepV]
 refine calls_of_wp hf hb ?_
 refine h c rfl rfl code ht _ w _ ?_ hrep fun x st' a' w' hk hl' hr'=>?_
 ·simp only [yF,Rf]
  show args.length+(fn.ntmps-args.length)=fn.ntmps
  omega
 ·obtain ⟨hx,r0,m,hres,hweak⟩:=hk
  obtain ⟨I',V',B',hr'⟩:=hr'
  obtain ⟨v,hrun,hv⟩:=Rd hr' hrs hres
  have hwf':=hweak.wf hr'.wf
  have hv':RepV w' I' (fun g=>V' (sgp m st'.ob.length g)) r v:=by
   have h1:=hweak.1
   simp only [leL] at h1
   exact MZ h1.1 hv
  have hpost:FunPost w I V B ob ob' w' I' (fun g=>V' (sgp m st'.ob.length g)) (fun g=>B' (sgp m st'.ob.length g)):=by
   refine ⟨hr'.fr,hr'.i0,fun b hb=>hr'.i1 b hb,fun g u hu=>?_,hwf',fun g b hl hb=>?_⟩
   ·have hg:g<ob.length:=by
     rcases zF g ob.length with h1 | h1
     ·exact h1
     ·rw [hwf.fr g (B6 _ _ h1)] at hu; cases hu
    rw [J5 hweak.2.2.2 g hg]
    exact hr'.v0 g u hu
   ·have hlt:g<ob'.length:=by
     rcases zF g ob'.length with h1 | h1
     ·exact h1
     ·rw [B6 _ _ h1] at hl; exact hl.elim
    have h1:=Gw (j:=g) hweak.2.1 hlt
    rw [zQ] at h1
    exact hr'.bh _ b (FL h1 hl) hb
  have hfin:bodyPost P fn (fun e w'=>∃ v I' V' B',e=.returned v∧RepV w' I' V' r v∧FunPost w I V B ob ob' w' I' V' B') x.exit' a' w':=by
   rcases hx with rfl | rfl
   ·exact bodyPost_ret hrun hr'.nd ⟨v,I',_,_,rfl,hv',hpost⟩
   ·exact bodyPost_end hrun hr'.nd ⟨v,I',_,_,rfl,hv',hpost⟩
  exact hfin
end
section
variable {P:Program} {c:Ctx} {K:X→St→Prop} {x:SV} {l:List SV} {ob:List Ob}
theorem UD:Ed ob []=ob:=by
 have:∀ (l:List Ob) k,KR [] k l=l:=by
  intro l
  induction l with
  | nil=>intro k; rfl
  | cons o r ih=>intro k; simp [KR,Bb,ih]
 simp [Ed,this,Nz]
theorem N5 {l:List Ob} {p:Nat} (h:l.length=p):N4 (As l) p:=fun g hg=>B6 l g (by omega)
end
theorem Yo {n:Int}:inK .i64 n ↔ -9223372036854775808≤n∧n≤9223372036854775807:=by
 unfold inK
 simp only [IntKind.min,IntKind.max,IntKind.bits,IntKind.signed]
 simp
section
variable {P:Program} {c:Ctx} {K:X→St→Prop}
theorem Weak.E5 (st:St):Weak c st st:=fun h=>⟨h,fun _ _ hr=>hr⟩
end
theorem ZD:Tryz.prog.follows .mixedOrders=true:=by kernel_rfl
end Go.Proofs.YtoglfpfdhojaaaaGreat
set_option maxRecDepth 100000
set_option linter.unusedSimpArgs false
set_option linter.unusedVariables false
set_option linter.unusedSectionVars false
namespace Go.Proofs.YtoglfpfdhojaaaaGreat
open Go.RowKit
noncomputable def dec (p:Prop):Bool:=@decide p (Classical.propDecidable p)
theorem Ar {p:Prop}:dec p=true ↔ p:=by unfold dec; exact ⟨@of_decide_eq_true p (Classical.propDecidable p),@decide_eq_true p (Classical.propDecidable p)⟩
theorem Aw {p:Prop} (h:p):dec p=true:=Ar.2 h
theorem Aj {p:Prop} (h:¬ p):dec p=false:=by
 cases e:dec p with
 | false=>rfl
 | true=>exact absurd (Ar.1 e) h
theorem IR {p:Prop} [hp:Decidable p]:dec p=decide p:=by
 cases hp with
 | isTrue h=>rw [Aw h]; rfl
 | isFalse h=>rw [Aj h]; rfl
theorem EU {p:Prop}:dec p=false ↔ ¬ p:=by
 constructor
 ·intro h hp
  rw [Aw hp] at h; cases h
 ·exact Aj
theorem LH {a b:ByteArray} (h:a.toList=b.toList):a=b:=by
 rw [ByteArray.toList_eq,ByteArray.toList_eq] at h
 exact ByteArray.ext (Array.toList_inj.1 h)
theorem UE (a b:ByteArray):JO a b=dec (a=b):=by
 unfold JO
 cases e:(a.toList == b.toList) with
 | true=>exact (Aw (LH (by simpa using e))).symm
 | false =>
  refine (Aj fun h=>?_).symm
  subst h; simp at e
abbrev R3:=SV × List (Nat × Ob) × List Nat
abbrev CallF:=FuncId→List SV→List Ob→Option R3
def HH (x:Nat):List Nat→Bool
 | []=>false
 | y :: r=>(x == y) || HH x r
def Hw:List Nat→Bool
 | []=>true
 | x :: r=>!HH x r&&Hw r
theorem E6 {x:Nat}:∀ {l:List Nat},HH x l=true ↔ x∈l
 | []=>by simp [HH]
 | y :: r=>by simp [HH,E6 (l:=r)]
theorem G7:∀ {l:List Nat},Hw l=true ↔ l.Nodup
 | []=>by simp [Hw]
 | x :: r=>by
  have:=E6 (x:=x) (l:=r)
  simp only [Hw,zD,zJ,yA,G7 (l:=r)]
  rw [←this]; simp
noncomputable def IS (k:IntKind) (r:Int):Option SV :=
 match k with
 | .u64=>some (.int k (k.wrap r))
 | .u32=>some (.int k (k.wrap r))
 | .u8=>some (.int k (k.wrap r))
 | _=>bif dec (inK k r) then some (.int k r) else some (.int k (k.wrap r))
def eqK:IntKind→IntKind→Bool:=fun a b=>decide (a=b)
noncomputable def TM (op:BinOp) (k:IntKind) (a b:Int):Option SV :=
 match op with
 | .add=>IS k (a+b)
 | .sub=>IS k (a - b)
 | .mul=>IS k (a*b)
 | .quo=>bif dec (b=0) then none else IS k (a.tdiv b)
 | .rem=>bif dec (b=0) then none else some (.int k (a.tmod b))
 | .eql=>some (.bool (dec (a=b)))
 | .neq=>some (.bool (!dec (a=b)))
 | .lss=>some (.bool (dec (a < b)))
 | .leq=>some (.bool (dec (a≤b)))
 | .gtr=>some (.bool (dec (b < a)))
 | .geq=>some (.bool (dec (b≤a)))
 | .shr=>bif dec (b=1) then some (.int k (a / 2)) else bif dec (b=40)&&eqK k .u64 then some (.int k (a / 1099511627776)) else none
 | .and=>some (.int k (bits .and k a b))
 | _=>none
noncomputable def TN (op:BinOp) (a b:ByteArray):Option SV :=
 match op with
 | .add=>bif dec (a.size+b.size≤9223372036854775807) then some (.str (a++b)) else none
 | .eql=>some (.bool (dec (a=b)))
 | .neq=>some (.bool (!dec (a=b)))
 | .lss=>some (.bool (strLt a b))
 | .leq=>some (.bool (strLt a b || dec (a=b)))
 | .gtr=>some (.bool (!(strLt a b || dec (a=b))))
 | .geq=>some (.bool (!strLt a b))
 | _=>none
def Wj (op:BinOp) (a b:Bool):Option SV :=
 match op with
 | .eql=>some (.bool (a == b))
 | .neq=>some (.bool (!(a == b)))
 | _=>none
noncomputable def Yp (op:BinOp) (tb:Bool) (x y:SV):Option SV :=
 match x,y with
 | .int k a,.int k' b=>bif eqK k k' then TM op k a b else none
 | .str a,.str b=>TN op a b
 | .bool a,.bool b=>bif tb then Wj op a b else none
 | _,_=>none
def FO (x:SV):Option R3:=some (x,[],[])
def TO:Option SV→Option R3
 | some x=>some (x,[],[])
 | none=>none
def Wk (g:Nat) (es:List (List OT)) (hs:List (Nat × Nat × Nat)) (k o:Nat) (l:List OT) (p:Nat):OT→Option R3
 | .ow e2=>some (.ref p,[(p,.tree e2 []),(g,.tree (es.set k (l.set o .hole)) ((k,o,p) :: hs))],[])
 | .hole=>none
 | .int n=>some (.int .i64 n,[],[g])
 | .byte n=>some (.int .u8 n,[],[g])
 | .bool b=>some (.bool b,[],[g])
 | .str s=>some (.str s,[],[g])
 | .sh e=>some (.arr e,[],[g])
def QaB (ok agg:Bool) (z:List SV) (rd:List Nat):Option MV→Option R3
 | some x=>some (bif ok then .tup [MV.sv x,.bool true] else MV.sv x,[],rd)
 | none=>some (bif ok then .tup [bif agg then .agg z else z.getD 0 .any,.bool false] else (bif agg then .agg z else z.getD 0 .any),[],rd)
noncomputable def fOp (P:Program) (C:CallF) (so:SOp) (sl:List SV) (ob:List Ob):Option R3 :=
 match so with
 | .mv x=>FO (A8 (gets sl) x)
 | .pick c a b=>match A8 (gets sl) c with
  | .bool t=>FO (bif t then A8 (gets sl) a else A8 (gets sl) b)
  | _=>none
 | .alloc t z=>some (.ptr ob.length 0,[(ob.length,.box t z)],[])
 | .boxv t n x=>match (A8 (gets sl) x).cellsN n with
  | some l=>some (.ptr ob.length 0,[(ob.length,.box t l)],[])
  | none=>none
 | .build z parts=>match JN (A8 (gets sl)) z parts with
  | some l=>FO (.agg l)
  | none=>none
 | .mkrow t sz z len parts=>match E4 (As ob) z with
  | some zl=>match eOp.mkEs (A8 (gets sl)) (As ob) sz (List.replicate len zl) parts with
   | some es=>bif (Ci zl).isEmpty&&Hw (es.map Ci).flatten then some (.ref ob.length,(ob.length,.row t sz (es.map En)) :: C7 (es.map Ci).flatten,(parts.map fun q=>KP (A8 (gets sl) q.2)).flatten) else none
   | none=>none
  | none=>none
 | .load agg n x=>match A8 (gets sl) x with
  | .ptr g o=>match As ob g with
   | .box _ l=>bif decide (o+n≤l.length) then some (bif agg then .agg ((l.drop o).take n) else l.getD o .any,[],[g]) else none
   | _=>none
  | .vptr es k o=>match es[k]? with
   | some l=>bif decide (o+n≤l.length) then FO (bif agg then .agg (((l.drop o).take n).map D.sv) else (l.map D.sv).getD o .any) else none
   | none=>none
  | .eptr g sz k o=>match As ob g with
   | .row _ sz' es=>match es[k]? with
    | some l=>bif (sz == sz')&&decide (o+n≤l.length) then some (bif agg then .agg (((l.drop o).take n).map OT.sv) else (l.map OT.sv).getD o .any,[],[g]) else none
    | none=>none
   | .tree es hs=>match es[k]? with
    | some l=>bif !agg&&(n == 1)&&(l.length == sz)&&decide (o < sz) then match Fw hs k o with
     | some q=>some (.ref q,[],[g])
     | none=>match l[o]? with
      | some x=>Wk g es hs k o l ob.length x
      | none=>none
     else none
    | none=>none
   | _=>none
  | _=>none
 | .store n x v=>match A8 (gets sl) x with
  | .ptr g o=>match As ob g with
   | .box t l=>match (A8 (gets sl) v).cellsN n with
    | some vs=>bif decide (o+n≤l.length)&&vs.all SV.one then some (.any,[(g,.box t (splice l o vs))],[]) else none
    | none=>none
   | _=>none
  | .eptr g sz k o=>match As ob g with
   | .row t sz' es=>match (A8 (gets sl) v).cellsN n with
    | some vs=>match E4 (As ob) vs with
     | some ls=>match es[k]? with
      | some l=>bif (sz == sz')&&decide (o+n≤sz)&&!HH g (Ci ls)&&Hw (Ci ls) then some (.any,(g,.row t sz (es.set k (splice l o (En ls)))) :: C7 (Ci ls),KP (A8 (gets sl) v)) else none
      | none=>none
     | none=>none
    | none=>none
   | .tree es hs=>match (A8 (gets sl) v).cellsN n with
    | some [v]=>match Pc v with
     | some x=>match Fw hs k o with
      | some _=>none
      | none=>match es[k]? with
       | some l=>bif (l.length == sz)&&decide (o < sz) then some (.any,[(g,.tree (es.set k (splice l o [x])) hs)],[]) else none
       | none=>none
     | none=>none
    | _=>none
   | _=>none
  | _=>none
 | .nilchk x=>match A8 (gets sl) x with
  | .ptr g o=>FO (.ptr g o)
  | .eptr g sz k o=>FO (.eptr g sz k o)
  | .vptr es k o=>FO (.vptr es k o)
  | _=>none
 | .bin op tb x y=>TO (Yp op tb (A8 (gets sl) x) (A8 (gets sl) y))
 | .un op x=>match A8 (gets sl) x with
  | .bool b=>match op with
   | .not=>FO (.bool (!b))
   | _=>none
  | .int k n=>match op with
   | .neg=>bif dec (inK k (0 - n)) then FO (.int k (0 - n)) else none
   | _=>none
  | _=>none
 | .conv k x=>match A8 (gets sl) x with
  | .int _ n=>TO (IS k n)
  | _=>none
 | .mkfn f caps=>FO (.fn f (caps.map (A8 (gets sl))))
 | .mkslice t sz bytes z len=>match A8 (gets sl) len with
  | .int _ n=>match E4 (As ob) z with
   | some zl=>bif dec (0≤n)&&dec ((bytes:Int)*n≤140737488355328)&&dec (n≤9223372036854775807)&&(Ci zl).isEmpty then some (.ref ob.length,[(ob.length,.row t sz (List.replicate n.toNat (En zl)))],[]) else none
   | none=>none
  | _=>none
 | .slice str sz x lo hi=>match A8 (gets sl) x with
  | .str s=>match H9 (A8 (gets sl)) lo with
   | some l=>match I6 (A8 (gets sl)) s.size hi with
    | some h=>bif dec (0≤l)&&dec (l≤h)&&dec (h≤s.size)&&str then FO (.str (s.extract l.toNat h.toNat)) else none
    | none=>none
   | none=>none
  | .arr es=>match H9 (A8 (gets sl)) lo with
   | some l=>match I6 (A8 (gets sl)) es.length hi with
    | some h=>bif dec (0≤l)&&dec (l≤h)&&dec (h≤es.length)&&!str&&es.all (fun e=>(e.length == sz)) then FO (.arr ((es.take h.toNat).drop l.toNat)) else none
    | none=>none
   | none=>none
  | .ref g=>match As ob g with
   | .row t sz' es=>match H9 (A8 (gets sl)) lo with
    | some l=>match I6 (A8 (gets sl)) es.length hi with
     | some h=>bif pfx lo hi then (bif dec (0≤l)&&dec (l≤h)&&dec (h≤es.length)&&!str&&(sz' == sz) then some (.ref ob.length,[(ob.length,.row t sz (es.take h.toNat)),(g,.gone)],[]) else none) else bif dec (0≤l)&&dec (l≤h)&&dec (h≤es.length)&&!str&&(sz' == sz)&&OT.AC es then some (.arr (((OT.erss es).take h.toNat).drop l.toNat),[(g,.shd (OT.erss es))],[]) else none
     | none=>none
    | none=>none
   | .shd es=>match H9 (A8 (gets sl)) lo with
    | some l=>match I6 (A8 (gets sl)) es.length hi with
     | some h=>bif dec (0≤l)&&dec (l≤h)&&dec (h≤es.length)&&!str&&es.all (fun e=>(e.length == sz)) then some (.arr ((es.take h.toNat).drop l.toNat),[],[g]) else none
     | none=>none
    | none=>none
   | _=>none
  | _=>none
 | .faddr off x=>match A8 (gets sl) x with
  | .ptr g o=>FO (.ptr g (o+off))
  | .vptr es k o=>FO (.vptr es k (o+off))
  | .eptr g sz k o=>FO (.eptr g sz k (o+off))
  | _=>none
 | .field agg off n x=>match A8 (gets sl) x with
  | .agg l=>bif decide (off+n≤l.length) then FO (bif agg then .agg ((l.drop off).take n) else l.getD off .any) else none
  | _=>none
 | .iaddr sz x i=>match A8 (gets sl) x with
  | .arr es=>match A8 (gets sl) i with
   | .int _ n=>bif dec (0≤n) then match es[n.toNat]? with
    | some l=>bif (l.length == sz) then FO (.vptr es n.toNat 0) else none
    | none=>none
    else none
   | _=>none
  | .ref g=>match A8 (gets sl) i with
   | .int _ n=>match As ob g with
    | .row _ sz' es=>bif (sz == sz')&&dec (0≤n)&&dec (n.toNat < es.length) then some (.eptr g sz n.toNat 0,[],[g]) else none
    | .tree es _=>bif dec (0≤n)&&dec (n.toNat < es.length) then some (.eptr g sz n.toNat 0,[],[g]) else none
    | _=>none
   | _=>none
  | _=>none
 | .idx x i=>match A8 (gets sl) x with
  | .str s=>match A8 (gets sl) i with
   | .int _ n=>bif dec (0≤n)&&dec (n.toNat < s.size) then FO (.int .u8 (IM s n.toNat)) else none
   | _=>none
  | _=>none
 | .ext x k=>match A8 (gets sl) x with
  | .tup l=>bif decide (k < l.length) then FO (l.getD k .any) else none
  | _=>none
 | .call f args=>C f (args.map (A8 (gets sl))) ob
 | .callv x args=>match A8 (gets sl) x with
  | .fn f caps=>bif IG P f then C f (args.map (A8 (gets sl))++caps) ob else none
  | _=>none
 | .len str x=>match A8 (gets sl) x with
  | .str s=>bif str then FO (.int .i64 s.size) else none
  | .arr es=>bif str then none else FO (.int .i64 es.length)
  | .nil=>bif str then none else FO (.int .i64 0)
  | .ref g=>match As ob g with
   | .row _ _ es=>bif str then none else some (.int .i64 es.length,[],[g])
   | .tree es _=>bif str then none else some (.int .i64 es.length,[],[g])
   | _=>none
  | _=>none
 | .append t sz bytes z x y=>match eOp.addS (As ob) sz (A8 (gets sl) y) with
  | some (new,gs)=>match A8 (gets sl) x with
   | .nil=>bif dec ((new.length:Int)*bytes≤140737488355328)&&dec (new.length≤9223372036854775807)&&(new.all fun l=>(l.length == sz)) then some (.ref ob.length,(ob.length,.row t sz new) :: C7 gs,[]) else none
   | .ref g=>match As ob g with
    | .row t' sz' es=>bif (t == t')&&(sz == sz')&&dec (((es.length+new.length:Nat):Int)*bytes≤140737488355328)&&dec (es.length+new.length≤9223372036854775807)&&!HH g gs&&(new.all fun l=>(l.length == sz)) then some (.ref ob.length,(ob.length,.row t sz (es++new)) :: C7 (g :: gs),[]) else none
    | _=>none
   | _=>none
  | none=>none
 | .minmax mx x y=>match A8 (gets sl) x with
  | .int k a=>match A8 (gets sl) y with
   | .int k' b=>bif eqK k k' then FO (.int k (bif mx then (bif dec (a < b) then b else a) else (bif dec (b < a) then b else a))) else none
   | _=>none
  | _=>none
 | .mkmap ks hint=>match hint with
  | none=>some (.ref ob.length,[(ob.length,.mp ks nomap)],[])
  | some x=>match A8 (gets sl) x with
   | .int _ _=>some (.ref ob.length,[(ob.length,.mp ks nomap)],[])
   | _=>none
 | .mset ks m k v=>match A8 (gets sl) m with
  | .ref g=>match As ob g with
   | .mp ks' f=>match svK ks (A8 (gets sl) k) with
    | some q=>match svM (A8 (gets sl) v) with
     | some x=>bif (ks' == ks) then some (.any,[(g,.mp ks (KO f q x))],[]) else none
     | none=>none
    | none=>none
   | _=>none
  | _=>none
 | .mkit x=>match A8 (gets sl) x with
  | .mp ks m=>some (.ptr ob.length 0,[(ob.length,.it ks m [] none)],[])
  | _=>none
 | .mcur x=>match A8 (gets sl) x with
  | .ptr g o=>match As ob g with
   | .it _ _ _ (some (k,v))=>bif (o == 0) then some (.tup [MK.sv k,MV.sv v],[],[g]) else none
   | _=>none
  | _=>none
 | .mget ks ok agg z m k=>match TA (As ob) (A8 (gets sl) m) with
  | some (ks',f,rd)=>match svK ks (A8 (gets sl) k) with
   | some q=>bif (ks' == ks) then QaB ok agg z rd (f q) else none
   | none=>none
  | none=>none
theorem Az {α:Type} {b:Bool} {x:Option α} {r:α} (h:(bif b then x else none)=some r):b=true∧x=some r:=by
 cases b with
 | true=>exact ⟨rfl,h⟩
 | false=>cases h
theorem HI {α:Type} {b:Bool} {x:Option α} {r:α} (h:(bif b then none else x)=some r):b=false∧x=some r:=by
 cases b with
 | false=>exact ⟨rfl,h⟩
 | true=>cases h
theorem CE {x y:SV} {u:List (Nat × Ob)} {rd:List Nat} (h:FO x=some (y,u,rd)):x=y∧u=[]∧rd=[]:=by
 unfold FO at h
 simp only [zB,zE] at h
 exact ⟨h.1,h.2.1.symm,h.2.2.symm⟩
theorem Rg {x:Option SV} {y:SV} {u:List (Nat × Ob)} {rd:List Nat} (h:TO x=some (y,u,rd)):x=some y∧u=[]∧rd=[]:=by
 cases x with
 | none=>cases h
 | some x =>
  have:=CE (x:=x) h
  exact ⟨congrArg some this.1,this.2⟩
theorem N6 {k:IntKind} {r:Int} {x:SV} {K:Kont} (h:IS k r=some x) (hK:K x [] []):Hv k r K:=by
  unfold IS at h
  unfold Hv
  cases k <;> simp only at h ⊢ <;> first
    | (obtain rfl:=zA h; exact hK)
    | (cases hd:dec (inK _ r) with
       | true=>rw [hd] at h; obtain rfl:=zA h; exact ⟨fun _=>hK,fun hn=>absurd (Ar.1 hd) hn⟩
       | false=>rw [hd] at h; obtain rfl:=zA h; exact ⟨fun hi=>absurd hi (EU.1 hd),fun _=>hK⟩)
theorem Yq {op:BinOp} {k:IntKind} {a b:Int} {x:SV} {K:Kont} (h:TM op k a b=some x) (hK:K x [] []):XT op k a b K:=by
  cases op <;> simp only [TM,XT] at h ⊢ <;> first
    | exact N6 h hK
    | (obtain ⟨h1,h2⟩:=Az h; obtain rfl:=zA h2; exact ⟨Ar.1 h1,hK⟩)
    | (cases h0:dec (b=1) with
       | true=>rw [h0,cond_true] at h; obtain rfl:=zA h; exact .inl ⟨Ar.1 h0,hK⟩
       | false =>
         rw [h0,cond_false] at h
         obtain ⟨h1,h2⟩:=Az h
         rw [zD] at h1
         obtain rfl:=zA h2
         exact .inr ⟨⟨Ar.1 h1.1,of_decide_eq_true h1.2⟩,hK⟩)
    | (obtain ⟨h1,h2⟩:=HI h; first | exact ⟨EU.1 h1,N6 h2 hK⟩ | (obtain rfl:=zA h2; exact ⟨EU.1 h1,hK⟩))
    | (obtain rfl:=zA h; first | exact hK | (rw [IR] at hK; first | exact hK | (simpa [bne,beq_eq_decide] using hK)))
    | cases h
theorem Yr {op:BinOp} {a b:ByteArray} {x:SV} {K:Kont} (h:TN op a b=some x) (hK:K x [] []):XU op a b K:=by
 cases op <;> simp only [TN,XU,UE] at h ⊢ <;> first
  |(obtain ⟨h1,h2⟩:=Az h; obtain rfl:=zA h2; exact ⟨Ar.1 h1,hK⟩)
  |(obtain rfl:=zA h; exact hK)
  |cases h
theorem ZE {op:BinOp} {tb:Bool} {y z x:SV} {K:Kont} (h:Yp op tb y z=some x) (hK:K x [] []):XV op tb y z K:=by
 unfold Yp at h
 unfold XV
 split at h <;> simp only at h ⊢
 ·obtain ⟨h1,h2⟩:=Az h
  exact ⟨of_decide_eq_true h1,Yq h2 hK⟩
 ·exact Yr h hK
 ·obtain ⟨h1,h2⟩:=Az h
  refine ⟨h1,?_⟩
  cases op <;> simp only [Wj,Z4] at h2 ⊢ <;> first | (obtain rfl:=zA h2; exact hK) | cases h2
 ·cases h
theorem Wl {m:MF} {a b:Int} {x:MV}:KO m (.int a) x (.int b)=bif dec (b=a) then some x else m (.int b):=by
 by_cases h:b=a
 ·subst h; rw [HD,Aw rfl]; rfl
 ·rw [GZ (fun e=>h (by injection e)),Aj h]; rfl
theorem Rh {m:MF} {a b:ByteArray} {x:MV}:KO m (.str a) x (.str b)=bif dec (b=a) then some x else m (.str b):=by
 by_cases h:b=a
 ·subst h; rw [HD,Aw rfl]; rfl
 ·rw [GZ (fun e=>h (by injection e)),Aj h]; rfl
theorem Wm (k:MK):nomap k=none:=rfl
variable [Flag]
theorem DW {a x:SV} {b u:List (Nat × Ob)} {c rd:List Nat} (h:(some (a,b,c):Option R3)=some (x,u,rd)):a=x∧b=u∧c=rd:=by
 simp only [zB,zE] at h; exact h
theorem TP {α:Type} {l:List (List α)} {n:Nat} (h:(l.all fun e=>(e.length == n))=true):(l.all fun e=>e.length == n)=true:=by
 refine zO.2 fun e he=>?_
 exact beq_iff_eq.2 (eq_of_beq ((zO.1 h) e he))
theorem isEmpty_nil {l:List Nat} (h:l.isEmpty=true):l=[]:=List.isEmpty_iff.1 h
theorem QaC {P:Program} {C:CallF} {so:SOp} {sl:List SV} {ob:List Ob} {x:SV} {u:List (Nat × Ob)} {rd:List Nat} {K:Kont} (h:fOp P C so sl ob=some (x,u,rd))
  (hC:∀ f xs x u rd,C f xs ob=some (x,u,rd)→∀ K:Kont,K x u rd→CallP P f xs (As ob) ob.length K) (hK:K x u rd):eOp P so (gets sl) (As ob) ob.length K:=by
 cases so with
 | mv y =>
  obtain ⟨rfl,rfl,rfl⟩:=CE h
  exact hK
 | pick a b c =>
  simp only [fOp,eOp] at h ⊢
  split at h
  ·obtain ⟨rfl,rfl,rfl⟩:=CE h
   rename_i t ht
   simp only [ht]
   cases t <;> exact hK
  ·cases h
 | alloc t z =>
  obtain ⟨rfl,rfl,rfl⟩:=DW h
  exact hK
 | boxv t n y =>
  simp only [fOp,eOp] at h ⊢
  split at h
  ·rename_i l hl
   obtain ⟨rfl,rfl,rfl⟩:=DW h
   simp only [hl]; exact hK
  ·cases h
 | build z parts =>
  simp only [fOp,eOp] at h ⊢
  split at h
  ·rename_i l hl
   obtain ⟨rfl,rfl,rfl⟩:=CE h
   simp only [hl]; exact hK
  ·cases h
 | mkrow t sz z len parts =>
  simp only [fOp,eOp] at h ⊢
  split at h
  ·rename_i zl hz
   split at h
   ·rename_i es he
    obtain ⟨h1,h2⟩:=Az h
    obtain ⟨rfl,rfl,rfl⟩:=DW h2
    rw [zD] at h1
    simp only [hz,he]
    exact ⟨⟨isEmpty_nil h1.1,G7.1 h1.2⟩,hK⟩
   ·cases h
  ·cases h
 | load agg n y =>
  simp only [fOp,eOp] at h ⊢
  split at h
  ·rename_i g o hy
   simp only [hy]
   split at h
   ·rename_i t l hl
    obtain ⟨h1,h2⟩:=Az h
    obtain ⟨rfl,rfl,rfl⟩:=DW h2
    simp only [hl]
    exact ⟨of_decide_eq_true h1,by cases agg <;> exact hK⟩
   ·cases h
  ·rename_i es k o hy
   simp only [hy]
   split at h
   ·rename_i l hl
    obtain ⟨h1,h2⟩:=Az h
    obtain ⟨rfl,rfl,rfl⟩:=CE h2
    exact ⟨l,hl,of_decide_eq_true h1,by cases agg <;> exact hK⟩
   ·cases h
  ·rename_i g sz k o hy
   simp only [hy]
   split at h
   ·rename_i t sz' es hl
    split at h
    ·rename_i l hl'
     obtain ⟨h1,h2⟩:=Az h
     obtain ⟨rfl,rfl,rfl⟩:=DW h2
     rw [zD] at h1
     simp only [hl]
     exact ⟨eq_of_beq h1.1,l,hl',of_decide_eq_true h1.2,by cases agg <;> exact hK⟩
    ·cases h
   ·rename_i es hs hl
    split at h
    ·rename_i l hl'
     obtain ⟨h1,h2⟩:=Az h
     simp only [zD,zJ,beq_iff_eq,decide_eq_true_eq] at h1
     simp only [hl]
     refine ⟨⟨h1.1.1.1,h1.1.1.2⟩,l,hl',⟨h1.1.2,h1.2⟩,?_⟩
     split at h2
     ·rename_i q hq
      obtain ⟨rfl,rfl,rfl⟩:=DW h2
      simp only [hq]; exact hK
     ·rename_i hq
      simp only [hq]
      split at h2
      ·rename_i z hz
       refine ⟨z,hz,?_⟩
       cases z <;> simp only [Wk,Sx] at h2 ⊢ <;> first | (obtain ⟨e1,rfl,rfl⟩:=DW h2; rw [←e1] at hK; exact hK) | cases h2
      ·cases h2
    ·cases h
   ·cases h
  ·cases h
 | store n y v =>
  simp only [fOp,eOp] at h ⊢
  split at h
  ·rename_i g o hy
   simp only [hy]
   split at h
   ·rename_i t l hl
    split at h
    ·rename_i vs hv
     obtain ⟨h1,h2⟩:=Az h
     obtain ⟨rfl,rfl,rfl⟩:=DW h2
     rw [zD] at h1
     simp only [hl,hv]
     exact ⟨⟨of_decide_eq_true h1.1,h1.2⟩,hK⟩
    ·cases h
   ·cases h
  ·rename_i g sz k o hy
   simp only [hy]
   split at h
   ·rename_i t sz' es hl
    split at h
    ·rename_i vs hv
     split at h
     ·rename_i ls hls
      split at h
      ·rename_i l hl'
       obtain ⟨h1,h2⟩:=Az h
       obtain ⟨rfl,rfl,rfl⟩:=DW h2
       simp only [zD,zJ] at h1
       simp only [hl,hv,hls]
       refine ⟨⟨eq_of_beq h1.1.1.1,of_decide_eq_true h1.1.1.2,fun hm=>?_,G7.1 h1.2⟩,l,hl',hK⟩
       rw [E6.2 hm] at h1
       exact absurd h1.1.2 (by simp)
      ·cases h
     ·cases h
    ·cases h
   ·rename_i es hs hl
    split at h
    ·rename_i v0 hv
     split at h
     ·rename_i z hz
      split at h
      ·cases h
      ·rename_i hh
       split at h
       ·rename_i l hl'
        obtain ⟨h1,h2⟩:=Az h
        obtain ⟨rfl,rfl,rfl⟩:=DW h2
        simp only [zD,beq_iff_eq,decide_eq_true_eq] at h1
        simp only [hl,hv]
        exact ⟨v0,z,rfl,hz,hh,l,hl',⟨h1.1,h1.2⟩,hK⟩
       ·cases h
     ·cases h
    ·cases h
   ·cases h
  ·cases h
 | nilchk y =>
  simp only [fOp,eOp] at h ⊢
  split at h
  all_goals first | (rename_i hy; simp only [hy]; obtain ⟨e1,rfl,rfl⟩:=CE h; rw [e1]; exact hK) | cases h
 | bin op tb y z =>
  simp only [fOp,eOp] at h ⊢
  obtain ⟨h1,rfl,rfl⟩:=Rg h
  exact ZE h1 hK
 | un op y =>
  simp only [fOp,eOp] at h ⊢
  split at h
  ·rename_i b hy
   split at h
   ·obtain ⟨rfl,rfl,rfl⟩:=CE h
    simp only [hy]; exact hK
   ·cases h
  ·rename_i k n hy
   split at h
   ·obtain ⟨h1,h2⟩:=Az h
    obtain ⟨rfl,rfl,rfl⟩:=CE h2
    simp only [hy]; exact ⟨Ar.1 h1,hK⟩
   ·cases h
  ·cases h
 | conv k y =>
  simp only [fOp,eOp] at h ⊢
  split at h
  ·rename_i k' n hy
   obtain ⟨h1,rfl,rfl⟩:=Rg h
   simp only [hy]
   exact N6 h1 hK
  ·cases h
 | mkfn f caps =>
  obtain ⟨rfl,rfl,rfl⟩:=CE h
  exact hK
 | mkslice t sz bytes z len =>
  simp only [fOp,eOp] at h ⊢
  split at h
  ·rename_i k n hn
   split at h
   ·rename_i zl hz
    obtain ⟨h1,h2⟩:=Az h
    obtain ⟨rfl,rfl,rfl⟩:=DW h2
    simp only [zD] at h1
    simp only [hn,hz]
    exact ⟨⟨Ar.1 h1.1.1.1,Ar.1 h1.1.1.2,Ar.1 h1.1.2,isEmpty_nil h1.2⟩,hK⟩
   ·cases h
  ·cases h
 | slice str sz y lo hi =>
  simp only [fOp,eOp] at h ⊢
  split at h
  ·rename_i s hy
   split at h
   ·rename_i l hl
    split at h
    ·rename_i q hq
     obtain ⟨h1,h2⟩:=Az h
     obtain ⟨rfl,rfl,rfl⟩:=CE h2
     simp only [zD] at h1
     simp only [hy,hl,hq]
     exact ⟨⟨Ar.1 h1.1.1.1,Ar.1 h1.1.1.2,Ar.1 h1.1.2⟩,h1.2,hK⟩
    ·cases h
   ·cases h
  ·rename_i es hy
   split at h
   ·rename_i l hl
    split at h
    ·rename_i q hq
     obtain ⟨h1,h2⟩:=Az h
     obtain ⟨rfl,rfl,rfl⟩:=CE h2
     simp only [zD,zJ] at h1
     simp only [hy,hl,hq]
     refine ⟨⟨Ar.1 h1.1.1.1.1,Ar.1 h1.1.1.1.2,Ar.1 h1.1.1.2⟩,h1.1.2,fun e he=>?_,hK⟩
     exact eq_of_beq ((zO.1 h1.2) e he)
    ·cases h
   ·cases h
  ·rename_i g hy
   split at h
   ·rename_i t0 sz' es hg
    split at h
    ·rename_i l hl
     split at h
     ·rename_i q hq
      simp only [hy,hg,hl,hq]
      cases hpf:pfx lo hi with
      | true =>
       rw [hpf,cond_true] at h
       obtain ⟨h1,h2⟩:=Az h
       simp only [zB,zE] at h2
       obtain ⟨rfl,rfl,rfl⟩:=h2
       simp only [zD,zJ] at h1
       exact ⟨⟨Ar.1 h1.1.1.1.1,Ar.1 h1.1.1.1.2,Ar.1 h1.1.1.2⟩,h1.1.2,eq_of_beq h1.2,.inr ⟨rfl,hK⟩⟩
      | false =>
       rw [hpf,cond_false] at h
       obtain ⟨h1,h2⟩:=Az h
       simp only [zB,zE] at h2
       obtain ⟨rfl,rfl,rfl⟩:=h2
       simp only [zD,zJ] at h1
       exact ⟨⟨Ar.1 h1.1.1.1.1.1,Ar.1 h1.1.1.1.1.2,Ar.1 h1.1.1.1.2⟩,h1.1.1.2,eq_of_beq h1.1.2,.inl ⟨h1.2,hK⟩⟩
     ·cases h
    ·cases h
   ·rename_i es hg
    split at h
    ·rename_i l hl
     split at h
     ·rename_i q hq
      obtain ⟨h1,h2⟩:=Az h
      simp only [zB,zE] at h2
      obtain ⟨rfl,rfl,rfl⟩:=h2
      simp only [zD,zJ] at h1
      simp only [hy,hg,hl,hq]
      refine ⟨⟨Ar.1 h1.1.1.1.1,Ar.1 h1.1.1.1.2,Ar.1 h1.1.1.2⟩,h1.1.2,fun e he=>?_,hK⟩
      exact eq_of_beq ((zO.1 h1.2) e he)
     ·cases h
    ·cases h
   ·cases h
  ·cases h
 | faddr off y =>
  simp only [fOp,eOp] at h ⊢
  split at h
  all_goals first | (rename_i hy; simp only [hy]; obtain ⟨e1,rfl,rfl⟩:=CE h; rw [e1]; exact hK) | cases h
 | field agg off n y =>
  simp only [fOp,eOp] at h ⊢
  split at h
  ·rename_i l hy
   obtain ⟨h1,h2⟩:=Az h
   obtain ⟨rfl,rfl,rfl⟩:=CE h2
   simp only [hy]
   exact ⟨of_decide_eq_true h1,by cases agg <;> exact hK⟩
  ·cases h
 | iaddr sz y i =>
  simp only [fOp,eOp] at h ⊢
  split at h
  ·rename_i es hy
   split at h
   ·rename_i k n hn
    obtain ⟨h1,h2⟩:=Az h
    split at h2
    ·rename_i l hl
     obtain ⟨h3,h4⟩:=Az h2
     obtain ⟨rfl,rfl,rfl⟩:=CE h4
     simp only [hy,hn]
     exact ⟨Ar.1 h1,l,hl,eq_of_beq h3,hK⟩
    ·cases h2
   ·cases h
  ·rename_i g hy
   split at h
   ·rename_i k n hn
    split at h
    ·rename_i t sz' es hl
     obtain ⟨h1,h2⟩:=Az h
     obtain ⟨rfl,rfl,rfl⟩:=DW h2
     simp only [zD] at h1
     simp only [hy,hn,hl]
     exact ⟨⟨eq_of_beq h1.1.1,Ar.1 h1.1.2,Ar.1 h1.2⟩,hK⟩
    ·rename_i es hs hl
     obtain ⟨h1,h2⟩:=Az h
     obtain ⟨rfl,rfl,rfl⟩:=DW h2
     simp only [zD] at h1
     simp only [hy,hn,hl]
     exact ⟨⟨Ar.1 h1.1,Ar.1 h1.2⟩,hK⟩
    ·cases h
   ·cases h
  ·cases h
 | idx y i =>
  simp only [fOp,eOp] at h ⊢
  split at h
  ·rename_i s hy
   split at h
   ·rename_i k n hn
    obtain ⟨h1,h2⟩:=Az h
    obtain ⟨rfl,rfl,rfl⟩:=CE h2
    simp only [zD] at h1
    simp only [hy,hn]
    exact ⟨⟨Ar.1 h1.1,Ar.1 h1.2⟩,hK⟩
   ·cases h
  ·cases h
 | ext y k =>
  simp only [fOp,eOp] at h ⊢
  split at h
  ·rename_i l hy
   obtain ⟨h1,h2⟩:=Az h
   obtain ⟨rfl,rfl,rfl⟩:=CE h2
   simp only [hy]
   exact ⟨of_decide_eq_true h1,hK⟩
  ·cases h
 | call f args=>exact hC f _ x u rd h K hK
 | callv y args =>
  simp only [fOp,eOp] at h ⊢
  split at h
  ·rename_i f caps hy
   obtain ⟨h1,h2⟩:=Az h
   simp only [hy]
   exact ⟨h1,hC f _ x u rd h2 K hK⟩
  ·cases h
 | len str y =>
  simp only [fOp,eOp] at h ⊢
  split at h
  ·rename_i s hy
   obtain ⟨h1,h2⟩:=Az h
   obtain ⟨rfl,rfl,rfl⟩:=CE h2
   simp only [hy]; exact ⟨h1,hK⟩
  ·rename_i es hy
   obtain ⟨h1,h2⟩:=HI h
   obtain ⟨rfl,rfl,rfl⟩:=CE h2
   simp only [hy]; exact ⟨h1,hK⟩
  ·rename_i hy
   obtain ⟨h1,h2⟩:=HI h
   obtain ⟨rfl,rfl,rfl⟩:=CE h2
   simp only [hy]; exact ⟨h1,hK⟩
  ·rename_i g hy
   split at h
   ·rename_i t sz es hl
    obtain ⟨h1,h2⟩:=HI h
    obtain ⟨rfl,rfl,rfl⟩:=DW h2
    simp only [hy,hl]; exact ⟨h1,hK⟩
   ·rename_i es hs hl
    obtain ⟨h1,h2⟩:=HI h
    obtain ⟨rfl,rfl,rfl⟩:=DW h2
    simp only [hy,hl]; exact ⟨h1,hK⟩
   ·cases h
  ·cases h
 | append t sz bytes z y w =>
  simp only [fOp,eOp] at h ⊢
  split at h
  ·rename_i new gs ha
   simp only [ha]
   split at h
   ·rename_i hy
    obtain ⟨h1,h2⟩:=Az h
    obtain ⟨rfl,rfl,rfl⟩:=DW h2
    simp only [zD] at h1
    simp only [hy]
    exact ⟨⟨Ar.1 h1.1.1,Ar.1 h1.1.2,TP h1.2⟩,hK⟩
   ·rename_i g hy
    split at h
    ·rename_i t' sz' es hl
     obtain ⟨h1,h2⟩:=Az h
     obtain ⟨rfl,rfl,rfl⟩:=DW h2
     simp only [zD,zJ] at h1
     simp only [hy,hl]
     refine ⟨⟨eq_of_beq h1.1.1.1.1.1,eq_of_beq h1.1.1.1.1.2,Ar.1 h1.1.1.1.2,Ar.1 h1.1.1.2,fun hm=>?_,TP h1.2⟩,hK⟩
     rw [E6.2 hm] at h1
     exact absurd h1.1.2 (by simp)
    ·cases h
   ·cases h
  ·cases h
 | minmax mx y z =>
  simp only [fOp,eOp] at h ⊢
  split at h
  ·rename_i k a hy
   split at h
   ·rename_i k' b hz
    obtain ⟨h1,h2⟩:=Az h
    obtain ⟨rfl,rfl,rfl⟩:=CE h2
    simp only [hy,hz]
    refine ⟨of_decide_eq_true h1,?_⟩
    cases mx
    ·by_cases q:b<a
     ·rw [Aw q] at hK; simpa [q] using hK
     ·rw [Aj q] at hK; simpa [q] using hK
    ·by_cases q:a<b
     ·rw [Aw q] at hK; simpa [q] using hK
     ·rw [Aj q] at hK; simpa [q] using hK
   ·cases h
  ·cases h
 | mkmap ks hint =>
  simp only [fOp,eOp] at h ⊢
  cases hint with
  | none =>
   obtain ⟨rfl,rfl,rfl⟩:=DW h
   exact ⟨trivial,hK⟩
  | some y =>
   simp only at h ⊢
   split at h
   ·rename_i k n hy
    obtain ⟨rfl,rfl,rfl⟩:=DW h
    rw [hy]
    exact ⟨rfl,hK⟩
   ·cases h
 | mset ks m k v =>
  simp only [fOp,eOp] at h ⊢
  split at h
  ·rename_i g hm
   simp only [hm]
   split at h
   ·rename_i ks' f hg
    simp only [hg]
    split at h
    ·rename_i q hq
     split at h
     ·rename_i y hy
      obtain ⟨h1,h2⟩:=Az h
      obtain ⟨rfl,rfl,rfl⟩:=DW h2
      exact ⟨eq_of_beq h1,q,y,hq,hy,hK⟩
     ·cases h
    ·cases h
   ·cases h
  ·cases h
 | mkit y =>
  simp only [fOp,eOp] at h ⊢
  split at h
  ·rename_i ks m hy
   obtain ⟨rfl,rfl,rfl⟩:=DW h
   simp only [hy]; exact hK
  ·cases h
 | mcur y =>
  simp only [fOp,eOp] at h ⊢
  split at h
  ·rename_i g o hy
   simp only [hy]
   split at h
   ·rename_i hg
    obtain ⟨h1,h2⟩:=Az h
    obtain ⟨rfl,rfl,rfl⟩:=DW h2
    simp only [hg]
    exact ⟨by simpa using h1,hK⟩
   ·cases h
  ·cases h
 | mget ks ok agg z m k =>
  simp only [fOp,eOp] at h ⊢
  split at h
  ·rename_i ks' f rd' hm
   split at h
   ·rename_i q hq
    obtain ⟨h1,h2⟩:=Az h
    obtain rfl:=eq_of_beq h1
    refine ⟨f,rd',q,hm,hq,?_⟩
    cases hf:f q with
    | none =>
     rw [hf] at h2
     obtain ⟨rfl,rfl,rfl⟩:=DW h2
     cases ok <;> cases agg <;> exact hK
    | some y =>
     rw [hf] at h2
     obtain ⟨rfl,rfl,rfl⟩:=DW h2
     cases ok <;> exact hK
   ·cases h
  ·cases h
def UF (n:Nat):List (Nat × Ob)→Bool
 | []=>true
 | (g,_) :: r=>decide (g < n)&&UF n r
theorem Ri {n:Nat}:∀ {u:List (Nat × Ob)},UF n u=true→okU n u
 | [],_=>trivial
 | (g,o) :: r,h=>by
  simp only [UF,zD] at h
  exact ⟨of_decide_eq_true h.1,Ri h.2⟩
def JI (d:Option Tmp) (st:St):Option R3→Option (Ent × St)
 | some (x,[],rd)=>some (⟨true,x,[],rd⟩,⟨G5 st.sl d x,st.ob⟩)
 | some (x,u,rd)=>bif UF (Ed st.ob u).length u then some (⟨true,x,u,rd⟩,⟨G5 st.sl d x,Ed st.ob u⟩) else none
 | none=>none
def S7:Bool→Bool→Bool
 | true,b=>b
 | false,true=>false
 | false,false=>true
noncomputable def JP (P:Program) (C:CallF) (o:SOper) (st:St):Option (Ent × St) :=
 match o.gd with
 | none=>JI o.dst st (fOp P C o.op st.sl st.ob)
 | some (k,want)=>match gets st.sl k with
  | .bool b=>bif S7 b want then JI o.dst st (fOp P C o.op st.sl st.ob) else some (⟨false,.tup [],[],[]⟩,⟨G5 st.sl o.dst (.tup []),st.ob⟩)
  | .tup []=>some (⟨false,.tup [],[],[]⟩,⟨G5 st.sl o.dst (.tup []),st.ob⟩)
  | _=>none
noncomputable def N7 (P:Program) (C:CallF):List SOper→St→Option St
 | [],st=>some st
 | o :: r,st=>match JP P C o st with
  | some (_,st')=>N7 P C r st'
  | none=>none
noncomputable def HJ (P:Program) (C:CallF):List SOper→List Ent→St→Option (List Ent × St)
 | [],acc,st=>some (acc,st)
 | o :: r,acc,st=>match JP P C o st with
  | some (e,st')=>HJ P C r (acc++[e]) st'
  | none=>none
def HK (P:Program) (C:CallF):Prop:=∀ ob f xs x u rd,C f xs ob=some (x,u,rd)→∀ K:Kont,K x u rd→CallP P f xs (As ob) ob.length K
section
variable {P:Program} {C:CallF}
theorem ZF {d:Option Tmp} {st st':St} {r:Option R3} {e:Ent} (h:JI d st r=some (e,st')):∃ x u rd,r=some (x,u,rd)∧okU (Ed st.ob u).length u∧e=⟨true,x,u,rd⟩∧st'=st.app d x u:=by
 unfold JI at h
 split at h
 ·rename_i x rd
  simp only [zB,zE] at h
  refine ⟨x,[],rd,rfl,trivial,h.1.symm,?_⟩
  rw [←h.2]
  simp only [St.app,UD]
 ·rename_i x u rd _
  obtain ⟨h1,h2⟩:=Az h
  simp only [zB,zE] at h2
  exact ⟨x,u,rd,rfl,Ri h1,h2.1.symm,h2.2.symm⟩
 ·cases h
theorem TQ (hC:HK P C) {o:SOper} {st st':St} {e:Ent} {K:Ent→St→Prop} (h:JP P C o st=some (e,st')) (hK:K e st'):Pl P o st K:=by
 have run:∀ {e:Ent} {st':St},JI o.dst st (fOp P C o.op st.sl st.ob)=some (e,st')→K e st'→eOp P o.op (gets st.sl) (As st.ob) st.ob.length fun x upd rd=>okU (Ed st.ob upd).length upd∧K ⟨true,x,upd,rd⟩ (st.app o.dst x upd):=fun h hK=>by
  obtain ⟨x,u,rd,h1,h2,rfl,rfl⟩:=ZF h
  exact QaC h1 (fun f xs x u rd=>hC st.ob f xs x u rd) ⟨h2,hK⟩
 unfold JP at h
 unfold Pl
 split at h
 ·rename_i hg
  try simp only [hg]
  exact run h hK
 ·rename_i k want hg
  try simp only [hg]
  split at h
  ·rename_i b hb
   simp only [hb]
   cases hw:S7 b want with
   | true =>
    rw [hw] at h
    have e:b=want:=by cases b <;> cases want <;> simp [S7] at hw ⊢
    exact ⟨fun _=>run h hK,fun e'=>by subst e; cases b <;> cases e'⟩
   | false =>
    rw [hw] at h
    have e:¬ b=want:=by cases b <;> cases want <;> simp [S7] at hw ⊢
    simp only [cond_false,zB,zE] at h
    obtain ⟨rfl,rfl⟩:=h
    exact ⟨fun e'=>absurd e' e,fun _=>hK⟩
  ·rename_i ht
   simp only [ht,zB,zE] at h ⊢
   obtain ⟨rfl,rfl⟩:=h
   exact ⟨trivial,hK⟩
  ·cases h
theorem Wn (hC:HK P C):∀ {l:List SOper} {st st':St} {K:St→Prop},N7 P C l st=some st'→K st'→Wh P l st K
 | [],st,st',K,h,hK=>by
  obtain rfl:=zA h
  exact hK
 | o :: r,st,st',K,h,hK=>by
  simp only [N7] at h
  split at h
  ·rename_i e st1 h1
   exact TQ hC h1 (Wn hC h hK)
  ·cases h
theorem Rj:∀ {l:List SOper} {acc:List Ent} {st:St} {out:List Ent × St},HJ P C l acc st=some out→∃ es,out.1=acc++es∧HJ P C l [] st=some (es,out.2)
 | [],acc,st,out,h=>by
  obtain rfl:=zA h
  exact ⟨[],by simp,rfl⟩
 | o :: r,acc,st,out,h=>by
  simp only [HJ] at h ⊢
  split at h
  ·rename_i e st1 h1
   obtain ⟨es,e1,e2⟩:=Rj h
   have:∃ es',e :: es=es'∧HJ P C r ([]++[e]) st1=some (es',out.2):=by
    have key:∀ (l:List SOper) (a b:List Ent) (s:St) (es:List Ent) (s':St),HJ P C l a s=some (es,s')→HJ P C l (b++a) s=some (b++es,s'):=by
     intro l
     induction l with
     | nil=>intro a b s es s' h; simp only [HJ,zB,zE] at h ⊢; exact ⟨by rw [h.1],h.2⟩
     | cons o r ih =>
      intro a b s es s' h
      simp only [HJ] at h ⊢
      split at h
      ·rename_i e s1 h1
       rw [yI]
       exact ih _ _ _ _ _ h
      ·cases h
    refine ⟨_,rfl,?_⟩
    have:=key r [] [e] st1 es out.2 e2
    simpa using this
   obtain ⟨es',rfl,h3⟩:=this
   exact ⟨e :: es,by rw [e1]; simp,h3⟩
  ·cases h
theorem Wo (hC:HK P C):∀ {l:List SOper} {st st':St} {es:List Ent} {K:List Ent→St→Prop},HJ P C l [] st=some (es,st')→K es st'→Wg P l st K
 | [],st,st',es,K,h,hK=>by
  simp only [HJ,zB,zE] at h
  obtain ⟨rfl,rfl⟩:=h
  exact hK
 | o :: r,st,st',es,K,h,hK=>by
  simp only [HJ] at h
  split at h
  ·rename_i e st1 h1
   obtain ⟨es',e1,e2⟩:=Rj h
   simp only at e1
   subst e1
   exact TQ hC h1 (Wo hC e2 (by simpa using hK))
  ·cases h
end
mutual
def SV.back (m:List Nat):SV→Option SV
 | .ref g=>match HF m g with
  | some i=>some (.ref i)
  | none=>none
 | .ptr g o=>match HF m g with
  | some i=>some (.ptr i o)
  | none=>none
 | .eptr g sz k o=>match HF m g with
  | some i=>some (.eptr i sz k o)
  | none=>none
 | .agg l=>match SV.backL m l with
  | some l'=>some (.agg l')
  | none=>none
 | .tup l=>match SV.backL m l with
  | some l'=>some (.tup l')
  | none=>none
 | .fn f l=>match SV.backL m l with
  | some l'=>some (.fn f l')
  | none=>none
 | .any=>some .any
 | .int k n=>some (.int k n)
 | .bool b=>some (.bool b)
 | .str s=>some (.str s)
 | .nil=>some .nil
 | .arr es=>some (.arr es)
 | .vptr es k o=>some (.vptr es k o)
 | .mp ks m=>some (.mp ks m)
def SV.backL (m:List Nat):List SV→Option (List SV)
 | []=>some []
 | x :: r=>match SV.back m x with
  | some y=>match SV.backL m r with
   | some r'=>some (y :: r')
   | none=>none
  | none=>none
end
mutual
theorem SV.back_ren {m:List Nat} {p:Nat}:∀ {x y:SV},x.back m=some y→y.ren (sgp m p)=x
 | .ref g,y,h=>by
  simp only [SV.back] at h
  split at h
  ·rename_i i hi
   obtain rfl:=zA h
   simp only [SV.ren,J7 hi]
  ·cases h
 | .ptr g o,y,h=>by
  simp only [SV.back] at h
  split at h
  ·rename_i i hi
   obtain rfl:=zA h
   simp only [SV.ren,J7 hi]
  ·cases h
 | .eptr g sz k o,y,h=>by
  simp only [SV.back] at h
  split at h
  ·rename_i i hi
   obtain rfl:=zA h
   simp only [SV.ren,J7 hi]
  ·cases h
 | .agg l,y,h=>by
  simp only [SV.back] at h
  split at h
  ·rename_i l' hl
   obtain rfl:=zA h
   simp only [SV.ren,SV.HL hl]
  ·cases h
 | .tup l,y,h=>by
  simp only [SV.back] at h
  split at h
  ·rename_i l' hl
   obtain rfl:=zA h
   simp only [SV.ren,SV.HL hl]
  ·cases h
 | .fn f l,y,h=>by
  simp only [SV.back] at h
  split at h
  ·rename_i l' hl
   obtain rfl:=zA h
   simp only [SV.ren,SV.HL hl]
  ·cases h
 | .any,y,h=>by obtain rfl:=zA h; rfl
 | .int k n,y,h=>by obtain rfl:=zA h; rfl
 | .bool b,y,h=>by obtain rfl:=zA h; rfl
 | .str s,y,h=>by obtain rfl:=zA h; rfl
 | .nil,y,h=>by obtain rfl:=zA h; rfl
 | .arr es,y,h=>by obtain rfl:=zA h; rfl
 | .vptr es k o,y,h=>by obtain rfl:=zA h; rfl
 | .mp ks m,y,h=>by obtain rfl:=zA h; rfl
theorem SV.HL {m:List Nat} {p:Nat}:∀ {x y:List SV},SV.backL m x=some y→SV.KV (sgp m p) y=x
 | [],y,h=>by obtain rfl:=zA h; rfl
 | x :: r,y,h=>by
  simp only [SV.backL] at h
  split at h
  ·rename_i y1 h1
   split at h
   ·rename_i r' h2
    obtain rfl:=zA h
    simp only [SV.KV,SV.back_ren h1,SV.HL h2]
   ·cases h
  ·cases h
end
def HM (m:List Nat):List (Nat × Nat × Nat)→Option (List (Nat × Nat × Nat))
 | []=>some []
 | (k,o,q) :: r=>match HF m q with
  | some i=>match HM m r with
   | some r'=>some ((k,o,i) :: r')
   | none=>none
  | none=>none
theorem JQ {m:List Nat} {p:Nat}:∀ {hs hs':List (Nat × Nat × Nat)},HM m hs=some hs'→hs'.map (fun h=>(h.1,h.2.1,sgp m p h.2.2))=hs
 | [],hs',h=>by obtain rfl:=zA h; rfl
 | (k,o,q) :: r,hs',h=>by
  simp only [HM] at h
  split at h
  ·rename_i i hi
   split at h
   ·rename_i r' hr
    obtain rfl:=zA h
    simp only [zN,J7 hi,JQ hr]
   ·cases h
  ·cases h
def Ob.back (m:List Nat):Ob→Option Ob
 | .box t l=>match SV.backL m l with
  | some l'=>some (.box t l')
  | none=>none
 | .row t sz es=>some (.row t sz es)
 | .tree es hs=>match HM m hs with
  | some hs'=>some (.tree es hs')
  | none=>none
 | .gone=>some .gone
 | .mp ks m=>some (.mp ks m)
 | .it ks m seen cur=>some (.it ks m seen cur)
 | .shd _=>none
 | .free=>none
theorem Ob.back_ren {m:List Nat} {p:Nat} {x y:Ob} (h:x.back m=some y):y.ren (sgp m p)=x:=by
 cases x with
 | box t l =>
  simp only [Ob.back] at h
  split at h
  ·rename_i l' hl
   obtain rfl:=zA h
   simp only [Ob.ren,SV.HL hl]
  ·cases h
 | row t sz es=>obtain rfl:=zA h; rfl
 | tree es hs =>
  simp only [Ob.back] at h
  split at h
  ·rename_i hs' hl
   obtain rfl:=zA h
   simp only [Ob.ren,JQ hl]
  ·cases h
 | gone=>obtain rfl:=zA h; rfl
 | mp ks m=>obtain rfl:=zA h; rfl
 | it ks m seen cur=>obtain rfl:=zA h; rfl
 | shd es=>cases h
 | free=>cases h
def Gn (m:List Nat) (ob:List Ob):List Nat→Option (List Ob)
 | []=>some []
 | g :: r=>match (As ob g).back m with
  | some o=>match Gn m ob r with
   | some l=>some (o :: l)
   | none=>none
  | none=>none
theorem Mw {m:List Nat} {ob:List Ob}:∀ {l:List Nat} {r:List Ob},Gn m ob l=some r→r.length=l.length
 | [],r,h=>by obtain rfl:=zA h; rfl
 | g :: l,r,h=>by
  simp only [Gn] at h
  split at h
  ·split at h
   ·rename_i l' hl
    obtain rfl:=zA h
    simp [Mw hl]
   ·cases h
  ·cases h
theorem My {m:List Nat} {ob:List Ob} {p:Nat}:∀ (l:List Nat) (r:List Ob) (k:Nat),Gn m ob l=some r→(∀ j,j<l.length→sgp m p (k+j)=l.getD j 0)→Pm (As ob) (sgp m p) k r
 | [],r,k,h,_=>by obtain rfl:=zA h; trivial
 | a :: l,r,k,h,hs=>by
  simp only [Gn] at h
  split at h
  ·rename_i o ho
   split at h
   ·rename_i l' hl
    obtain rfl:=zA h
    have h0:=hs 0 (by simp)
    simp only [Nat.add_zero,List.getD_cons_zero] at h0
    refine ⟨by rw [h0,Ob.back_ren ho],My l l' (k+1) hl fun j hj=>?_⟩
    have:=hs (j+1) (by simpa using hj)
    simpa [Nat.add_assoc,Nat.add_comm 1 j] using this
   ·cases h
  ·cases h
mutual
def SV.refs:SV→List Nat
 | .ref g=>[g]
 | .ptr g _=>[g]
 | .eptr g _ _ _=>[g]
 | .agg l=>SV.Po l
 | .tup l=>SV.Po l
 | .fn _ l=>SV.Po l
 | _=>[]
def SV.Po:List SV→List Nat
 | []=>[]
 | x :: r=>x.refs++SV.Po r
end
def Ob.refs:Ob→List Nat
 | .box _ l=>SV.Po l
 | .tree _ hs=>hs.map (·.2.2)
 | _=>[]
def Ob.liveB:Ob→Bool
 | .free=>false
 | .gone=>false
 | .shd _=>false
 | _=>true
def reach (ob:List Ob):Nat→List Nat→List Nat→List Nat
 | 0,_,acc=>acc
 | _+1,[],acc=>acc
 | n+1,g :: r,acc=>bif HH g acc || !(As ob g).liveB then reach ob n r acc else reach ob n (r++(As ob g).refs) (acc++[g])
mutual
def SV.ptrs:SV→List Nat
 | .ptr g _=>[g]
 | .eptr g _ _ _=>[g]
 | .agg l=>SV.Pp l
 | .tup l=>SV.Pp l
 | .fn _ l=>SV.Pp l
 | _=>[]
def SV.Pp:List SV→List Nat
 | []=>[]
 | x :: r=>x.ptrs++SV.Pp r
end
inductive RM where
 |asis
 |frz
 |late
 |own (l:List (Option (Nat × Nat)))
 |half (l:List (Option (Nat × Nat)))
 |frzg (d n:Nat)
 |halfg (d n:Nat) (l:List (Option (Nat × Nat)))
 |tr (l:List (Option (Nat × Nat)))
 |frl (l:List Nat)
structure FM where
 hand:List Bool
 res:RM
 ext:Option (List SV→List Ob→Option (SV × List Ob))
 tree:Bool
def HN:List Bool→List SV→List Nat
 | [],xs=>SV.Pp xs
 | _,[]=>[]
 | b :: bs,x :: xs=>(bif b then x.refs else x.ptrs)++HN bs xs
abbrev FEnv:=FuncId→List SV→List Ob→Option (SV × List Ob)
def Rk (r:SV) (fob:List Ob):Bool:=r.noSh&&fob.all Ob.noSh
def Kv (n:Nat):List Nat→Bool
 | []=>true
 | g :: r=>decide (g < n)&&Kv n r
def If (n:Nat):List Ob→Bool
 | []=>true
 | o :: r=>o.idsB n&&If n r
def Hd (sel lent:List Nat) (p:Nat) (r:SV) (fob':List Ob):R3 :=
 bif lent.isEmpty || Rk r fob' then (r.ren (sgp sel p),mkU (sgp sel p) 0 fob',lent++sel)
 else (r.ren (sgp sel p),mkU (sgp sel p) 0 fob'++C7 lent,lent++sel)
def DI (hd:List Bool) (E:FEnv) (f:FuncId) (xs:List SV) (ob:List Ob) (sel:List Nat):Option R3 :=
 match Gn sel ob sel with
 | some fob=>bif Hw sel&&Kv ob.length sel&&If fob.length fob then
   match E f (Ha hd (As ob) sel xs) fob with
   | some (r,fob')=>bif decide (fob.length≤fob'.length) then some (Hd sel (BL sel xs) ob.length r fob') else none
   | none=>none
   else none
 | none=>none
def Ey (gs:List Nat):List (Nat × Ob)→List (Nat × Ob)
 | []=>[]
 | (g,o) :: r=>(g,bif HH g gs then .gone else o) :: Ey gs r
def Rl (u:List (Nat × Ob)):List Nat→Bool
 | []=>true
 | g :: r=>HH g (u.map (·.1))&&Rl u r
def seen (u:List (Nat × Ob)) (g:Nat):Ob:=(Bb u g).getD .gone
def Rm:R3→Option R3
 | (x,u,rd)=>bif Rl u (BK [] x) then some (Da (seen u) [] x,Ey (BK [] x) u,rd) else none
def G8:RM→Option R3→Option R3
 | .late,some r=>Rm r
 | .late,none=>none
 | _,r=>r
def D5 (M:FuncId→FM) (E:FEnv):CallF:=fun f xs ob=>G8 (M f).res (DI (M f).hand E f xs ob (reach ob 64 (HN (M f).hand xs) []))
theorem Kw {n:Nat}:∀ {l:List Nat},Kv n l=true→∀ g∈l,g<n
 | [],_,g,hg=>by cases hg
 | x :: r,h,g,hg=>by
  simp only [Kv,zD] at h
  rcases zL.1 hg with rfl | hg
  ·exact of_decide_eq_true h.1
  ·exact Kw h.2 g hg
theorem IT {n:Nat}:∀ {l:List Ob},If n l=true→∀ o∈l,o.idsB n=true
 | [],_,g,hg=>by cases hg
 | x :: r,h,g,hg=>by
  simp only [If,zD] at h
  rcases zL.1 hg with rfl | hg
  ·exact h.1
  ·exact IT h.2 g hg
theorem LI {l:List (Nat × Ob)} {gs:List Nat} {g:Nat}:Bb (l++C7 gs) g=match Bb l g with | some o=>some o | none=>if g∈gs then some .gone else none:=by
 induction l with
 | nil =>
  simp only [List.nil_append,Bb]
  induction gs with
  | nil=>simp [C7,Bb]
  | cons a r ih =>
   simp only [C7,zN,Bb] at ih ⊢
   by_cases h:a=g
   ·subst h; simp
   ·have h':¬ g=a:=fun e=>h e.symm
    simp [h,h',ih]
 | cons x l ih =>
  obtain ⟨a,o⟩:=x
  simp only [yM,Bb]
  by_cases h:a=g
  ·simp [h]
  ·simp [h,ih]
theorem CallP.given {P:Program} {f:FuncId} {cas:List SV} {fob:List Ob} {r:SV} {fob':List Ob} (h:Fun P f cas fob r fob') {xs:List SV} {ob:Nat→Ob} {p:Nat} {K:Kont} (sel:List Nat)
  (hargs:∃ hd,Ha hd ob sel xs=cas) (hsel:sel.length=fob.length∧sel.Nodup) (hlt:∀ g,g∈sel→g<p) (hlen:fob.length≤fob'.length) (hob:Pm ob (sgp sel p) 0 fob) (hids:∀ o,o∈fob→o.idsB fob.length=true) (hfree:N4 ob p)
  (hK:K (r.ren (sgp sel p)) (mkU (sgp sel p) 0 fob'++C7 (BL sel xs)) (BL sel xs++sel)):CallP P f xs ob p K:=by
 refine ⟨_,_,_,hK,fun ob' hrd hup w I V B vs hwf hxs=>?_⟩
 obtain ⟨hsl,hsn⟩:=hsel
 have hs1:∀ k,k<fob.length→∃ g,sel[k]?=some g∧sgp sel p k=g∧g<p:=fun k hk=>by
  have:k<sel.length:=by omega
  refine ⟨sel[k],zG this,by rw [EE,zG this],hlt _ (zR this)⟩
 have hs2:∀ k,fob.length≤k→sgp sel p k=p+(k-fob.length):=fun k hk=>by
  rw [EE,z6 (by omega),hsl]
 have hinj:∀ i j,sgp sel p i=sgp sel p j→i=j:=fun i j e=>by
  rcases zF i fob.length with h1 | h1 <;> rcases zF j fob.length with h2 | h2
  ·obtain ⟨g,g1,g2,g3⟩:=hs1 i h1
   obtain ⟨g',g1',g2',g3'⟩:=hs1 j h2
   have e2:g=g':=by rw [←g2,← g2',e]
   subst e2
   have a1:=Ie hsn g1
   have a2:=Ie hsn g1'
   rw [a1] at a2
   exact zA a2
  ·obtain ⟨g,g1,g2,g3⟩:=hs1 i h1
   have:=hs2 j h2
   omega
  ·obtain ⟨g,g1,g2,g3⟩:=hs1 j h2
   have:=hs2 i h1
   omega
  ·have:=hs2 i h1
   have:=hs2 j h2
   omega
 have htm:∀ g,g∈(mkU (sgp sel p) 0 fob').map (·.1) ↔ ∃ k,k<fob'.length∧sgp sel p k=g:=fun g=>by
  rw [Qh]
  simp
 have htouch:∀ g,A7 (mkU (sgp sel p) 0 fob'++C7 (BL sel xs)) g ↔ (∃ k,k<fob'.length∧sgp sel p k=g)∨g∈BL sel xs:=fun g=>by
  unfold A7
  rw [yB,zK,htm]
  simp [C7]
 have hlook:∀ k,k<fob'.length→AL ob' (mkU (sgp sel p) 0 fob'++C7 (BL sel xs)) (sgp sel p k)=(As fob' k).ren (sgp sel p):=fun k hk=>by
  have:=N3 (σ:=sgp sel p) (l:=fob') (k:=0) (j:=k) (fun i i' _ _ _ _ e=>hinj i i' e) hk
  rw [zQ] at this
  unfold AL
  rw [LI,this]; rfl
 have hlookg:∀ g,g∈BL sel xs→¬ (AL ob' (mkU (sgp sel p) 0 fob'++C7 (BL sel xs)) g).live∨∃ k,k<fob'.length∧sgp sel p k=g:=fun g hg=>by
  by_cases h1:∃ k,k<fob'.length∧sgp sel p k=g
  ·exact .inr h1
  ·left
   have h2:Bb (mkU (sgp sel p) 0 fob') g=none:=LC (upd:=mkU (sgp sel p) 0 fob') fun h=>h1 ((htm g).1 h)
   unfold AL
   rw [LI,h2]
   simp only [hg,if_true,Option.getD_some]
   exact fun h=>h
 have hobk:∀ k,k<fob.length→ob' (sgp sel p k)=(As fob k).ren (sgp sel p):=fun k hk=>by
  have:=Ku hob hk
  rw [zQ] at this
  obtain ⟨g,g1,g2,g3⟩:=hs1 k hk
  rw [←this,g2]
  exact hrd g (zZ _ (z8 g1))
 have hnew:∀ k,fob.length≤k→k<fob'.length→ob' (sgp sel p k)=.free:=fun k h1 h2=>by
  rw [hup _ ((htouch _).2 (.inl ⟨k,h2,rfl⟩))]
  exact hfree _ (by rw [hs2 k h1]; omega)
 have hlv:∀ k,(As fob k).live→k<fob.length:=fun k hl=>by
  rcases zF k fob.length with h1 | h1
  ·exact h1
  ·rw [B6 _ _ h1] at hl; exact hl.elim
 have hlv':∀ k,(As fob' k).live→k<fob'.length:=fun k hl=>by
  rcases zF k fob'.length with h1 | h1
  ·exact h1
  ·rw [B6 _ _ h1] at hl; exact hl.elim
 have hlvo:∀ k,(As fob k).live→(ob' (sgp sel p k)).live:=fun k hl=>by
  rw [hobk k (hlv k hl)]
  exact (Ob.KW _).2 hl
 have hlent:∀ g,g∈BL sel xs→ob' g=ob g:=fun g hg=>hrd g (List.mem_append_left _ hg)
 let Vc:Nat→Option Value:=fun k=>if k<fob.length then V (sgp sel p k) else none
 let Bc:Nat→Nat→Prop:=fun k=>B (sgp sel p k)
 let J:Nat→Prop:=fun b=>I b∨∃ g,g∈BL sel xs∧(ob' g).live∧B g b
 have notsel:∀ g,g∈BL sel xs→∀ k,k<fob.length→sgp sel p k≠g:=by
  intro g hg k hk e
  have h1:=Gx xs g hg
  obtain ⟨g',g1,g2,_⟩:=hs1 k hk
  rw [g2] at e
  subst e
  rw [Ie hsn g1] at h1
  cases h1
 have hIJ:∀ b,I b→J b:=fun b hb=>.inl hb
 have hwfc:Wf w J Vc Bc (As fob):=by
  refine ⟨fun b hb=>?_,fun k hl=>?_,fun k b hl hb=>hwf.lt _ b (hlvo k hl) hb,fun k b hl hb hJ=>?_,fun k k' b hl hl' hb hb'=>hinj _ _ (hwf.dO _ _ b (hlvo k hl) (hlvo k' hl') hb hb'),fun k hf=>?_,hwf.gl.keep (KeepS.refl _ _) hIJ⟩
  ·rcases hb with hb | ⟨g,_,hl,hb⟩
   ·exact hwf.ilt b hb
   ·exact hwf.lt g b hl hb
  ·have hk:=hlv k hl
   obtain ⟨val,h1,h2⟩:=hwf.obj _ (hlvo k hl)
   refine ⟨val,by simp only [Vc,hk,if_true]; exact h1,?_⟩
   rw [hobk k hk] at h2
   have h3:=(ObR.ren _).1 h2
   have h4:=ObR.idsB (n:=fob.length) (V':=Vc) (fun g hg=>by simp only [Vc,hg,if_true]) (hids _ (KX hk)) h3
   exact h4.keep ⟨zH _,fun _ _ _=>rfl⟩ hIJ (VLe.refl _) fun _ _ _=>rfl
  ·rcases hJ with hJ | ⟨g,hg,hlg,hgb⟩
   ·exact hwf.dI _ b (hlvo k hl) hb hJ
   ·exact notsel g hg k (hlv k hl) (hwf.dO _ _ b (hlvo k hl) hlg hb hgb)
  ·by_cases hk:k<fob.length
   ·simp only [Vc,hk,if_true]
    refine hwf.fr _ ?_
    rw [hobk k hk,hf]; rfl
   ·simp only [Vc,hk,if_false]
 have hargs':RepVs w J Vc cas vs:=by
  obtain ⟨hd,hargs⟩:=hargs
  rw [←hargs,← IQ (ob:=ob) (ob':=ob') hd xs hlent]
  refine LG hwf hIJ (fun g i hi=>?_) hd xs vs (fun g b hg hl hb=>.inr ⟨g,hg,hl,hb⟩) hxs
  have hlt':i<fob.length:=by rw [←hsl]; exact (yG.1 (J6 hi)).1
  simp only [Vc,hlt',if_true,J7 hi]
 refine (h w J Vc Bc vs hwfc hargs').mono ?_
 rintro e w' ⟨v,I',V',B',rfl,hr,hpost⟩
 obtain ⟨hfr,hi0,hi1,hv,hwf',hbh⟩:=hpost
 have hHB:∀ b,HB Bc fob b→∃ g,A7 (mkU (sgp sel p) 0 fob'++C7 (BL sel xs)) g∧(ob' g).live∧B g b:=fun b ⟨k,hl,hb⟩=>⟨sgp sel p k,(htouch _).2 (.inl ⟨k,by have:=hlv k hl; omega,rfl⟩),hlvo k hl,hb⟩
 classical
 let V2:Nat→Option Value:=fun g=>if hg:∃ k,k<fob'.length∧sgp sel p k=g then V' (Classical.choose hg) else V g
 let B2:Nat→Nat→Prop:=fun g=>if hg:∃ k,k<fob'.length∧sgp sel p k=g then B' (Classical.choose hg) else B g
 have hV2:∀ k,k<fob'.length→V2 (sgp sel p k)=V' k:=fun k hk=>by
  have hg:∃ k',k' < fob'.length∧sgp sel p k'=sgp sel p k:=⟨k,hk,rfl⟩
  have:V2 (sgp sel p k)=V' (Classical.choose hg):=dif_pos hg
  rw [this,hinj _ _ (Classical.choose_spec hg).2]
 have hB2:∀ k,k<fob'.length→B2 (sgp sel p k)=B' k:=fun k hk=>by
  have hg:∃ k',k' < fob'.length∧sgp sel p k'=sgp sel p k:=⟨k,hk,rfl⟩
  have:B2 (sgp sel p k)=B' (Classical.choose hg):=dif_pos hg
  rw [this,hinj _ _ (Classical.choose_spec hg).2]
 have hV2n:∀ g,¬ (∃ k,k<fob'.length∧sgp sel p k=g)→V2 g=V g:=fun g hg=>dif_neg hg
 have hB2n:∀ g,¬ (∃ k,k<fob'.length∧sgp sel p k=g)→B2 g=B g:=fun g hg=>dif_neg hg
 have hVV:VLe V V2:=fun g u hu=>by
  by_cases hg:∃ k,k<fob'.length∧sgp sel p k=g
  ·obtain ⟨k,hk,rfl⟩:=hg
   rw [hV2 k hk]
   by_cases h1:k<fob.length
   ·exact hv k u (by simp only [Vc,h1,if_true]; exact hu)
   ·rw [hwf.fr _ (hnew k (by omega) hk)] at hu; cases hu
  ·rw [hV2n g hg]; exact hu
 have hV'σ:VLe V' (fun k=>V2 (sgp sel p k)):=fun k u hu=>by
  rcases zF k fob'.length with h1 | h1
  ·simp only [hV2 k h1]; exact hu
  ·rw [hwf'.fr k (B6 _ _ h1)] at hu; cases hu
 have kr:KeepS I' w' w':=⟨zH _,fun _ _ _=>rfl⟩
 have hres:RepV w' I' V2 (r.ren (sgp sel p)) v:=(RepV.ren r v).2 (RepV.mono kr (fun b hb=>hb) hV'σ _ _ hr)
 have hobr:∀ k,(As fob' k).live→∃ val,V2 (sgp sel p k)=some val∧ObR w' I' V2 (B2 (sgp sel p k)) val ((As fob' k).ren (sgp sel p)):=fun k hl=>by
  have hk:=hlv' k hl
  obtain ⟨val,h1,h2⟩:=hwf'.obj k hl
  refine ⟨val,by rw [hV2 k hk]; exact h1,(ObR.ren _).2 ?_⟩
  rw [hB2 k hk]
  exact h2.keep kr (fun b hb=>hb) hV'σ fun _ _ _=>rfl
 let T:Nat→Prop:=A7 (mkU (sgp sel p) 0 fob'++C7 (BL sel xs))
 have hi2:∀ b,I' b→I b∨w.heap.size≤b∨∃ g,T g∧(ob' g).live∧B g b:=fun b hb=>by
  rcases hi1 b hb with h1 | h1 | h1
  ·rcases h1 with h1 | ⟨g,h1,h2,h3⟩
   ·exact .inl h1
   ·exact .inr (.inr ⟨g,(htouch g).2 (.inr h1),h2,h3⟩)
  ·exact .inr (.inl h1)
  ·exact .inr (.inr (hHB b h1))
 have hkeep:∀ b,b<w.heap.size→(∀ g,T g→(ob' g).live→¬ B g b)→w'.heap[b]?=w.heap[b]?:=fun b hb hno=>hfr.block b hb fun hH=>by
  obtain ⟨g,h1,h2,h3⟩:=hHB b hH
  exact hno g h1 h2 h3
 have live2:∀ k,k<fob'.length→(AL ob' (mkU (sgp sel p) 0 fob'++C7 (BL sel xs)) (sgp sel p k)).live→(As fob' k).live:=fun k hk hl=>by
  rw [hlook k hk] at hl
  exact (Ob.KW _).1 hl
 have liveT:∀ g,T g→(AL ob' (mkU (sgp sel p) 0 fob'++C7 (BL sel xs)) g).live→∃ k,k<fob'.length∧sgp sel p k=g:=fun g hg hl=>by
  rcases (htouch g).1 hg with h1 | h1
  ·exact h1
  ·rcases hlookg g h1 with h2 | h2
   ·exact absurd hl h2
   ·exact h2
 have hbf:∀ k b,(As fob' k).live→B' k b→(w.heap.size≤b∧b<w'.heap.size)∨∃ g0,T g0∧(ob' g0).live∧B g0 b:=fun k b hl hb=>by
  rcases hbh k b hl hb with h1 | h1
  ·exact .inr (hHB b h1)
  ·exact .inl ⟨h1,hwf'.lt k b hl hb⟩
 have hwf2:Wf w' I' V2 B2 (AL ob' (mkU (sgp sel p) 0 fob'++C7 (BL sel xs))):=by
  refine hwf.upd T hfr.size hkeep (fun b hb=>hi0 b (hIJ b hb)) hVV (fun g hg=>⟨J3 hg,hB2n g (fun h=>hg ((htouch g).2 (.inl h))),fun hf=>by rw [hV2n g (fun h=>hg ((htouch g).2 (.inl h)))]; exact hwf.fr g hf⟩) hi2 (fun b hb=>hwf'.ilt b hb) (fun g hg hl=>?_) (fun g b hg hl hb=>?_) (fun g b hg hl hb hI=>?_) (fun g g' b hg hg' hl hl' hb hb'=>?_) (fun g hg hf=>?_)
  ·obtain ⟨k,hk,rfl⟩:=liveT g hg hl
   rw [hlook k hk]
   exact hobr k (live2 k hk hl)
  ·obtain ⟨k,hk,rfl⟩:=liveT g hg hl
   rw [hB2 k hk] at hb
   exact hbf k b (live2 k hk hl) hb
  ·obtain ⟨k,hk,rfl⟩:=liveT g hg hl
   rw [hB2 k hk] at hb
   exact hwf'.dI k b (live2 k hk hl) hb hI
  ·obtain ⟨k,hk,rfl⟩:=liveT g hg hl
   obtain ⟨k',hk',rfl⟩:=liveT g' hg' hl'
   rw [hB2 k hk] at hb
   rw [hB2 k' hk'] at hb'
   rw [hwf'.dO k k' b (live2 k hk hl) (live2 k' hk' hl') hb hb']
  ·by_cases h1:∃ k,k<fob'.length∧sgp sel p k=g
   ·obtain ⟨k,hk,rfl⟩:=h1
    rw [hV2 k hk]
    rw [hlook k hk] at hf
    refine hwf'.fr k ?_
    cases hq:As fob' k <;> rw [hq] at hf <;> simp [Ob.ren] at hf ⊢
   ·exfalso
    rcases (htouch g).1 hg with h2 | h2
    ·exact h1 h2
    ·have h3:Bb (mkU (sgp sel p) 0 fob') g=none:=LC (upd:=mkU (sgp sel p) 0 fob') fun h=>h1 ((htm g).1 h)
     unfold AL at hf
     rw [LI,h3] at hf
     simp only [h2,if_true,Option.getD_some] at hf
     cases hf
 refine ⟨v,I',V2,B2,rfl,hres,⟨hwf2,hfr.os,hfr.tape,hfr.output,hfr.size,hkeep,fun b hb=>hi0 b (hIJ b hb),hi2,hVV,fun g hg=>hB2n g fun h=>hg ((htouch g).2 (.inl h)),fun g b hg hl hb=>?_⟩⟩
 obtain ⟨k,hk,rfl⟩:=liveT g hg hl
 rw [hB2 k hk] at hb
 exact (hbf k b (live2 k hk hl) hb).imp (fun h=>h.1) id
theorem UG {r:SV} {l:List Ob} (h:Rk r l=true):r.noSh=true∧∀ o,o∈l→o.noSh=true:=by
 unfold Rk at h
 rw [zD] at h
 exact ⟨h.1,zO.1 h.2⟩
def J9 (P:Program) (E:FEnv):Prop:=∀ f xs ob r ob',E f xs ob=some (r,ob')→Fun P f xs ob r ob'
theorem C3 {P:Program} {E:FEnv} (hE:J9 P E) {hd:List Bool} {f:FuncId} {xs:List SV} {ob:List Ob} {sel:List Nat} {x:SV} {u:List (Nat × Ob)} {rd:List Nat} (h:DI hd E f xs ob sel=some (x,u,rd)) (K:Kont) (hK:K x u rd):CallP P f xs (As ob) ob.length K:=by
 unfold DI at h
 split at h
 ·rename_i fob hfob
  obtain ⟨h1,h2⟩:=Az h
  split at h2
  ·rename_i r fob' hr
   obtain ⟨h3,h4⟩:=Az h2
   simp only [zD] at h1
   have hlen:=Mw hfob
   have hsel:Pm (As ob) (sgp sel ob.length) 0 fob:=My sel fob 0 hfob fun j hj=>by
    rw [zQ,EE,zG hj]
    simp [zU,zG hj]
   have h4:Hd sel (BL sel xs) ob.length r fob'=(x,u,rd):=zA h4
   unfold Hd at h4
   cases hb:((BL sel xs).isEmpty || Rk r fob') with
   | true =>
    rw [hb] at h4
    simp only [cond_true,zE] at h4
    obtain ⟨rfl,rfl,rfl⟩:=h4
    refine CallP.of (hE f _ _ _ _ hr) sel ⟨hd,rfl⟩ ⟨hlen.symm,G7.1 h1.1.1⟩ (Kw h1.1.2) (of_decide_eq_true h3) hsel (IT h1.2) (N5 rfl) ?_ hK
    rw [Bool.or_eq_true] at hb
    exact hb.imp isEmpty_nil UG
   | false =>
    rw [hb] at h4
    simp only [cond_false,zE] at h4
    obtain ⟨rfl,rfl,rfl⟩:=h4
    exact CallP.given (hE f _ _ _ _ hr) sel ⟨hd,rfl⟩ ⟨hlen.symm,G7.1 h1.1.1⟩ (Kw h1.1.2) (of_decide_eq_true h3) hsel (IT h1.2) (N5 rfl) hK
  ·cases h2
 ·cases h
theorem Mz {gs:List Nat} {g:Nat}:∀ {u:List (Nat × Ob)},Bb (Ey gs u) g=if g∈gs then (Bb u g).map (fun _=>.gone) else Bb u g
 | []=>by simp [Ey,Bb]
 | (a,o) :: u=>by
  rw [Ey,Bb,Bb]
  by_cases h:a=g
  ·subst h
   rw [if_pos rfl,if_pos rfl]
   by_cases hm:a∈gs
   ·rw [if_pos hm,E6.2 hm]; rfl
   ·have:HH a gs=false:=by
     cases e:HH a gs with
     | false=>rfl
     | true=>exact absurd (E6.1 e) hm
    rw [if_neg hm,this]; rfl
  ·rw [if_neg h,if_neg h,Mz]
theorem IU {gs:List Nat}:∀ {u:List (Nat × Ob)},(Ey gs u).map (·.1)=u.map (·.1)
 | []=>rfl
 | (a,o) :: u=>by rw [Ey,zN,zN,IU]
theorem Pq {u:List (Nat × Ob)}:∀ {l:List Nat},Rl u l=true→∀ g∈l,g∈u.map (·.1)
 | [],_,g,hg=>by cases hg
 | x :: r,h,g,hg=>by
  simp only [Rl,zD] at h
  rcases zL.1 hg with rfl | hg
  ·exact E6.1 h.1
  ·exact Pq h.2 g hg
theorem Rn {u:List (Nat × Ob)} {g:Nat} (h:g∈u.map (·.1)):∃ o,Bb u g=some o:=by
 induction u with
 | nil=>cases h
 | cons q r ih =>
  obtain ⟨a,o⟩:=q
  rw [Bb]
  by_cases e:a=g
  ·exact ⟨o,if_pos e⟩
  ·rw [if_neg e]
   simp only [zN,zL] at h
   exact ih (h.resolve_left fun h=>e h.symm)
theorem Wf.less {w:World} {I:Nat→Prop} {V:Nat→Option Value} {B:Nat→Nat→Prop} {ob ob2:Nat→Ob} (h:Wf w I V B ob) (hl:∀ g,ob2 g=ob g∨ob2 g=.gone):Wf w I V B ob2:=by
 have live:∀ g,(ob2 g).live→ob2 g=ob g:=fun g hg=>(hl g).resolve_right fun e=>by rw [e] at hg; exact hg.elim
 refine ⟨h.ilt,fun g hg=>?_,fun g b hg=>?_,fun g b hg=>?_,fun g g' b hg hg'=>?_,fun g hg=>?_,h.gl⟩
 ·have e:=live g hg
  rw [e] at hg ⊢; exact h.obj g hg
 ·rw [live g hg] at hg; exact h.lt g b hg
 ·rw [live g hg] at hg; exact h.dI g b hg
 ·rw [live g hg] at hg; rw [live g' hg'] at hg'; exact h.dO g g' b hg hg'
 ·rcases hl g with e | e
  ·rw [e] at hg; exact h.fr g hg
  ·rw [e] at hg; cases hg
theorem CallOK.late {P:Program} {f:FuncId} {xs:List SV} {ob:Nat→Ob} {x:SV} {u:List (Nat × Ob)} (h:CallOK P f xs ob x u) (hk:∀ g∈BK [] x,g∈u.map (·.1)):CallOK P f xs ob (Da (seen u) [] x) (Ey (BK [] x) u):=by
 intro w I V B vs hwf hvs
 refine (h w I V B vs hwf hvs).mono ?_
 rintro e w' ⟨v,I',V',B',rfl,hr,ha⟩
 have hwf':=ha.wf
 have hseen:∀ g,seen u g=AL ob u g∨seen u g=.gone:=fun g=>by
  unfold seen AL
  cases Bb u g with
  | none=>exact .inr rfl
  | some o=>exact .inl rfl
 have hseenk:∀ g,g∈u.map (·.1)→seen u g=AL ob u g:=fun g hg=>by
  obtain ⟨o,ho⟩:=Rn hg
  unfold seen AL
  rw [ho]; rfl
 have hnew:∀ g,AL ob (Ey (BK [] x) u) g=if g∈BK [] x then .gone else AL ob u g:=fun g=>by
  unfold AL
  rw [Mz]
  by_cases hm:g∈BK [] x
  ·obtain ⟨o,ho⟩:=Rn (hk g hm)
   rw [if_pos hm,if_pos hm,ho]; rfl
  ·rw [if_neg hm,if_neg hm]
 have hlive:∀ g,(AL ob (Ey (BK [] x) u) g).live→(AL ob u g).live∧g ∉ BK [] x:=fun g hl=>by
  rw [hnew g] at hl
  by_cases hm:g∈BK [] x
  ·rw [if_pos hm] at hl; exact hl.elim
  ·rw [if_neg hm] at hl; exact ⟨hl,hm⟩
 have htch:∀ g,A7 (Ey (BK [] x) u) g ↔ A7 u g:=fun g=>by unfold A7; rw [IU]
 let J:Nat→Prop:=fun b=>I' b∨∃ g,g∈BK [] x∧(AL ob u g).live∧B' g b
 refine ⟨v,J,V',B',rfl,?_,⟨⟨fun b hb=>?_,fun g hg=>?_,fun g b hg hb=>hwf'.lt g b (hlive g hg).1 hb,fun g b hg hb hJ=>?_,fun g g' b hg hg' hb hb'=>hwf'.dO g g' b (hlive g hg).1 (hlive g' hg').1 hb hb',fun g hg=>?_,hwf'.gl.keep (KeepS.refl _ _) fun _ h=>.inl h⟩,ha.os,ha.tape,ha.output,ha.size,fun b hb hno=>ha.block b hb fun g hg=>hno g ((htch g).2 hg),fun b hb=>.inl (ha.i0 b hb),fun b hb=>?_,ha.v,fun g hg=>ha.out g fun h=>hg ((htch g).2 h),fun g b hg hl hb=>?_⟩⟩
 ·exact J8 (hwf'.less hseen) (fun b hb=>.inl hb) (fun g i hi=>by cases hi) x v (fun g b hm hl hb=>.inr ⟨g,hm,by rw [←hseenk g (hk g hm)]; exact hl,hb⟩) hr
 ·rcases hb with hb | ⟨g,_,hl,hb⟩
  ·exact hwf'.ilt b hb
  ·exact hwf'.lt g b hl hb
 ·obtain ⟨h1,h2⟩:=hlive g hg
  rw [hnew g,if_neg h2]
  obtain ⟨val,h3,h4⟩:=hwf'.obj g h1
  exact ⟨val,h3,h4.keep (KeepS.refl _ _) (fun _ h=>.inl h) (VLe.refl _) fun _ _ _=>rfl⟩
 ·obtain ⟨h1,h2⟩:=hlive g hg
  rcases hJ with hJ | ⟨g',hm,hl,hb'⟩
  ·exact hwf'.dI g b h1 hb hJ
  ·rw [hwf'.dO g g' b h1 hl hb hb'] at h2
   exact h2 hm
 ·rw [hnew g] at hg
  by_cases hm:g∈BK [] x
  ·rw [if_pos hm] at hg; cases hg
  ·rw [if_neg hm] at hg; exact hwf'.fr g hg
 ·rcases hb with hb | ⟨g,hm,hl,hb⟩
  ·rcases ha.i1 b hb with h1 | h1 | ⟨g,h1,h2⟩
   ·exact .inl h1
   ·exact .inr (.inl h1)
   ·exact .inr (.inr ⟨g,(htch g).2 h1,h2⟩)
  ·rcases ha.b1 g b (hk g hm) hl hb with h1 | ⟨g0,h1,h2⟩
   ·exact .inr (.inl h1)
   ·exact .inr (.inr ⟨g0,(htch g0).2 h1,h2⟩)
 ·rcases ha.b1 g b ((htch g).1 hg) (hlive g hl).1 hb with h1 | ⟨g0,h1,h2⟩
  ·exact .inl h1
  ·exact .inr ⟨g0,(htch g0).2 h1,h2⟩
theorem S8 {P:Program} {M:FuncId→FM} {E:FEnv} (hE:J9 P E):HK P (D5 M E):=fun ob f xs x u rd h K hK=>by
 unfold D5 at h
 cases hm:(M f).res with
 | asis=>rw [hm] at h; exact C3 hE h K hK
 | frz=>rw [hm] at h; exact C3 hE h K hK
 | own l=>rw [hm] at h; exact C3 hE h K hK
 | tr l=>rw [hm] at h; exact C3 hE h K hK
 | half l=>rw [hm] at h; exact C3 hE h K hK
 | halfg d n l=>rw [hm] at h; exact C3 hE h K hK
 | frzg d n=>rw [hm] at h; exact C3 hE h K hK
 | frl l=>rw [hm] at h; exact C3 hE h K hK
 | late =>
  rw [hm] at h
  cases hq:DI (M f).hand E f xs ob (reach ob 64 (HN (M f).hand xs) []) with
  | none=>rw [hq] at h; cases h
  | some q =>
   obtain ⟨x0,u0,rd0⟩:=q
   rw [hq] at h
   have h:Rm (x0,u0,rd0)=some (x,u,rd):=h
   unfold Rm at h
   obtain ⟨h1,h2⟩:=Az h
   simp only [zB,zE] at h2
   obtain ⟨rfl,rfl,rfl⟩:=h2
   obtain ⟨x1,u1,rd1,⟨rfl,rfl,rfl⟩,hall⟩:=C3 hE hq (fun a b c=>a=x0∧b=u0∧c=rd0) ⟨rfl,rfl,rfl⟩
   exact ⟨_,_,_,hK,fun ob' h3 h4=>(hall ob' h3 fun g hg=>h4 g (by rw [IU]; exact hg)).late (Pq h1)⟩
def KZ:Nat→List Nat
 | 0=>[]
 | n+1=>KZ n++[n]
theorem Wp {n g:Nat}:g∈KZ n ↔ g<n:=by
 induction n with
 | zero=>simp [KZ]
 | succ n ih=>simp [KZ,ih]; omega
theorem N8:∀ n,(KZ n).Nodup
 | 0=>yQ
 | n+1=>by
  simp only [KZ,zX,N8 n,yA,yN,not_false_eq_true,yQ,true_and]
  intro a ha b hb
  simp only [zL,yN,or_false] at hb
  have:=Wp.1 ha
  omega
theorem IV:∀ n,(KZ n).length=n
 | 0=>rfl
 | n+1=>by simp [KZ,IV n]
theorem Ro:∀ {n g:Nat},g<n→(KZ n)[g]?=some g
 | 0,g,h=>absurd h (by omega)
 | n+1,g,h=>by
  simp only [KZ]
  rcases zF g n with h1 | h1
  ·rw [yH (by rw [IV]; exact h1)]
   exact Ro h1
  ·obtain rfl:g=n:=by omega
   rw [List.getElem?_append_right (by rw [IV]; omega),IV]
   simp
theorem LJ (ob:List Ob):∀ (n:Nat) (todo acc:List Nat),∃ t,reach ob n todo acc=acc++t
 | 0,_,acc=>⟨[],by simp [reach]⟩
 | n+1,[],acc=>⟨[],by simp [reach]⟩
 | n+1,g :: r,acc=>by
  simp only [reach]
  cases (HH g acc || !(As ob g).liveB) with
  | true=>exact LJ ob n r acc
  | false =>
   obtain ⟨t,h⟩:=LJ ob n (r++(As ob g).refs) (acc++[g])
   exact ⟨g :: t,by simp only [cond_false,h]; simp⟩
theorem IW (ob:List Ob):∀ (n:Nat) (todo acc:List Nat),acc.Nodup→(reach ob n todo acc).Nodup
 | 0,_,acc,h=>by simpa [reach] using h
 | n+1,[],acc,h=>by simpa [reach] using h
 | n+1,g :: r,acc,h=>by
  simp only [reach]
  cases hb:(HH g acc || !(As ob g).liveB) with
  | true=>exact IW ob n r acc h
  | false =>
   refine IW ob n _ _ ?_
   rw [Bool.or_eq_false_iff] at hb
   rw [zX]
   refine ⟨h,by simp,fun a ha b hb' e=>?_⟩
   simp only [zL,yN,or_false] at hb'
   subst hb' e
   have:=E6.2 ha
   rw [hb.1] at this; cases this
def M0 (m:List Nat) (ob:List Ob):List Nat→List Ob
 | []=>[]
 | g :: r=>(match (As ob g).back m with
  | some o=>o
  | none=>.gone) :: M0 m ob r
theorem Pr {m:List Nat} {ob:List Ob}:∀ {l:List Nat},(M0 m ob l).length=l.length
 | []=>rfl
 | g :: r=>by simp [M0,Pr (l:=r)]
theorem S9 {σ:Nat→Nat} {x y:SV} (h:x.ren σ=y):leV σ x y:=by cases x <;> first | exact trivial | exact h
theorem Wq {σ:Nat→Nat}:∀ {xs ys:List SV},SV.KV σ xs=ys→leL σ xs ys
 | [],ys,h=>by simp only [SV.KV] at h; subst h; trivial
 | x :: xs,ys,h=>by
  simp only [SV.KV] at h
  subst h
  exact ⟨S9 rfl,Wq rfl⟩
theorem Wr {m:List Nat} {p:Nat} (o:Ob):leO (sgp m p) (match o.back m with | some o'=>o' | none=>.gone) o:=by
 split
 ·rename_i o' h
  have:=Ob.back_ren (p:=p) h
  cases o' with
  | gone=>exact trivial
  | free=>cases o <;> simp [Ob.back] at h <;> (split at h <;> cases h)
  | box t l=>subst this; exact ⟨rfl,Wq rfl⟩
  | row t sz es=>subst this; exact ⟨rfl,rfl,rfl⟩
  | mp ks m=>subst this; exact ⟨rfl,rfl⟩
  | it ks m seen cur=>subst this; exact ⟨rfl,rfl,rfl,rfl⟩
  | shd es=>cases o <;> simp [Ob.back] at h <;> (split at h <;> cases h)
  | tree es hs=>subst this; exact rfl
 ·trivial
theorem Rp {m:List Nat} {p:Nat} {ob:List Ob}:∀ {l:List Nat} {k:Nat},(∀ j,j<l.length→sgp m p (k+j)=l.getD j 0)→Yi (sgp m p) ob k (M0 m ob l)
 | [],k,_=>trivial
 | g :: r,k,hs=>by
  have h0:=hs 0 (by simp)
  simp only [Nat.add_zero,List.getD_cons_zero] at h0
  refine ⟨by rw [h0]; exact Wr _,Rp fun j hj=>?_⟩
  have:=hs (j+1) (by simpa using hj)
  simpa [Nat.add_assoc,Nat.add_comm 1 j] using this
def names (n0:Nat) (ob:List Ob) (todo:List Nat):List Nat:=reach ob 64 todo (KZ n0)
theorem N9 {n0:Nat} {ob:List Ob} {todo:List Nat} {sl sl':List SV} (h:leL (sgp (names n0 ob todo) ob.length) sl' sl):WeakC n0 (names n0 ob todo) ⟨sl,ob⟩ ⟨sl',M0 (names n0 ob todo) ob (names n0 ob todo)⟩:=by
 obtain ⟨t,ht⟩:=LJ ob 64 todo (KZ n0)
 refine ⟨h,Rp fun j hj=>?_,⟨Pr.symm,IW _ _ _ _ (N8 n0)⟩,?_⟩
 ·rw [zQ,EE,zG hj]
  simp [zU,zG hj]
 ·have key:∀ n,n≤n0→Yj (sgp (names n0 ob todo) ob.length) n:=by
   intro n
   induction n with
   | zero=>intro _; trivial
   | succ n ih =>
    intro hn
    refine ⟨?_,ih (by omega)⟩
    have:(names n0 ob todo)[n]?=some n:=by
     unfold names
     rw [ht,yH (by rw [IV]; omega)]
     exact Ro (by omega)
    show sgp (names n0 ob todo) ob.length n=n
    rw [EE,this]
  exact key n0 (zH _)
section
variable {P:Program} {f:FuncId} {args:List SV} {ob:List Ob} {r:SV} {ob':List Ob}
theorem Fun.weak {r2:SV} {ob2:List Ob} {m:List Nat} (h:Fun P f args ob r ob') (hw:WeakC ob.length m ⟨[r],ob'⟩ ⟨[r2],ob2⟩):Fun P f args ob r2 ob2:=by
 intro w I V B vs hwf hvs
 refine (h w I V B vs hwf hvs).mono ?_
 rintro e w' ⟨v,I',V',B',rfl,hr,hp⟩
 refine ⟨v,I',fun g=>V' (sgp m ob'.length g),fun g=>B' (sgp m ob'.length g),rfl,?_,⟨hp.fr,hp.i0,hp.i1,fun g u hu=>?_,hw.wf hp.wf,fun g b hl hb=>?_⟩⟩
 ·have h1:=hw.1
  simp only [leL] at h1
  exact MZ h1.1 hr
 ·have hg:g<ob.length:=by
   rcases zF g ob.length with h1 | h1
   ·exact h1
   ·rw [hwf.fr g (B6 _ _ h1)] at hu; cases hu
  rw [J5 hw.2.2.2 g hg]
  exact hp.v g u hu
 ·have hlt:g<ob2.length:=by
   rcases zF g ob2.length with h1 | h1
   ·exact h1
   ·rw [B6 _ _ h1] at hl; exact hl.elim
  have h1:=Gw (j:=g) hw.2.1 hlt
  rw [zQ] at h1
  exact hp.bh _ b (FL h1 hl) hb
end
def gc (n0:Nat) (r:SV) (ob:List Ob):Option (SV × List Ob) :=
 match r.back (names n0 ob r.refs) with
 | some r'=>some (r',M0 (names n0 ob r.refs) ob (names n0 ob r.refs))
 | none=>none
theorem He {n0:Nat} {r r':SV} {ob ob':List Ob} (h:gc n0 r ob=some (r',ob')):WeakC n0 (names n0 ob r.refs) ⟨[r],ob⟩ ⟨[r'],ob'⟩:=by
 unfold gc at h
 split at h
 ·rename_i r1 h1
  simp only [zB,zE] at h
  obtain ⟨rfl,rfl⟩:=h
  exact N9 ⟨S9 (SV.back_ren h1),trivial⟩
 ·cases h
def Gd (gs:List Nat):Nat→List Ob→List Ob
 | _,[]=>[]
 | k,o :: r=>(bif HH k gs then .gone else o) :: Gd gs (k+1) r
theorem NA {gs:List Nat}:∀ {l:List Ob} {k j:Nat},As (Gd gs k l) j=if j<l.length∧k+j∈gs then .gone else As l j
 | [],k,j=>by simp [Gd,As]
 | o :: r,k,0=>by
  simp only [Gd,As,zM,Nat.zero_lt_succ,true_and,Nat.add_zero]
  by_cases h:k∈gs
  ·rw [if_pos h,E6.2 h]; rfl
  ·have:HH k gs=false:=by
    cases e:HH k gs with
    | false=>rfl
    | true=>exact absurd (E6.1 e) h
   rw [if_neg h,this]; rfl
 | o :: r,k,j+1=>by
  simp only [Gd,As,zM,zS]
  rw [NA (l:=r) (k:=k+1) (j:=j),show k+1+j=k+(j+1) by omega]
section
variable {P:Program} {f:FuncId} {args:List SV} {ob:List Ob} {r:SV} {ob':List Ob}
theorem Fun.give (h:Fun P f args ob r ob'):Fun P f args ob (Da (As ob') [] r) (Gd (BK [] r) 0 ob'):=by
 intro w I V B vs hwf hvs
 refine (h w I V B vs hwf hvs).mono ?_
 rintro e w' ⟨v,I',V',B',rfl,hr,hp⟩
 have hwf':=hp.wf
 let J:Nat→Prop:=fun b=>I' b∨∃ g,g∈BK [] r∧(As ob' g).live∧B' g b
 have hg:∀ g,As (Gd (BK [] r) 0 ob') g=if g<ob'.length∧g∈BK [] r then .gone else As ob' g:=fun g=>by
  rw [NA,zQ]
 have hlv:∀ g,(As (Gd (BK [] r) 0 ob') g).live→(As ob' g).live∧¬ g∈BK [] r:=fun g hl=>by
  rw [hg g] at hl
  split at hl
  ·exact hl.elim
  ·rename_i hn
   refine ⟨hl,fun hm=>hn ⟨?_,hm⟩⟩
   rcases zF g ob'.length with h1 | h1
   ·exact h1
   ·rw [B6 _ _ h1] at hl; exact hl.elim
 refine ⟨v,J,V',B',rfl,?_,⟨hp.fr,fun b hb=>.inl (hp.i0 b hb),fun b hb=>?_,hp.v,?_,fun g b hl hb=>hp.bh g b (hlv g hl).1 hb⟩⟩
 ·exact J8 hwf' (fun b hb=>.inl hb) (fun g i hi=>by cases hi) r v (fun g b hm hl hb=>.inr ⟨g,hm,hl,hb⟩) hr
 ·rcases hb with hb | ⟨g,hm,hl,hb⟩
  ·exact hp.i1 b hb
  ·exact .inr ((hp.bh g b hl hb).symm)
 ·refine hwf'.upd (w':=w') (fun g=>g∈BK [] r) (zH _) (fun _ _ _=>rfl) (fun b hb=>.inl hb) (VLe.refl _) (fun g hn=>⟨by rw [hg g,if_neg fun h=>hn h.2],rfl,fun hf=>hwf'.fr g hf⟩) (fun b hb=>?_) (fun b hb=>?_) (fun g hm hl=>absurd hm (hlv g hl).2) (fun g b hm hl=>absurd hm (hlv g hl).2) (fun g b hm hl=>absurd hm (hlv g hl).2) (fun g g' b hm hm' hl=>absurd hm (hlv g hl).2) (fun g hm hf=>?_)
  ·rcases hb with hb | ⟨g,hm,hl,hb⟩
   ·exact .inl hb
   ·exact .inr (.inr ⟨g,hm,hl,hb⟩)
  ·rcases hb with hb | ⟨g,hm,hl,hb⟩
   ·exact hwf'.ilt b hb
   ·exact hwf'.lt g b hl hb
  ·rw [hg g] at hf
   split at hf
   ·cases hf
   ·exact hwf'.fr g hf
end
mutual
def SV.own (n:Nat) (l:List (Option (Nat × Nat))):SV→SV × List Ob × List (Option (Nat × Nat))
 | .agg xs=>match SV.Qj n l xs with
  | (ys,os,l')=>(.agg ys,os,l')
 | .tup xs=>match SV.Qj n l xs with
  | (ys,os,l')=>(.tup ys,os,l')
 | .nil=>match l with
  | some (t,sz) :: l'=>(.ref n,[.row t sz []],l')
  | _ :: l'=>(.nil,[],l')
  | []=>(.nil,[],[])
 | .any=>(.any,[],l.drop 1)
 | .int k m=>(.int k m,[],l.drop 1)
 | .bool b=>(.bool b,[],l.drop 1)
 | .str s=>(.str s,[],l.drop 1)
 | .arr es=>(.arr es,[],l.drop 1)
 | .ref g=>(.ref g,[],l.drop 1)
 | .ptr g o=>(.ptr g o,[],l.drop 1)
 | .eptr g sz k o=>(.eptr g sz k o,[],l.drop 1)
 | .vptr es k o=>(.vptr es k o,[],l.drop 1)
 | .mp ks m=>(.mp ks m,[],l.drop 1)
 | .fn f caps=>(.fn f caps,[],l.drop 1)
def SV.Qj (n:Nat) (l:List (Option (Nat × Nat))):List SV→List SV × List Ob × List (Option (Nat × Nat))
 | []=>([],[],l)
 | x :: r=>match SV.own n l x with
  | (y,os,l1)=>match SV.Qj (n+os.length) l1 r with
   | (ys,os',l2)=>(y :: ys,os++os',l2)
end
def More (w:World) (I:Nat→Prop) (V:Nat→Option Value) (B:Nat→Nat→Prop) (ob:List Ob) (V':Nat→Option Value) (B':Nat→Nat→Prop) (ob':List Ob):Prop :=
 Wf w I V' B' (As ob')∧VLe V V'∧(∀ g,g<ob.length→As ob' g=As ob g∧B' g=B g)∧(∀ g b,ob.length≤g→¬ B' g b)
theorem More.refl {w:World} {I:Nat→Prop} {V:Nat→Option Value} {B:Nat→Nat→Prop} {ob:List Ob} (h:Wf w I V B (As ob)):∃ B',More w I V B ob V B' ob:=by
 have lt:∀ g,(As ob g).live→g<ob.length:=fun g hl=>by
  rcases zF g ob.length with h1 | h1
  ·exact h1
  ·rw [B6 _ _ h1] at hl; exact hl.elim
 refine ⟨fun g=>if g<ob.length then B g else fun _=>False,⟨h.ilt,fun g hl=>?_,fun g b hl hb=>?_,fun g b hl hb=>?_,fun g g' b hl hl' hb hb'=>?_,h.fr,h.gl⟩,VLe.refl _,fun g hg=>⟨rfl,if_pos hg⟩,fun g b hg hb=>by simp only [if_neg (show ¬ g<ob.length by omega)] at hb⟩
 ·obtain ⟨val,h1,h2⟩:=h.obj g hl
  exact ⟨val,h1,by simp only [if_pos (lt g hl)]; exact h2⟩
 ·simp only [if_pos (lt g hl)] at hb; exact h.lt g b hl hb
 ·simp only [if_pos (lt g hl)] at hb; exact h.dI g b hl hb
 ·simp only [if_pos (lt g hl)] at hb
  simp only [if_pos (lt g' hl')] at hb'
  exact h.dO g g' b hl hl' hb hb'
theorem UH (ob:List Ob) (o:Ob):As (ob++[o]) ob.length=o:=by rw [KU]; simp [As]
theorem More.one {w:World} {I:Nat→Prop} {V:Nat→Option Value} {B:Nat→Nat→Prop} {ob:List Ob} (h:Wf w I V B (As ob)) (t sz:Nat):∃ V' B',More w I V B ob V' B' (ob++[.row t sz []])∧V' ob.length=some (.slice none 0 0):=by
 have hn:V ob.length=none:=h.fr _ (B6 _ _ (zH _))
 have e:∀ g,g≠ob.length→As (ob++[Ob.row t sz []]) g=As ob g:=fun g hg=>by
  rw [KU]
  split
  ·rfl
  ·rename_i h1
   rw [B6 ob g (by omega)]
   obtain ⟨q,hq⟩:∃ q,g-ob.length=q+1:=⟨g-ob.length-1,by omega⟩
   rw [hq]; rfl
 have e0:=UH ob (.row t sz [])
 have lt:∀ g,(As (ob++[Ob.row t sz []]) g).live→g=ob.length∨(g<ob.length∧(As ob g).live):=fun g hl=>by
  by_cases hg:g=ob.length
  ·exact .inl hg
  ·rw [e g hg] at hl
   refine .inr ⟨?_,hl⟩
   rcases zF g ob.length with h1 | h1
   ·exact h1
   ·rw [B6 _ _ h1] at hl; exact hl.elim
 refine ⟨fun g=>if g=ob.length then some (.slice none 0 0) else V g,fun g=>if g<ob.length then B g else fun _=>False,⟨⟨h.ilt,fun g hl=>?_,fun g b hl hb=>?_,fun g b hl hb=>?_,fun g g' b hl hl' hb hb'=>?_,fun g hf=>?_,h.gl⟩,fun g u hu=>?_,fun g hg=>⟨e g (by omega),if_pos hg⟩,fun g b hg hb=>by simp only [if_neg (show ¬ g<ob.length by omega)] at hb⟩,if_pos rfl⟩
 ·rcases lt g hl with rfl | ⟨h1,h2⟩
  ·refine ⟨_,if_pos rfl,?_⟩
   rw [e0]
   exact RowR.nil _ _ _ _ _
  ·obtain ⟨val,h3,h4⟩:=h.obj g h2
   refine ⟨val,by simp only [if_neg (show ¬ g=ob.length by omega)]; exact h3,?_⟩
   rw [e g (by omega)]
   simp only [if_pos h1]
   refine h4.keep ⟨zH _,fun _ _ _=>rfl⟩ (fun _ h=>h) (fun g u hu=>?_) fun _ _ _=>rfl
   by_cases hg:g=ob.length
   ·subst hg; rw [hn] at hu; cases hu
   ·simp only [if_neg hg]; exact hu
 ·rcases lt g hl with rfl | ⟨h1,h2⟩
  ·simp at hb
  ·simp only [if_pos h1] at hb; exact h.lt g b h2 hb
 ·rcases lt g hl with rfl | ⟨h1,h2⟩
  ·simp at hb
  ·simp only [if_pos h1] at hb; exact h.dI g b h2 hb
 ·rcases lt g hl with rfl | ⟨h1,h2⟩
  ·simp at hb
  ·rcases lt g' hl' with rfl | ⟨h1',h2'⟩
   ·simp at hb'
   ·simp only [if_pos h1] at hb
    simp only [if_pos h1'] at hb'
    exact h.dO g g' b h2 h2' hb hb'
 ·have hg:g≠ob.length:=fun hg=>by subst hg; rw [e0] at hf; cases hf
  simp only [if_neg hg]
  rw [e g hg] at hf
  exact h.fr g hf
 ·by_cases hg:g=ob.length
  ·subst hg; rw [hn] at hu; cases hu
  ·simp only [if_neg hg]; exact hu
theorem More.trans {w:World} {I:Nat→Prop} {V V1 V2:Nat→Option Value} {B B1 B2:Nat→Nat→Prop} {ob ob1 ob2:List Ob} (h:More w I V B ob V1 B1 ob1) (k:More w I V1 B1 ob1 V2 B2 ob2) (hl:ob.length≤ob1.length):More w I V B ob V2 B2 ob2:=by
 refine ⟨k.1,h.2.1.trans k.2.1,fun g hg=>?_,fun g b hg hb=>?_⟩
 ·have h1:=h.2.2.1 g hg
  have h2:=k.2.2.1 g (by omega)
  exact ⟨h2.1.trans h1.1,h2.2.trans h1.2⟩
 ·rcases zF g ob1.length with h1 | h1
  ·rw [(k.2.2.1 g h1).2] at hb; exact h.2.2.2 g b hg hb
  ·exact k.2.2.2 g b h1 hb
section
variable {w:World} {I:Nat→Prop}
mutual
theorem SV.TR:∀ (x:SV) (n:Nat) (l:List (Option (Nat × Nat))) (V:Nat→Option Value) (B:Nat→Nat→Prop) (ob:List Ob) (v:Value),n=ob.length→Wf w I V B (As ob)→RepV w I V x v→∃ V' B',More w I V B ob V' B' (ob++(SV.own n l x).2.1)∧RepV w I V' (SV.own n l x).1 v
 | .agg xs,n,l,V,B,ob,v,hn,hwf,h=>by
  simp only [RepV] at h
  obtain ⟨vs,rfl,h⟩:=h
  obtain ⟨V',B',h1,h2⟩:=SV.NB xs n l V B ob vs hn hwf h
  refine ⟨V',B',by simpa only [SV.own] using h1,?_⟩
  simp only [SV.own,RepV]
  exact ⟨vs,rfl,h2⟩
 | .tup xs,n,l,V,B,ob,v,hn,hwf,h=>by
  simp only [RepV] at h
  obtain ⟨vs,rfl,h⟩:=h
  obtain ⟨V',B',h1,h2⟩:=SV.NB xs n l V B ob vs hn hwf h
  refine ⟨V',B',by simpa only [SV.own] using h1,?_⟩
  simp only [SV.own,RepV]
  exact ⟨vs,rfl,h2⟩
 | .nil,n,l,V,B,ob,v,hn,hwf,h=>by
  have nil:∃ V' B',More w I V B ob V' B' (ob++[])∧RepV w I V' .nil v:=by
   obtain ⟨B',hm⟩:=More.refl hwf
   exact ⟨V,B',by rw [zI]; exact hm,h⟩
  match l with
  | some (t,sz) :: l' =>
   obtain ⟨V',B',h1,h2⟩:=More.one hwf t sz
   refine ⟨V',B',h1,?_⟩
   simp only [RepV] at h
   subst h hn
   simp only [SV.own,RepV]
   exact ⟨h2,rfl⟩
  | none :: l'=>exact nil
  | []=>exact nil
 | .any,n,l,V,B,ob,v,hn,hwf,h=>by obtain ⟨B',hm⟩:=More.refl hwf; exact ⟨V,B',by simp only [SV.own,zI]; exact hm,h⟩
 | .int _ _,n,l,V,B,ob,v,hn,hwf,h=>by obtain ⟨B',hm⟩:=More.refl hwf; exact ⟨V,B',by simp only [SV.own,zI]; exact hm,h⟩
 | .bool _,n,l,V,B,ob,v,hn,hwf,h=>by obtain ⟨B',hm⟩:=More.refl hwf; exact ⟨V,B',by simp only [SV.own,zI]; exact hm,h⟩
 | .str _,n,l,V,B,ob,v,hn,hwf,h=>by obtain ⟨B',hm⟩:=More.refl hwf; exact ⟨V,B',by simp only [SV.own,zI]; exact hm,h⟩
 | .arr _,n,l,V,B,ob,v,hn,hwf,h=>by obtain ⟨B',hm⟩:=More.refl hwf; exact ⟨V,B',by simp only [SV.own,zI]; exact hm,h⟩
 | .ref _,n,l,V,B,ob,v,hn,hwf,h=>by obtain ⟨B',hm⟩:=More.refl hwf; exact ⟨V,B',by simp only [SV.own,zI]; exact hm,h⟩
 | .ptr _ _,n,l,V,B,ob,v,hn,hwf,h=>by obtain ⟨B',hm⟩:=More.refl hwf; exact ⟨V,B',by simp only [SV.own,zI]; exact hm,h⟩
 | .eptr _ _ _ _,n,l,V,B,ob,v,hn,hwf,h=>by obtain ⟨B',hm⟩:=More.refl hwf; exact ⟨V,B',by simp only [SV.own,zI]; exact hm,h⟩
 | .vptr _ _ _,n,l,V,B,ob,v,hn,hwf,h=>by obtain ⟨B',hm⟩:=More.refl hwf; exact ⟨V,B',by simp only [SV.own,zI]; exact hm,h⟩
 | .mp _ _,n,l,V,B,ob,v,hn,hwf,h=>by obtain ⟨B',hm⟩:=More.refl hwf; exact ⟨V,B',by simp only [SV.own,zI]; exact hm,h⟩
 | .fn _ _,n,l,V,B,ob,v,hn,hwf,h=>by obtain ⟨B',hm⟩:=More.refl hwf; exact ⟨V,B',by simp only [SV.own,zI]; exact hm,h⟩
theorem SV.NB:∀ (xs:List SV) (n:Nat) (l:List (Option (Nat × Nat))) (V:Nat→Option Value) (B:Nat→Nat→Prop) (ob:List Ob) (vs:List Value),n=ob.length→Wf w I V B (As ob)→RepVs w I V xs vs→∃ V' B',More w I V B ob V' B' (ob++(SV.Qj n l xs).2.1)∧RepVs w I V' (SV.Qj n l xs).1 vs
 | [],n,l,V,B,ob,vs,hn,hwf,h=>by obtain ⟨B',hm⟩:=More.refl hwf; exact ⟨V,B',by simp only [SV.Qj,zI]; exact hm,h⟩
 | x :: xs,n,l,V,B,ob,vs,hn,hwf,h=>by
  simp only [RepVs] at h
  obtain ⟨v,us,rfl,h1,h2⟩:=h
  obtain ⟨V1,B1,m1,r1⟩:=SV.TR x n l V B ob v hn hwf h1
  have h2':=RepVs.mono (w':=w) (I':=I) (V':=V1) ⟨zH _,fun _ _ _=>rfl⟩ (fun _ h=>h) m1.2.1 xs us h2
  obtain ⟨V2,B2,m2,r2⟩:=SV.NB xs (n+(SV.own n l x).2.1.length) (SV.own n l x).2.2 V1 B1 (ob++(SV.own n l x).2.1) us (by rw [yF,hn]) m1.1 h2'
  refine ⟨V2,B2,?_,?_⟩
  ·have:=m1.trans m2 (by simp)
   simpa only [SV.Qj,yI] using this
  ·simp only [SV.Qj,RepVs]
   exact ⟨v,us,rfl,RepV.mono (w':=w) (I':=I) (V':=V2) ⟨zH _,fun _ _ _=>rfl⟩ (fun _ h=>h) m2.2.1 _ _ r1,r2⟩
end
end
section
variable {P:Program} {f:FuncId} {args:List SV} {ob:List Ob} {r:SV} {ob':List Ob}
theorem Fun.rows (h:Fun P f args ob r ob') (l:List (Option (Nat × Nat))):Fun P f args ob (SV.own ob'.length l r).1 (ob'++(SV.own ob'.length l r).2.1):=by
 intro w I V B vs hwf hvs
 refine (h w I V B vs hwf hvs).mono ?_
 rintro e w' ⟨v,I',V',B',rfl,hr,hp⟩
 obtain ⟨V2,B2,hm,hr2⟩:=SV.TR r ob'.length l V' B' ob' v rfl hp.wf hr
 refine ⟨v,I',V2,B2,rfl,hr2,⟨hp.fr,hp.i0,hp.i1,hp.v.trans hm.2.1,hm.1,fun g b hl hb=>?_⟩⟩
 rcases zF g ob'.length with h1 | h1
 ·obtain ⟨e1,e2⟩:=hm.2.2.1 g h1
  rw [e1] at hl
  rw [e2] at hb
  exact hp.bh g b hl hb
 ·exact absurd hb (hm.2.2.2 g b h1)
end
def toTree:List Ob→List Ob
 | []=>[]
 | .row _ _ es :: r=>.tree es [] :: toTree r
 | .box t l :: r=>.box t l :: toTree r
 | .tree es hs :: r=>.tree es hs :: toTree r
 | .gone :: r=>.gone :: toTree r
 | .mp ks m :: r=>.mp ks m :: toTree r
 | .it ks m seen cur :: r=>.it ks m seen cur :: toTree r
 | .shd es :: r=>.shd es :: toTree r
 | .free :: r=>.free :: toTree r
theorem NC:∀ l,(toTree l).length=l.length
 | []=>rfl
 | o :: r=>by cases o <;> simp [toTree,NC r]
theorem Ig:∀ (l:List Ob) (g:Nat),As (toTree l) g=match As l g with | .row _ _ es=>.tree es [] | o=>o
 | [],g=>rfl
 | o :: r,0=>by cases o <;> rfl
 | o :: r,g+1=>by cases o <;> simp only [toTree,As] <;> exact Ig r g
theorem D6 {l:List Ob} {g:Nat}:(As (toTree l) g).live ↔ (As l g).live:=by
 rw [Ig]
 cases As l g <;> exact Iff.rfl
theorem Wf.tree {w:World} {I:Nat→Prop} {V:Nat→Option Value} {B:Nat→Nat→Prop} {ob:List Ob} (hwf:Wf w I V B (As ob)):Wf w I V B (As (toTree ob)):=by
 refine ⟨hwf.ilt,fun g hl=>?_,fun g b hl hb=>hwf.lt g b (D6.1 hl) hb,fun g b hl hb=>hwf.dI g b (D6.1 hl) hb,fun g g' b hl hl' hb hb'=>hwf.dO g g' b (D6.1 hl) (D6.1 hl') hb hb',fun g hf=>?_,hwf.gl⟩
 ·obtain ⟨val,h1,h2⟩:=hwf.obj g (D6.1 hl)
  refine ⟨val,h1,?_⟩
  rw [Ig]
  cases hg:As ob g <;> rw [hg] at h2 <;> first | exact h2 | exact ⟨_,_,h2,fun q hq=>by cases hq⟩
 ·refine hwf.fr g ?_
  rw [Ig] at hf
  cases hg:As ob g <;> rw [hg] at hf <;> first | rfl | cases hf
theorem Fun.trees {P:Program} {f:FuncId} {args:List SV} {ob:List Ob} {r:SV} {ob':List Ob} (h:Fun P f args ob r ob'):Fun P f args ob r (toTree ob'):=by
 intro w I V B vs hwf hvs
 refine (h w I V B vs hwf hvs).mono ?_
 rintro e w' ⟨v,I',V',B',he,hr,hp⟩
 exact ⟨v,I',V',B',he,hr,⟨hp.fr,hp.i0,hp.i1,hp.v,hp.wf.tree,fun g b hl hb=>hp.bh g b (D6.1 hl) hb⟩⟩
theorem Fun.tree {P:Program} {f:FuncId} {args:List SV} {ob:List Ob} {r:SV} {ob':List Ob} (h:Fun P f args (toTree ob) r ob'):Fun P f args ob r ob':=by
 intro w I V B vs hwf hvs
 have hwf':Wf w I V B (As (toTree ob)):=hwf.tree
 have hHB:∀ b,HB B (toTree ob) b ↔ HB B ob b:=fun b=>⟨fun ⟨g,hl,hb⟩=>⟨g,D6.1 hl,hb⟩,fun ⟨g,hl,hb⟩=>⟨g,D6.2 hl,hb⟩⟩
 refine (h w I V B vs hwf' hvs).mono ?_
 rintro e w' ⟨v,I',V',B',he,hr,hp⟩
 exact ⟨v,I',V',B',he,hr,⟨⟨hp.fr.os,hp.fr.tape,hp.fr.output,hp.fr.size,fun b hb hn=>hp.fr.block b hb fun h=>hn ((hHB b).1 h)⟩,hp.i0,fun b hb=>(hp.i1 b hb).imp id (fun h=>h.imp id (hHB b).1),hp.v,hp.wf,fun g b hl hb=>(hp.bh g b hl hb).imp (hHB b).1 id⟩⟩
def OT.half:OT→OT
 | .ow es=>.sh (OT.erss es)
 | .int n=>.int n
 | .byte n=>.byte n
 | .bool b=>.bool b
 | .str s=>.str s
 | .sh es=>.sh es
 | .hole=>.hole
def OT.Hf:List OT→List OT
 | []=>[]
 | x :: r=>OT.half x :: OT.Hf r
def OT.Cj:List (List OT)→List (List OT)
 | []=>[]
 | x :: r=>OT.Hf x :: OT.Cj r
theorem OT.Ps:∀ l:List OT,OT.Hf l=l.map OT.half
 | []=>rfl
 | x :: r=>by simp [OT.Hf,OT.Ps r]
theorem OT.Kx:∀ l:List (List OT),OT.Cj l=l.map (·.map OT.half)
 | []=>rfl
 | x :: r=>by simp [OT.Cj,OT.Kx r,OT.Ps]
def JR:Ob→Ob
 | .row t sz es=>bif OT.AC es then .row t sz (OT.Cj es) else .row t sz es
 | .free=>.free
 | .gone=>.gone
 | .box t l=>.box t l
 | .tree es hs=>.tree es hs
 | .mp ks m=>.mp ks m
 | .it ks m seen cur=>.it ks m seen cur
 | .shd es=>.shd es
def Fs:Nat→List Ob→List Ob
 | _,[]=>[]
 | 0,o :: r=>JR o :: Fs 0 r
 | n+1,o :: r=>o :: Fs n r
theorem Fx:∀ (l:List Ob) (n g:Nat),As (Fs n l) g=if n≤g then JR (As l g) else As l g
 | [],n,g=>by
  have:Fs n []=[]:=by cases n <;> rfl
  rw [this]
  show Ob.free=if n≤g then JR .free else .free
  split <;> rfl
 | o :: r,0,0=>by simp [Fs,As]
 | o :: r,0,g+1=>by
  have:=Fx r 0 g
  simp only [Fs,As,yJ,if_true] at this ⊢
  exact this
 | o :: r,n+1,0=>by simp [Fs,As]
 | o :: r,n+1,g+1=>by
  have:=Fx r n g
  simp only [Fs,As,Nat.add_le_add_iff_right] at this ⊢
  exact this
theorem ND {o:Ob}:(JR o).live ↔ o.live:=by
 cases o <;> first | exact Iff.rfl | (simp only [JR]; cases OT.AC _ <;> exact Iff.rfl)
theorem ORep.half {w:World} {I S T:Nat→Prop} {o:OT} {v:Value} (h:ORep w I S o v) (hS:∀ b,S b→T b) (hI:∀ b,I b→T b) (hf:o.full=true):ORep w T (fun _=>False) o.half v:=by
 cases o with
 | int n=>cases h; exact .int _ _
 | byte n=>cases h; exact .byte _ _
 | bool b=>cases h; exact .bool _ _
 | str s=>cases h with | str _ _ hs=>exact .str _ _ hs
 | sh es=>cases h with | sh _ _ _ hs=>exact .sh _ _ _ (hs.up hI)
 | hole=>cases hf
 | ow es=>exact .sh _ _ _ (h.er hS hI hf)
theorem Wf.half {w:World} {I:Nat→Prop} {V:Nat→Option Value} {B:Nat→Nat→Prop} {ob:List Ob} (hwf:Wf w I V B (As ob)) (n:Nat) :
  ∃ (I':Nat→Prop) (B':Nat→Nat→Prop),Wf w I' V B' (As (Fs n ob))∧(∀ b,I b→I' b)∧(∀ b,I' b→I b∨∃ g,(As ob g).live∧B g b)∧∀ g b,B' g b→B g b:=by
 classical
 obtain ⟨out,hout⟩:∃ out:Nat→Nat→Prop,out=fun g b=>∃ m c,V g=some (.slice (some ⟨b,0,none⟩) m c):=⟨_,rfl⟩
 obtain ⟨isH,hH⟩:∃ isH:Nat→Prop,isH=fun g=>n≤g∧∃ t sz es,As ob g=.row t sz es∧OT.AC es=true:=⟨_,rfl⟩
 have lv:∀ g,(As (Fs n ob) g).live ↔ (As ob g).live:=fun g=>by
  rw [Fx]
  split
  ·exact ND
  ·exact Iff.rfl
 have Hl:∀ g,isH g→(As ob g).live:=fun g h=>by
  rw [hH] at h
  obtain ⟨_,t,sz,es,e,_⟩:=h
  rw [e]; trivial
 have Bn:∀ g,¬ isH g→(fun b=>B g b∧(isH g→out g b))=B g:=fun g h=>by
  funext b
  exact propext ⟨fun x=>x.1,fun x=>⟨x,fun h'=>absurd h' h⟩⟩
 refine ⟨fun b=>I b∨∃ g,isH g∧B g b∧¬ out g b,fun g b=>B g b∧(isH g→out g b),⟨fun b hb=>?_,fun g hl=>?_,fun g b hl hb=>hwf.lt g b ((lv g).1 hl) hb.1,fun g b hl hb hI=>?_,fun g g' b hl hl' hb hb'=>hwf.dO g g' b ((lv g).1 hl) ((lv g').1 hl') hb.1 hb'.1,fun g hf=>?_,hwf.gl.keep (KeepS.refl _ _) fun _ h=>.inl h⟩,fun _ h=>.inl h,fun b hb=>?_,fun _ _ h=>h.1⟩
 ·rcases hb with hb | ⟨g,h1,h2,_⟩
  ·exact hwf.ilt b hb
  ·exact hwf.lt g b (Hl g h1) h2
 ·obtain ⟨val,h1,h2⟩:=hwf.obj g ((lv g).1 hl)
  refine ⟨val,h1,?_⟩
  by_cases hg:isH g
  ·have hg':=hg
   rw [hH] at hg'
   obtain ⟨hn,t,sz,es,e,hf⟩:=hg'
   rw [e] at h2
   have h2:RowR w I (B g) t sz es val:=h2
   rw [Fx,if_pos hn,e]
   simp only [JR,hf,cond_true]
   show RowR _ _ _ _ _ _ _
   rcases h2 with ⟨rfl,rfl⟩ | ⟨b,cap,cur,Sub,rfl,hS,hb,g1,g2,g3,g4,g5,g6,g7⟩
   ·exact .inl ⟨rfl,rfl⟩
   ·have hlen:(OT.Cj es).length=es.length:=by rw [OT.Kx,yP]
    have hob:out g b:=by rw [hout]; exact ⟨_,_,h1⟩
    have hou:∀ x,out g x→x=b:=fun x hx=>by
     rw [hout] at hx
     obtain ⟨m,c,hx⟩:=hx
     rw [h1] at hx
     injection hx with hx
     injection hx with hx
     injection hx with hx
     injection hx with hx
     exact hx.symm
    have get:∀ i (hi:i<es.length) (hi':i<(OT.Cj es).length),(OT.Cj es)[i]=es[i].map OT.half:=fun i hi hi'=>by
     simp only [OT.Kx,List.getElem_map]
    refine .inr ⟨b,cap,cur,fun _ _ _=>False,by rw [hlen],⟨hS,fun _=>hob⟩,hb,by rw [hlen]; exact g1,g2,g3,fun i hi=>?_,fun _ _ _ h=>h.elim,fun _ _ _ _ _ h=>h.elim,fun i j hi hj=>?_⟩
    ·rw [get i (by omega) hi,yP]; exact g4 i (by omega)
    ·have hi2:i<es.length:=by omega
     have e2:=get i hi2 hi
     have hj2:j<es[i].length:=by rw [e2,yP] at hj; exact hj
     have e3:(OT.Cj es)[i][j]=(es[i][j]).half:=by simp only [e2,List.getElem_map]
     rw [e3]
     refine (g7 i j hi2 hj2).half (fun x hx=>.inr ⟨g,hg,(g5 i j x hx).1,fun ho=>(g5 i j x hx).2 (hou x ho)⟩) (fun x hx=>.inl hx) ?_
     exact OT.LB (OT.Kq hf es[i] (zR hi2)) _ (zR hj2)
  ·have e:As (Fs n ob) g=As ob g:=by
    rw [Fx]
    split
    ·rename_i hn
     cases ho:As ob g with
     | row t sz es =>
      cases hf:OT.AC es with
      | true=>exact absurd (by rw [hH]; exact ⟨hn,t,sz,es,ho,hf⟩) hg
      | false=>simp only [JR,hf,cond_false]
     | _=>rfl
    ·rfl
   rw [e,Bn g hg]
   exact ObR.keep h2 (KeepS.refl _ _) (fun _ h=>.inl h) (VLe.refl _) fun _ _ _=>rfl
 ·rcases hI with hI | ⟨g0,k1,k2,k3⟩
  ·exact hwf.dI g b ((lv g).1 hl) hb.1 hI
  ·obtain rfl:=hwf.dO g g0 b ((lv g).1 hl) (Hl g0 k1) hb.1 k2
   exact k3 (hb.2 k1)
 ·refine hwf.fr g ?_
  rw [Fx] at hf
  split at hf
  ·cases ho:As ob g <;> rw [ho] at hf <;> first | rfl | cases hf | (simp only [JR] at hf; cases OT.AC _ <;> cases hf) | skip
   rename_i t sz es
   simp only [JR] at hf
   cases h:OT.AC es <;> rw [h] at hf <;> cases hf
  ·exact hf
 ·rcases hb with hb | ⟨g,h1,h2,_⟩
  ·exact .inl hb
  ·exact .inr ⟨g,Hl g h1,h2⟩
theorem Fun.half {P:Program} {f:FuncId} {args:List SV} {ob:List Ob} {r:SV} {ob':List Ob} (h:Fun P f args ob r ob') (n:Nat):Fun P f args ob r (Fs n ob'):=by
 intro w I V B vs hwf hvs
 refine (h w I V B vs hwf hvs).mono ?_
 rintro e w' ⟨v,I',V',B',he,hr,hp⟩
 obtain ⟨I2,B2,k1,k2,k3,k4⟩:=hp.wf.half n
 have lv:∀ g,(As (Fs n ob') g).live→(As ob' g).live:=fun g hl=>by
  rw [Fx] at hl
  split at hl
  ·exact ND.1 hl
  ·exact hl
 refine ⟨v,I2,V',B2,he,RepV.mono (KeepS.refl _ _) k2 (VLe.refl _) _ _ hr,⟨hp.fr,fun b hb=>k2 b (hp.i0 b hb),fun b hb=>?_,hp.v,k1,fun g b hl hb=>hp.bh g b (lv g hl) (k4 g b hb)⟩⟩
 rcases k3 b hb with hb | ⟨g,h1,h2⟩
 ·exact hp.i1 b hb
 ·exact .inr ((hp.bh g b h1 h2).symm)
def order (res:RM) (n0:Nat) (r:SV) (ob:List Ob):Option (SV × List Ob) :=
 match res with
 | .asis=>some (r,ob)
 | .late=>some (r,ob)
 | .frz=>gc n0 (Da (As ob) [] r) (Gd (BK [] r) 0 ob)
 | .frl _=>gc n0 (Da (As ob) [] r) (Gd (BK [] r) 0 ob)
 | .frzg _ _=>gc n0 (Da (As ob) [] r) (Gd (BK [] r) 0 ob)
 | .own l=>match SV.own ob.length l r with
  | (r',os,_)=>bif os.isEmpty then some (r,ob) else gc n0 r' (ob++os)
 | .half l=>match SV.own ob.length l r with
  | (r',os,_)=>bif os.isEmpty then some (r,Fs n0 ob) else match gc n0 r' (ob++os) with
   | some (r2,ob2)=>some (r2,Fs n0 ob2)
   | none=>none
 | .halfg _ _ l=>match SV.own ob.length l r with
  | (r',os,_)=>bif os.isEmpty then some (r,Fs n0 ob) else match gc n0 r' (ob++os) with
   | some (r2,ob2)=>some (r2,Fs n0 ob2)
   | none=>none
 | .tr l=>match SV.own ob.length l r with
  | (r',os,_)=>bif os.isEmpty then some (r,toTree ob) else match gc n0 r' (ob++os) with
   | some (r2,ob2)=>some (r2,toTree ob2)
   | none=>none
theorem UI {P:Program} {f:FuncId} {args:List SV} {ob ob1 ob2:List Ob} {r r2:SV} {res:RM} (h:Fun P f args ob r ob1) (ho:order res ob.length r ob1=some (r2,ob2)):Fun P f args ob r2 ob2:=by
 unfold order at ho
 split at ho
 ·simp only [zB,zE] at ho
  obtain ⟨rfl,rfl⟩:=ho
  exact h
 ·simp only [zB,zE] at ho
  obtain ⟨rfl,rfl⟩:=ho
  exact h
 ·exact h.give.weak (He ho)
 ·exact h.give.weak (He ho)
 ·exact h.give.weak (He ho)
 ·rename_i l
  split at ho
  rename_i r' os l' he
  cases hb:os.isEmpty with
  | true =>
   rw [hb] at ho
   simp only [cond_true,zB,zE] at ho
   obtain ⟨rfl,rfl⟩:=ho
   exact h
  | false =>
   rw [hb] at ho
   have:=h.rows l
   rw [he] at this
   exact this.weak (He ho)
 ·rename_i l
  split at ho
  rename_i r' os l' he
  cases hb:os.isEmpty with
  | true =>
   rw [hb] at ho
   simp only [cond_true,zB,zE] at ho
   obtain ⟨rfl,rfl⟩:=ho
   exact h.half _
  | false =>
   rw [hb] at ho
   simp only [cond_false] at ho
   have:=h.rows l
   rw [he] at this
   cases hg:gc ob.length r' (ob1++os) with
   | none=>rw [hg] at ho; cases ho
   | some q =>
    rw [hg] at ho
    obtain ⟨r3,ob3⟩:=q
    simp only [zB,zE] at ho
    obtain ⟨rfl,rfl⟩:=ho
    exact (this.weak (He hg)).half _
 ·rename_i l
  split at ho
  rename_i r' os l' he
  cases hb:os.isEmpty with
  | true =>
   rw [hb] at ho
   simp only [cond_true,zB,zE] at ho
   obtain ⟨rfl,rfl⟩:=ho
   exact h.half _
  | false =>
   rw [hb] at ho
   simp only [cond_false] at ho
   have:=h.rows l
   rw [he] at this
   cases hg:gc ob.length r' (ob1++os) with
   | none=>rw [hg] at ho; cases ho
   | some q =>
    rw [hg] at ho
    obtain ⟨r3,ob3⟩:=q
    simp only [zB,zE] at ho
    obtain ⟨rfl,rfl⟩:=ho
    exact (this.weak (He hg)).half _
 ·rename_i l
  split at ho
  rename_i r' os l' he
  cases hb:os.isEmpty with
  | true =>
   rw [hb] at ho
   simp only [cond_true,zB,zE] at ho
   obtain ⟨rfl,rfl⟩:=ho
   exact h.trees
  | false =>
   rw [hb] at ho
   simp only [cond_false] at ho
   have:=h.rows l
   rw [he] at this
   cases hg:gc ob.length r' (ob1++os) with
   | none=>rw [hg] at ho; cases ho
   | some q =>
    rw [hg] at ho
    obtain ⟨r3,ob3⟩:=q
    simp only [zB,zE] at ho
    obtain ⟨rfl,rfl⟩:=ho
    exact (this.weak (He hg)).trees
def Pt (m:List Nat):List Nat→List SV→List SV
 | [],[]=>[]
 | _ :: _,[]=>[]
 | [],_ :: xs=>.any :: Pt m [] xs
 | 0 :: ks,_ :: xs=>.any :: Pt m ks xs
 | (_+1) :: ks,x :: xs=>(match x.back m with | some y=>y | none=>.any) :: Pt m ks xs
def G9:List Nat→List SV→List Nat
 | (_+1) :: ks,x :: xs=>x.refs++G9 ks xs
 | 0 :: ks,_ :: xs=>G9 ks xs
 | _,_=>[]
def FP:List Ob→Nat→Ob→List Ob
 | [],_,_=>[]
 | _ :: r,0,o=>o :: r
 | x :: r,g+1,o=>x :: FP r g o
def TS (live:List Nat) (ob:List Ob) (g:Nat):Ob→List Ob
 | .tree es ((k,o,q) :: r)=>bif HH q live || (q == g) then ob else match As ob q with
  | .tree e2 []=>match es[k]? with
   | some l=>bif decide (o < l.length) then FP (FP ob g (.tree (es.set k (l.set o (.ow e2))) r)) q .gone else ob
   | none=>ob
  | _=>ob
 | _=>ob
def Rq (live:List Nat):Nat→Nat→List Ob→List Ob
 | 0,_,ob=>ob
 | n+1,g,ob=>Rq live n g (TS live ob g (As ob g))
def TT (live:List Nat):List Nat→List Ob→List Ob
 | [],ob=>ob
 | g :: r,ob=>TT live r (match As ob g with
  | .tree _ (_ :: _)=>Rq live 8 g ob
  | _=>ob)
def Ws (n0:Nat) (keep:List Nat) (sl:List SV) (ob:List Ob):St :=
 ⟨Pt (names n0 ob (G9 keep sl)) keep sl,M0 (names n0 ob (G9 keep sl)) ob (names n0 ob (G9 keep sl))⟩
def NE (n0:Nat) (keep:List Nat) (st:St):St:=Ws n0 keep st.sl (TT (G9 keep st.sl) (KZ st.ob.length) st.ob)
def Wt (n:Nat) (st:St):St :=
 match gets st.sl n with
 | .ref g=>match As st.ob g with
  | .row _ _ es=>bif OT.AC es then ⟨st.sl.set n (.arr (OT.erss es)),FP st.ob g .gone⟩ else st
  | _=>st
 | .nil=>⟨st.sl.set n (.arr []),st.ob⟩
 | _=>st
def Rr (n:Nat) (st:St):St :=
 match gets st.sl n with
 | .ref g=>match As st.ob g with
  | .row _ _ es=>bif OT.AC es then ⟨st.sl,FP st.ob g (.shd (OT.erss es))⟩ else st
  | _=>st
 | _=>st
def canon (n0:Nat):List Nat→St→St
 | (n+7) :: ks,st=>canon n0 ks (Wt n st)
 | ks,st=>NE n0 ks st
theorem Ys {n0:Nat} {ks:List Nat} {st:St}:canon n0 (0 :: ks) st=NE n0 (0 :: ks) st:=rfl
theorem Yt {n0:Nat} {ks:List Nat} {st:St}:canon n0 (1 :: ks) st=NE n0 (1 :: ks) st:=rfl
theorem Yu {n0 n:Nat} {ks:List Nat} {st:St}:canon n0 ((n+7) :: ks) st=canon n0 ks (Wt n st):=rfl
theorem EQ:∀ {l:List Ob} {g j:Nat} {o:Ob},As (FP l g o) j=if j=g∧g<l.length then o else As l j
 | [],g,j,o=>by simp [FP,As]
 | x :: r,0,0,o=>by simp [FP,As]
 | x :: r,0,j+1,o=>by simp [FP,As]
 | x :: r,g+1,0,o=>by simp [FP,As]
 | x :: r,g+1,j+1,o=>by
  simp only [FP,As,zM,zS,zV]
  exact EQ
theorem Wf.plug {w:World} {I:Nat→Prop} {V:Nat→Option Value} {B:Nat→Nat→Prop} {ob ob':Nat→Ob} (h:Wf w I V B ob) {g q k o:Nat} {es e2:List (List OT)} {r:List (Nat × Nat × Nat)} {l:List OT} (hg:ob g=.tree es ((k,o,q) :: r)) (hq:ob q=.tree e2 []) (hne:q≠g) (hl:es[k]?=some l) (ho:o<l.length)
  (h1:ob' g=.tree (es.set k (l.set o (.ow e2))) r) (h2:ob' q=.gone) (h3:∀ j,j≠g→j≠q→ob' j=ob j):Wf w I V (fun j x=>if j=g then B g x∨B q x else B j x) ob':=by
 have lg:(ob g).live:=by rw [hg]; trivial
 have lq:(ob q).live:=by rw [hq]; trivial
 obtain ⟨val,hV,t,sz,hR,hH⟩:∃ val,V g=some val∧TreeR w I V (B g) es ((k,o,q) :: r) val:=by
  obtain ⟨val,a,b⟩:=h.obj g lg
  rw [hg] at b; exact ⟨val,a,b⟩
 obtain ⟨val2,hV2,t2,sz2,hR2,_⟩:∃ val,V q=some val∧TreeR w I V (B q) e2 [] val:=by
  obtain ⟨val,a,b⟩:=h.obj q lq
  rw [hq] at b; exact ⟨val,a,b⟩
 refine h.upd (w':=w) (fun j=>j=g∨j=q) (zH _) (fun _ _ _=>rfl) (fun _ h=>h) (VLe.refl _) (fun j hj=>?_) (fun b hb=>.inl hb) h.ilt (fun j hj hlv=>?_) (fun j b hj hlv hb=>?_) (fun j b hj hlv hb hI=>?_) (fun j j' b hj hj' hlv hlv' _ _=>?_) (fun j hj hf=>?_)
 ·have a:¬ j=g:=fun e=>hj (.inl e)
  have b:¬ j=q:=fun e=>hj (.inr e)
  exact ⟨h3 j a b,by funext x; simp only [if_neg a],fun hf=>h.fr j hf⟩
 ·rcases hj with rfl | rfl
  ·refine ⟨val,hV,?_⟩
   rw [h1]
   obtain ⟨g1,g2,b2,c2,v2,e4,g3,g4,g5⟩:=hH (k,o,q) (by simp)
   obtain ⟨b,cap,v,S0,e1,e5,hb1,hb2,hc,_,hS,hnew⟩:=hR.leaf (l:=l) (off:=o) hl (.inr ho) ho
   subst e1
   have hbb:b2=b:=by rw [e4] at e5; simp at e5; exact e5.1
   subst hbb
   rw [hc] at g3
   obtain rfl:=zA g3
   rw [hV2] at g4
   obtain rfl:=zA g4
   refine ⟨t,l.length,(hnew (.ow e2) (B q) hR2.ot (fun x hx hx'=>absurd (h.dO q j x lq lg hx hx') hne)).up fun x hx=>?_,fun p hp=>?_⟩
   ·simp only [if_true]
    exact hx.imp (fun h=>h.1) id
   ·rw [List.length_set]
    exact hH p (by simp [hp])
  ·rw [h2] at hlv; exact hlv.elim
 ·rcases hj with rfl | rfl
  ·simp only [if_true] at hb
   rcases hb with hb | hb
   ·exact .inr ⟨j,.inl rfl,lg,hb⟩
   ·exact .inr ⟨q,.inr rfl,lq,hb⟩
  ·rw [h2] at hlv; exact hlv.elim
 ·rcases hj with rfl | rfl
  ·simp only [if_true] at hb
   rcases hb with hb | hb
   ·exact h.dI j b lg hb hI
   ·exact h.dI q b lq hb hI
  ·rw [h2] at hlv; exact hlv.elim
 ·rcases hj with rfl | rfl
  ·rcases hj' with rfl | rfl
   ·rfl
   ·rw [h2] at hlv'; exact hlv'.elim
  ·rw [h2] at hlv; exact hlv.elim
 ·rcases hj with rfl | rfl
  ·rw [h1] at hf; cases hf
  ·rw [h2] at hf; cases hf
theorem SA {c:Ctx} {live:List Nat} {sl:List SV} {ob:List Ob} {g:Nat}:Weak c ⟨sl,ob⟩ ⟨sl,TS live ob g (As ob g)⟩:=by
 cases hgo:As ob g with
 | free=>exact Weak.E5 _
 | gone=>exact Weak.E5 _
 | box t l=>exact Weak.E5 _
 | row t sz es=>exact Weak.E5 _
 | mp ks m=>exact Weak.E5 _
 | it ks m seen cur=>exact Weak.E5 _
 | shd es=>exact Weak.E5 _
 | tree es hs =>
  cases hs with
  | nil=>exact Weak.E5 _
  | cons h r =>
   obtain ⟨k,o,q⟩:=h
   simp only [TS]
   cases hc:(HH q live || (q == g)) with
   | true=>exact Weak.E5 _
   | false =>
    simp only [cond_false]
    split
    ·rename_i e2 hq
     split
     ·rename_i l hl
      cases hd:decide (o<l.length) with
      | false=>exact Weak.E5 _
      | true =>
       have ho:=of_decide_eq_true hd
       simp only [cond_true]
       have hne:q≠g:=by
        rw [Bool.or_eq_false_iff] at hc
        simpa using hc.2
       have lt:∀ j,(As ob j).live→j<ob.length:=fun j hj=>by
        rcases zF j ob.length with h | h
        ·exact h
        ·rw [B6 _ _ h] at hj; exact hj.elim
       have hlg:=lt g (by rw [hgo]; trivial)
       have hlq:=lt q (by rw [hq]; trivial)
       have hsl:∀ (l:List Ob) (j:Nat) (x:Ob),(FP l j x).length=l.length:=by
        intro l
        induction l with
        | nil=>intro j x; rfl
        | cons y r ih=>intro j x; cases j <;> simp [FP,ih]
       have e1:As (FP (FP ob g (.tree (es.set k (l.set o (.ow e2))) r)) q .gone) g=.tree (es.set k (l.set o (.ow e2))) r:=by
        rw [EQ,if_neg (fun h=>hne h.1.symm),EQ,if_pos ⟨rfl,hlg⟩]
       have e2':As (FP (FP ob g (.tree (es.set k (l.set o (.ow e2))) r)) q .gone) q=.gone:=by
        rw [EQ,if_pos ⟨rfl,by rw [hsl]; exact hlq⟩]
       have e3:∀ j,j≠g→j≠q→As (FP (FP ob g (.tree (es.set k (l.set o (.ow e2))) r)) q .gone) j=As ob j:=fun j h1 h2=>by
        rw [EQ,if_neg (fun h=>h2 h.1),EQ,if_neg (fun h=>h1 h.1)]
       intro hlen
       refine ⟨hlen,fun a w hr=>?_⟩
       obtain ⟨I,V,B,hr⟩:=hr
       refine ⟨I,V,_,hr.fr,hr.i0,hr.i1,hr.v0,hr.wf.plug (es:=es) (e2:=e2) (ob':=As (FP (FP ob g (.tree (es.set k (l.set o (.ow e2))) r)) q .gone)) hgo hq hne hl ho e1 e2' e3,fun j b hj hb=>?_,hr.nd,hr.sz,hr.slots⟩
       have hj:(As (FP (FP ob g (.tree (es.set k (l.set o (.ow e2))) r)) q .gone) j).live:=hj
       by_cases hjg:j=g
       ·subst hjg
        simp only [if_true] at hb
        rcases hb with hb | hb
        ·exact hr.bh j b (by show (As ob j).live; rw [hgo]; trivial) hb
        ·exact hr.bh q b (by show (As ob q).live; rw [hq]; trivial) hb
       ·simp only [if_neg hjg] at hb
        by_cases hjq:j=q
        ·subst hjq; rw [e2'] at hj; exact hj.elim
        ·rw [e3 j hjg hjq] at hj
         exact hr.bh j b hj hb
     ·exact Weak.E5 _
    ·exact Weak.E5 _
theorem NF {c:Ctx} {live:List Nat} {sl:List SV} {g:Nat}:∀ {n:Nat} {ob:List Ob},Weak c ⟨sl,ob⟩ ⟨sl,Rq live n g ob⟩
 | 0,ob=>Weak.E5 _
 | n+1,ob=>Weak.trans SA NF
theorem NG {c:Ctx} {live:List Nat} {sl:List SV}:∀ {gs:List Nat} {ob:List Ob},Weak c ⟨sl,ob⟩ ⟨sl,TT live gs ob⟩
 | [],ob=>Weak.E5 _
 | g :: r,ob=>by
  have h1:Weak c ⟨sl,ob⟩ ⟨sl,match As ob g with
   | .tree _ (_ :: _)=>Rq live 8 g ob
   | _=>ob⟩:=by
   split
   ·exact NF
   ·exact Weak.E5 _
  exact Weak.trans h1 (NG (gs:=r))
theorem La {m:List Nat} {p:Nat}:∀ {ks:List Nat} {xs:List SV},leL (sgp m p) (Pt m ks xs) xs
 | [],[]=>trivial
 | _ :: _,[]=>trivial
 | [],x :: xs=>⟨trivial,La (ks:=[]) (xs:=xs)⟩
 | 0 :: ks,x :: xs=>⟨trivial,La (ks:=ks) (xs:=xs)⟩
 | (k+1) :: ks,x :: xs=>by
  refine ⟨?_,La (ks:=ks) (xs:=xs)⟩
  split
  ·rename_i y h
   exact S9 (SV.back_ren h)
  ·trivial
theorem D7 {c:Ctx} {keep:List Nat} {st:St}:Weak c st (NE c.m keep st):=Weak.trans (NG (sl:=st.sl) (ob:=st.ob)) (Yl _ (N9 La))
theorem Rs {sl:List SV} {n k:Nat} {x:SV}:gets (sl.set n x) k=if n=k∧n<sl.length then x else gets sl k:=by
 induction sl generalizing n k with
 | nil=>simp [gets]
 | cons y r ih =>
  cases n with
  | zero=>cases k with
   | zero=>simp [gets]
   | succ k=>simp [gets]
  | succ n=>cases k with
   | zero=>simp [gets]
   | succ k=>simp only [List.set_cons_succ,gets,zM,zS,zV]; exact ih
theorem UJ {c:Ctx} {n:Nat} {st:St}:Weak c st (Wt n st):=by
 unfold Wt
 split
 ·rename_i g hg
  split
  ·rename_i t sz es hob
   cases hf:OT.AC es with
   | false=>exact Weak.E5 _
   | true =>
    rw [cond_true]
    intro hlen
    refine ⟨by simpa using hlen,fun a w hr=>?_⟩
    obtain ⟨I,V,B,hr⟩:=hr
    have hl:(As st.ob g).live:=by rw [hob]; trivial
    have hlt:g<st.ob.length:=by
     rcases zF g st.ob.length with h | h
     ·exact h
     ·rw [B6 _ _ h] at hl; exact hl.elim
    have k:=hr.after (After.frz hr.wf (g:=g) hl)
    have eob:AL (As st.ob) [(g,.gone)]=As (FP st.ob g .gone):=by
     funext j
     rw [EQ]
     by_cases e:j=g
     ·subst e; simp [AL,Bb,hlt]
     ·have e':¬ g=j:=fun h=>e h.symm
      simp [AL,Bb,e,e']
    have kw:Wf w (fun b=>I b∨B g b) V B (AL (As st.ob) [(g,.gone)]):=k.wf
    have kb:∀ j b,(AL (As st.ob) [(g,.gone)] j).live→B j b→c.H b∨c.w0.heap.size≤b:=k.bh
    rw [eob] at kw kb
    refine ⟨_,V,B,k.fr,k.i0,k.i1,k.v0,kw,kb,k.nd,k.sz,fun j=>?_⟩
    have hs:=k.slots j
    show RepV w _ V (gets (st.sl.set n (.arr (OT.erss es))) j) _
    rw [Rs]
    split
    ·rename_i hj
     obtain ⟨rfl,_⟩:=hj
     have hv:=hr.slots n
     have hv:RepV w I V (gets st.sl n) (a.tmps.getD n undef):=hv
     rw [hg] at hv
     simp only [RepV] at hv
     obtain ⟨val,h1,h2⟩:=hr.wf.obj g hl
     rw [hv.1] at h1
     obtain rfl:=zA h1
     have h2:ObR w I V (B g) _ (As st.ob g):=h2
     rw [hob] at h2
     simp only [RepV]
     exact RowR.er h2 (fun b hb=>.inr hb) (fun b hb=>.inl hb) hf
    ·exact hs
  ·exact Weak.E5 _
 ·rename_i hg
  intro hlen
  refine ⟨by simpa using hlen,fun a w hr=>?_⟩
  obtain ⟨I,V,B,hr⟩:=hr
  refine ⟨I,V,B,hr.fr,hr.i0,hr.i1,hr.v0,hr.wf,hr.bh,hr.nd,hr.sz,fun j=>?_⟩
  have hs:=hr.slots j
  show RepV w _ V (gets (st.sl.set n (.arr [])) j) _
  rw [Rs]
  split
  ·rename_i hj
   obtain ⟨rfl,_⟩:=hj
   have hv:RepV w I V (gets st.sl n) (a.tmps.getD n undef):=hr.slots n
   rw [hg] at hv
   simp only [RepV] at hv ⊢
   rw [hv]
   exact Mt _
  ·exact hs
 ·exact Weak.E5 _
theorem UK {c:Ctx} {n:Nat} {st:St}:Weak c st (Rr n st):=by
 unfold Rr
 split
 ·rename_i g hg
  split
  ·rename_i t sz es hob
   cases hf:OT.AC es with
   | false=>exact Weak.E5 _
   | true =>
    rw [cond_true]
    intro hlen
    refine ⟨hlen,fun a w hr=>?_⟩
    obtain ⟨I,V,B,hr⟩:=hr
    have hl:(As st.ob g).live:=by rw [hob]; trivial
    have hlt:g<st.ob.length:=by
     rcases zF g st.ob.length with h | h
     ·exact h
     ·rw [B6 _ _ h] at hl; exact hl.elim
    obtain ⟨val,h1,h2⟩:=hr.wf.obj g hl
    have h2:ObR w I V (B g) _ (As st.ob g):=h2
    rw [hob] at h2
    have hD:DRep false w (fun b=>I b∨B g b) (.arr (OT.erss es)) val:=RowR.er h2 (fun b hb=>.inr hb) (fun b hb=>.inl hb) hf
    have k:=hr.after (After.shd hr.wf (g:=g) hl h1 hD)
    have eob:AL (As st.ob) [(g,.shd (OT.erss es))]=As (FP st.ob g (.shd (OT.erss es))):=by
     funext j
     rw [EQ]
     by_cases e:j=g
     ·subst e; simp [AL,Bb,hlt]
     ·have e':¬ g=j:=fun h=>e h.symm
      simp [AL,Bb,e,e']
    have kw:Wf w (fun b=>I b∨B g b) V (fun x b=>x≠g∧B x b) (AL (As st.ob) [(g,.shd (OT.erss es))]):=k.wf
    have kb:∀ j b,(AL (As st.ob) [(g,.shd (OT.erss es))] j).live→(j≠g∧B j b)→c.H b∨c.w0.heap.size≤b:=k.bh
    rw [eob] at kw kb
    exact ⟨_,V,_,k.fr,k.i0,k.i1,k.v0,kw,kb,k.nd,k.sz,fun j=>k.slots j⟩
  ·exact Weak.E5 _
 ·exact Weak.E5 _
theorem EI {c:Ctx}:∀ {keep:List Nat} {st:St},Weak c st (canon c.m keep st)
 | [],st=>D7
 | 0 :: ks,st=>D7
 | 1 :: ks,st=>D7
 | 2 :: ks,st=>D7
 | 3 :: ks,st=>D7
 | 4 :: ks,st=>D7
 | 5 :: ks,st=>D7
 | 6 :: ks,st=>D7
 | (n+7) :: ks,st=>Weak.trans UJ (EI (keep:=ks))
def Ds (r:Option (X × St)) (k:St→Option (X × St)):Option (X × St) :=
 match r with
 | some (.normal,st)=>k st
 | some (.exit i,st)=>some (.exit i,st)
 | some (.ret,st)=>some (.ret,st)
 | none=>none
def Ih (id:Nat) (r:Option (X × St)):Option (X × St) :=
 match r with
 | some (.normal,st)=>some (.normal,st)
 | some (.exit i,st)=>if i=id then some (.normal,st) else some (.exit i,st)
 | some (.ret,st)=>some (.ret,st)
 | none=>none
structure MI where
 keepO:List Nat
 it:SX
 nx:Nat
 more:Nat
abbrev LoopF:=Option MI→List Nat→(St→Option (X × St))→St→Option (X × St)
noncomputable def fr (P:Program) (C:CallF) (L:LoopF):SC→St→Option (X × St)
 | .skip,st=>some (.normal,st)
 | .reg ops,st=>match N7 P C ops st with
  | some st'=>some (.normal,st')
  | none=>none
 | .dreg anc ops,st=>match HJ P C ops [] st with
  | some (es,st')=>bif obB anc [] (Ko es) 0 then some (.normal,st') else none
  | none=>none
 | .seq a b,st=>Ds (fr P C L a st) (fr P C L b)
 | .cond q a b,st=>match A8 (gets st.sl) q with
  | .bool t=>bif t then fr P C L a st else fr P C L b st
  | _=>none
 | .block id b,st=>Ih id (fr P C L b st)
 | .loop keep b,st=>L none keep (fr P C L b) st
 | .exit id,st=>some (.exit id,st)
 | .ret,st=>some (.ret,st)
 | .next _ _ _,_=>none
 | .mloop keep keepO it nx more b,st=>L (some ⟨keepO,it,nx,more⟩) keep (fr P C L b) st
 | .ghost n b,st=>fr P C L b (Rr n st)
def EV (n0:Nat) (keep:List Nat) (step:St→Option (X × St)):Nat→St→Option (X × St)
 | 0,_=>none
 | n+1,st=>Ds (step (canon n0 keep st)) (EV n0 keep step n)
abbrev EL:=List (MK × MV)
structure Enum (f:MF) (l:EL):Prop where
 nd:(l.map (·.1)).Nodup
 mem:∀ k x,(k,x)∈l ↔ f k=some x
noncomputable def SB {α β:Type} (p:α→Prop) (f:α→Option β):Option β :=
 match Classical.propDecidable ((∃ a,p a)∧∃ o,∀ a,p a→f a=some o) with
 | .isTrue h=>some (Classical.choose h.2)
 | .isFalse _=>none
theorem Fy {α β:Type} {p:α→Prop} {f:α→Option β} {o:β}:SB p f=some o ↔ (∃ a,p a)∧∀ a,p a→f a=some o:=by
 unfold SB
 split
 ·rename_i h _
  have hs:=Classical.choose_spec h.2
  constructor
  ·intro e
   obtain rfl:=zA e
   exact ⟨h.1,hs⟩
  ·rintro ⟨⟨a,ha⟩,h2⟩
   have:=(hs a ha).symm.trans (h2 a ha)
   exact this
 ·rename_i h _
  exact ⟨fun e=>(by cases e),fun ⟨h1,h2⟩=>absurd ⟨h1,o,h2⟩ h⟩
def Qk (it:SX) (st:St):Option (Nat × Bool × MF × List MK) :=
 match A8 (gets st.sl) it with
 | .ptr g o=>match As st.ob g with
  | .it ks m seen _=>bif (o == 0) then some (g,ks,m,seen) else none
  | _=>none
 | _=>none
def SD:Option (X × St)→Option (X × St)
 | some (.normal,_)=>none
 | some (.exit i,st)=>some (.exit i,st)
 | some (.ret,st)=>some (.ret,st)
 | none=>none
noncomputable def FQ (n0:Nat) (mi:MI) (keep:List Nat) (step:St→Option (X × St)) (f:MF):EL→List MK→St→Option (X × St)
 | [],seen,st=>match Qk mi.it (canon n0 keep st) with
  | some (_,_,f',seen')=>bif dec (f'=f)&&dec (seen'=seen) then SD (step (Gc mi.nx mi.more (canon n0 keep st) false [])) else none
  | none=>none
 | (k,x) :: l,seen,st=>match Qk mi.it (canon n0 keep st) with
  | some (g,ks,f',seen')=>bif dec (f'=f)&&dec (seen'=seen) then Ds (step (Gc mi.nx mi.more (canon n0 keep st) true [(g,.it ks f (k :: seen) (some (k,x)))])) (FQ n0 mi keep step f l (k :: seen)) else none
  | none=>none
def NH (n0:Nat) (keepO:List Nat):Option (X × St)→Option (X × St)
 | some (x,st)=>some (x,canon n0 keepO st)
 | none=>none
noncomputable def HO (n0:Nat) (mi:MI) (keep:List Nat) (step:St→Option (X × St)) (st:St):Option (X × St) :=
 match Qk mi.it (canon n0 keep st) with
 | some (_,_,f,[])=>SB (Enum f) fun l=>NH n0 mi.keepO (FQ n0 mi keep step f l [] st)
 | _=>none
noncomputable def IX (n0:Nat):Option MI→List Nat→(St→Option (X × St))→Nat→St→Option (X × St)
 | none,keep,step,n,st=>EV n0 keep step n st
 | some mi,keep,step,_,st=>HO n0 mi keep step st
def Dt:SC→SC→Prop
 | .ghost _ b,sc=>Dt b sc
 | .skip,.skip=>True
 | .reg a,.reg b=>a=b
 | .dreg x a,.dreg y b=>x=y∧a=b
 | .seq a b,.seq a' b'=>Dt a a'∧Dt b b'
 | .cond q a b,.cond q' a' b'=>q=q'∧Dt a a'∧Dt b b'
 | .block i b,.block i' b'=>i=i'∧Dt b b'
 | .loop _ b,.loop _ b'=>Dt b b'
 | .exit i,.exit i'=>i=i'
 | .ret,.ret=>True
 | .next a b d,.next a' b' d'=>a=a'∧b=b'∧d=d'
 | .next _ _ _,.mloop _ _ _ _ _ _=>True
 | .next _ _ _,.ghost _ _=>True
 | .mloop _ _ it nx more b,.loop _ (.seq (.next it' nx' more') b')=>it=it'∧nx=nx'∧more=more'∧Dt b b'
 | _,_=>False
section
variable {P:Program} {c:Ctx} {C:CallF}
def QaD (mi:Option MI) (b:SC):SC :=
 match mi with
 | none=>b
 | some mi=>.seq (.next mi.it mi.nx mi.more) b
def NI (P:Program) (c:Ctx) (L:LoopF):Prop:=∀ (mi:Option MI) (keep junk:List Nat) (step:St→Option (X × St)) (b:SC) (st:St) (out:X × St),
 (∀ st out,step st=some out→∀ K:X→St→Prop,K out.1 out.2→Run P c b K st)→L mi keep step st=some out→∀ K:X→St→Prop,K out.1 out.2→Run P c (.loop junk (QaD mi b)) K st
theorem SE (hm:P.follows .mixedOrders=true) (n:Nat) (keep junk:List Nat) (step:St→Option (X × St)) (b:SC) (st:St) (out:X × St) (hstep:∀ st out,step st=some out→∀ K:X→St→Prop,K out.1 out.2→Run P c b K st) (h:EV c.m keep step n st=some out) (K:X→St→Prop) (hK:K out.1 out.2):Run P c (.loop junk b) K st:=by
 let A:={ p:Nat × St // Ds (step p.2) (EV c.m keep step p.1)=some out }
 have start:∀ n st,EV c.m keep step n st=some out→∃ a:A,a.1.2=canon c.m keep st∧a.1.1<n:=fun n st h=>by
  cases n with
  | zero=>cases h
  | succ n=>exact ⟨⟨(n,canon c.m keep st),h⟩,rfl,Nat.lt_succ_self n⟩
 obtain ⟨a0,ha0,_⟩:=start n st h
 refine Ra (α:=A) (fun a=>a.1.2) (fun a=>a.1.1) a0 (by show Weak c st a0.1.2; rw [ha0]; exact EI) fun a=>?_
 obtain ⟨⟨m,s⟩,ha⟩:=a
 simp only at ha ⊢
 unfold Ds at ha
 split at ha
 ·rename_i st' hs
  refine hstep s _ hs _ ?_
  obtain ⟨y,hy1,hy2⟩:=start m st' ha
  exact ⟨y,hy2,by show Weak c st' y.1.2; rw [hy1]; exact EI⟩
 ·rename_i i st' hs
  obtain rfl:=zA ha
  exact hstep s _ hs _ hK
 ·rename_i st' hs
  obtain rfl:=zA ha
  exact hstep s _ hs _ hK
 ·cases ha
theorem Run.QaE {sc:SC} {K:X→St→Prop} {st:St} (h:Run P c sc (fun x s=>∃ s',Weak c s s'∧K x s') st):Run P c sc K st:=by
 intro code hc a w Q hl hr hq
 refine h code hc a w Q hl hr fun x s a' w' hk hl' hr'=>?_
 obtain ⟨s',hw,hk⟩:=hk
 obtain ⟨h1,h2⟩:=hw hl'
 exact hq x s' a' w' hk h1 (h2 a' w' hr')
theorem UL {it:SX} {st:St} {g:Nat} {ks:Bool} {f:MF} {seen:List MK} (h:Qk it st=some (g,ks,f,seen)):A8 (gets st.sl) it=.ptr g 0∧∃ cur,As st.ob g=.it ks f seen cur:=by
 unfold Qk at h
 split at h
 ·rename_i g' o hg
  split at h
  ·rename_i ks' m' seen' cur hob
   obtain ⟨h1,h2⟩:=Az h
   simp only [zB,zE] at h2
   obtain ⟨rfl,rfl,rfl,rfl⟩:=h2
   have:o=0:=by simpa using h1
   subst this
   exact ⟨hg,cur,hob⟩
  ·cases h
 ·cases h
theorem Pu {r:Option (X × St)} {o:X × St} (h:SD r=some o):r=some o∧o.1≠.normal:=by
 unfold SD at h
 split at h
 ·cases h
 ·obtain rfl:=zA h; exact ⟨rfl,fun e=>by cases e⟩
 ·obtain rfl:=zA h; exact ⟨rfl,fun e=>by cases e⟩
 ·cases h
theorem LK {n0:Nat} {keepO:List Nat} {r:Option (X × St)} {o:X × St} (h:NH n0 keepO r=some o):∃ st,r=some (o.1,st)∧o.2=canon n0 keepO st:=by
 unfold NH at h
 split at h
 ·obtain rfl:=zA h; exact ⟨_,rfl,rfl⟩
 ·cases h
theorem filter_lt {α:Type} {p q:α→Bool}:∀ {l:List α} {a:α},(∀ x,q x=true→p x=true)→a∈l→p a=true→q a=false→(l.filter q).length<(l.filter p).length
 | [],a,_,ha,_,_=>by cases ha
 | x :: l,a,hpq,ha,hp,hq=>by
  have mono:∀ l:List α,(l.filter q).length≤(l.filter p).length:=by
   intro l
   induction l with
   | nil=>exact zH _
   | cons y l ih =>
    rw [z7,z7]
    cases hy:q y with
    | true=>rw [hpq y hy]; simpa using ih
    | false =>
     cases p y with
     | true=>simp only [if_true,zM]; simp; omega
     | false=>simpa using ih
  rw [z7,z7]
  rcases zL.1 ha with rfl | ha
  ·rw [hp,hq]
   have:=mono l
   simp; omega
  ·have ih:=filter_lt hpq ha hp hq
   cases hx:q x with
   | true=>rw [hpq x hx]; simpa using ih
   | false =>
    cases p x with
    | true=>simp; omega
    | false=>simpa using ih
theorem SF (hm:P.follows .mixedOrders=true) (mi:MI) (keep junk:List Nat) (step:St→Option (X × St)) (b:SC) (st:St) (out:X × St) (hstep:∀ st out,step st=some out→∀ K:X→St→Prop,K out.1 out.2→Run P c b K st) (h:HO c.m mi keep step st=some out) (K:X→St→Prop) (hK:K out.1 out.2):Run P c (.loop junk (.seq (.next mi.it mi.nx mi.more) b)) K st:=by
 unfold HO at h
 split at h
 ·rename_i g0 ks0 f hit
  obtain ⟨⟨L0,hL0⟩,hall⟩:=Fy.1 h
  let G:EL→St→Prop:=fun l s=>(l.map (·.1)).Nodup∧(∀ e,e∈l→f e.1=some e.2)∧∀ rest,Enum f (l++rest)→NH c.m mi.keepO (FQ c.m mi keep step f rest (l.map (·.1)).reverse s)=some out
  have more:∀ l:EL,(l.map (·.1)).Nodup→(∀ e,e∈l→f e.1=some e.2)→∃ rest,Enum f (l++rest):=fun l h1 h2=>by
   refine ⟨L0.filter fun e=>!dec (e.1∈l.map (·.1)),?_,fun k x=>?_⟩
   ·rw [yB,zX]
    refine ⟨h1,(List.filter_sublist.map _).nodup hL0.nd,fun a ha b hb e=>?_⟩
    obtain ⟨q,hq,rfl⟩:=yD.1 hb
    rw [List.mem_filter,zJ,EU] at hq
    subst e
    exact hq.2 ha
   ·rw [zK,List.mem_filter,zJ,EU]
    constructor
    ·rintro (h3 | h3)
     ·exact h2 _ h3
     ·exact (hL0.mem k x).1 h3.1
    ·intro h3
     by_cases h4:k∈l.map (·.1)
     ·obtain ⟨⟨k',x'⟩,h5,rfl⟩:=yD.1 h4
      have h6:=h2 _ h5
      have h6:f k'=some x':=h6
      rw [h3] at h6
      obtain rfl:=zA h6
      exact .inl h5
     ·exact .inr ⟨(hL0.mem k x).2 h3,h4⟩
  have hG0:G [] st:=⟨yQ,fun e he=>(by cases he),fun rest hr=>hall rest (by simpa using hr)⟩
  let A:={ q:EL × St // G q.1 q.2 }
  let μ:A→Nat:=fun q=>(L0.filter fun e=>!dec (e.1∈q.1.1.map (·.1))).length
  refine Run.QaE (Ra (α:=A) (fun q=>canon c.m keep q.1.2) μ ⟨([],st),hG0⟩ EI fun q=>?_)
  obtain ⟨⟨l,s⟩,hG⟩:=q
  obtain ⟨g1,g2,g3⟩:=hG
  refine Run.seq (G6 hm _ _ _ ?_)
  obtain ⟨r0,hr0⟩:=more l g1 g2
  have hitl:∃ g ks,Qk mi.it (canon c.m keep s)=some (g,ks,f,(l.map (·.1)).reverse):=by
   obtain ⟨st1,h1,_⟩:=LK (g3 r0 hr0)
   have key:∀ rest,∀ o,FQ c.m mi keep step f rest (l.map (·.1)).reverse s=some o→∃ g ks,Qk mi.it (canon c.m keep s)=some (g,ks,f,(l.map (·.1)).reverse):=fun rest o ho=>by
    cases rest with
    | nil =>
     unfold FQ at ho
     split at ho
     ·rename_i g ks f' seen' he
      obtain ⟨h2,_⟩:=Az ho
      rw [zD,Ar,Ar] at h2
      obtain ⟨rfl,rfl⟩:=h2
      exact ⟨g,ks,he⟩
     ·cases ho
    | cons e rest =>
     obtain ⟨k,x⟩:=e
     unfold FQ at ho
     split at ho
     ·rename_i g ks f' seen' he
      obtain ⟨h2,_⟩:=Az ho
      rw [zD,Ar,Ar] at h2
      obtain ⟨rfl,rfl⟩:=h2
      exact ⟨g,ks,he⟩
     ·cases ho
   exact key r0 _ h1
  obtain ⟨g,ks,hitl⟩:=hitl
  obtain ⟨e1,cur,e2⟩:=UL hitl
  simp only [sw]
  rw [e1]
  simp only
  rw [e2]
  simp only
  refine ⟨trivial,fun hend=>?_,fun k x hk hn=>?_⟩
  ·
   have hE:Enum f (l++[]):=by
    rw [zI]
    refine ⟨g1,fun k x=>⟨fun hm=>g2 _ hm,fun hk=>?_⟩⟩
    have:=hend k x hk
    rw [List.mem_reverse] at this
    obtain ⟨⟨k',x'⟩,h5,rfl⟩:=yD.1 this
    have h6:f k'=some x':=g2 _ h5
    rw [hk] at h6
    obtain rfl:=zA h6
    exact h5
   obtain ⟨st1,h1,h2⟩:=LK (g3 [] hE)
   unfold FQ at h1
   rw [hitl] at h1
   simp only [Aw rfl,Aw True.intro,yL,cond_true] at h1
   obtain ⟨h3,h4⟩:=Pu h1
   have hfin:∃ s',Weak c st1 s'∧K out.1 s':=⟨canon c.m mi.keepO st1,EI,by rw [←h2]; exact hK⟩
   refine hstep _ (out.1,st1) h3 _ ?_
   dsimp only
   cases ho:out.1 with
   | normal=>exact absurd ho h4
   | exit i=>rw [ho] at hfin; exact hfin
   | ret=>rw [ho] at hfin; exact hfin
  ·
   have hn':k ∉ l.map (·.1):=fun hm=>hn (List.mem_reverse.2 hm)
   have k1:((l++[(k,x)]).map (·.1)).Nodup:=by
    rw [yB,zX]
    refine ⟨g1,by simp,fun a ha b hb e=>?_⟩
    simp only [zN,yO,zW] at hb
    subst hb e
    exact hn' ha
   have k2:∀ e,e∈l++[(k,x)]→f e.1=some e.2:=fun e he=>by
    rcases zK.1 he with he | he
    ·exact g2 e he
    ·rw [zW.1 he]; exact hk
   have hrev:((l++[(k,x)]).map (·.1)).reverse=k :: (l.map (·.1)).reverse:=by simp
   have one:∀ rest,Enum f ((l++[(k,x)])++rest)→NH c.m mi.keepO (Ds (step (Gc mi.nx mi.more (canon c.m keep s) true [(g,.it ks f (k :: (l.map (·.1)).reverse) (some (k,x)))])) (FQ c.m mi keep step f rest (k :: (l.map (·.1)).reverse)))=some out:=fun rest hr=>by
    have h3:=g3 ((k,x) :: rest) (by rw [yI] at hr; exact hr)
    rw [FQ] at h3
    rw [hitl] at h3
    simp only [Aw rfl,Aw True.intro,yL,cond_true] at h3
    exact h3
   obtain ⟨r1,hr1⟩:=more _ k1 k2
   obtain ⟨st1,h1,h2⟩:=LK (one r1 hr1)
   cases hs:step (Gc mi.nx mi.more (canon c.m keep s) true [(g,.it ks f (k :: (l.map (·.1)).reverse) (some (k,x)))]) with
   | none=>rw [hs] at h1; cases h1
   | some o1 =>
    obtain ⟨x1,s1⟩:=o1
    rw [hs] at h1
    refine hstep _ _ hs _ ?_
    have hfin:some (x1,s1)=some (out.1,st1)→∃ s',Weak c s1 s'∧K x1 s':=fun e=>by
     simp only [zB,zE] at e
     obtain ⟨rfl,rfl⟩:=e
     exact ⟨canon c.m mi.keepO s1,EI,by rw [←h2]; exact hK⟩
    cases x1 with
    | normal =>
     have hG':G (l++[(k,x)]) s1:=⟨k1,k2,fun rest hr=>by
      have h3:=one rest hr
      rw [hs] at h3
      rw [hrev]
      exact h3⟩
     refine ⟨⟨(l++[(k,x)],s1),hG'⟩,?_,EI⟩
     refine filter_lt (a:=(k,x)) (fun e he=>?_) ((hL0.mem k x).2 hk) (by rw [zJ,EU]; exact hn') (by rw [Bool.not_eq_false',Ar]; simp)
     rw [zJ,EU] at he ⊢
     exact fun hm=>he (by simp only [yB,zK]; exact .inl hm)
    | exit i=>exact hfin h1
    | ret=>exact hfin h1
 ·cases h
theorem Rt (hm:P.follows .mixedOrders=true) (n:Nat):NI P c fun mi keep step st=>IX c.m mi keep step n st:=by
 intro mi keep junk step b st out hstep h K hK
 cases mi with
 | none=>exact SE hm n keep junk step b st out hstep h K hK
 | some mi=>exact SF hm mi keep junk step b st out hstep h K hK
theorem Fz (hm:P.follows .mixedOrders=true) (hC:HK P C) {L:LoopF} (hL:NI P c L):∀ (sc' sc:SC) (st:St) (out:X × St),Dt sc' sc→fr P C L sc' st=some out→∀ K:X→St→Prop,K out.1 out.2→Run P c sc K st
 | .skip,sc,st,out,hl,h,K,hK=>by
  cases sc <;> simp only [Dt] at hl
  obtain rfl:=zA h
  exact G6 hm _ _ _ hK
 | .reg ops,sc,st,out,hl,h,K,hK=>by
  cases sc <;> simp only [Dt] at hl
  subst hl
  simp only [fr] at h
  split at h
  ·rename_i st' hs
   obtain rfl:=zA h
   exact G6 hm _ _ _ (Wn hC hs hK)
  ·cases h
 | .dreg anc ops,sc,st,out,hl,h,K,hK=>by
  cases sc <;> simp only [Dt] at hl
  obtain ⟨rfl,rfl⟩:=hl
  simp only [fr] at h
  split at h
  ·rename_i es st' hs
   obtain ⟨h1,h2⟩:=Az h
   obtain rfl:=zA h2
   exact G6 hm _ _ _ (Wo hC hs ⟨h1,hK⟩)
  ·cases h
 | .seq a b,sc,st,out,hl,h,K,hK=>by
  cases sc <;> simp only [Dt] at hl
  simp only [fr,Ds] at h
  refine Run.seq ?_
  split at h
  ·rename_i st' hs
   exact Fz hm hC hL a _ st _ hl.1 hs _ (Fz hm hC hL b _ st' out hl.2 h K hK)
  ·rename_i i st' hs
   obtain rfl:=zA h
   exact Fz hm hC hL a _ st _ hl.1 hs _ hK
  ·rename_i st' hs
   obtain rfl:=zA h
   exact Fz hm hC hL a _ st _ hl.1 hs _ hK
  ·cases h
 | .cond q a b,sc,st,out,hl,h,K,hK=>by
  cases sc <;> simp only [Dt] at hl
  obtain ⟨rfl,h1,h2⟩:=hl
  simp only [fr] at h
  split at h
  ·rename_i t ht
   refine Run.cond ht (fun e=>?_) fun e=>?_
   ·subst e; exact Fz hm hC hL a _ st out h1 h K hK
   ·subst e; exact Fz hm hC hL b _ st out h2 h K hK
  ·cases h
 | .block id b,sc,st,out,hl,h,K,hK=>by
  cases sc <;> simp only [Dt] at hl
  obtain ⟨rfl,h1⟩:=hl
  simp only [fr,Ih] at h
  refine Run.block ?_
  split at h
  ·rename_i st' hs
   obtain rfl:=zA h
   exact Fz hm hC hL b _ st _ h1 hs _ hK
  ·rename_i i st' hs
   refine Fz hm hC hL b _ st _ h1 hs _ ?_
   by_cases hi:i=id
   ·simp only [if_pos hi] at h ⊢
    obtain rfl:=zA h
    exact hK
   ·simp only [if_neg hi] at h ⊢
    obtain rfl:=zA h
    exact hK
  ·rename_i st' hs
   obtain rfl:=zA h
   exact Fz hm hC hL b _ st _ h1 hs _ hK
  ·cases h
 | .loop keep b,sc,st,out,hl,h,K,hK=>by
  cases sc <;> simp only [Dt] at hl
  simp only [fr] at h
  exact hL none keep _ _ _ st out (fun st out hs K hK=>Fz hm hC hL b _ st out hl hs K hK) h K hK
 | .next _ _ _,sc,st,out,hl,h,K,hK=>by cases h
 | .ghost n b,sc,st,out,hl,h,K,hK=>Run.weak UK (Fz hm hC hL b sc (Rr n st) out hl h K hK)
 | .mloop keep keepO it nx more b,sc,st,out,hl,h,K,hK=>by
  cases sc <;> (try simp only [Dt] at hl)
  case loop j b' =>
   cases b' <;> (try simp only [Dt] at hl)
   case seq x y =>
    cases x <;> (try simp only [Dt] at hl)
    case next it' nx' more' =>
     obtain ⟨rfl,rfl,rfl,hl⟩:=hl
     simp only [fr] at h
     exact hL (some ⟨keepO,it,nx,more⟩) keep j _ _ st out (fun st out hs K hK=>Fz hm hC hL b _ st out hl hs K hK) h K hK
 | .exit id,sc,st,out,hl,h,K,hK=>by
  cases sc <;> simp only [Dt] at hl
  subst hl
  obtain rfl:=zA h
  exact G6 hm _ _ _ hK
 | .ret,sc,st,out,hl,h,K,hK=>by
  cases sc <;> simp only [Dt] at hl
  obtain rfl:=zA h
  exact G6 hm _ _ _ hK
end
def TU (k s:Nat):Nat:=s ||| (1 <<< k)
def SG (k s:Nat):Nat:=s ^^^ (s &&& (1 <<< k))
def SX.live (s:Nat):SX→Nat
 | .t k=>TU k s
 | .c _=>s
def SX.Pv (s:Nat):List SX→Nat
 | []=>s
 | x :: r=>SX.Pv (x.live s) r
def SX.Wu (s:Nat):Option SX→Nat
 | some x=>x.live s
 | none=>s
def SOp.live (s:Nat):SOp→Nat
 | .mv x=>x.live s
 | .pick a b c=>c.live (b.live (a.live s))
 | .alloc _ _=>s
 | .boxv _ _ x=>x.live s
 | .build _ parts=>SX.Pv s (parts.map (·.2.2))
 | .mkrow _ _ _ _ parts=>SX.Pv s (parts.map (·.2))
 | .load _ _ x=>x.live s
 | .store _ x v=>v.live (x.live s)
 | .nilchk x=>x.live s
 | .bin _ _ x y=>y.live (x.live s)
 | .un _ x=>x.live s
 | .conv _ x=>x.live s
 | .mkfn _ caps=>SX.Pv s caps
 | .mkslice _ _ _ _ x=>x.live s
 | .slice _ _ x lo hi=>SX.Wu (SX.Wu (x.live s) lo) hi
 | .faddr _ x=>x.live s
 | .field _ _ _ x=>x.live s
 | .iaddr _ x i=>i.live (x.live s)
 | .idx x i=>i.live (x.live s)
 | .ext x _=>x.live s
 | .call _ args=>SX.Pv s args
 | .callv x args=>SX.Pv (x.live s) args
 | .len _ x=>x.live s
 | .append _ _ _ _ x y=>y.live (x.live s)
 | .minmax _ x y=>y.live (x.live s)
 | .mkmap _ x=>SX.Wu s x
 | .mset _ m k v=>v.live (k.live (m.live s))
 | .mget _ _ _ _ m k=>k.live (m.live s)
 | .mkit x=>x.live s
 | .mcur x=>x.live s
def SOper.live (o:SOper) (s:Nat):Nat :=
 let s1:=match o.dst with | some d=>SG d s | none=>s
 let s2:=o.op.live s1
 match o.gd with | some (k,_)=>TU k s2 | none=>s2
def Ql:List SOper→Nat→Nat
 | [],s=>s
 | o :: r,s=>o.live (Ql r s)
def Wv:List (Nat × Nat)→Nat→Nat
 | [],_=>0
 | (i,s) :: r,k=>if i=k then s else Wv r k
def EW (ex:List (Nat × Nat)) (ret:Nat):SC→Nat→Nat
 | .skip,out=>out
 | .reg ops,out=>Ql ops out
 | .dreg _ ops,out=>Ql ops out
 | .seq a b,out=>EW ex ret a (EW ex ret b out)
 | .cond q a b,out=>q.live (EW ex ret a out ||| EW ex ret b out)
 | .block id b,out=>EW ((id,out) :: ex) ret b out
 | .loop _ b,_=>EW ex ret b (EW ex ret b 0)
 | .exit id,_=>Wv ex id
 | .ret,_=>ret
 | .next it nx more,out=>it.live (SG nx (SG more out))
 | .mloop _ _ _ _ _ b,out=>EW ex ret b out
 | .ghost _ b,out=>EW ex ret b out
def Zv:List (Nat × Nat)→Nat
 | []=>0
 | (_,s) :: r=>s ||| Zv r
def mask (nt s:Nat):List Nat:=(List.range nt).map fun k=>(s >>> k) % 2
def ann (nt:Nat) (ex:List (Nat × Nat)) (ret:Nat):SC→Nat→SC
 | .seq a b,out=>.seq (ann nt ex ret a (EW ex ret b out)) (ann nt ex ret b out)
 | .cond q a b,out=>.cond q (ann nt ex ret a out) (ann nt ex ret b out)
 | .block id b,out=>.block id (ann nt ((id,out) :: ex) ret b out)
 | .loop j (.seq (.next it nx more) b),out=>.mloop (mask nt (EW ex ret (.loop j (.seq (.next it nx more) b)) out)) (mask nt (ret ||| Zv ex)) it nx more (ann nt ex ret b (EW ex ret (.loop j (.seq (.next it nx more) b)) out))
 | .loop j b,out=>.loop (mask nt (EW ex ret (.loop j b) out)) (ann nt ex ret b (EW ex ret (.loop j b) out))
 | .mloop _ _ it nx more _,_=>.next it nx more
 | .ghost _ _,_=>.next (.t 0) 0 0
 | sc,_=>sc
theorem BV {nt:Nat} {ret:Nat}:∀ (sc:SC) (ex:List (Nat × Nat)) (out:Nat),Dt (ann nt ex ret sc out) sc
 | .skip,_,_=>trivial
 | .reg _,_,_=>rfl
 | .dreg _ _,_,_=>⟨rfl,rfl⟩
 | .seq a b,ex,out=>⟨BV a _ _,BV b _ _⟩
 | .cond q a b,ex,out=>⟨rfl,BV a _ _,BV b _ _⟩
 | .block id b,ex,out=>⟨rfl,BV b _ _⟩
 | .loop j b,ex,out=>by
  cases b with
  | seq x y =>
   cases x with
   | next it nx more=>exact ⟨rfl,rfl,rfl,BV y _ _⟩
   | skip=>exact BV (.seq .skip y) _ _
   | reg o=>exact BV (.seq (.reg o) y) _ _
   | dreg a o=>exact BV (.seq (.dreg a o) y) _ _
   | seq u v=>exact BV (.seq (.seq u v) y) _ _
   | cond q u v=>exact BV (.seq (.cond q u v) y) _ _
   | block i u=>exact BV (.seq (.block i u) y) _ _
   | loop j' u=>exact BV (.seq (.loop j' u) y) _ _
   | exit i=>exact BV (.seq (.exit i) y) _ _
   | ret=>exact BV (.seq .ret y) _ _
   | mloop a b' d e g u=>exact BV (.seq (.mloop a b' d e g u) y) _ _
   | ghost n u=>exact BV (.seq (.ghost n u) y) _ _
  | skip=>exact trivial
  | reg o=>exact rfl
  | dreg a o=>exact ⟨rfl,rfl⟩
  | cond q u v=>exact BV (nt:=nt) (ret:=ret) (.cond q u v) ex _
  | block i u=>exact BV (nt:=nt) (ret:=ret) (.block i u) ex _
  | loop j' u=>exact BV (nt:=nt) (ret:=ret) (.loop j' u) ex _
  | exit i=>exact rfl
  | ret=>exact trivial
  | next a b' d=>exact ⟨rfl,rfl,rfl⟩
  | mloop a b' d e g u=>exact trivial
  | ghost n u=>exact trivial
 | .next _ _ _,_,_=>⟨rfl,rfl,rfl⟩
 | .mloop _ _ _ _ _ _,_,_=>trivial
 | .ghost _ _,_,_=>trivial
 | .exit id,_,_=>rfl
 | .ret,_,_=>trivial
def LL:List RX→Nat→Nat
 | [],s=>s
 | .tmp t :: r,s=>TU t (LL r s)
 | .cell a _ _ :: r,s=>TU a (LL r s)
def SC.mark (l:List Nat):SC→SC
 | .seq a b=>.seq (SC.mark l a) (SC.mark l b)
 | .cond q a b=>.cond q (SC.mark l a) (SC.mark l b)
 | .block id b=>.block id (SC.mark l b)
 | .loop j b=>.loop (l++j) (SC.mark l b)
 | sc=>sc
theorem F0 {l:List Nat}:∀ (a sc:SC),Dt a sc→Dt (SC.mark l a) sc
 | .seq a b,sc,h=>by
  cases sc <;> first | exact h.elim | exact ⟨F0 a _ h.1,F0 b _ h.2⟩
 | .cond q a b,sc,h=>by
  cases sc <;> first | exact h.elim | exact ⟨h.1,F0 a _ h.2.1,F0 b _ h.2.2⟩
 | .block id b,sc,h=>by
  cases sc <;> first | exact h.elim | exact ⟨h.1,F0 b _ h.2⟩
 | .loop j b,sc,h=>by
  cases sc <;> first | exact h.elim | exact F0 b _ h
 | .skip,sc,h=>h
 | .reg _,sc,h=>h
 | .dreg _ _,sc,h=>h
 | .next _ _ _,sc,h=>h
 | .mloop _ _ _ _ _ _,sc,h=>h
 | .ghost _ _,sc,h=>h
 | .exit _,sc,h=>h
 | .ret,sc,h=>h
def Ww (d:Nat):List SOper→Bool
 | ⟨some k,_,_⟩ :: _=>k == d
 | _=>false
def SC.Eo (d n:Nat):SC→SC
 | .seq a b=>.seq (SC.Eo d n a) (SC.Eo d n b)
 | .cond q a b=>.cond q (SC.Eo d n a) (SC.Eo d n b)
 | .block id b=>.block id (SC.Eo d n b)
 | .loop j b=>.loop j (SC.Eo d n b)
 | .dreg anc ops=>bif Ww d ops then .ghost n (.dreg anc ops) else .dreg anc ops
 | .skip=>.skip
 | .reg ops=>.reg ops
 | .next a b e=>.next a b e
 | .mloop a b e g u v=>.mloop a b e g u v
 | .exit i=>.exit i
 | .ret=>.ret
 | .ghost m b=>.ghost m b
theorem EJ {d n:Nat}:∀ (a sc:SC),Dt a sc→Dt (SC.Eo d n a) sc
 | .seq a b,sc,h=>by
  cases sc <;> first | exact h.elim | exact ⟨EJ a _ h.1,EJ b _ h.2⟩
 | .cond q a b,sc,h=>by
  cases sc <;> first | exact h.elim | exact ⟨h.1,EJ a _ h.2.1,EJ b _ h.2.2⟩
 | .block id b,sc,h=>by
  cases sc <;> first | exact h.elim | exact ⟨h.1,EJ b _ h.2⟩
 | .loop j b,sc,h=>by
  cases sc <;> first | exact h.elim | exact EJ b _ h
 | .skip,sc,h=>h
 | .reg _,sc,h=>h
 | .dreg anc ops,sc,h=>by
  simp only [SC.Eo]
  cases Ww d ops with
  | true=>exact h
  | false=>exact h
 | .next _ _ _,sc,h=>h
 | .mloop _ _ _ _ _ _,sc,h=>h
 | .exit _,sc,h=>h
 | .ret,sc,h=>h
 | .ghost _ _,sc,h=>h
def Gi:RM→SC→SC
 | .halfg d n _,sc=>SC.Eo d n sc
 | .frzg d n,sc=>SC.Eo d n sc
 | .frl l,sc=>SC.mark l sc
 | .asis,sc=>sc
 | .frz,sc=>sc
 | .late,sc=>sc
 | .own _,sc=>sc
 | .half _,sc=>sc
 | .tr _,sc=>sc
theorem SH {res:RM} {a sc:SC} (h:Dt a sc):Dt (Gi res a) sc:=by
 cases res <;> first | exact h | exact F0 _ _ h | exact EJ _ _ h
theorem Yv {sc:SC}:Gi .asis sc=sc:=rfl
theorem Yw {sc:SC}:Gi .frz sc=sc:=rfl
theorem Yx {sc:SC}:Gi .late sc=sc:=rfl
theorem Yy {l:List (Option (Nat × Nat))} {sc:SC}:Gi (.own l) sc=sc:=rfl
theorem Yz {l:List (Option (Nat × Nat))} {sc:SC}:Gi (.half l) sc=sc:=rfl
theorem Y0 {l:List (Option (Nat × Nat))} {sc:SC}:Gi (.tr l) sc=sc:=rfl
theorem Y1 {d n:Nat} {sc:SC}:Gi (.frzg d n) sc=SC.Eo d n sc:=rfl
theorem Y2 {d n:Nat} {l:List (Option (Nat × Nat))} {sc:SC}:Gi (.halfg d n l) sc=SC.Eo d n sc:=rfl
theorem Y3 {l:List Nat} {sc:SC}:Gi (.frl l) sc=SC.mark l sc:=rfl
structure FC where
 nt:Nat
 sc:SC
 rs:List RX
def Aq (P:Program) (f:FuncId):Option FC :=
 match P.funcs[f]? with
 | some fn=>match fn.body with
  | some code=>match trC P fn.ntmps code with
   | some sc=>match Cf (fn.results.toList.map (Qi P fn.ntmps)) with
    | some rs=>some ⟨fn.ntmps,ann fn.ntmps [] (LL rs 0) sc (LL rs 0),rs⟩
    | none=>none
   | none=>none
  | none=>none
 | none=>none
def fin (res:RM) (n0:Nat) (rs:List RX) (x:X) (st:St):Option (SV × List Ob) :=
 match x with
 | .exit _=>none
 | _=>match OC st rs with
  | some r0=>match gc n0 r0 st.ob with
   | some (r,ob)=>order res n0 r ob
   | none=>none
  | none=>none
def ZG (res:RM) (n0:Nat) (rs:List RX):Option (X × St)→Option (SV × List Ob)
 | some (x,st)=>fin res n0 rs x st
 | none=>none
def Lb (g:List SV→Option SV) (xs:List SV) (ob:List Ob):Option (SV × List Ob) :=
 match ob with
 | []=>match g xs with
  | some r=>some (r,[])
  | none=>none
 | _ :: _=>none
theorem HP {P:Program} {g:List SV→Option SV} {f:FuncId} (h:∀ {xs:List SV} {r:SV},g xs=some r→Fun P f xs [] r []) {xs:List SV} {ob:List Ob} {r:SV} {ob':List Ob} (hx:Lb g xs ob=some (r,ob')):Fun P f xs ob r ob':=by
 unfold Lb at hx
 split at hx
 ·split at hx
  ·rename_i r1 h1
   simp only [zB,zE] at hx
   obtain ⟨rfl,rfl⟩:=hx
   exact h h1
  ·cases hx
 ·cases hx
def Na (P:Program) (M:FuncId→FM):Prop:=∀ f g xs ob r ob',(M f).ext=some g→g xs ob=some (r,ob')→Fun P f xs ob r ob'
def entry (b:Bool) (ob:List Ob):List Ob:=bif b then toTree ob else ob
theorem Pw (b:Bool) (ob:List Ob):(entry b ob).length=ob.length:=by cases b <;> simp [entry,NC]
theorem Fun.entry {P:Program} {f:FuncId} {args:List SV} {ob:List Ob} {r:SV} {ob':List Ob} {b:Bool} (h:Fun P f args (entry b ob) r ob'):Fun P f args ob r ob':=by
 cases b with
 | true=>exact h.tree
 | false=>exact h
noncomputable def Hg (P:Program) (M:FuncId→FM) (E:FEnv) (L:Nat→LoopF):FEnv:=fun f xs ob =>
 match (M f).ext with
 | some g=>g xs ob
 | none=>match Aq P f with
  | some fc=>bif decide (xs.length≤fc.nt) then ZG (M f).res ob.length fc.rs (fr P (D5 M E) (L ob.length) (Gi (M f).res fc.sc) ⟨xs++KY (fc.nt-xs.length),entry (M f).tree ob⟩) else none
  | none=>none
noncomputable def evN (P:Program) (M:FuncId→FM):Nat→FEnv
 | 0=>fun _ _ _=>none
 | n+1=>Hg P M (evN P M n) fun n0 mi keep step st=>IX n0 mi keep step n st
theorem UM {P:Program} (hm:P.follows .mixedOrders=true) {M:FuncId→FM} (hX:Na P M) {E:FEnv} (hE:J9 P E) {L:Nat→LoopF} (hL:∀ c:Ctx,NI P c (L c.m)):J9 P (Hg P M E L):=by
 intro f xs ob r ob' h
 unfold Hg Aq at h
 split at h
 ·rename_i g hg
  exact hX f g xs _ _ _ hg h
 cases hf:P.funcs[f]? with
 | none=>rw [hf] at h; cases h
 | some fn =>
  rw [hf] at h
  simp only at h
  cases hb:fn.body with
  | none=>rw [hb] at h; cases h
  | some code =>
   rw [hb] at h
   simp only at h
   cases ht:trC P fn.ntmps code with
   | none=>rw [ht] at h; cases h
   | some sc =>
    rw [ht] at h
    simp only at h
    cases hr:Cf (fn.results.toList.map (Qi P fn.ntmps)) with
    | none=>rw [hr] at h; cases h
    | some rs =>
     rw [hr] at h
     simp only at h
     obtain ⟨h1,h2⟩:=Az h
     have hn:xs.length≤fn.ntmps:=of_decide_eq_true h1
     cases ho:fr P (D5 M E) (L ob.length) (Gi (M f).res (ann fn.ntmps [] (LL rs 0) sc (LL rs 0))) ⟨xs++KY (fn.ntmps-xs.length),entry (M f).tree ob⟩ with
     | none=>rw [ho] at h2; cases h2
     | some out =>
      rw [ho] at h2
      obtain ⟨x,st⟩:=out
      have h2:fin (M f).res ob.length rs x st=some (r,ob'):=h2
      unfold fin at h2
      have hx:x=.ret∨x=.normal:=by
       cases x with
       | exit i=>cases h2
       | normal=>exact .inr rfl
       | ret=>exact .inl rfl
      have h3:(match OC st rs with
       | some r0=>match gc ob.length r0 st.ob with
        | some (r,ob2)=>order (M f).res ob.length r ob2
        | none=>none
       | none=>none)=some (r,ob'):=by
       rcases hx with rfl | rfl <;> exact h2
      clear h2
      split at h3
      ·rename_i r0 hr0
       split at h3
       ·rename_i r1 ob1 hg
        refine UI (Fun.entry (b:=(M f).tree) (ZC hf hb ht hr hn fun c hc1 hc2=>?_)) h3
        refine Fz hm (S8 hE) (hL c) _ sc _ (x,st) (SH (BV sc _ _)) (by rw [hc2,Pw]; exact ho) _ ?_
        rw [Pw]
        exact ⟨hx,r0,_,hr0,He hg⟩
       ·cases h3
      ·cases h3
theorem Ru {P:Program} (hm:P.follows .mixedOrders=true) {M:FuncId→FM} (hX:Na P M):∀ n,J9 P (evN P M n)
 | 0=>fun f xs ob r ob' h=>by cases h
 | n+1=>UM hm hX (Ru hm hX n) fun c=>Rt hm n
def ELe (E E':FEnv):Prop:=∀ f xs ob r,E f xs ob=some r→E' f xs ob=some r
def CLe (C C':CallF):Prop:=∀ f xs ob r,C f xs ob=some r→C' f xs ob=some r
theorem OD {hd:List Bool} {E E':FEnv} (h:ELe E E') {f:FuncId} {xs:List SV} {ob:List Ob} {sel:List Nat} {r:R3} (hr:DI hd E f xs ob sel=some r):DI hd E' f xs ob sel=some r:=by
 unfold DI at hr ⊢
 split at hr
 ·obtain ⟨h1,h2⟩:=Az hr
  rw [h1]
  split at h2
  ·rename_i r0 fob' he
   rw [cond_true,h _ _ _ _ he]
   exact h2
  ·cases h2
 ·cases hr
theorem SI {m:RM} {a b:Option R3} (h:∀ r,a=some r→b=some r) {r:R3} (hr:G8 m a=some r):G8 m b=some r:=by
 cases m with
 | asis=>exact h r hr
 | frz=>exact h r hr
 | own l=>exact h r hr
 | tr l=>exact h r hr
 | half l=>exact h r hr
 | halfg d n l=>exact h r hr
 | frzg d n=>exact h r hr
 | frl l=>exact h r hr
 | late =>
  cases a with
  | none=>cases hr
  | some q=>rw [h q rfl]; exact hr
theorem F1 {M:FuncId→FM} {E E':FEnv} (h:ELe E E'):CLe (D5 M E) (D5 M E'):=fun f xs ob r hr=>SI (fun r hr=>OD h hr) hr
section
variable {P:Program} {C C':CallF}
theorem Wx (h:CLe C C') {so:SOp} {sl:List SV} {ob:List Ob} {r:R3} (hr:fOp P C so sl ob=some r):fOp P C' so sl ob=some r:=by
 cases so
 case call f args=>exact h _ _ _ _ hr
 case callv x args =>
  simp only [fOp] at hr ⊢
  split at hr
  ·obtain ⟨h1,h2⟩:=Az hr
   rw [h1]
   exact h _ _ _ _ h2
  ·cases hr
 all_goals exact hr
theorem Ii (h:CLe C C') {o:SOper} {st:St} {r:Ent × St} (hr:JP P C o st=some r):JP P C' o st=some r:=by
 have one:∀ r,JI o.dst st (fOp P C o.op st.sl st.ob)=some r→JI o.dst st (fOp P C' o.op st.sl st.ob)=some r:=fun r hr=>by
  cases he:fOp P C o.op st.sl st.ob with
  | none=>rw [he] at hr; cases hr
  | some q=>rw [Wx h he]; rw [he] at hr; exact hr
 unfold JP at hr ⊢
 split at hr
 ·exact one _ hr
 ·split at hr
  ·cases hb:S7 _ _ with
   | true=>rw [hb] at hr; exact one _ hr
   | false=>rw [hb] at hr; exact hr
  ·exact hr
  ·cases hr
theorem LM (h:CLe C C'):∀ {l:List SOper} {st st':St},N7 P C l st=some st'→N7 P C' l st=some st'
 | [],st,st',hr=>hr
 | o :: r,st,st',hr=>by
  simp only [N7] at hr ⊢
  split at hr
  ·rename_i e st1 h1
   rw [Ii h h1]
   exact LM h hr
  ·cases hr
theorem LN (h:CLe C C'):∀ {l:List SOper} {acc:List Ent} {st:St} {r:List Ent × St},HJ P C l acc st=some r→HJ P C' l acc st=some r
 | [],acc,st,r,hr=>hr
 | o :: l,acc,st,r,hr=>by
  simp only [HJ] at hr ⊢
  split at hr
  ·rename_i e st1 h1
   rw [Ii h h1]
   exact LN h hr
  ·cases hr
def LLe (L L':LoopF):Prop:=∀ mi keep (step step':St→Option (X × St)) st o,(∀ st o,step st=some o→step' st=some o)→L mi keep step st=some o→L' mi keep step' st=some o
theorem Ij {r r':Option (X × St)} {k k':St→Option (X × St)} {o:X × St} (h1:∀ o,r=some o→r'=some o) (h2:∀ st o,k st=some o→k' st=some o) (h:Ds r k=some o):Ds r' k'=some o:=by
 unfold Ds at h
 split at h
 ·rw [h1 _ rfl]; exact h2 _ _ h
 ·rw [h1 _ rfl]; exact h
 ·rw [h1 _ rfl]; exact h
 ·cases h
theorem Rv {id:Nat} {r r':Option (X × St)} {o:X × St} (h1:∀ o,r=some o→r'=some o) (h:Ih id r=some o):Ih id r'=some o:=by
 cases r with
 | none=>cases h
 | some q=>rw [h1 _ rfl]; exact h
theorem FE (h:CLe C C') {L L':LoopF} (hL:LLe L L'):∀ (sc:SC) (st:St) (o:X × St),fr P C L sc st=some o→fr P C' L' sc st=some o
 | .skip,st,o,hr=>hr
 | .reg ops,st,o,hr=>by
  simp only [fr] at hr ⊢
  split at hr
  ·rename_i st' hs
   rw [LM h hs]; exact hr
  ·cases hr
 | .dreg anc ops,st,o,hr=>by
  simp only [fr] at hr ⊢
  split at hr
  ·rename_i es st' hs
   rw [LN h hs]; exact hr
  ·cases hr
 | .seq a b,st,o,hr=>Ij (fun o=>FE h hL a st o) (fun st o=>FE h hL b st o) hr
 | .cond q a b,st,o,hr=>by
  simp only [fr] at hr ⊢
  split at hr
  ·rename_i t ht
   cases t with
   | true=>exact FE h hL a st o hr
   | false=>exact FE h hL b st o hr
  ·cases hr
 | .block id b,st,o,hr=>Rv (fun o=>FE h hL b st o) hr
 | .loop keep b,st,o,hr=>hL none keep _ _ st o (fun st o=>FE h hL b st o) hr
 | .next _ _ _,st,o,hr=>by cases hr
 | .mloop keep keepO it nx more b,st,o,hr=>hL (some ⟨keepO,it,nx,more⟩) keep _ _ st o (fun st o=>FE h hL b st o) hr
 | .ghost n b,st,o,hr=>FE h hL b (Rr n st) o hr
 | .exit id,st,o,hr=>hr
 | .ret,st,o,hr=>hr
end
theorem F2 {n0:Nat} {keep:List Nat} {step step':St→Option (X × St)} (h:∀ st o,step st=some o→step' st=some o):∀ {n m:Nat} {st:St} {o:X × St},n≤m→EV n0 keep step n st=some o→EV n0 keep step' m st=some o
 | 0,m,st,o,_,hr=>by cases hr
 | n+1,0,st,o,hn,hr=>absurd hn (by omega)
 | n+1,m+1,st,o,hn,hr=>Ij (fun o ho=>h _ o ho) (fun st o ho=>F2 h (by omega) ho) hr
theorem UN {r r':Option (X × St)} {o:X × St} (h:∀ o,r=some o→r'=some o) (hr:SD r=some o):SD r'=some o:=by
 cases r with
 | none=>cases hr
 | some q=>rw [h q rfl]; exact hr
theorem Px {n0:Nat} {keepO:List Nat} {r r':Option (X × St)} {o:X × St} (h:∀ o,r=some o→r'=some o) (hr:NH n0 keepO r=some o):NH n0 keepO r'=some o:=by
 cases r with
 | none=>cases hr
 | some q=>rw [h q rfl]; exact hr
theorem JA {n0:Nat} {mi:MI} {keep:List Nat} {step step':St→Option (X × St)} {f:MF} (h:∀ st o,step st=some o→step' st=some o):∀ {l:EL} {seen:List MK} {st:St} {o:X × St},FQ n0 mi keep step f l seen st=some o→FQ n0 mi keep step' f l seen st=some o
 | [],seen,st,o,hr=>by
  unfold FQ at hr ⊢
  split at hr
  ·obtain ⟨h1,h2⟩:=Az hr
   rw [h1,cond_true]
   exact UN (fun o=>h _ o) h2
  ·cases hr
 | (k,x) :: l,seen,st,o,hr=>by
  unfold FQ at hr ⊢
  split at hr
  ·obtain ⟨h1,h2⟩:=Az hr
   rw [h1,cond_true]
   exact Ij (fun o=>h _ o) (fun st o=>JA h) h2
  ·cases hr
theorem NJ {n0:Nat} {mi:MI} {keep:List Nat} {step step':St→Option (X × St)} (h:∀ st o,step st=some o→step' st=some o) {st:St} {o:X × St} (hr:HO n0 mi keep step st=some o):HO n0 mi keep step' st=some o:=by
 unfold HO at hr ⊢
 split at hr
 ·obtain ⟨h1,h2⟩:=Fy.1 hr
  exact Fy.2 ⟨h1,fun l hl=>Px (fun o=>JA h) (h2 l hl)⟩
 ·cases hr
theorem M1 {n0:Nat} {mi:Option MI} {keep:List Nat} {step step':St→Option (X × St)} (h:∀ st o,step st=some o→step' st=some o) {n m:Nat} {st:St} {o:X × St} (hn:n≤m) (hr:IX n0 mi keep step n st=some o):IX n0 mi keep step' m st=some o:=by
 cases mi with
 | none=>exact F2 h hn hr
 | some mi=>exact NJ h hr
theorem Py {res:RM} {n0:Nat} {rs:List RX} {r:Option (X × St)} {o:SV × List Ob} (h:ZG res n0 rs r=some o):∃ q,r=some q∧fin res n0 rs q.1 q.2=some o:=by
 cases r with
 | none=>cases h
 | some q=>exact ⟨q,rfl,h⟩
theorem NK {P:Program} {M:FuncId→FM} {E E':FEnv} (h:ELe E E') {L L':Nat→LoopF} (hL:∀ n0,LLe (L n0) (L' n0)):ELe (Hg P M E L) (Hg P M E' L'):=by
 intro f xs ob r hr
 unfold Hg at hr ⊢
 split at hr
 ·exact hr
 split at hr
 ·obtain ⟨h1,h2⟩:=Az hr
  rw [h1]
  obtain ⟨q,h3,h4⟩:=Py h2
  rw [cond_true,FE (F1 h) (hL _) _ _ _ h3]
  exact h4
 ·cases hr
theorem Rw {P:Program} {M:FuncId→FM}:∀ n,ELe (evN P M n) (evN P M (n+1))
 | 0=>fun f xs ob r h=>by cases h
 | n+1=>NK (Rw n) fun n0 mi keep step step' st o hs h=>M1 hs (yK n) h
theorem GA {P:Program} {M:FuncId→FM} {n m:Nat} (h:n≤m):ELe (evN P M n) (evN P M m):=by
 induction h with
 | refl=>exact fun f xs ob r h=>h
 | step _ ih=>exact fun f xs ob r h=>Rw _ _ _ _ _ (ih f xs ob r h)
noncomputable def Pz (n0:Nat):List Nat→(St→Option (X × St))→St→Option (X × St):=fun keep step st =>
 match Classical.propDecidable (∃ n o,EV n0 keep step n st=some o) with
 | .isTrue h=>EV n0 keep step (Classical.choose h) st
 | .isFalse _=>none
theorem HQ {n0:Nat} {keep:List Nat} {step:St→Option (X × St)} {st:St} {o:X × St}:Pz n0 keep step st=some o ↔ ∃ n,EV n0 keep step n st=some o:=by
 unfold Pz
 split
 ·rename_i h _
  constructor
  ·intro e; exact ⟨_,e⟩
  ·rintro ⟨n,hn⟩
   obtain ⟨o',ho'⟩:=Classical.choose_spec h
   have h1:=F2 (fun _ _ h=>h) (zT n (Classical.choose h)) hn
   have h2:=F2 (fun _ _ h=>h) (zP n (Classical.choose h)) ho'
   rw [h1] at h2
   rw [ho',← h2]
 ·rename_i h _
  exact ⟨fun e=>(by cases e),fun ⟨n,hn⟩=>absurd ⟨n,o,hn⟩ h⟩
theorem IY {n0:Nat} {keep:List Nat} {step:St→Option (X × St)} {st:St}:Pz n0 keep step st=Ds (step (canon n0 keep st)) (Pz n0 keep step):=by
 refine Option.ext fun o=>?_
 rw [HQ]
 constructor
 ·rintro ⟨n,hn⟩
  cases n with
  | zero=>cases hn
  | succ n=>exact Ij (fun o h=>h) (fun st o ho=>HQ.2 ⟨n,ho⟩) hn
 ·intro h
  unfold Ds at h
  split at h
  ·rename_i st' hs
   obtain ⟨n,hn⟩:=HQ.1 h
   exact ⟨n+1,by simp only [EV,Ds,hs]; exact hn⟩
  ·rename_i i st' hs
   exact ⟨1,by simp only [EV,Ds,hs]; exact h⟩
  ·rename_i st' hs
   exact ⟨1,by simp only [EV,Ds,hs]; exact h⟩
  ·cases h
noncomputable def Ky (n0:Nat):LoopF:=fun mi keep step st =>
 match mi with
 | none=>Pz n0 keep step st
 | some mi=>HO n0 mi keep step st
theorem QaF {α:Type} (A:List α):∀ (k:Nat) (Q:Nat→List α→Prop),(∀ n m l,n≤m→Q n l→Q m l)→(∀ l:List α,l.length=k→(∀ a,a∈l→a∈A)→∃ n,Q n l)→∃ n,∀ l:List α,l.length=k→(∀ a,a∈l→a∈A)→Q n l
 | 0,Q,_,h=>by
  obtain ⟨n,hn⟩:=h [] rfl (fun a ha=>by cases ha)
  exact ⟨n,fun l hl _=>by rw [List.eq_nil_of_length_eq_zero hl]; exact hn⟩
 | k+1,Q,hQ,h=>by
  have one:∀ a,a∈A→∃ n,∀ l:List α,l.length=k→(∀ b,b∈l→b∈A)→Q n (a :: l):=fun a ha =>
   QaF A k (fun n l=>Q n (a :: l)) (fun n m l hn hq=>hQ n m _ hn hq) fun l hl hm=>h (a :: l) (by simp [hl]) fun b hb=>by
    rcases zL.1 hb with rfl | hb
    ·exact ha
    ·exact hm b hb
  have many:∀ B:List α,(∀ a,a∈B→a∈A)→∃ n,∀ a,a∈B→∀ l:List α,l.length=k→(∀ b,b∈l→b∈A)→Q n (a :: l):=by
   intro B
   induction B with
   | nil=>intro _; exact ⟨0,fun a ha=>by cases ha⟩
   | cons a B ih =>
    intro hB
    obtain ⟨n1,h1⟩:=one a (hB a (by simp))
    obtain ⟨n2,h2⟩:=ih fun b hb=>hB b (by simp [hb])
    refine ⟨max n1 n2,fun b hb l hl hm=>?_⟩
    rcases zL.1 hb with rfl | hb
    ·exact hQ _ _ _ (zT _ _) (h1 l hl hm)
    ·exact hQ _ _ _ (zP _ _) (h2 b hb l hl hm)
  obtain ⟨n,hn⟩:=many A fun _ h=>h
  refine ⟨n,fun l hl hm=>?_⟩
  cases l with
  | nil=>cases hl
  | cons a l=>exact hn a (hm a (by simp)) l (by simpa using hl) fun b hb=>hm b (by simp [hb])
theorem NL {α:Type}:∀ {l A:List α},l.Nodup→(∀ a,a∈l→a∈A)→l.length≤A.length
 | [],A,_,_=>yJ _
 | a :: l,A,hn,hm=>by
  classical
  obtain ⟨h1,h2⟩:=yA.1 hn
  have ha:=hm a (by simp)
  have:=NL (l:=l) (A:=A.erase a) h2 fun b hb=>by
   have hb':=hm b (by simp [hb])
   exact (List.mem_erase_of_ne (fun e=>h1 (by rw [←e]; exact hb))).2 hb'
  rw [List.length_erase_of_mem ha] at this
  have hp:0<A.length:=List.length_pos_of_mem ha
  simp only [zM]; omega
theorem Enum.nodup {f:MF} {l:EL} (h:Enum f l):l.Nodup:=List.Pairwise.of_map (fun x:MK × MV=>x.1) (fun a b hab e=>hab (by rw [e])) h.nd
theorem Enum.len {f:MF} {l l':EL} (h:Enum f l) (h':Enum f l'):l.length=l'.length :=
 Nat.le_antisymm (NL h.nodup fun a ha=>(h'.mem a.1 a.2).2 ((h.mem a.1 a.2).1 ha)) (NL h'.nodup fun a ha=>(h.mem a.1 a.2).2 ((h'.mem a.1 a.2).1 ha))
noncomputable def ev (P:Program) (M:FuncId→FM):FEnv:=fun f xs ob =>
 match Classical.propDecidable (∃ n o,evN P M n f xs ob=some o) with
 | .isTrue h=>evN P M (Classical.choose h) f xs ob
 | .isFalse _=>none
section
variable {P:Program} {M:FuncId→FM}
theorem Qm {f:FuncId} {xs:List SV} {ob:List Ob} {o:SV × List Ob}:ev P M f xs ob=some o ↔ ∃ n,evN P M n f xs ob=some o:=by
 unfold ev
 split
 ·rename_i h _
  constructor
  ·intro e; exact ⟨_,e⟩
  ·rintro ⟨n,hn⟩
   obtain ⟨o',ho'⟩:=Classical.choose_spec h
   have h1:=GA (zT n (Classical.choose h)) _ _ _ _ hn
   have h2:=GA (zP n (Classical.choose h)) _ _ _ _ ho'
   rw [h1] at h2
   rw [ho',← h2]
 ·rename_i h _
  exact ⟨fun e=>(by cases e),fun ⟨n,hn⟩=>absurd ⟨n,o,hn⟩ h⟩
theorem Y4 (hm:P.follows .mixedOrders=true) (hX:Na P M):J9 P (ev P M):=fun f xs ob r ob' h=>by
 obtain ⟨n,hn⟩:=Qm.1 h
 exact Ru hm hX n f xs ob r ob' hn
theorem QaG (n:Nat):ELe (evN P M n) (ev P M):=fun f xs ob r h=>Qm.2 ⟨n,h⟩
theorem OE {hd:List Bool} {f:FuncId} {xs:List SV} {ob:List Ob} {sel:List Nat} {r:R3} (h:DI hd (ev P M) f xs ob sel=some r):∃ n,DI hd (evN P M n) f xs ob sel=some r:=by
 unfold DI at h
 split at h
 ·rename_i fob hfob
  obtain ⟨h1,h2⟩:=Az h
  split at h2
  ·rename_i r0 fob' he
   obtain ⟨n,hn⟩:=Qm.1 he
   refine ⟨n,?_⟩
   unfold DI
   rw [hfob]
   simp only
   rw [h1,cond_true,hn]
   exact h2
  ·cases h2
 ·cases h
theorem NM {f:FuncId} {xs:List SV} {ob:List Ob} {r:R3} (h:D5 M (ev P M) f xs ob=some r):∃ n,D5 M (evN P M n) f xs ob=some r:=by
 unfold D5 at h ⊢
 cases hq:DI (M f).hand (ev P M) f xs ob (reach ob 64 (HN (M f).hand xs) []) with
 | none =>
  rw [hq] at h
  cases hm:(M f).res <;> rw [hm] at h <;> cases h
 | some q =>
  obtain ⟨n,hn⟩:=OE hq
  exact ⟨n,by rw [hn,← hq]; exact h⟩
theorem Wy {so:SOp} {sl:List SV} {ob:List Ob} {r:R3} (hr:fOp P (D5 M (ev P M)) so sl ob=some r):∃ n,fOp P (D5 M (evN P M n)) so sl ob=some r:=by
 cases so
 case call f args=>exact NM hr
 case callv x args =>
  simp only [fOp] at hr ⊢
  split at hr
  ·obtain ⟨h1,h2⟩:=Az hr
   rw [h1]
   exact NM h2
  ·cases hr
 all_goals exact ⟨0,hr⟩
theorem NN {o:SOper} {st:St} {r:Ent × St} (hr:JP P (D5 M (ev P M)) o st=some r):∃ n,JP P (D5 M (evN P M n)) o st=some r:=by
 have one:∀ r,JI o.dst st (fOp P (D5 M (ev P M)) o.op st.sl st.ob)=some r→∃ n,JI o.dst st (fOp P (D5 M (evN P M n)) o.op st.sl st.ob)=some r:=fun r hr=>by
  cases he:fOp P (D5 M (ev P M)) o.op st.sl st.ob with
  | none=>rw [he] at hr; cases hr
  | some q =>
   obtain ⟨n,hn⟩:=Wy he
   exact ⟨n,by rw [hn]; rw [he] at hr; exact hr⟩
 unfold JP at hr ⊢
 split at hr
 ·exact one _ hr
 ·split at hr
  ·cases hb:S7 _ _ with
   | true=>rw [hb] at hr; exact one _ hr
   | false=>rw [hb] at hr; exact ⟨0,hr⟩
  ·exact ⟨0,hr⟩
  ·cases hr
theorem P0:∀ {l:List SOper} {st st':St},N7 P (D5 M (ev P M)) l st=some st'→∃ n,N7 P (D5 M (evN P M n)) l st=some st'
 | [],st,st',hr=>⟨0,hr⟩
 | o :: r,st,st',hr=>by
  simp only [N7] at hr ⊢
  split at hr
  ·rename_i e st1 h1
   obtain ⟨n1,g1⟩:=NN h1
   obtain ⟨n2,g2⟩:=P0 hr
   refine ⟨max n1 n2,?_⟩
   rw [Ii (F1 (GA (zT n1 n2))) g1]
   exact LM (F1 (GA (zP n1 n2))) g2
  ·cases hr
theorem P1:∀ {l:List SOper} {acc:List Ent} {st:St} {r:List Ent × St},HJ P (D5 M (ev P M)) l acc st=some r→∃ n,HJ P (D5 M (evN P M n)) l acc st=some r
 | [],acc,st,r,hr=>⟨0,hr⟩
 | o :: l,acc,st,r,hr=>by
  simp only [HJ] at hr ⊢
  split at hr
  ·rename_i e st1 h1
   obtain ⟨n1,g1⟩:=NN h1
   obtain ⟨n2,g2⟩:=P1 hr
   refine ⟨max n1 n2,?_⟩
   rw [Ii (F1 (GA (zT n1 n2))) g1]
   exact LN (F1 (GA (zP n1 n2))) g2
  ·cases hr
noncomputable abbrev frN (P:Program) (M:FuncId→FM) (n0 n:Nat):SC→St→Option (X × St):=fr P (D5 M (evN P M n)) fun mi keep step st=>IX n0 mi keep step n st
theorem GB {n0 n m:Nat} (h:n≤m) (sc:SC) (st:St) (o:X × St) (hr:frN P M n0 n sc st=some o):frN P M n0 m sc st=some o :=
 FE (L:=fun mi keep step st=>IX n0 mi keep step n st) (L':=fun mi keep step st=>IX n0 mi keep step m st) (F1 (GA h)) (fun mi keep step step' st o hs h'=>M1 hs h h') sc st o hr
theorem SJ {r:Option (X × St)} {o:X × St} (h:SD r=some o):r=some o∧SD (some o)=some o:=by
 obtain ⟨h1,_⟩:=Pu h
 exact ⟨h1,by rw [h1] at h; exact h⟩
theorem P2 {n0:Nat} {mi:MI} {keep:List Nat} {step:St→Option (X × St)} {stepN:Nat→St→Option (X × St)} {f:MF} (hm:∀ n m st o,n≤m→stepN n st=some o→stepN m st=some o) (h:∀ st o,step st=some o→∃ n,stepN n st=some o):∀ {l:EL} {seen:List MK} {st:St} {o:X × St},FQ n0 mi keep step f l seen st=some o→∃ n,FQ n0 mi keep (stepN n) f l seen st=some o
 | [],seen,st,o,hr=>by
  unfold FQ at hr
  split at hr
  ·rename_i g ks f' seen' he
   obtain ⟨h1,h2⟩:=Az hr
   obtain ⟨h3,h4⟩:=SJ h2
   obtain ⟨n,hn⟩:=h _ _ h3
   refine ⟨n,?_⟩
   unfold FQ
   rw [he]
   simp only
   rw [h1,cond_true,hn]
   exact h4
  ·cases hr
 | (k,x) :: l,seen,st,o,hr=>by
  unfold FQ at hr
  split at hr
  ·rename_i g ks f' seen' he
   obtain ⟨h1,h2⟩:=Az hr
   unfold Ds at h2
   split at h2
   ·rename_i st' hs
    obtain ⟨n1,g1⟩:=h _ _ hs
    obtain ⟨n2,g2⟩:=P2 hm h h2
    refine ⟨max n1 n2,?_⟩
    unfold FQ
    rw [he]
    simp only
    rw [h1,cond_true,hm _ _ _ _ (zT n1 n2) g1]
    exact JA (fun st o=>hm _ _ st o (zP n1 n2)) g2
   ·rename_i i st' hs
    obtain ⟨n1,g1⟩:=h _ _ hs
    refine ⟨n1,?_⟩
    unfold FQ
    rw [he]
    simp only
    rw [h1,cond_true,g1]
    exact h2
   ·rename_i st' hs
    obtain ⟨n1,g1⟩:=h _ _ hs
    refine ⟨n1,?_⟩
    unfold FQ
    rw [he]
    simp only
    rw [h1,cond_true,g1]
    exact h2
   ·cases h2
  ·cases hr
theorem UO {n0:Nat} {keepO:List Nat} {r:Option (X × St)} {rN:Nat→Option (X × St)} {o:X × St} (h:∀ o,r=some o→∃ n,rN n=some o) (hr:NH n0 keepO r=some o):∃ n,NH n0 keepO (rN n)=some o:=by
 cases r with
 | none=>cases hr
 | some q =>
  obtain ⟨n,hn⟩:=h q rfl
  exact ⟨n,by rw [hn]; exact hr⟩
theorem SK {n0:Nat} {mi:MI} {keep:List Nat} {step:St→Option (X × St)} {stepN:Nat→St→Option (X × St)} (hm:∀ n m st o,n≤m→stepN n st=some o→stepN m st=some o) (h:∀ st o,step st=some o→∃ n,stepN n st=some o) {st:St} {o:X × St} (hr:HO n0 mi keep step st=some o):∃ n,HO n0 mi keep (stepN n) st=some o:=by
 unfold HO at hr
 split at hr
 ·rename_i g ks f he
  obtain ⟨⟨L0,h1⟩,h2⟩:=Fy.1 hr
  obtain ⟨n,hn⟩:=QaF L0 L0.length (fun n l=>Enum f l→NH n0 mi.keepO (FQ n0 mi keep (stepN n) f l [] st)=some o) (fun n m l hn hq hl=>Px (fun o=>JA fun st o=>hm _ _ st o hn) (hq hl)) fun l _ _=>by
   by_cases hl:Enum f l
   ·obtain ⟨n,hn⟩:=UO (rN:=fun n=>FQ n0 mi keep (stepN n) f l [] st) (fun o ho=>P2 hm h ho) (h2 l hl)
    exact ⟨n,fun _=>hn⟩
   ·exact ⟨0,fun hl'=>absurd hl' hl⟩
  refine ⟨n,?_⟩
  unfold HO
  rw [he]
  exact Fy.2 ⟨⟨L0,h1⟩,fun l hl=>hn l (hl.len h1) (fun a ha=>(h1.mem a.1 a.2).2 ((hl.mem a.1 a.2).1 ha)) hl⟩
 ·cases hr
theorem Ep {n0:Nat}:∀ (sc:SC) (st:St) (o:X × St),fr P (D5 M (ev P M)) (Ky n0) sc st=some o→∃ n,frN P M n0 n sc st=some o
 | .skip,st,o,hr=>⟨0,hr⟩
 | .reg ops,st,o,hr=>by
  simp only [fr] at hr
  split at hr
  ·rename_i st' hs
   obtain ⟨n,hn⟩:=P0 hs
   exact ⟨n,by simp only [frN,fr,hn]; exact hr⟩
  ·cases hr
 | .dreg anc ops,st,o,hr=>by
  simp only [fr] at hr
  split at hr
  ·rename_i es st' hs
   obtain ⟨n,hn⟩:=P1 hs
   exact ⟨n,by simp only [frN,fr,hn]; exact hr⟩
  ·cases hr
 | .seq a b,st,o,hr=>by
  simp only [fr,Ds] at hr
  split at hr
  ·rename_i st' hs
   obtain ⟨n1,g1⟩:=Ep a st _ hs
   obtain ⟨n2,g2⟩:=Ep b st' _ hr
   refine ⟨max n1 n2,?_⟩
   have h1:=GB (zT n1 n2) _ _ _ g1
   have h2:=GB (zP n1 n2) _ _ _ g2
   simp only [frN] at h1 h2
   simp only [frN,fr,Ds,h1,h2]
  ·rename_i i st' hs
   obtain ⟨n1,g1⟩:=Ep a st _ hs
   simp only [frN] at g1
   exact ⟨n1,by simp only [frN,fr,Ds,g1]; exact hr⟩
  ·rename_i st' hs
   obtain ⟨n1,g1⟩:=Ep a st _ hs
   simp only [frN] at g1
   exact ⟨n1,by simp only [frN,fr,Ds,g1]; exact hr⟩
  ·cases hr
 | .cond q a b,st,o,hr=>by
  simp only [fr] at hr
  split at hr
  ·rename_i t ht
   cases t with
   | true =>
    obtain ⟨n,hn⟩:=Ep a st o hr
    exact ⟨n,by simp only [frN,fr,ht]; exact hn⟩
   | false =>
    obtain ⟨n,hn⟩:=Ep b st o hr
    exact ⟨n,by simp only [frN,fr,ht]; exact hn⟩
  ·cases hr
 | .block id b,st,o,hr=>by
  simp only [fr] at hr
  cases he:fr P (D5 M (ev P M)) (Ky n0) b st with
  | none=>rw [he] at hr; cases hr
  | some q =>
   obtain ⟨n,hn⟩:=Ep b st q he
   rw [he] at hr
   simp only [frN] at hn
   exact ⟨n,by simp only [frN,fr,hn]; exact hr⟩
 | .loop keep b,st,o,hr=>by
  simp only [fr] at hr
  obtain ⟨m,hm⟩:=HQ.1 hr
  clear hr
  have key:∀ (m:Nat) (st:St),EV n0 keep (fr P (D5 M (ev P M)) (Ky n0) b) m st=some o→∃ n,EV n0 keep (frN P M n0 n b) n st=some o:=by
   intro m
   induction m with
   | zero=>intro st h; cases h
   | succ m ih =>
    intro st h
    simp only [EV,Ds] at h
    split at h
    ·rename_i st' hs
     obtain ⟨n1,g1⟩:=Ep b _ _ hs
     obtain ⟨n2,g2⟩:=ih st' h
     refine ⟨max n1 n2+1,?_⟩
     have h1:=GB (Nat.le_trans (zT n1 n2) (yK _)) _ _ _ g1
     have h2:=F2 (step':=frN P M n0 (max n1 n2+1) b) (fun st o h=>GB (Nat.le_trans (zP n1 n2) (yK _)) _ _ _ h) (zP n1 n2) g2
     simp only [EV,Ds,h1]
     exact h2
    ·rename_i i st' hs
     obtain ⟨n1,g1⟩:=Ep b _ _ hs
     refine ⟨n1+1,?_⟩
     have h1:=GB (yK n1) _ _ _ g1
     simp only [EV,Ds,h1]; exact h
    ·rename_i st' hs
     obtain ⟨n1,g1⟩:=Ep b _ _ hs
     refine ⟨n1+1,?_⟩
     have h1:=GB (yK n1) _ _ _ g1
     simp only [EV,Ds,h1]; exact h
    ·cases h
  obtain ⟨n,hn⟩:=key m st hm
  exact ⟨n,hn⟩
 | .next _ _ _,st,o,hr=>by cases hr
 | .mloop keep keepO it nx more b,st,o,hr=>by
  simp only [fr] at hr
  obtain ⟨n,hn⟩:=SK (stepN:=fun n=>frN P M n0 n b) (fun n m st o hn=>GB hn b st o) (fun st o=>Ep b st o) hr
  exact ⟨n,hn⟩
 | .ghost n b,st,o,hr=>Ep b (Rr n st) o hr
 | .exit id,st,o,hr=>⟨0,hr⟩
 | .ret,st,o,hr=>⟨0,hr⟩
theorem Zw {f:FuncId} {xs:List SV} {ob:List Ob}:ev P M f xs ob=Hg P M (ev P M) Ky f xs ob:=by
 refine Option.ext fun o=>?_
 rw [Qm]
 constructor
 ·rintro ⟨n,hn⟩
  cases n with
  | zero=>cases hn
  | succ n =>
   refine NK (L:=fun n0 mi keep step st=>IX n0 mi keep step n st) (L':=Ky) (QaG n) (fun n0 mi keep step step' st o hs h=>?_) _ _ _ _ hn
   cases mi with
   | none=>exact HQ.2 ⟨n,F2 hs (zH n) h⟩
   | some mi=>exact NJ hs h
 ·intro h
  unfold Hg at h
  cases hg:(M f).ext with
  | some g =>
   rw [hg] at h
   refine ⟨1,?_⟩
   show Hg P M (evN P M 0) _ f xs ob=some o
   unfold Hg
   rw [hg]; exact h
  | none =>
  rw [hg] at h
  simp only at h
  cases hc:Aq P f with
  | none=>rw [hc] at h; cases h
  | some fc =>
   rw [hc] at h
   simp only at h
   obtain ⟨h1,h2⟩:=Az h
   obtain ⟨q,h3,h4⟩:=Py h2
   obtain ⟨n,hn⟩:=Ep _ _ _ h3
   refine ⟨n+1,?_⟩
   show Hg P M (evN P M n) _ f xs ob=some o
   unfold Hg
   rw [hg,hc]
   simp only
   rw [h1,cond_true]
   show ZG (M f).res ob.length fc.rs (frN P M ob.length n (Gi (M f).res fc.sc) ⟨xs++KY (fc.nt-xs.length),entry (M f).tree ob⟩)=some o
   rw [hn]
   exact h4
end
end Go.Proofs.YtoglfpfdhojaaaaGreat
set_option maxRecDepth 100000
set_option linter.unusedSimpArgs false
set_option linter.unusedVariables false
set_option linter.unusedSectionVars false
namespace Go.Proofs.YtoglfpfdhojaaaaGreat
open Go.RowKit
structure Tb where
 name:ByteArray
 arity:Int
 pred:Bool
 vals:List Int
inductive Tm where
 |mk (name:ByteArray) (args:List Tm)
def Tm.name:Tm→ByteArray
 | .mk a _=>a
def Tm.args:Tm→List Tm
 | .mk _ a=>a
mutual
def Tm.d:Tm→List D
 | .mk name args=>[.str name,.arr (Tm.ds args)]
def Tm.ds:List Tm→List (List D)
 | []=>[]
 | x :: xs=>Tm.d x :: Tm.ds xs
end
theorem Tm.ds_eq:∀ xs:List Tm,Tm.ds xs=xs.map Tm.d
 | []=>rfl
 | x :: xs=>by rw [Tm.ds,Tm.ds_eq xs]; rfl
theorem Tm.d_eq (x:Tm):Tm.d x=[.str x.name,.arr (x.args.map Tm.d)]:=by
 obtain ⟨name,args⟩:=x
 rw [Tm.d,Tm.ds_eq]; rfl
theorem Tm.lt_of_mem {x y:Tm} (h:y∈x.args):SizeOf.sizeOf y<SizeOf.sizeOf x:=by
 obtain ⟨name,args⟩:=x
 have:=List.sizeOf_lt_of_mem h
 simp only [Tm.args] at this
 simp only [Tm.mk.sizeOf_spec]
 omega
def Tm.zero:Tm:=.mk ⟨#[]⟩ []
inductive Fm where
 |mk (op:Int) (atom:Tm) (var:ByteArray) (parts:List Fm)
def Fm.op:Fm→Int
 | .mk a _ _ _=>a
def Fm.atom:Fm→Tm
 | .mk _ a _ _=>a
def Fm.var:Fm→ByteArray
 | .mk _ _ a _=>a
def Fm.parts:Fm→List Fm
 | .mk _ _ _ a=>a
mutual
def Fm.d:Fm→List D
 | .mk op atom var parts=>[.int op,.str atom.name,.arr (atom.args.map Tm.d),.str var,.arr (Fm.ds parts)]
def Fm.ds:List Fm→List (List D)
 | []=>[]
 | x :: xs=>Fm.d x :: Fm.ds xs
end
theorem Fm.ds_eq:∀ xs:List Fm,Fm.ds xs=xs.map Fm.d
 | []=>rfl
 | x :: xs=>by rw [Fm.ds,Fm.ds_eq xs]; rfl
theorem Fm.d_eq (x:Fm):Fm.d x=[.int x.op,.str x.atom.name,.arr (x.atom.args.map Tm.d),.str x.var,.arr (x.parts.map Fm.d)]:=by
 obtain ⟨op,atom,var,parts⟩:=x
 rw [Fm.d,Fm.ds_eq]; rfl
theorem Fm.lt_of_mem {x y:Fm} (h:y∈x.parts):SizeOf.sizeOf y<SizeOf.sizeOf x:=by
 obtain ⟨op,atom,var,parts⟩:=x
 have:=List.sizeOf_lt_of_mem h
 simp only [Fm.parts] at this
 simp only [Fm.mk.sizeOf_spec]
 omega
def Fm.zero:Fm:=.mk 0 Tm.zero ⟨#[]⟩ []
structure Lt where
 pos:Bool
 atom:Tm
structure Cl where
 lits:List Lt
structure Ag where
 var:ByteArray
 elem:Int
def Ag.d (x:Ag):List D:=[.str x.var,.int x.elem]
theorem Ag.d_eq (x:Ag):Ag.d x=[.str x.var,.int x.elem]:=rfl
structure Bd where
 var:ByteArray
 term:Tm
structure Sb where
 binds:List Bd
structure Df where
 name:ByteArray
 vars:List ByteArray
 form:Fm
structure Tl where
 name:ByteArray
 arity:Int
 pred:Bool
 vals:List Int
def Tl.d (x:Tl):List D:=[.str x.name,.int x.arity,.bool x.pred,.arr (x.vals.map fun n=>[.int n])]
theorem Tl.d_eq (x:Tl):Tl.d x=[.str x.name,.int x.arity,.bool x.pred,.arr (x.vals.map fun n=>[.int n])]:=rfl
structure Ip where
 size:Int
 tables:List Tl
def Ip.d (x:Ip):List D:=[.int x.size,.arr (x.tables.map Tl.d)]
instance flagNo:Flag:=⟨False⟩
theorem Fun.Wz {f:FuncId} {args:List SV} {r:SV} {rv:Value} (hr:∀ (w:World) (I:Nat→Prop) (V:Nat→Option Value),RepV w I V r rv)
  (h:∀ (w:World) (I:Nat→Prop) (V:Nat→Option Value) (vs:List Value),RepVs w I V args vs→Calls Tryz.prog f vs.toArray w (Ret w rv)):Fun Tryz.prog f args [] r []:=by
 intro w I V B vs hwf hvs
 refine (h w I V vs hvs).mono ?_
 rintro e w' ⟨rfl,hb⟩
 refine ⟨rv,I,V,B,rfl,hr _ _ _,⟨⟨hb.os,⟨hb.tape,fun h=>False.elim h⟩,hb.output,hb.size,fun b hlt _=>hb.block b hlt⟩,fun _ h=>h,fun _ h=>.inl h,VLe.refl _,?_,fun g b hl=>by simp [As,Ob.live] at hl⟩⟩
 exact ⟨fun b hb'=>Nat.lt_of_lt_of_le (hwf.ilt b hb') hb.size,fun g hl=>by simp [As,Ob.live] at hl,fun g b hl=>by simp [As,Ob.live] at hl,fun g b hl=>by simp [As,Ob.live] at hl,fun g g' b hl=>by simp [As,Ob.live] at hl,fun g hf=>hwf.fr g rfl,hwf.gl.keep ⟨hb.size,fun b _ hlt=>hb.block b hlt⟩ fun _ h=>h⟩
theorem Fun.of_same {f:FuncId} {args:List SV} {r:SV} {rv:Value} (hr:∀ (w:World) (I:Nat→Prop) (V:Nat→Option Value),RepV w I V r rv)
  (h:∀ (w:World) (I:Nat→Prop) (V:Nat→Option Value) (vs:List Value),RepVs w I V args vs→Calls Tryz.prog f vs.toArray w (Same w rv)):Fun Tryz.prog f args [] r [] :=
 Fun.Wz hr fun w I V vs hvs=>Same.ret (h w I V vs hvs)
section
variable {w:World} {I:Nat→Prop} {V:Nat→Option Value} {vs:List Value}
theorem M2 (h:RepVs w I V [] vs):vs=[]:=by simpa [RepVs] using h
theorem F3 {x:SV} {xs:List SV} (h:RepVs w I V (x :: xs) vs):∃ v r,vs=v :: r∧RepV w I V x v∧RepVs w I V xs r:=by simpa only [RepVs] using h
theorem Nb {s:ByteArray} {v:Value} (h:RepV w I V (.str s) v):v=.string s∧s.size≤9223372036854775807:=by simpa only [RepV] using h
end
section
variable {w:World} {I:Nat→Prop} {V:Nat→Option Value}
end
theorem Y5 (xs:List ByteArray):OT.erss (xs.map fun s=>[OT.str s])=xs.map fun s=>[D.str s]:=by
 induction xs with
 | nil=>rfl
 | cons x r ih=>simp only [zN,OT.erss,OT.ers,OT.er,ih]
theorem Nc (xs:List Int):OT.erss (xs.map fun s=>[OT.int s])=xs.map fun s=>[D.int s]:=by
 induction xs with
 | nil=>rfl
 | cons x r ih=>simp only [zN,OT.erss,OT.ers,OT.er,ih]
theorem Y6 (xs:List ByteArray):OT.CJ (xs.map fun s=>[OT.str s])=true:=by
 induction xs with
 | nil=>rfl
 | cons x r ih=>simp only [zN,OT.CJ,OT.EP,OT.noSh,ih,yL]
theorem TV (xs:List Int):OT.CJ (xs.map fun s=>[OT.int s])=true:=by
 induction xs with
 | nil=>rfl
 | cons x r ih=>simp only [zN,OT.CJ,OT.EP,OT.noSh,ih,yL]
def mkT (k:Nat) (acc:List UInt8):List UInt8:=if h:k=0 then acc else mkT (k / 10) (UInt8.ofNat (48+k % 10) :: acc)
termination_by k
decreasing_by omega
def QaH (k:Int):ByteArray:=⟨(109 :: mkT k.toNat []).toArray⟩
def OF (b:Int):Bool:=decide (97≤b)&&decide (b≤122)
def Y7 (b:Int):Bool:=decide (48≤b)&&decide (b≤57)
def NO (b:Int):Bool:=decide (65≤b)&&decide (b≤90)
def inB (n lo hi:Int):Bool:=decide (lo≤n)&&decide (n≤hi)
theorem Kz (n lo hi:Int) (w:World) :
  Calls Tryz.prog 43 #[.int .i64 n,.int .i64 lo,.int .i64 hi] w (Same w (.bool (inB n lo hi))):=by
 by_cases h1:lo≤n <;> by_cases h2:n≤hi
 all_goals
  go_enter Tryz.func43,Tryz.ntmps43
  go_wp2
  go_ret
  exact Same.mk' _ (by simp [inB,h1,h2])
theorem IZ (n lo hi:Int) (w:World) :
  Calls Tryz.prog 32 #[.int .i64 n,.int .i64 lo,.int .i64 hi] w (Same w (.bool (inB n lo hi))):=by
 by_cases h1:lo≤n <;> by_cases h2:n≤hi
 all_goals
  go_enter Tryz.func32,Tryz.ntmps32
  go_wp2
  go_ret
  exact Same.mk' _ (by simp [inB,h1,h2])
theorem M3 (n:Int) (w:World):Calls Tryz.prog 78 #[.int .u8 n] w (Same w (.bool (OF n))):=by
 by_cases h1:97≤n <;> by_cases h2:n≤122
 all_goals
  go_enter Tryz.func78,Tryz.ntmps78
  go_wp2
  go_ret
  exact Same.mk' _ (by simp [OF,h1,h2])
theorem M4 (n:Int) (w:World):Calls Tryz.prog 79 #[.int .u8 n] w (Same w (.bool (Y7 n))):=by
 by_cases h1:48≤n <;> by_cases h2:n≤57
 all_goals
  go_enter Tryz.func79,Tryz.ntmps79
  go_wp2
  go_ret
  exact Same.mk' _ (by simp [Y7,h1,h2])
theorem Rx (n:Int) (w:World):Calls Tryz.prog 77 #[.int .u8 n] w (Same w (.bool (NO n))):=by
 by_cases h1:65≤n <;> by_cases h2:n≤90
 all_goals
  go_enter Tryz.func77,Tryz.ntmps77
  go_wp2
  go_ret
  exact Same.mk' _ (by simp [NO,h1,h2])
def Ik (n:Int):Bool:=OF n || Y7 n
theorem M5 (n:Int) (w:World):Calls Tryz.prog 96 #[.int .u8 n] w (Same w (.bool (Ik n))):=by
 by_cases h1:97≤n <;> by_cases h2:n≤122 <;> by_cases h3:48≤n <;> by_cases h4:n≤57 <;> first | (exfalso; omega) | skip
 all_goals
  go_enter Tryz.func96,Tryz.ntmps96
  go_wp2
  go_ret
  exact Same.mk' _ (by simp [Ik,OF,Y7,h1,h2,h3,h4])
def HR (s:ByteArray) (k:Nat):Int:=((s.toList.getD k 0).toNat:Int)
theorem F4 {s:ByteArray} {k:Nat} (h:k<s.size):(s[k].toNat:Int)=HR s k:=by
 have h':k<s.data.toList.length:=h
 unfold HR
 rw [ByteArray.toList_eq,zU,zG h']
 rfl
def EX (p:Nat→Int→Bool) (s:ByteArray) (k:Nat):Bool:=(List.range k).all fun j=>p j (HR s j)
theorem GC {p:Nat→Int→Bool} {s:ByteArray} {k:Nat}:EX p s (k+1)=(EX p s k&&p k (HR s k)):=by
 unfold EX
 rw [List.range_succ,List.all_append]
 simp
theorem Il {p:Nat→Int→Bool} {s:ByteArray} {k:Nat} (h:EX p s k=true) (hk:p k (HR s k)=true):EX p s (k+1)=true:=by
 rw [GC,h,hk]; rfl
theorem SL {p:Nat→Int→Bool} {s:ByteArray} {k n:Nat} (h:EX p s k=false) (hn:k≤n):EX p s n=false:=by
 induction n with
 | zero =>
      have:k=0:=by omega
      subst this; exact h
 | succ n ih =>
  by_cases hk:k=n+1
  ·subst hk; exact h
  ·rw [GC,ih (by omega)]; rfl
theorem EK {p:Nat→Int→Bool} {s:ByteArray} {k:Nat} (hk:k<s.size) (h:p k (HR s k)=false):EX p s s.size=false :=
 SL (k:=k+1) (by rw [GC,h]; simp) (by omega)
def I8 (k:Nat) (b:Int):Bool:=(k != 0 || OF b)&&(Ik b || b == 95)
def I9 (k:Nat) (b:Int):Bool:=(k != 0 || NO b)&&(k == 0 || Ik b)
def words:List (List UInt8):=[[116,114,117,101],[102,97,108,115,101],[116,114,117,116,104],[98,111,116,104],[101,105,116,104,101,114],[105,102],[97,108,108],[115,111,109,101]]
def W0 (s:ByteArray):Bool:=VM (fun k=>s.toList == words.getD k []) 8
def Ez (s:ByteArray):Bool:=EX I8 s s.size&&inB s.size 1 6&&!W0 s
def Cc (s:ByteArray):Bool:=EX I9 s s.size&&inB s.size 1 4
theorem NP (s:ByteArray) (w:World) (hs:s.size≤9223372036854775807):Calls Tryz.prog 42 #[.string s] w (Same w (.bool (Cc s))):=by
  go_enter Tryz.func42,Tryz.ntmps42
  go_wp2
  go_loopw [6] (fun i wr=>Cnt w s.size (fun k=>EX I9 s k=true) i wr) (fun i _=>s.size-(intOf i).toNat)
  case atStart=>exact ⟨0,yJ _,rfl,rfl,rfl⟩
  case round =>
    obtain ⟨k,hk,rfl,hok,rfl⟩:=hrel
    have Hok:=Lib.hid hok
    clear hok
    by_cases hlt:k<s.size
    · have Hb:=Lib.hid (F4 hlt)
      rcases Nat.eq_zero_or_pos k with rfl | hpos
      all_goals
        go_wp2_with (first
          | (go_at_call 78; refine (M3 _ _).mono ?_; rintro e w' ⟨rfl,rfl⟩)
          | (go_at_call 77; refine (Rx _ _).mono ?_; rintro e w' ⟨rfl,rfl⟩)
          | (go_at_call 79; refine (M4 _ _).mono ?_; rintro e w' ⟨rfl,rfl⟩))
        all_goals first
          | (go_ret
             refine Same.mk' _ ?_
             unfold Cc
             rw [EK hlt (by rw [←Hb.out]; simp_all [I9,Ik] <;> omega)]
             rfl)
          | (go_roundw
             case rel=>exact ⟨_,hlt,by go_num,Il Hok.out (by rw [←Hb.out]; simp_all [I9,Ik] <;> omega),rfl⟩
             case measure=>first | exact IJ hlt | (simp [intOf]; omega))
    · obtain rfl:k=s.size:=by omega
      go_wp2_with (first
        | (go_at_call 43; refine (Kz _ _ _ _).mono ?_; rintro e w' ⟨rfl,rfl⟩))
      go_ret
      exact Same.mk' _ (by unfold Cc; rw [Hok.out]; rfl)
theorem SM (b n c:Nat) (f:Nat→ByteArray) (x:ByteArray) (w:World) (hn:n≤9223372036854775807)
  (hc:∀ k,k<n→w.cell? ⟨b,k,none⟩=some (.string (f k))):Calls Tryz.prog 92 #[.slice (some ⟨b,0,none⟩) n c,.string x] w (Same w (.int .i64 (QH (fun k=>x.toList == (f k).toList) n))):=by
 go_enter Tryz.func92,Tryz.ntmps92
 go_wp2
 go_loopw [8] (fun i wr=>Cnt w n (fun k=>∀ j,j<k→(x.toList == (f j).toList)=false) i wr) (fun i _=>n-(intOf i).toNat)
 case atStart=>exact ⟨0,yJ _,rfl,fun j hj=>absurd hj (by omega),rfl⟩
 case round =>
  obtain ⟨k,hk,rfl,hok,rfl⟩:=hrel
  have Hok:=Lib.hid hok
  clear hok
  by_cases hlt:k<n
  ·have hck:=hc k (by omega)
   go_wp2_with fail
   ·go_ret
    exact Same.mk' _ (by rw [QI hlt Hok.out (by assumption)]; rfl)
   ·go_roundw
    case rel=>exact ⟨_,hlt,by go_num,QJ Hok.out (by assumption),rfl⟩
    case measure=>exact IJ hlt
  ·obtain rfl:k=n:=by omega
   go_wp2_with fail
   go_ret
   exact Same.mk' _ (by rw [OX Hok.out]; rfl)
theorem OG (b n c:Nat) (f:Nat→ByteArray) (x:ByteArray) (w:World) (hn:n≤9223372036854775807)
  (hc:∀ k,k<n→w.cell? ⟨b,k,none⟩=some (.string (f k))):Calls Tryz.prog 58 #[.slice (some ⟨b,0,none⟩) n c,.string x] w (Same w (.bool (VM (fun k=>x.toList == (f k).toList) n))):=by
 have Hc:=Lib.hid hc
 clear hc
 go_enter Tryz.func58,Tryz.ntmps58
 go_wp2_with (first
  |(go_at_call 92; refine (SM _ _ _ f _ _ hn Hc.out).mono ?_; rintro e w' ⟨rfl,rfl⟩))
 go_ret
 exact Same.mk' _ (by rw [←XR]; rfl)
theorem Qn (w:World):Calls Tryz.prog 104 #[] w fun e w'=>e=.returned (.slice (some ⟨w.heap.size,0,none⟩) 8 8)∧w'=w.alloc (.cells ((words.map fun l=>Value.string ⟨l.toArray⟩).toArray) 9):=by
 go_enter Tryz.func104,Tryz.ntmps104
 go_wp2
 go_ret
 exact ⟨rfl,rfl⟩
theorem Ry (w:World):∀ k,k<8→(w.alloc (.cells ((words.map fun l=>Value.string ⟨l.toArray⟩).toArray) 9)).cell? ⟨w.heap.size,k,none⟩=some (.string ⟨(words.getD k []).toArray⟩):=by
 intro k hk
 have hh:(w.alloc (.cells ((words.map fun l=>Value.string ⟨l.toArray⟩).toArray) 9)).heap[w.heap.size]?=some (.cells ((words.map fun l=>Value.string ⟨l.toArray⟩).toArray) 9):=heap_alloc_new w _
 unfold World.cell?
 rw [hh]
 match k,hk with
 | 0,_=>rfl
 | 1,_=>rfl
 | 2,_=>rfl
 | 3,_=>rfl
 | 4,_=>rfl
 | 5,_=>rfl
 | 6,_=>rfl
 | 7,_=>rfl
theorem Qo (s:ByteArray) (w:World) (hs:s.size≤9223372036854775807):Calls Tryz.prog 80 #[.string s] w (Ret w (.bool (Ez s))):=by
  go_enter Tryz.func80,Tryz.ntmps80
  go_wp2
  go_loopw [6] (fun i wr=>Cnt w s.size (fun k=>EX I8 s k=true) i wr) (fun i _=>s.size-(intOf i).toNat)
  case atStart=>exact ⟨0,yJ _,rfl,rfl,rfl⟩
  case round =>
    obtain ⟨k,hk,rfl,hok,rfl⟩:=hrel
    have Hok:=Lib.hid hok
    clear hok
    by_cases hlt:k<s.size
    · have Hb:=Lib.hid (F4 hlt)
      rcases Nat.eq_zero_or_pos k with rfl | hpos
      all_goals
        go_wp2_with (first
          | (go_at_call 78; refine (M3 _ _).mono ?_; rintro e w' ⟨rfl,rfl⟩)
          | (go_at_call 79; refine (M4 _ _).mono ?_; rintro e w' ⟨rfl,rfl⟩))
        all_goals first
          | (go_ret
             refine Ret.same _ ?_
             unfold Ez
             rw [EK hlt (by rw [←Hb.out]; simp_all [I8,Ik] <;> omega)]
             rfl)
          | (go_roundw
             case rel=>exact ⟨_,hlt,by go_num,Il Hok.out (by rw [←Hb.out]; simp_all [I8,Ik] <;> omega),rfl⟩
             case measure=>first | exact IJ hlt | (simp [intOf]; omega))
    · obtain rfl:k=s.size:=by omega
      cases hin:inB s.size 1 6
      · go_wp2_with (first
          | (go_at_call 43; refine (Kz _ _ _ _).mono ?_; rintro e w' ⟨rfl,rfl⟩))
        go_ret
        exact Ret.same _ (by unfold Ez; rw [hin]; simp)
      · go_wp2_with (first
          | (go_at_call 43; refine (Kz _ _ _ _).mono ?_; rintro e w' ⟨rfl,rfl⟩)
          | (go_at_call 104; refine (Qn _).mono ?_; rintro e w' ⟨rfl,rfl⟩)
          | (go_at_call 58; refine (OG _ _ _ (fun k=>⟨(words.getD k []).toArray⟩) _ _ (by omega) (Ry w)).mono ?_; rintro e w' ⟨rfl,rfl⟩))
        go_ret
        refine Ret.bel ?_ ((Below.refl _ _).alloc (zH _) _)
        unfold Ez W0
        rw [hin,Hok.out]
        simp
end Go.Proofs.YtoglfpfdhojaaaaGreat
