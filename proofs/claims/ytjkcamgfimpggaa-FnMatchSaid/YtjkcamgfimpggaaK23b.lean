/-
  Texts of this claim, one behind the other, each built on those ahead of it. No condition.
-/
import Derived.Test.YtjkcamgfimpggaaK23a
import Derived.Laws.IdiomRangeMap
set_option maxHeartbeats 16000000
open Option.some renaming inj → zA, injEq → zB
open Option renaming map_eq_some_iff → zC, map_some → yN
open Bool renaming and_eq_true → zD, not_eq_true' → zI
open Prod.mk renaming injEq → zE
open Nat renaming lt_or_ge → zF, le_refl → zH, zero_add → zP, add_lt_add_iff_right → zS, add_right_cancel_iff → zW, add_sub_add_right → z6
open List renaming getElem?_eq_getElem → zG, append_nil → zJ, mem_append → zK, length_cons → zL, all_eq_true → zM, map_cons → zN, mem_cons → zO, getElem_mem → zR, mem_singleton → zT, mem_of_getElem? → zU, getD_eq_getElem?_getD → zV, getElem?_cons_zero → zX, getElem?_cons_succ → zY, nodup_append → zZ, mem_iff_getElem? → z1, mem_append_right → z7, getElem?_eq_none → z8, filter_cons → yA, map_append → yB, map_nil → yC, mem_map → yE, length_append → yG, pairwise_iff_getElem → yH, getElem?_eq_some_iff → yI, getElem?_append_left → yJ, append_assoc → yK, cons_append → yL, not_mem_nil → yM, nodup_cons → yO, length_map → yP, nodup_nil → yQ
open Array renaming getElem?_eq_some_iff → zQ, getElem?_toList → z2, getD_eq_getD_getElem? → yD, ext' → yF
set_option maxRecDepth 100000
set_option linter.unusedSimpArgs false
set_option linter.unusedVariables false
set_option linter.unusedSectionVars false
namespace Go.Proofs.Ytjkcamgfimpggaa
open Go.RowKit
variable [Flag]
omit [Flag] in
theorem Hk (m:MF) (k:MK) (x:MV):Kk m k x k=some x:=by unfold Kk; rw [if_pos rfl]
omit [Flag] in
theorem Gg {m:MF} {k q:MK} {x:MV} (h:q≠k):Kk m k x q=m q:=by unfold Kk; rw [if_neg h]
def ND (ks:Bool) (d:TypeDesc):Prop:=(ks=true∧d=.string)∨(ks=false∧d=.int .i64)
theorem MT {P:Program} {t:TypeId} {ks:Bool} (h:MO P t=some ks):∃ d,P.underlying t=some d∧ND ks d:=by
 unfold MO at h
 split at h
 ·rename_i hu; obtain rfl:=zA h; exact ⟨_,hu,.inl ⟨rfl,rfl⟩⟩
 ·rename_i hu; obtain rfl:=zA h; exact ⟨_,hu,.inr ⟨rfl,rfl⟩⟩
 ·cases h
theorem Ed {P:Program} {t:TypeId} {q:Bool × TypeId} (h:CT P t=some q):∃ kt d,P.underlying t=some (.map kt q.2)∧P.underlying kt=some d∧ND q.1 d:=by
 unfold CT at h
 split at h
 ·rename_i kt et hu
  obtain ⟨ks,hk,rfl⟩:=zC.1 h
  obtain ⟨d,h1,h2⟩:=MT hk
  exact ⟨kt,d,hu,h1,h2⟩
 ·cases h
theorem MKR.isKey {k:MK} {v:Value} {ks:Bool} {d:TypeDesc} (h:MKR k v) (hk:k.isStr=ks) (hd:ND ks d):MapKept.IsKey d v:=by
 rcases hd with ⟨h1,rfl⟩ | ⟨h1,rfl⟩ <;> cases k <;> simp only [MKR] at h <;> subst h1 <;> simp only [MK.isStr] at hk <;> try (cases hk; done)
 ·rw [h.1]; trivial
 ·rw [h]; exact rfl
theorem PM {w:World} {I:Nat→Prop} {V:Nat→Option Value} {ks:Bool} {x:SV} {q:MK} {v:Value} (h:svK ks x=some q) (hv:RepV w I V x v):MKR q v∧q.isStr=ks:=by
 unfold svK at h
 split at h
 ·obtain rfl:=zA h; simp only [RepV] at hv; exact ⟨hv,rfl⟩
 ·obtain rfl:=zA h; simp only [RepV] at hv; exact ⟨hv,rfl⟩
 ·cases h
theorem NE (w:World) (T:Nat→Prop):DRep false w T (.arr []) (.slice none 0 0):=.arr _ 0 [] none 0 (fun _ _=>undef) (fun _ _ _=>False) (zH _) (by omega) (.inl rfl) (fun i h=>absurd h (by simp)) (fun _ _ _ h=>h.elim) (fun e=>by cases e) (fun i j h=>absurd h (by simp))
theorem PN {w:World} {I:Nat→Prop} {V:Nat→Option Value} {x:SV} {d:D} {v:Value} (h:svD x=some d) (hv:RepV w I V x v):DRep false w I d v:=by
 unfold svD at h
 split at h <;> (try (cases h; done)) <;> obtain rfl:=zA h <;> simp only [RepV] at hv
 ·subst hv; exact .int _ _
 ·subst hv; exact .bool _ _
 ·rw [hv.1]; exact .str _ _ hv.2
 ·exact hv
 ·subst hv; exact NE _ _
theorem NF {w:World} {I:Nat→Prop} {V:Nat→Option Value}:∀ {l:List SV} {ds:List D} {vs:List Value},RH l=some ds→RepVs w I V l vs→vs.length=ds.length∧∀ (i:Nat) (d:D) (u:Value),ds[i]?=some d→vs[i]?=some u→DRep false w I d u
 | [],ds,vs,h,hv=>by
  obtain rfl:=zA h
  simp only [RepVs] at hv
  subst hv
  exact ⟨rfl,fun i d u hd=>by simp at hd⟩
 | x :: r,ds,vs,h,hv=>by
  simp only [RH] at h
  split at h
  ·rename_i d hd
   split at h
   ·rename_i l hl
    obtain rfl:=zA h
    simp only [RepVs] at hv
    obtain ⟨v,us,rfl,h1,h2⟩:=hv
    obtain ⟨h3,h4⟩:=NF hl h2
    refine ⟨by simp [h3],fun i d' u hi hu=>?_⟩
    cases i with
    | zero =>
     simp only [zX,zB] at hi hu
     subst hi hu
     exact PN hd h1
    | succ i =>
     simp only [zY] at hi hu
     exact h4 i d' u hi hu
   ·cases h
  ·cases h
theorem TC {w:World} {I:Nat→Prop} {V:Nat→Option Value} {x:SV} {m:MV} {v:Value} (h:svM x=some m) (hv:RepV w I V x v):MVR w I m v:=by
 have single:∀ y:SV,(match svD y with | some d=>some ((false,[d]):MV) | none=>none)=some m→RepV w I V y v→MVR w I m v:=fun y h hv=>by
  split at h
  ·rename_i d hd
   obtain rfl:=zA h
   refine ⟨[v],rfl,fun i d' u hi hu=>?_,.inr ⟨rfl,rfl⟩⟩
   cases i with
   | zero =>
    simp only [zX,zB] at hi hu
    subst hi hu
    exact PN hd hv
   | succ i=>simp at hi
  ·cases h
 unfold svM at h
 split at h
 ·rename_i l
  split at h
  ·rename_i ds hds
   obtain rfl:=zA h
   simp only [RepV] at hv
   obtain ⟨vs,rfl,hv⟩:=hv
   obtain ⟨h1,h2⟩:=NF hds hv
   exact ⟨vs,h1,h2,.inl ⟨rfl,rfl⟩⟩
  ·cases h
 ·exact single _ h hv
theorem PO {w:World} {I:Nat→Prop} {V:Nat→Option Value}:∀ {ds:List D} {vs:List Value},vs.length=ds.length→(∀ (i:Nat) (d:D) (u:Value),ds[i]?=some d→vs[i]?=some u→DRep false w I d u)→RepVs w I V (ds.map D.sv) vs
 | [],vs,h,_=>by
  have:vs=[]:=List.eq_nil_of_length_eq_zero (by simpa using h)
  subst this; simp [RepVs]
 | d :: ds,[],h,_=>by simp at h
 | d :: ds,v :: vs,h,hr=>by
  simp only [zN,RepVs]
  exact ⟨v,vs,rfl,D.rep_sv (hr 0 d v (by simp) (by simp)),PO (by simpa using h) fun i d' u hi hu=>hr (i+1) d' u (by simpa using hi) (by simpa using hu)⟩
theorem MVR.sv {w:World} {I:Nat→Prop} {V:Nat→Option Value} {x:MV} {v:Value} (h:MVR w I x v):RepV w I V (MV.sv x) v:=by
 obtain ⟨g,ds⟩:=x
 obtain ⟨vs,h1,h2,h3⟩:=h
 have hr:=PO (V:=V) h1 h2
 rcases h3 with ⟨h3,rfl⟩ | ⟨h3,h4⟩
 ·simp only at h3
  subst h3
  simp only [MV.sv,RepV]
  exact ⟨vs,rfl,hr⟩
 ·simp only at h3
  subst h3 h4
  simp only [MV.sv]
  simp only [zL,List.length_nil] at h1
  match ds,h1,hr with
  | [d],_,hr =>
   simp only [zN,yC,RepVs] at hr
   obtain ⟨u,r,e,hr,_⟩:=hr
   injection e with e _
   subst e
   simpa using hr
section
variable {w:World} {I:Nat→Prop} {ks:Bool} {m:MF} {es:Array MapEntry} {clock:Nat} {d:TypeDesc}
theorem EntR.keys (h:EntR w I ks m es clock) (hd:ND ks d):∀ x∈es.toList,MapKept.IsKey d x.key:=fun x hx=>by
 obtain ⟨k,y,h1,h2,_⟩:=h.ent x hx
 exact h1.isKey h2 hd
theorem EntR.find (h:EntR w I ks m es clock) (hd:ND ks d) {q:MK} {v:Value} (hq:MKR q v) (hqs:q.isStr=ks) :
  (Instr.findNow d v es.toList 0=some none∧m q=none∧∀ x∈es.toList,x.key≠v)∨∃ j e x,Instr.findNow d v es.toList 0=some (some (j,e.val))∧es.toList[j]?=some e∧e.key=v∧m q=some x∧MVR w I x e.val:=by
 rcases MapKept.findNow_spec (hq.isKey hqs hd) es.toList 0 (h.keys hd) with ⟨h1,h2⟩ | ⟨j,e,h1,h2,h3⟩
 ·refine .inl ⟨h1,?_,h2⟩
  cases hm:m q with
  | none=>rfl
  | some x =>
   obtain ⟨e,he,hk⟩:=h.all q x hm
   exact absurd (hk.val hq) (h2 e he)
 ·obtain ⟨k,x,h4,h5,h6,h7⟩:=h.ent e (zU h2)
  rw [h3] at h4
  obtain rfl:=h4.inj hq
  exact .inr ⟨j,e,x,by rw [h1,zP],h2,h3,h6,h7⟩
theorem EntR.push (h:EntR w I ks m es clock) {q:MK} {x:MV} {k v:Value} (hq:MKR q k) (hqs:q.isStr=ks) (hx:MVR w I x v) (hn:∀ y∈es.toList,y.key≠k):EntR w I ks (Kk m q x) (es.push { key:=k,val:=v,born:=clock }) (clock+1):=by
 refine ⟨MapKept.stamped_push h.st hn,fun e he=>?_,fun k' y hy=>?_⟩
 ·simp only [Array.toList_push,zK,zT] at he
  rcases he with he | rfl
  ·obtain ⟨k',y,h1,h2,h3,h4⟩:=h.ent e he
   refine ⟨k',y,h1,h2,?_,h4⟩
   rw [Gg fun e'=>?_]
   ·exact h3
   ·subst e'; exact hn e he (h1.val hq)
  ·exact ⟨q,x,hq,hqs,Hk _ _ _,hx⟩
 ·by_cases e:k'=q
  ·subst e; exact ⟨⟨k,v,clock⟩,by simp,hq⟩
  ·rw [Gg e] at hy
   obtain ⟨e',h1,h2⟩:=h.all k' y hy
   exact ⟨e',by simp [h1],h2⟩
theorem EntR.modify (h:EntR w I ks m es clock) {q:MK} {x:MV} {k v:Value} (hq:MKR q k) (hqs:q.isStr=ks) (hx:MVR w I x v) {j:Nat} {e:MapEntry} (hj:es[j]?=some e) (he:e.key=k):EntR w I ks (Kk m q x) (es.modify j fun e=>{ e with key:=k,val:=v }) clock:=by
 have hkey:∀ e',e'∈es.toList→es[j]?=some e'→({ e' with key:=k,val:=v }:MapEntry).key=e'.key:=fun e' _ he'=>by rw [hj] at he'; cases he'; exact he.symm
 have hd:=h.st.2.2
 refine ⟨MapKept.stamped_modify h.st _ _ (fun _ _=>rfl) hkey,fun e1 he1=>?_,fun k' y hy=>?_⟩
 ·obtain ⟨i,hi⟩:=z1.1 he1
  rw [z2,Array.getElem?_modify] at hi
  by_cases hij:j=i
  ·subst hij
   rw [if_pos rfl,hj] at hi
   simp only [yN,zB] at hi
   subst hi
   exact ⟨q,x,hq,hqs,Hk _ _ _,hx⟩
  ·rw [if_neg hij] at hi
   obtain ⟨k',y,h1,h2,h3,h4⟩:=h.ent e1 (MapFrom.at_mem hi)
   refine ⟨k',y,h1,h2,?_,h4⟩
   rw [Gg fun e'=>?_]
   ·exact h3
   ·subst e'
    have hk1:e1.key=e.key:=by rw [h1.val hq,he]
    have hlj:j<es.size:=(zQ.1 hj).1
    have hli:i<es.size:=(zQ.1 hi).1
    have hp:=((MapKept.stamped_iff _ _).1 h.st).2.2
    rw [yH] at hp
    have e1':es.toList[i]'(by simpa using hli)=e1:=by
     have:=(zQ.1 hi).2; simpa using this
    have e2':es.toList[j]'(by simpa using hlj)=e:=by
     have:=(zQ.1 hj).2; simpa using this
    rcases Nat.lt_or_gt_of_ne hij with hlt | hlt
    ·exact hp j i (by simpa using hlj) (by simpa using hli) hlt (by rw [e1',e2',hk1])
    ·exact hp i j (by simpa using hli) (by simpa using hlj) hlt (by rw [e1',e2',hk1])
 ·have mem:∀ (i:Nat) (e2:MapEntry),es[i]?=some e2→(if j=i then { e2 with key:=k,val:=v } else e2)∈(es.modify j fun e=>{ e with key:=k,val:=v }).toList:=fun i e2 hi=>by
   refine z1.2 ⟨i,?_⟩
   rw [z2,Array.getElem?_modify,hi]
   by_cases hij:j=i
   ·simp [hij]
   ·simp [hij]
  by_cases e':k'=q
  ·subst e'
   have:=mem j e hj
   rw [if_pos rfl] at this
   exact ⟨_,this,hq⟩
  ·rw [Gg e'] at hy
   obtain ⟨e2,h1,h2⟩:=h.all k' y hy
   obtain ⟨i,hi⟩:=z1.1 h1
   rw [z2] at hi
   refine ⟨_,mem i e2 hi,?_⟩
   by_cases hij:j=i
   ·subst hij
    rw [hj] at hi
    obtain rfl:=zA hi
    exfalso
    rw [he] at h2
    exact e' (h2.inj hq)
   ·rw [if_neg hij]; exact h2
end
section
variable {P:Program} {c:Ctx} {ops:Array Oper} {s:Fst} {K:Kont} {o:Oper} {p:Nat}
theorem After.TD {I:Nat→Prop} {V:Nat→Option Value} {B:Nat→Nat→Prop} {w:World} {ob:Nat→Ob} (h:Wf w I V B ob) {p:Nat} (hp:ob p=.free) (ks:Bool) :
  After w I V B ob [(p,.mp ks nomap)] (w.alloc (.map #[] 0)) I (fun g=>if g=p then some (.map (some w.heap.size)) else V g) (fun g b=>if g=p then b=w.heap.size else B g b):=by
 have hVp:=h.fr p hp
 have hV:VLe V (fun g=>if g=p then some (.map (some w.heap.size)) else V g):=fun g u hu=>by
  by_cases e:g=p
  ·subst e; rw [hVp] at hu; cases hu
  ·simp only [e,if_false]; exact hu
 have ht:∀ g,Ao [(p,Ob.mp ks nomap)] g ↔ g=p:=fun g=>by simp [Ao]
 have hu:A1 ob [(p,.mp ks nomap)] p=.mp ks nomap:=by simp [A1,AE]
 refine After.mk' h rfl (TapeOk.mk' rfl rfl) rfl (by simp) (fun b hb _=>Below.heap_alloc w _ b hb) hV (fun g hg=>?_) (fun g hg hl'=>?_) (fun g b hg hl' hb=>?_) (fun g g' b hg hg' _ _ _ _=>?_) (fun g hg hf=>?_)
 ·have hg:¬ g=p:=fun e=>hg ((ht g).2 e)
  exact ⟨by funext b; simp only [hg,if_false],fun hf=>by simp only [hg,if_false]; exact h.fr g hf⟩
 ·obtain rfl:=(ht g).1 hg
  refine ⟨_,by simp only [if_true]; rfl,?_⟩
  rw [hu]
  exact ⟨w.heap.size,#[],0,rfl,fun x=>by simp,(MapKept.heap_alloc w _).1,MapKept.stamped_empty 0,fun e he=>by simp at he,fun k x hx=>by cases hx⟩
 ·obtain rfl:=(ht g).1 hg
  simp only [if_true] at hb
  subst hb
  exact .inl ⟨zH _,by simp⟩
 ·rw [(ht g).1 hg,(ht g').1 hg']
 ·obtain rfl:=(ht g).1 hg
  rw [hu] at hf; cases hf
theorem After.map_set {I:Nat→Prop} {V:Nat→Option Value} {B:Nat→Nat→Prop} {w:World} {ob:Nat→Ob} (h:Wf w I V B ob) {g:Nat} {ks:Bool} {m m':MF} (hg:ob g=.mp ks m) {r:Nat} {es:Array MapEntry} {clock:Nat}
  (hV:V g=some (.map (some r))) (hB:∀ x,B g x ↔ x=r) (hb:∃ o,w.heap[r]?=some o) (he:EntR w I ks m' es clock):After w I V B ob [(g,.mp ks m')] { w with heap:=w.heap.setIfInBounds r (.map es clock) } I V B:=by
 have ht:∀ g',Ao [(g,Ob.mp ks m')] g' ↔ g'=g:=fun g'=>by simp [Ao]
 have hu:A1 ob [(g,.mp ks m')] g=.mp ks m':=by simp [A1,AE]
 have hlive:(ob g).live:=by rw [hg]; trivial
 obtain ⟨o0,hb⟩:=hb
 obtain ⟨hs1,hs2⟩:=MapKept.heap_set (o':=Obj.map es clock) hb
 refine After.mk' h rfl (TapeOk.mk' rfl rfl) rfl (by simp) (fun b' hb' hno=>hs2 b' fun e=>hno g ((ht g).2 rfl) hlive ((hB b').2 e)) (VLe.refl _) (fun g' hg'=>⟨rfl,fun hf=>h.fr g' hf⟩) (fun g' hg' hl'=>?_) (fun g' b' hg' hl' hb'=>?_) (fun g1 g2 b hg hg' _ _ _ _=>?_) (fun g' hg' hf=>?_)
 ·obtain rfl:=(ht g').1 hg'
  refine ⟨_,hV,?_⟩
  rw [hu]
  refine ⟨r,es,clock,rfl,hB,hs1,he.mono ⟨by simp,fun b' hI hb'=>hs2 b' fun e=>?_⟩ fun _ h=>h⟩
  exact h.dI g' b' hlive ((hB b').2 e) hI
 ·obtain rfl:=(ht g').1 hg'
  exact .inr ⟨g',hg',hlive,hb'⟩
 ·rw [(ht g1).1 hg,(ht g2).1 hg']
 ·obtain rfl:=(ht g').1 hg'
  rw [hu] at hf; cases hf
theorem PP {I:Nat→Prop} {V:Nat→Option Value} {B:Nat→Nat→Prop} {a:Act} {w:World} (hr:RepI c I V B s a w) {g:Nat} {ks:Bool} {m:MF} (hg:s.ob g=.mp ks m) {v:Value} (hv:RepV w I V (.ref g) v):V g=some v∧MapO w I (B g) ks m v:=by
 obtain ⟨val,h1,h2⟩:=hr.wf.obj g (by rw [hg]; trivial)
 rw [hg] at h2
 simp only [RepV] at hv
 rw [h1] at hv
 obtain rfl:=zA hv.1
 exact ⟨h1,h2⟩
theorem RU {t:TypeId} {hint:Option Operand} {q:Bool × TypeId} (hop:o.op=.makeMap t hint) (hq:CT P t=some q) (hd:AS c.nt o.dst=true) (hp:s.ob p=.free) (h:eOp P (.mkmap q.1 (hint.map trX)) s.sl s.ob p K):Good P c o ops s K:=by
 obtain ⟨kt,d,hu,_,_⟩:=Ed hq
 simp only [eOp] at h
 obtain ⟨hh,hK⟩:=h
 refine ⟨_,_,_,hK,fun s' ha hrd hup=>Cn hd fun I V B a w hr=>⟨.map (some w.heap.size),w.alloc (.map #[] 0),_,_,_,?_,After.TD hr.wf (by rw [hup p (by simp),hp]) q.1,?_⟩⟩
 ·simp only [execOp,hop]
  refine Be ?_
  cases hint with
  | none=>rfl
  | some x =>
   have hv:=An hr x
   rw [ha.ev (y:=x) (by simp [hop,Op.operands])] at hv
   simp only [yN] at hh
   unfold OP at hh
   split at hh
   ·rename_i k n he
    rw [he] at hv
    simp only [RepV] at hv
    simp [Instr.makeMap,run_underlying hu,hv,asInt,asIntOf,Result.andThen]
   ·cases hh
 ·simp only [RepV,if_true]
  exact ⟨trivial,rfl⟩
theorem PQ {t:TypeId} {x y z:Operand} {q:Bool × TypeId} (hop:o.op=.mapUpdate t x y z∨o.op=.insert t x y z) (hq:CT P t=some q) (hd:AS c.nt o.dst=true) (h:eOp P (.mset q.1 (trX x) (trX y) (trX z)) s.sl s.ob p K):Good P c o ops s K:=by
 obtain ⟨kt,d,hu,hkt,hkd⟩:=Ed hq
 simp only [eOp] at h
 split at h
 ·rename_i g he
  split at h
  ·rename_i ks' f hob
   obtain ⟨rfl,k,m,hk,hm,hK⟩:=h
   refine ⟨_,_,_,hK,fun s' ha hrd hup=>Im hd fun I V B a w hr=>?_⟩
   have hmem:x∈o.op.operands.toList∧y∈o.op.operands.toList∧z∈o.op.operands.toList:=by rcases hop with hop | hop <;> simp [hop,Op.operands]
   have hx:=An hr x
   rw [ha.ev hmem.1,he] at hx
   have hy:=An hr y
   rw [ha.ev hmem.2.1] at hy
   have hz:=An hr z
   rw [ha.ev hmem.2.2] at hz
   have hobs:s'.ob g=.mp q.1 f:=by rw [hup g (by simp),hob]
   obtain ⟨hV,r,es,clock,hxv,hB,hb,hent⟩:=PP hr hobs hx
   obtain ⟨hk1,hk2⟩:=PM hk hy
   have hz1:=TC hm hz
   have hik:=hk1.isKey hk2 hkd
   rw [hxv] at hV
   have fin:∀ w',(Instr.mapUpdate t (a.eval x) (a.eval y) (a.eval z)).run P w=.ok () w'→(execOp a.eval o).run P w=.ok .skip w':=fun w' hrun=>by
    rcases hop with hop | hop <;> (simp only [execOp,hop]; rw [Sem.run_bind,hrun]; rfl)
   rcases hent.find hkd hk1 hk2 with ⟨h1,_,h3⟩ | ⟨j,e,x0,h1,h2,h3,_,_⟩
   ·refine ⟨_,I,V,B,fin _ ?_,After.map_set hr.wf hobs hV hB ⟨_,hb⟩ (hent.push hk1 hk2 hz1 h3)⟩
    simp [Instr.mapUpdate,hxv,run_underlying hu,MapKept.run_getObj_map hb,MapKept.run_checkKey hkt hik,MapKept.run_findKey hkt h1,MapKept.run_setObj_map _ hb,Result.andThen]
   ·have hj:es[j]?=some e:=by simpa using h2
    refine ⟨_,I,V,B,fin _ ?_,After.map_set hr.wf hobs hV hB ⟨_,hb⟩ (hent.modify hk1 hk2 hz1 hj h3)⟩
    simp [Instr.mapUpdate,hxv,run_underlying hu,MapKept.run_getObj_map hb,MapKept.run_checkKey hkt hik,MapKept.run_findKey hkt h1,hj,h3,MapKept.run_keyThatStays hik,MapKept.run_setObj_map _ hb,Result.andThen]
  ·exact h.elim
 ·exact h.elim
theorem TE {t:TypeId} {x y:Operand} {ok g:Bool} {q:Bool × TypeId} {z:List SV} (hop:o.op=.lookup t x y ok) (hq:CT P t=some q) (hz:CN P q.2=some z) (hg:Vr P q.2=some g)
  (hd:AS c.nt o.dst=true) (h:eOp P (.mget q.1 ok g z (trX x) (trX y)) s.sl s.ob p K):Good P c o ops s K:=by
 obtain ⟨kt,d,hu,hkt,hkd⟩:=Ed hq
 simp only [eOp] at h
 obtain ⟨f,rd,k,hm,hk,hK⟩:=h
 refine Az hd hK fun s' ha hrd I V B a w hr=>?_
 have hx:=An hr x
 rw [ha.ev (by simp [hop,Op.operands])] at hx
 have hy:=An hr y
 rw [ha.ev (by simp [hop,Op.operands])] at hy
 obtain ⟨hk1,hk2⟩:=PM hk hy
 have hik:=hk1.isKey hk2 hkd
 obtain ⟨i,zv,hi,hzv,hzr⟩:=Km (w:=w) (I:=I) (V:=V) hz
 have hzero:(zeroValue q.2).run P w=.ok zv w:=by simp [zeroValue,typeInfo,hi,hzv]
 have hmap:(a.eval x=.map none∧f k=none)∨∃ r es clock,a.eval x=.map (some r)∧w.heap[r]?=some (.map es clock)∧EntR w I q.1 f es clock:=by
  unfold PI at hm
  split at hm
  ·rename_i ks m he
   obtain ⟨rfl,rfl,rfl⟩:ks=q.1∧m=f∧[]=rd:=by simpa using hm
   rw [he] at hx
   simp only [RepV] at hx
   rcases hx with ⟨h2,h3⟩ | ⟨r,es,clock,h2,_,h3,h4⟩
   ·exact .inl ⟨h2,h3 k⟩
   ·exact .inr ⟨r,es,clock,h2,h3,h4⟩
  ·rename_i g' he
   split at hm
   ·rename_i ks m hob
    obtain ⟨rfl,rfl,rfl⟩:ks=q.1∧m=f∧[g']=rd:=by simpa using hm
    rw [he] at hx
    obtain ⟨_,r,es,clock,h2,_,h3,h4⟩:=PP hr (by rw [hrd g' (by simp),hob]) hx
    exact .inr ⟨r,es,clock,h2,h3,h4⟩
   ·cases hm
  ·cases hm
 have hzagg:RepV w I V (if g then .agg z else z.getD 0 .any) zv:=by
  unfold Vr at hg
  rw [hi,Option.bind_some,hzv] at hg
  split at hg
  ·rename_i cs he
   obtain rfl:=zA he
   obtain rfl:=zA hg
   simp only [if_true,RepV]
   exact ⟨cs.toList,by simp,by simpa [Value.cells] using hzr⟩
  ·rename_i v he
   obtain rfl:=zA he
   split at hg
   ·rename_i h1
    obtain rfl:=zA hg
    rw [cells_one h1] at hzr
    match z,hzr with
    | [],hzr=>simp [RepVs] at hzr
    | u :: r,hzr =>
     simp only [RepVs] at hzr
     obtain ⟨v',r',e,hr',_⟩:=hzr
     injection e with e _
     subst e
     simpa using hr'
   ·cases hg
  ·cases hg
 have fin:∀ (v:Value) (b:Bool),(Instr.lookup t (a.eval x) (a.eval y) ok).run P w=.ok (if ok then .tuple #[v,.bool b] else v) w→(execOp a.eval o).run P w=.ok (.value (if ok then .tuple #[v,.bool b] else v)) w:=fun v b hrun=>by
  simp only [execOp,hop]
  exact Be hrun
 have tup:∀ (v:Value) (b:Bool) (u:SV),RepV w I V u v→RepV w I V (if ok then .tup [u,.bool b] else u) (if ok then .tuple #[v,.bool b] else v):=fun v b u hr=>by
  cases ok with
  | false=>exact hr
  | true =>
   simp only [if_true,RepV]
   exact ⟨[v,.bool b],rfl,by simp only [RepVs,RepV]; exact ⟨v,_,rfl,hr,_,_,rfl,rfl,rfl⟩⟩
 rcases hmap with ⟨h2,h3⟩ | ⟨r,es,clock,h2,h3,h4⟩
 ·refine ⟨_,fin zv false ?_,?_⟩
  ·have hf:Instr.findNow d (a.eval y) [] 0=some none:=rfl
   simp [Instr.lookup,h2,run_underlying hu,MapKept.run_checkKey hkt hik,MapKept.run_findKey hkt hf,hzero,Result.andThen]
  ·rw [h3]
   exact tup zv false _ hzagg
 ·rcases h4.find hkd hk1 hk2 with ⟨h5,h6,_⟩ | ⟨j,e,x0,h5,h6,h7,h8,h9⟩
  ·refine ⟨_,fin zv false ?_,?_⟩
   ·simp [Instr.lookup,h2,run_underlying hu,MapKept.run_getObj_map h3,MapKept.run_checkKey hkt hik,MapKept.run_findKey hkt h5,hzero,Result.andThen]
   ·rw [h6]
    exact tup zv false _ hzagg
  ·refine ⟨_,fin e.val true ?_,?_⟩
   ·simp [Instr.lookup,h2,run_underlying hu,MapKept.run_getObj_map h3,MapKept.run_checkKey hkt hik,MapKept.run_findKey hkt h5,Result.andThen]
   ·rw [h8]
    exact tup e.val true _ h9.sv
end
def NG:Obj→Bool
 | .cells _ _ _=>false
 | _=>true
theorem FQ {P:Program} {w:World} {r:Nat} {o:Obj} (hb:w.heap[r]?=some o) (hc:NG o=true):(getObj r).run P w=.ok o w:=by
 simp only [getObj,Sem.run,hb]
 cases o <;> first | rfl | cases hc
theorem QC {P:Program} {w:World} {r:Nat} {o:Obj} (o':Obj) (hb:w.heap[r]?=some o) (hc:NG o=true):(setObj r o').run P w=.ok () { w with heap:=w.heap.setIfInBounds r o' }:=by
 simp only [setObj,Sem.run,hb]
 cases o <;> first | rfl | cases hc
theorem run_next_at {P:Program} {w:World} (ty:TypeId) {bi bm clock:Nat} {seen:Array Nat} {es:Array MapEntry} (hi:w.heap[bi]?=some (.mapIter (some bm) clock seen clock)) (hb:w.heap[bm]?=some (.map es clock)) (hold:∀ x∈es.toList,x.born<clock) :
  ((∀ e,e∈es.toList→e.born∈seen)∧(Instr.next (.pointer (some ⟨bi,0,none⟩)) false ty).run P w=.ok (.tuple #[.bool false]) w) ∨
  ∃ e,e∈es.toList∧e.born ∉ seen∧∃ n:Nat,(Instr.next (.pointer (some ⟨bi,0,none⟩)) false ty).run P w=.ok (.tuple #[.bool true,e.key,e.val]) { w.drewN n with heap:=w.heap.setIfInBounds bi (.mapIter (some bm) clock (seen.push e.born) clock) }:=by
 have hleft:∀ x,x∈(Array.filter (fun e=>!seen.contains e.born) es).toList ↔ x∈es.toList∧x.born ∉ seen:=fun x=>by simp
 simp only [Instr.next,Sem.run_bind,FQ hi rfl,FQ hb rfl,Result.andThen,next_test_false seen es clock clock hold (zH _),Bool.false_eq_true,if_false]
 have hmem:∀ x∈(Array.filter (fun e=>!seen.contains e.born) es).toList,x.born<clock:=fun x hx=>hold x ((hleft x).1 hx).1
 generalize hL:Array.filter (fun e=>!seen.contains e.born) es=L at hmem hleft ⊢
 have e1:L.filter (fun x=>decide (x.born<clock))=L:=Array.filter_eq_self.2 (fun x hx=>by simpa using hmem x (by simpa using hx))
 have e2:L.filter (fun x=>decide (x.born ≥ clock))=#[]:=by
  rw [Array.filter_eq_empty_iff]
  intro x hx
  have:=hmem x (by simpa using hx)
  simp
  omega
 simp only [e1,e2,Array.append_empty]
 by_cases h0:L.size=0
 ·left
  have:L=#[]:=Array.eq_empty_of_size_eq_zero h0
  subst this
  refine ⟨fun e he=>?_,?_⟩
  ·exact Classical.byContradiction fun hn=>by have:=(hleft e).2 ⟨he,hn⟩; simp at this
  ·simp [choose,Sem.run,Question.forced]
 ·right
  have hne:L.isEmpty=false:=by simp [Array.isEmpty,h0]
  simp only [hne,Bool.false_eq_true,if_false,Array.empty_append,Array.size_map]
  have hch:∃ (j:Nat) (n:Nat),j<L.size∧(choose (Question.mapNext L.size)).run P w=.ok j (w.drewN n):=by
   by_cases hf:L.size≤1
   ·exact ⟨0,0,by omega,by simp [choose,Sem.run,Question.forced,hf,World.drewN]⟩
   ·exact ⟨_,1,Nat.mod_lt _ (by omega),by
     simp only [choose,Sem.run,Question.forced,decide_eq_true_eq,hf,if_false,Question.cut]
     rfl⟩
  obtain ⟨j,n,hj,hrun⟩:=hch
  have hm:=(hleft L[j]).1 (by simp)
  refine ⟨L[j],hm.1,hm.2,n,?_⟩
  have hi':(w.drewN n).heap[bi]?=some (.mapIter (some bm) clock seen clock):=hi
  simp only [hrun,Array.getElem?_map,Array.getElem?_eq_getElem hj,yN,Sem.run_bind,QC _ hi' rfl,Result.andThen]
  rfl
section
variable {P:Program} {c:Ctx} {ops:Array Oper} {s:Fst} {K:Kont} {o:Oper} {p:Nat}
theorem After.RV {I:Nat→Prop} {V:Nat→Option Value} {B:Nat→Nat→Prop} {w:World} {ob:Nat→Ob} (h:Wf w I V B ob) {p:Nat} (hp:ob p=.free) {ks:Bool} {m:MF} {x:Obj}
  (hx:ItO (w.alloc x) I (fun b=>b=w.heap.size) ks m [] none (.pointer (some ⟨w.heap.size,0,none⟩))) :
  After w I V B ob [(p,.it ks m [] none)] (w.alloc x) I (fun g=>if g=p then some (.pointer (some ⟨w.heap.size,0,none⟩)) else V g) (fun g b=>if g=p then b=w.heap.size else B g b):=by
 have hVp:=h.fr p hp
 have hV:VLe V (fun g=>if g=p then some (.pointer (some ⟨w.heap.size,0,none⟩)) else V g):=fun g u hu=>by
  by_cases e:g=p
  ·subst e; rw [hVp] at hu; cases hu
  ·simp only [e,if_false]; exact hu
 have ht:∀ g,Ao [(p,Ob.it ks m [] none)] g ↔ g=p:=fun g=>by simp [Ao]
 have hu:A1 ob [(p,.it ks m [] none)] p=.it ks m [] none:=by simp [A1,AE]
 refine After.mk' h rfl (TapeOk.mk' rfl rfl) rfl (by simp) (fun b hb _=>Below.heap_alloc w _ b hb) hV (fun g hg=>?_) (fun g hg hl'=>?_) (fun g b hg hl' hb=>?_) (fun g g' b hg hg' _ _ _ _=>?_) (fun g hg hf=>?_)
 ·have hg:¬ g=p:=fun e=>hg ((ht g).2 e)
  exact ⟨by funext b; simp only [hg,if_false],fun hf=>by simp only [hg,if_false]; exact h.fr g hf⟩
 ·obtain rfl:=(ht g).1 hg
  refine ⟨_,by simp only [if_true]; rfl,?_⟩
  rw [hu]
  simp only [if_true]
  exact hx
 ·obtain rfl:=(ht g).1 hg
  simp only [if_true] at hb
  subst hb
  exact .inl ⟨zH _,by simp⟩
 ·rw [(ht g).1 hg,(ht g').1 hg']
 ·obtain rfl:=(ht g).1 hg
  rw [hu] at hf; cases hf
theorem UV {I:Nat→Prop} {V:Nat→Option Value} {B:Nat→Nat→Prop} {a:Act} {w:World} (hr:RepI c I V B s a w) {g:Nat} {ks:Bool} {m:MF} {seen:List MK} {cur:Option (MK × MV)} (hg:s.ob g=.it ks m seen cur) {v:Value} (hv:RepV w I V (.ptr g 0) v):V g=some v∧ItO w I (B g) ks m seen cur v:=by
 obtain ⟨val,h1,h2⟩:=hr.wf.obj g (by rw [hg]; trivial)
 rw [hg] at h2
 simp only [RepV] at hv
 obtain ⟨b,h3,h4⟩:=hv
 have h2':=h2
 obtain ⟨b',h5,_⟩:=h2'
 rw [h1,h5] at h3
 have e:b'=b:=by injection h3 with h3; injection h3 with h3; injection h3 with h3; injection h3
 subst e
 rw [h4,← h5]
 exact ⟨h1,h2⟩
theorem TF {t:TypeId} {x:Operand} {q:Bool × TypeId} (hop:o.op=.range t x) (hq:CT P t=some q) (hd:AS c.nt o.dst=true) (hp:s.ob p=.free) (h:eOp P (.mkit (trX x)) s.sl s.ob p K):Good P c o ops s K:=by
 obtain ⟨kt,d,hu,_,_⟩:=Ed hq
 simp only [eOp] at h
 split at h
 ·rename_i ks m he
  refine ⟨_,_,_,h,fun s' ha hrd hup=>Cn hd fun I V B a w hr=>?_⟩
  have hx:=An hr x
  rw [ha.ev (y:=x) (by simp [hop,Op.operands]),he] at hx
  simp only [RepV] at hx
  have hnew:∀ y:Obj,(w.alloc y).heap[w.heap.size]?=some y:=fun y=>(MapKept.heap_alloc w y).1
  rcases hx with ⟨h1,h2⟩ | ⟨r,es,clock,h1,h2,h3,h4⟩
  ·refine ⟨.pointer (some ⟨w.heap.size,0,none⟩),w.alloc (.mapIter none 0 #[] 0),_,_,_,?_,After.RV hr.wf (by rw [hup p (by simp),hp]) ⟨w.heap.size,rfl,fun _=>Iff.rfl,.inl ⟨hnew _,h2,rfl⟩⟩,?_⟩
   ·simp only [execOp,hop,h1]
    exact Be (run_range_nilMap w t kt q.2 hu)
   ·simp only [RepV,if_true]
    exact ⟨w.heap.size,rfl,rfl⟩
  ·have hlt:r<w.heap.size:=(zQ.1 h3).1
   have hk:KeepS I w (w.alloc (.mapIter (some r) clock #[] clock)):=⟨by simp,fun b _ hb=>Below.heap_alloc w _ b hb⟩
   refine ⟨.pointer (some ⟨w.heap.size,0,none⟩),w.alloc (.mapIter (some r) clock #[] clock),_,_,_,?_,After.RV hr.wf (by rw [hup p (by simp),hp]) ⟨w.heap.size,rfl,fun _=>Iff.rfl,.inr ⟨r,es,clock,#[],hnew _,h2,by rw [Below.heap_alloc w _ r hlt]; exact h3,h4.mono hk fun _ h=>h,fun e he=>by simp,fun k x hc=>by cases hc⟩⟩,?_⟩
   ·simp only [execOp,hop,h1]
    exact Be (run_range_map w t kt q.2 r es clock hu h3)
   ·simp only [RepV,if_true]
    exact ⟨w.heap.size,rfl,rfl⟩
 ·exact h.elim
theorem MKR.sv {w:World} {I:Nat→Prop} {V:Nat→Option Value} {k:MK} {v:Value} (h:MKR k v):RepV w I V (MK.sv k) v:=by
 cases k <;> simpa only [MK.sv,RepV,MKR] using h
theorem TG {x:Operand} (hop:o.op=.entry x) (hd:AS c.nt o.dst=true) (h:eOp P (.mcur (trX x)) s.sl s.ob p K):Good P c o ops s K:=by
 simp only [eOp] at h
 split at h
 ·rename_i g off he
  split at h
  ·rename_i ks m seen k mv hob
   obtain ⟨rfl,hK⟩:=h
   refine Az hd hK fun s' ha hrd I V B a w hr=>?_
   have hx:=An hr x
   rw [ha.ev (by simp [hop,Op.operands]),he] at hx
   obtain ⟨_,b,h1,_,h3⟩:=UV hr (by rw [hrd g (by simp),hob]) hx
   rcases h3 with ⟨_,_,h3⟩ | ⟨r,es,clock,sn,h3,_,h5,h6,_,h8⟩
   ·cases h3
   ·obtain ⟨e,g1,g2,g3,g4⟩:=h8 k mv rfl
    refine ⟨.tuple #[e.key,e.val],?_,?_⟩
    ·simp only [execOp,hop,h1]
     refine Be ?_
     have hf:es.find? (·.born == e.born)=some e:=by rw [←Array.find?_toList]; exact find_born e es.toList ((MapKept.stamped_iff _ _).1 h6.st).2.1 g1
     simp [Instr.entry,FQ h3 rfl,FQ h5 rfl,g2,hf,Result.andThen]
    ·simp only [RepV]
     refine ⟨[e.key,e.val],rfl,?_⟩
     simp only [RepVs]
     exact ⟨_,_,rfl,g3.sv,_,_,rfl,g4.sv,rfl⟩
  ·exact h.elim
 ·exact h.elim
theorem After.TH {I:Nat→Prop} {V:Nat→Option Value} {B:Nat→Nat→Prop} {w:World} {ob:Nat→Ob} (h:Wf w I V B ob) {g:Nat} {ks:Bool} {m:MF} {seen:List MK} {cur:Option (MK × MV)} (hg:ob g=.it ks m seen cur) {bi r:Nat} {es:Array MapEntry} {clock:Nat} {sn:Array Nat}
  (hV:V g=some (.pointer (some ⟨bi,0,none⟩))) (hB:∀ x,B g x ↔ x=bi) (hi:w.heap[bi]?=some (.mapIter (some r) clock sn clock)) (hIr:I r) (hb:w.heap[r]?=some (.map es clock)) (hent:EntR w I ks m es clock)
  (hsn:∀ e,e∈es.toList→(e.born∈sn ↔ ∃ k,k∈seen∧MKR k e.key)) {e:MapEntry} (he:e∈es.toList) {k:MK} {x:MV} (hk:MKR k e.key) (hx:MVR w I x e.val) (n:Nat) :
  After w I V B ob [(g,.it ks m (k :: seen) (some (k,x)))] { w.drewN n with heap:=w.heap.setIfInBounds bi (.mapIter (some r) clock (sn.push e.born) clock) } I V B:=by
 have ht:∀ g',Ao [(g,Ob.it ks m (k :: seen) (some (k,x)))] g' ↔ g'=g:=fun g'=>by simp [Ao]
 have hu:A1 ob [(g,.it ks m (k :: seen) (some (k,x)))] g=.it ks m (k :: seen) (some (k,x)):=by simp [A1,AE]
 have hlive:(ob g).live:=by rw [hg]; trivial
 obtain ⟨hs1,hs2⟩:=MapKept.heap_set (o':=Obj.mapIter (some r) clock (sn.push e.born) clock) hi
 have hnI:∀ b,I b→b≠bi:=fun b hI e'=>h.dI g b hlive ((hB b).2 e') hI
 have hkp:KeepS I w { w.drewN n with heap:=w.heap.setIfInBounds bi (.mapIter (some r) clock (sn.push e.born) clock) }:=⟨by simp,fun b hI _=>hs2 b (hnI b hI)⟩
 refine After.mk' h rfl (TapeOk.le rfl (Nat.le_add_right _ _)) rfl (by simp) (fun b' hb' hno=>hs2 b' fun e=>hno g ((ht g).2 rfl) hlive ((hB b').2 e)) (VLe.refl _) (fun g' hg'=>⟨rfl,fun hf=>h.fr g' hf⟩) (fun g' hg' hl'=>?_) (fun g' b' hg' hl' hb'=>?_) (fun g1 g2 b hg hg' _ _ _ _=>?_) (fun g' hg' hf=>?_)
 ·obtain rfl:=(ht g').1 hg'
  refine ⟨_,hV,?_⟩
  rw [hu]
  refine ⟨bi,rfl,hB,.inr ⟨r,es,clock,sn.push e.born,hs1,hIr,?_,hent.mono hkp fun _ h=>h,fun e' he'=>?_,fun k' x' hc=>?_⟩⟩
  ·rw [hs2 r (hnI r hIr)]; exact hb
  ·rw [Array.mem_push,hsn e' he']
   constructor
   ·rintro (⟨k',h1,h2⟩ | h1)
    ·exact ⟨k',by simp [h1],h2⟩
    ·have:e'=e:=by
      have h1':=find_born e es.toList ((MapKept.stamped_iff _ _).1 hent.st).2.1 he
      have h2':=find_born e' es.toList ((MapKept.stamped_iff _ _).1 hent.st).2.1 he'
      rw [h1] at h2'
      rw [h1'] at h2'
      exact (zA h2').symm
     subst this
     exact ⟨k,by simp,hk⟩
   ·rintro ⟨k',h1,h2⟩
    rcases zO.1 h1 with rfl | h1
    ·right
     have hkey:e'.key=e.key:=h2.val hk
     have hp:=((MapKept.stamped_iff _ _).1 hent.st).2.2
     obtain ⟨i,hi',rfl⟩:=List.getElem_of_mem he
     obtain ⟨j,hj',rfl⟩:=List.getElem_of_mem he'
     rw [yH] at hp
     rcases Nat.lt_trichotomy i j with h5 | h5 | h5
     ·exact absurd hkey.symm (hp i j hi' hj' h5)
     ·subst h5; rfl
     ·exact absurd hkey (hp j i hj' hi' h5)
    ·exact .inl ⟨k',h1,h2⟩
  ·obtain ⟨rfl,rfl⟩:k=k'∧x=x':=by simpa using hc
   exact ⟨e,he,by simp,hk,hx.mono hkp fun _ h=>h⟩
 ·obtain rfl:=(ht g').1 hg'
  exact .inr ⟨g',hg',hlive,hb'⟩
 ·rw [(ht g1).1 hg,(ht g2).1 hg']
 ·obtain rfl:=(ht g').1 hg'
  rw [hu] at hf; cases hf
theorem QD {I:Nat→Prop} {V:Nat→Option Value} {B:Nat→Nat→Prop} {a:Act} {w:World} (hr:RepI c I V B s a w) {it:Operand} {g:Nat} {ks:Bool} {m:MF} {seen:List MK} {cur:Option (MK × MV)} (he:As s.sl (trX it)=.ptr g 0) (hg:s.ob g=.it ks m seen cur) (ty:TypeId) :
  ((∀ k x,m k=some x→k∈seen)∧(Instr.next (a.eval it) false ty).run P w=.ok (.tuple #[.bool false]) w) ∨
  ∃ k x w' u v,m k=some x∧k ∉ seen∧(Instr.next (a.eval it) false ty).run P w=.ok (.tuple #[.bool true,u,v]) w'∧After w I V B s.ob [(g,.it ks m (k :: seen) (some (k,x)))] w' I V B:=by
 have hx:=An hr it
 rw [he] at hx
 obtain ⟨hV,b,h1,hB,h3⟩:=UV hr hg hx
 rcases h3 with ⟨h3,h4,_⟩ | ⟨r,es,clock,sn,h3,h4,h5,h6,h7,_⟩
 ·refine .inl ⟨fun k x hk=>(by rw [h4 k] at hk; cases hk),?_⟩
  rw [h1]
  simp [Instr.next,FQ h3 rfl,Result.andThen]
 ·rw [h1] at hV ⊢
  rcases run_next_at (P:=P) ty h3 h5 h6.st.1 with ⟨g1,g2⟩ | ⟨e,g1,g2,n,g3⟩
  ·refine .inl ⟨fun k x hk=>?_,g2⟩
   obtain ⟨e,he1,he2⟩:=h6.all k x hk
   obtain ⟨k',hk1,hk2⟩:=(h7 e he1).1 (g1 e he1)
   rw [he2.inj hk2]; exact hk1
  ·obtain ⟨k,x,hk1,_,hk3,hk4⟩:=h6.ent e g1
   refine .inr ⟨k,x,_,e.key,e.val,hk3,fun hs=>g2 ((h7 e g1).2 ⟨k,hs,hk1⟩),g3,?_⟩
   exact After.TH hr.wf hg hV hB h3 h4 h5 h6 h7 g1 hk1 hk4 n
end
section
variable {P:Program} {c:Ctx} {ops:Array Oper} {s:Fst} {K:Kont} {p:Nat}
theorem RW:∀ {o:Oper} {so:SOp},CI P o=some so→AS c.nt o.dst=true→s.ob p=.free→eOp P so s.sl s.ob p K→Good P c o ops s K:=by
 intro o so ho hd hp h
 obtain ⟨dst,op,ty,pos,after,guard⟩:=o
 cases op with
 | move x=>simp only [CI,zB] at ho; subst ho; exact PJ (.inl rfl) hd h
 | assign x=>simp only [CI,zB] at ho; subst ho; exact PJ (.inr rfl) hd h
 | pick x y z=>simp only [CI,zB] at ho; subst ho; exact T6 rfl hd h
 | alloc t =>
  simp only [CI] at ho
  obtain ⟨z,hz,rfl⟩:=zC.1 ho
  exact RJ rfl hz hd hp h
 | box t x =>
  simp only [CI] at ho
  obtain ⟨i,hi,rfl⟩:=zC.1 ho
  exact Vu rfl hd hp h
 | build t parts =>
  simp only [CI] at ho
  split at ho
  ·rename_i fs z hu hz
   split at ho
   ·cases ho
   ·rename_i hall
    obtain ⟨qs,hq,rfl⟩:=zC.1 ho
    refine RT rfl hu hz hq (fun f hf=>?_) hd h
    simp only [Bool.not_eq_true,Bool.not_eq_false',zM] at hall
    exact Option.isSome_iff_exists.1 (hall f hf)
  ·cases ho
 | buildSlice t len parts =>
  simp only [CI] at ho
  split at ho
  ·rename_i e hu
   split at ho
   ·rename_i i z hi hz
    split at ho
    ·rename_i hc
     obtain rfl:=zA ho
     simp only [zD,decide_eq_true_eq,beq_iff_eq,zM] at hc
     exact RS rfl hu hi hz hc.1.1.1 hc.1.1.2 hc.1.2 hc.2 hd hp h
    ·cases ho
   ·cases ho
  ·cases ho
 | load t x =>
  simp only [CI] at ho
  split at ho
  ·rename_i g i hg hi
   split at ho
   ·rename_i h1
    obtain rfl:=zA ho
    exact T7 rfl hg hi h1 hd hp h
   ·cases ho
  ·cases ho
 | store t x y =>
  simp only [CI] at ho
  obtain ⟨i,hi,rfl⟩:=zC.1 ho
  simp only [eOp] at h
  split at h
  ·rename_i g off he
   split at h
   ·rename_i t0 l vs hob hc
    exact MQ rfl hi hd he hob hc h.1.1 h.1.2 h.2
   ·exact h.elim
  ·rename_i g sz k off he
   split at h
   ·rename_i t0 sz' es vs hob hc
    split at h
    ·rename_i ls hls
     obtain ⟨⟨rfl,h1,h2,h3⟩,l,hl,hK⟩:=h
     exact MS rfl hi hd he hob hc hls h1 h2 h3 hl hK
    ·exact h.elim
   ·rename_i es hs vs hob hc
    obtain ⟨v,z,rfl,h1,h2,l,hl,⟨h3,h4⟩,hK⟩:=h
    exact LA rfl hi hd he hob hc h1 h2 hl h3 h4 hK
   ·exact h.elim
  ·exact h.elim
 | nilCheck x=>simp only [CI,zB] at ho; subst ho; exact Vy rfl hd h
 | binOp op t x y t'=>simp only [CI,zB] at ho; subst ho; exact Vx rfl hd h
 | unOp op t x=>simp only [CI,zB] at ho; subst ho; exact W2 rfl hd h
 | convert sr ds x =>
  simp only [CI] at ho
  split at ho
  ·rename_i d k h1 h2
   obtain rfl:=zA ho
   exact T9 rfl h1 h2 hd h
  ·cases ho
 | makeFunc fn first caps =>
  cases fn <;> simp only [CI] at ho <;> try (cases ho; done)
  rename_i f
  split at ho
  ·rename_i hf
   obtain rfl:=zA ho
   have:first=#[]:=by simpa using hf
   subst this
   exact TA rfl hd h
  ·cases ho
 | makeSlice t l cp =>
  simp only [CI] at ho
  split at ho
  ·rename_i e hu
   split at ho
   ·rename_i i z hi hz
    split at ho
    ·rename_i hc
     obtain rfl:=zA ho
     simp only [zD,decide_eq_true_eq,beq_iff_eq] at hc
     exact OV rfl hc.1.1 hu hi hz hc.1.2 hc.2 hd hp h
    ·cases ho
   ·cases ho
  ·cases ho
 | slice t x lo hi mx =>
  cases mx <;> simp only [CI] at ho <;> try (cases ho; done)
  split at ho
  ·rename_i hu
   obtain rfl:=zA ho
   exact MR rfl hu hd h
  ·rename_i e hu
   obtain ⟨i,hi',rfl⟩:=zC.1 ho
   exact RP rfl hu hi' hd hp h
  ·cases ho
 | fieldAddr t x k =>
  simp only [CI] at ho
  split at ho
  ·rename_i off n g hf
   split at ho
   ·cases ho
   ·rename_i hn
    obtain rfl:=zA ho
    exact RK rfl hf hn hd h
  ·cases ho
 | field t x k =>
  simp only [CI] at ho
  split at ho
  ·rename_i off n g hf
   split at ho
   ·rename_i h1
    obtain rfl:=zA ho
    exact RL rfl hf h1 hd h
   ·cases ho
  ·cases ho
 | indexAddr t x i =>
  simp only [CI] at ho
  split at ho
  ·rename_i e hu
   obtain ⟨j,hj,rfl⟩:=zC.1 ho
   exact RO rfl hu hj hd h
  ·cases ho
 | index t x i =>
  simp only [CI] at ho
  split at ho
  ·rename_i hu
   obtain rfl:=zA ho
   exact Vw rfl hu hd h
  ·cases ho
 | extract x k=>simp only [CI,zB] at ho; subst ho; exact Vv rfl hd h
 | makeMap t hint =>
  simp only [CI] at ho
  obtain ⟨q,hq,rfl⟩:=zC.1 ho
  exact RU rfl hq hd hp h
 | mapUpdate t m k v =>
  simp only [CI] at ho
  obtain ⟨q,hq,rfl⟩:=zC.1 ho
  exact PQ (.inl rfl) hq hd h
 | insert t m k v =>
  simp only [CI] at ho
  obtain ⟨q,hq,rfl⟩:=zC.1 ho
  exact PQ (.inr rfl) hq hd h
 | range t x =>
  simp only [CI] at ho
  obtain ⟨q,hq,rfl⟩:=zC.1 ho
  exact TF rfl hq hd hp h
 | entry x=>simp only [CI,zB] at ho; subst ho; exact TG rfl hd h
 | makeInterface t x=>simp only [CI,zB] at ho; subst ho; simp only [eOp,As] at h
 | panic x=>simp only [CI,zB] at ho; subst ho; simp only [eOp,As] at h
 | lookup t m k ok =>
  simp only [CI] at ho
  split at ho
  ·rename_i ks et hq
   split at ho
   ·rename_i z g hz hg
    obtain rfl:=zA ho
    exact TE rfl hq hz hg hd h
   ·cases ho
  ·cases ho
 | call cl =>
  obtain ⟨callee,args,ts⟩:=cl
  cases callee with
  | value f =>
   cases f with
   | func g =>
    simp only [CI] at ho
    split at ho
    ·rename_i hg
     obtain rfl:=zA ho
     exact TB rfl hg hd h
    ·cases ho
   | tmp k=>simp only [CI,zB] at ho; subst ho; exact Kp rfl hd h
   | const v=>simp only [CI,zB] at ho; subst ho; exact Kp rfl hd h
   | global k=>simp only [CI,zB] at ho; subst ho; exact Kp rfl hd h
  | invoke x m=>simp only [CI] at ho; cases ho
  | builtin b =>
   cases b <;> simp only [CI] at ho <;> try (cases ho; done)
   case append =>
    split at ho
    ·rename_i x y t t' ha ht
     split at ho
     ·rename_i e hu
      split at ho
      ·rename_i i z hi hz
       split at ho
       ·rename_i hc
        obtain rfl:=zA ho
        simp only [zD,decide_eq_true_eq,beq_iff_eq] at hc
        obtain ⟨⟨rfl,hc1⟩,hc2⟩:=hc
        obtain rfl:args=#[x,y]:=yF ha
        obtain rfl:ts=#[t,t]:=yF ht
        exact QB rfl hu hi hz hc1 hc2 hd hp h
       ·cases ho
      ·cases ho
     ·cases ho
    ·cases ho
   case len =>
    split at ho
    ·rename_i x t ha ht
     obtain rfl:args=#[x]:=yF ha
     obtain rfl:ts=#[t]:=yF ht
     split at ho
     ·rename_i hu
      obtain rfl:=zA ho
      exact RN rfl (fun _=>hu) (fun e=>by cases e) hd h
     ·rename_i e hu
      obtain rfl:=zA ho
      exact RN rfl (fun e=>by cases e) (fun _=>⟨e,hu⟩) hd h
     ·cases ho
    ·cases ho
   case max =>
    split at ho
    ·rename_i x y ha
     obtain rfl:args=#[x,y]:=yF ha
     obtain rfl:=zA ho
     exact LV (mx:=true) rfl hd h
    ·cases ho
   case min =>
    split at ho
    ·rename_i x y ha
     obtain rfl:args=#[x,y]:=yF ha
     obtain rfl:=zA ho
     exact LV (mx:=false) rfl hd h
    ·cases ho
 | _=>simp only [CI] at ho; cases ho
end
structure St where
 sl:List SV
 ob:List Ob
def gets:List SV→Nat→SV
 | [],_=>.any
 | x :: _,0=>x
 | _ :: r,k+1=>gets r k
def Ad:List Ob→Nat→Ob
 | [],_=>.free
 | x :: _,0=>x
 | _ :: r,k+1=>Ad r k
def LB:List SV→Nat→SV→List SV
 | [],_,_=>[]
 | _ :: r,0,y=>y :: r
 | x :: r,k+1,y=>x :: LB r k y
def St.f (s:St):Fst:=⟨gets s.sl,Ad s.ob⟩
def In (upd:List (Nat × Ob)):Nat→List Ob→List Ob
 | _,[]=>[]
 | k,o :: r=>(AE upd k).getD o :: In upd (k+1) r
def Kz (upd:List (Nat × Ob)):Nat→Nat→List Ob
 | 0,_=>[]
 | n+1,k=>match AE upd k with
  | some o=>o :: Kz upd n (k+1)
  | none=>[]
def CU (l:List Ob) (upd:List (Nat × Ob)):List Ob:=In upd 0 l++Kz upd upd.length l.length
def EK (l:List SV) (d:Option Tmp) (x:SV):List SV :=
 match d with
 | some k=>LB l k x
 | none=>l
def St.app (s:St) (d:Option Tmp) (x:SV) (upd:List (Nat × Ob)):St:=⟨EK s.sl d x,CU s.ob upd⟩
def okU (n:Nat):List (Nat × Ob)→Prop
 | []=>True
 | (g,_) :: r=>g < n∧okU n r
theorem LZ:∀ (l:List SV) (k j:Nat) (x:SV),k<l.length→gets (LB l k x) j=if k=j then x else gets l j
 | [],k,j,x,h=>absurd h (by simp)
 | y :: r,0,0,x,_=>by simp [LB,gets]
 | y :: r,0,j+1,x,_=>by simp [LB,gets]
 | y :: r,k+1,0,x,_=>by simp [LB,gets]
 | y :: r,k+1,j+1,x,h=>by
  simp only [LB,gets,zW]
  exact LZ r k j x (by simpa using h)
theorem Io:∀ (l:List SV) (k:Nat) (x:SV),(LB l k x).length=l.length
 | [],_,_=>rfl
 | _ :: _,0,_=>rfl
 | _ :: r,k+1,x=>by simp [LB,Io r k x]
theorem Ma (upd:List (Nat × Ob)):∀ (l:List Ob) (k j:Nat),j<l.length→Ad (In upd k l) j=(AE upd (k+j)).getD (Ad l j)
 | [],k,j,h=>absurd h (by simp)
 | o :: r,k,0,_=>by simp [In,Ad]
 | o :: r,k,j+1,h=>by
  simp only [In,Ad]
  rw [Ma upd r (k+1) j (by simpa using h),show k+1+j=k+(j+1) by omega]
theorem Ip (upd:List (Nat × Ob)):∀ (l:List Ob) (k:Nat),(In upd k l).length=l.length
 | [],_=>rfl
 | o :: r,k=>by simp [In,Ip upd r (k+1)]
theorem GC:∀ (l l':List Ob) (j:Nat),Ad (l++l') j=if j<l.length then Ad l j else Ad l' (j-l.length)
 | [],l',j=>by simp
 | o :: r,l',0=>by simp [Ad]
 | o :: r,l',j+1=>by
  simp only [yL,Ad,zL,zS,z6]
  exact GC r l' j
theorem NH (upd:List (Nat × Ob)):∀ (n k j:Nat),j<(Kz upd n k).length→Ad (Kz upd n k) j=(AE upd (k+j)).getD .free
 | 0,k,j,h=>absurd h (by simp [Kz])
 | n+1,k,j,h=>by
  simp only [Kz] at h ⊢
  split
  ·rename_i o ho
   rw [ho] at h
   cases j with
   | zero=>simp [Ad,ho]
   | succ j =>
    simp only [Ad]
    rw [NH upd n (k+1) j (by simpa using h),show k+1+j=k+(j+1) by omega]
  ·rename_i ho
   rw [ho] at h
   simp at h
theorem AF:∀ (l:List Ob) (j:Nat),l.length≤j→Ad l j=.free
 | [],j,_=>rfl
 | o :: r,0,h=>by simp at h
 | o :: r,j+1,h=>AF r j (by simpa using h)
theorem NI {n:Nat}:∀ {upd:List (Nat × Ob)},okU n upd→∀ g,AE upd g≠none→g<n
 | [],_,g,h=>absurd rfl h
 | (k,o) :: r,h,g,hg=>by
  simp only [okU] at h
  simp only [AE] at hg
  split at hg
  ·rename_i e; subst e; exact h.1
  ·exact NI h.2 g hg
theorem RY {l:List Ob} {upd:List (Nat × Ob)} (h:okU (CU l upd).length upd) (g:Nat):Ad (CU l upd) g=(AE upd g).getD (Ad l g):=by
 unfold CU at h ⊢
 rw [GC,Ip]
 by_cases h1:g<l.length
 ·rw [if_pos h1,Ma upd l 0 g h1,zP]
 ·rw [if_neg h1,AF l g (by omega)]
  rcases zF (g-l.length) (Kz upd upd.length l.length).length with h2 | h2
  ·rw [NH upd _ _ _ h2,show l.length+(g-l.length)=g by omega]
  ·rw [AF _ _ h2]
   cases hl:AE upd g with
   | none=>rfl
   | some o =>
    have:=NI h g (by rw [hl]; simp)
    rw [yG,Ip] at this
    omega
theorem St.NJ {s:St} {d:Option Tmp} {x:SV} {upd:List (Nat × Ob)} (hd:AS s.sl.length d=true) (h:okU (CU s.ob upd).length upd):(s.app d x upd).f=s.f.app d x upd:=by
 unfold St.app St.f Fst.app Fst.setO Fst.put
 congr 1
 ·funext k
  cases d with
  | none=>simp [EK]
  | some d =>
   simp only [AS,decide_eq_true_eq] at hd
   simp only [EK,zB]
   exact LZ _ _ _ _ hd
 ·funext g
  exact RY h g
structure SOper where
 dst:Option Tmp
 gd:Option (Nat × Bool)
 op:SOp
def Mb (P:Program) (o:SOper) (st:St) (K:Ent→St→Prop):Prop :=
 match o.gd with
 | none=>eOp P o.op (gets st.sl) (Ad st.ob) st.ob.length fun x upd rd=>okU (CU st.ob upd).length upd∧K ⟨true,x,upd,rd⟩ (st.app o.dst x upd)
 | some (k,want)=>match gets st.sl k with
  | .bool b=>(b=want→eOp P o.op (gets st.sl) (Ad st.ob) st.ob.length fun x upd rd=>okU (CU st.ob upd).length upd∧K ⟨true,x,upd,rd⟩ (st.app o.dst x upd))∧(b=!want→K ⟨false,.tup [],[],[]⟩ ⟨EK st.sl o.dst (.tup []),st.ob⟩)
  | .tup l=>l=[]∧K ⟨false,.tup [],[],[]⟩ ⟨EK st.sl o.dst (.tup []),st.ob⟩
  | _=>False
def RZ (P:Program):List SOper→St→(List Ent→St→Prop)→Prop
 | [],st,K=>K [] st
 | o :: r,st,K=>Mb P o st fun e st'=>RZ P r st' fun es st''=>K (e :: es) st''
def Sa (P:Program):List SOper→St→(St→Prop)→Prop
 | [],st,K=>K st
 | o :: r,st,K=>Mb P o st fun _ st'=>Sa P r st' K
def Sc (ops:Array Oper) (o:Oper):Option (Option (Nat × Bool)) :=
 match o.guard with
 | none=>some none
 | some (j,want)=>((ops[j]?).bind (·.dst)).map fun d=>some (d,want)
def HL (P:Program) (ops:Array Oper) (o:Oper):Option SOper :=
 match Sc ops o,CI P o with
 | some g,some so=>some ⟨o.dst,g,so⟩
 | _,_=>none
section
variable {P:Program} {c:Ctx} {ops:Array Oper}
theorem Hm {o:Oper} {g:Option (Nat × Bool)} (h:Sc ops o=some g) (s:Fst) (b:Bool) (hb:match g with | none=>b=true | some (k,want)=>s.sl k=.bool (b == want)∨(b=false∧s.sl k=.tup [])):Hj ops o s b:=by
 unfold Sc at h
 unfold Hj
 cases hg:o.guard with
 | none=>rw [hg] at h; simp only [zB] at h; subst h; exact hb
 | some q =>
  obtain ⟨j,want⟩:=q
  rw [hg] at h
  simp only at h
  obtain ⟨d,hd,rfl⟩:=zC.1 h
  exact ⟨d,hd,hb⟩
theorem K0 {o:Oper} {k:Nat} {want:Bool} (h:Sc ops o=some (some (k,want))):k∈o.looksAt ops:=by
 unfold Sc at h
 cases hg:o.guard with
 | none=>rw [hg] at h; simp at h
 | some q =>
  obtain ⟨j,w'⟩:=q
  rw [hg] at h
  simp only at h
  obtain ⟨d,hd,h2⟩:=zC.1 h
  simp only [zB,zE] at h2
  obtain ⟨rfl,rfl⟩:=h2
  unfold Oper.looksAt
  refine z7 _ ?_
  rw [hg]
  simp only [hd,Option.toList_some,zT]
theorem Jw {o:Oper} {so:SOper} {st:St} {K:Ent→St→Prop} (ho:HL P ops o=some so) (hlen:st.sl.length=c.nt) (hd:AS c.nt o.dst=true) (h:Mb P so st K) :
  ∃ e st',K e st'∧MM P c ops o e st.f∧st'.f=st.f.app o.dst e.x e.upd∧st'.sl.length=c.nt:=by
 unfold HL at ho
 split at ho
 ·rename_i g op hg hop
  obtain rfl:=zA ho
  have hp:st.f.ob st.ob.length=.free:=AF _ _ (zH _)
  have plen:∀ x,(EK st.sl o.dst x).length=c.nt:=fun x=>by cases o.dst <;> simp [EK,Io,hlen]
  have main:(∀ s':Fst,(∀ k,k∈o.looksAt ops→s'.sl k=st.f.sl k)→Hj ops o s' true)→(eOp P op (gets st.sl) (Ad st.ob) st.ob.length fun x upd rd=>okU (CU st.ob upd).length upd∧K ⟨true,x,upd,rd⟩ (st.app o.dst x upd)) →
    ∃ e st',K e st'∧MM P c ops o e st.f∧st'.f=st.f.app o.dst e.x e.upd∧st'.sl.length=c.nt:=fun hgd h=>by
   obtain ⟨x,upd,rd,⟨hU,hK⟩,hv⟩:=RW (c:=c) (ops:=ops) (s:=st.f) hop hd hp h
   refine ⟨⟨true,x,upd,rd⟩,st.app o.dst x upd,hK,fun s' h1 h2 h3=>⟨hgd s' h1,?_⟩,St.NJ (by rw [hlen]; exact hd) hU,plen x⟩
   rw [if_pos rfl]
   exact hv s' h1 h2 h3
  unfold Mb at h
  cases g with
  | none =>
   simp only at h
   exact main (fun s' _=>Hm hg s' true rfl) h
  | some q =>
   obtain ⟨k,want⟩:=q
   simp only at h
   split at h
   ·rename_i b hb
    by_cases hw:b=want
    ·exact main (fun s' h1=>Hm hg s' true (by
      simp only
      rw [h1 k (K0 hg)]
      left
      show gets st.sl k=_
      rw [hb,hw]; simp)) (h.1 hw)
    ·have hbw:b=!want:=by cases b <;> cases want <;> simp_all
     refine ⟨⟨false,.tup [],[],[]⟩,⟨EK st.sl o.dst (.tup []),st.ob⟩,h.2 hbw,fun s' h1 _ _=>⟨Hm hg s' false (by
      simp only
      rw [h1 k (K0 hg)]
      left
      show gets st.sl k=_
      rw [hb,hbw]; simp),by rw [if_neg (by simp)]; exact ⟨rfl,rfl⟩⟩,?_,plen _⟩
     have:CU st.ob []=st.ob:=by
      have:∀ (l:List Ob) k,In [] k l=l:=by
       intro l
       induction l with
       | nil=>intro k; rfl
       | cons o r ih=>intro k; simp [In,AE,ih]
      simp [CU,this,Kz]
     have h2:=St.NJ (s:=st) (d:=o.dst) (x:=.tup []) (upd:=[]) (by rw [hlen]; exact hd) (by simp [okU])
     unfold St.app at h2
     rw [this] at h2
     exact h2
   ·rename_i l hb
    refine ⟨⟨false,.tup [],[],[]⟩,⟨EK st.sl o.dst (.tup []),st.ob⟩,h.2,fun s' h1 _ _=>⟨Hm hg s' false (by
     simp only
     rw [h1 k (K0 hg)]
     right
     refine ⟨trivial,?_⟩
     show gets st.sl k=_
     rw [hb,h.1]),by rw [if_neg (by simp)]; exact ⟨rfl,rfl⟩⟩,?_,plen _⟩
    have:CU st.ob []=st.ob:=by
     have:∀ (l:List Ob) k,In [] k l=l:=by
      intro l
      induction l with
      | nil=>intro k; rfl
      | cons o r ih=>intro k; simp [In,AE,ih]
     simp [CU,this,Kz]
    have h2:=St.NJ (s:=st) (d:=o.dst) (x:=.tup []) (upd:=[]) (by rw [hlen]; exact hd) (by simp [okU])
    unfold St.app at h2
    rw [this] at h2
    exact h2
   ·exact h.elim
 ·cases ho
theorem K1:∀ {l:List Oper} {sl:List SOper} {st:St} {K:List Ent→St→Prop},B3 (l.map (HL P ops))=some sl→st.sl.length=c.nt→(∀ o∈l,AS c.nt o.dst=true)→RZ P sl st K →
  ∃ es st',K es st'∧TextOk P c ops l es st.f∧JJ l es st.f=st'.f∧st'.sl.length=c.nt
 | [],sl,st,K,hs,hlen,_,h=>by
  simp only [yC,B3,zB] at hs
  subst hs
  exact ⟨[],st,h,rfl,rfl,hlen⟩
 | o :: l,sl,st,K,hs,hlen,hd,h=>by
  simp only [zN] at hs
  cases ho:HL P ops o with
  | none=>rw [ho] at hs; cases hs
  | some so =>
   rw [ho] at hs
   simp only [B3] at hs
   obtain ⟨sl',hs',rfl⟩:=zC.1 hs
   simp only [RZ] at h
   obtain ⟨e,st1,h1,h2,h3,h4⟩:=Jw ho hlen (hd o (by simp)) h
   obtain ⟨es,st2,g1,g2,g3,g4⟩:=K1 hs' h4 (fun o' ho'=>hd o' (by simp [ho'])) h1
   refine ⟨e :: es,st2,g1,?_,?_,g4⟩
   ·simp only [TextOk]
    exact ⟨e,es,rfl,h2,by rw [←h3]; exact g2⟩
   ·simp only [JJ]
    rw [←h3]; exact g3
theorem K2:∀ {l:List Oper} {sl:List SOper} {st:St} {K:St→Prop},B3 (l.map (HL P ops))=some sl→st.sl.length=c.nt→(∀ o∈l,AS c.nt o.dst=true)→Sa P sl st K →
  ∃ es st',K st'∧TextOk P c ops l es st.f∧JJ l es st.f=st'.f∧st'.sl.length=c.nt
 | [],sl,st,K,hs,hlen,_,h=>by
  simp only [yC,B3,zB] at hs
  subst hs
  exact ⟨[],st,h,rfl,rfl,hlen⟩
 | o :: l,sl,st,K,hs,hlen,hd,h=>by
  simp only [zN] at hs
  cases ho:HL P ops o with
  | none=>rw [ho] at hs; cases hs
  | some so =>
   rw [ho] at hs
   simp only [B3] at hs
   obtain ⟨sl',hs',rfl⟩:=zC.1 hs
   simp only [Sa] at h
   obtain ⟨e,st1,h1,h2,h3,h4⟩:=Jw ho hlen (hd o (by simp)) h
   obtain ⟨es,st2,g1,g2,g3,g4⟩:=K2 hs' h4 (fun o' ho'=>hd o' (by simp [ho'])) h1
   refine ⟨e :: es,st2,g1,?_,?_,g4⟩
   ·simp only [TextOk]
    exact ⟨e,es,rfl,h2,by rw [←h3]; exact g2⟩
   ·simp only [JJ]
    rw [←h3]; exact g3
end
inductive SC where
 |skip
 |reg (ops:List SOper)
 |dreg (anc:List (List Nat)) (ops:List SOper)
 |seq (a b:SC)
 |cond (c:SX) (a b:SC)
 |block (id:Nat) (b:SC)
 |loop (junk:List Nat) (b:SC)
 |exit (id:Nat)
 |ret
 |next (it:SX) (nx more:Nat)
 |mloop (keep keepO:List Nat) (it:SX) (nx more:Nat) (b:SC)
 |ghost (n:Nat) (b:SC)
def wrC:SC→List Nat
 | .reg ops=>ops.filterMap (·.dst)
 | .dreg _ ops=>ops.filterMap (·.dst)
 | .seq a b=>wrC a++wrC b
 | .cond _ a b=>wrC a++wrC b
 | .block _ b=>wrC b
 | .loop j _=>j
 | .next _ a b=>[a,b]
 | _=>[]
def OW (nt:Nat) (ops:Array Oper) (draw:Bool):Option (SX × Nat × Nat) :=
 match ops.toList with
 | [o1,o2]=>match o1.op,o1.dst,o1.guard,o2.op,o2.dst,o2.guard with
  | .next x false,some nx,none,.extract (.tmp k) 0,some more,none=>if draw=false∧k=nx∧nx < nt∧more < nt∧nx≠more then some (trX x,nx,more) else none
  | _,_,_,_,_,_=>none
 | _=>none
theorem NK {nt:Nat} {ops:Array Oper} {draw:Bool} {q:SX × Nat × Nat} (h:OW nt ops draw=some q):draw=false∧∃ x o1 o2,ops.toList=[o1,o2]∧o1.dst=some q.2.1∧o1.op=.next x false∧o1.guard=none∧o2.dst=some q.2.2∧o2.op=.extract (.tmp q.2.1) 0∧o2.guard=none∧q.1=trX x∧q.2.1<nt∧q.2.2<nt∧q.2.1≠q.2.2:=by
 unfold OW at h
 split at h
 ·rename_i o1 o2 hl
  split at h
  ·rename_i x nx k more h1 h2 h3 h4 h5 h6
   split at h
   ·rename_i hc
    obtain ⟨rfl,rfl,hc1,hc2,hc3⟩:=hc
    obtain rfl:=zA h
    exact ⟨rfl,x,o1,o2,hl,h2,h1,h3,h5,h4,h6,rfl,hc1,hc2,hc3⟩
   ·cases h
  ·cases h
 ·cases h
def trC (P:Program) (nt:Nat):Code→Option SC
 | .skip=>some .skip
 | .region _ ops draw=>match OW nt ops draw with
  | some q=>some (.next q.1 q.2.1 q.2.2)
  | none=>match B3 (ops.toList.map (HL P ops)) with
   | some sl=>if ops.toList.all (fun o=>AS nt o.dst&&N7 nt ops o) then
     if draw then
      if N9 ops.toList (OM ops.toList [])&&decide ((OM ops.toList []).length=ops.toList.length) then some (.dreg (OM ops.toList []) sl) else none
     else some (.reg sl)
    else none
   | none=>none
 | .seq a b=>match trC P nt a,trC P nt b with
  | some x,some y=>some (.seq x y)
  | _,_=>none
 | .cond c a b=>match trC P nt a,trC P nt b with
  | some x,some y=>some (.cond (trX c) x y)
  | _,_=>none
 | .block id b=>(trC P nt b).map (.block id)
 | .loop b=>(trC P nt b).map fun x=>.loop (wrC x).eraseDups x
 | .exit id=>some (.exit id)
 | .ret=>some .ret
 | _=>none
inductive X where
 |normal
 |exit (id:Nat)
 |ret
def X.exit':X→Exit
 | .normal=>.normal
 | .exit id=>.exit id
 | .ret=>.ret
def Run (P:Program) (c:Ctx) (sc:SC) (K:X→St→Prop) (st:St):Prop :=
 ∀ (code:Code),trC P c.nt code=some sc→∀ (a:Act) (w:World) (Q:Exit→Act→World→Prop),st.sl.length=c.nt→Rep c st.f a w →
  (∀ x st' a' w',K x st'→st'.sl.length=c.nt→Rep c st'.f a' w'→Q x.exit' a' w')→code.wp P Q a w
def Ew (nx more:Nat) (st:St) (b:Bool) (u:List (Nat × Ob)):St:=(st.app (some nx) .any u).app (some more) (.bool b) []
def sw (P:Program) (c:Ctx):SC→(X→St→Prop)→St→Prop
 | .skip,K,st=>K .normal st
 | .reg ops,K,st=>Sa P ops st (K .normal)
 | .dreg anc ops,K,st=>RZ P ops st fun es st'=>obB anc [] (Hy es) 0=true∧K .normal st'
 | .seq a b,K,st=>sw P c a (fun x st'=>match x with | .normal=>sw P c b K st' | x=>K x st') st
 | .cond cx a b,K,st=>match As (gets st.sl) cx with
  | .bool t=>(t=true→sw P c a K st)∧(t=false→sw P c b K st)
  | _=>False
 | .block id b,K,st=>sw P c b (fun x st'=>match x with | .exit i=>if i=id then K .normal st' else K (.exit i) st' | x=>K x st') st
 | .loop j b,K,st=>Run P c (.loop j b) K st
 | .exit id,K,st=>K (.exit id) st
 | .ret,K,st=>K .ret st
 | .next it nx more,K,st=>match As (gets st.sl) it with
  | .ptr g o=>match Ad st.ob g with
   | .it ks m seen cur=>o=0∧((∀ k x,m k=some x→k∈seen)→K .normal (Ew nx more st false []))∧∀ k x,m k=some x→k ∉ seen→K .normal (Ew nx more st true [(g,.it ks m (k :: seen) (some (k,x)))])
   | _=>False
  | _=>False
 | .mloop _ _ _ _ _ _,_,_=>False
 | .ghost _ _,_,_=>False
section
variable {P:Program} {c:Ctx}
theorem Ex (hm:P.follows .mixedOrders=true):∀ (sc:SC) (K:X→St→Prop) (st:St),sw P c sc K st→Run P c sc K st
 | .skip,K,st,h=>by
  intro code hc a w Q hl hr hq
  cases code <;> simp only [trC] at hc <;> (try (cases hc; done)) <;> (try (split at hc <;> (try split at hc) <;> (try split at hc) <;> (try split at hc) <;> (try split at hc) <;> cases hc; done)) <;> (try (obtain ⟨_,_,e⟩:=zC.1 hc; cases e; done))
  exact wp_skip (hq _ _ _ _ h hl hr)
 | .exit id,K,st,h=>by
  intro code hc a w Q hl hr hq
  cases code <;> simp only [trC] at hc <;> (try (cases hc; done)) <;> (try (split at hc <;> (try split at hc) <;> (try split at hc) <;> (try split at hc) <;> (try split at hc) <;> cases hc; done)) <;> (try (obtain ⟨_,_,e⟩:=zC.1 hc; cases e; done))
  obtain rfl:=SC.exit.inj (zA hc)
  exact wp_exit (hq _ _ _ _ h hl hr)
 | .ret,K,st,h=>by
  intro code hc a w Q hl hr hq
  cases code <;> simp only [trC] at hc <;> (try (cases hc; done)) <;> (try (split at hc <;> (try split at hc) <;> (try split at hc) <;> (try split at hc) <;> (try split at hc) <;> cases hc; done)) <;> (try (obtain ⟨_,_,e⟩:=zC.1 hc; cases e; done))
  exact wp_ret (hq _ _ _ _ h hl hr)
 | .loop j b,K,st,h=>h
 | .mloop _ _ _ _ _ _,K,st,h=>h.elim
 | .ghost _ _,K,st,h=>h.elim
 | .next it nx more,K,st,h=>by
  intro code hc a w Q hl hr hq
  cases code <;> simp only [trC] at hc <;> (try (cases hc; done)) <;> (try (obtain ⟨_,_,e⟩:=zC.1 hc; cases e; done))
  case seq=>split at hc <;> cases hc
  case cond=>split at hc <;> cases hc
  case region id ops draw =>
   split at hc
   ·rename_i q hn
    obtain ⟨rfl,x,o1,o2,hops,d1,p1,g1,d2,p2,g2,e1,l1,l2,l3⟩:=NK hn
    obtain ⟨rfl,rfl,rfl⟩:=SC.next.inj (zA hc)
    obtain ⟨I,V,B,hr⟩:=hr
    simp only [sw] at h
    split at h
    ·rename_i g o he
     split at h
     ·rename_i ks m seen cur hob
      obtain ⟨rfl,hN,hS⟩:=h
      rw [e1] at he
      have hlt:q.2.1<st.sl.length:=by rw [hl]; exact l1
      have hlt2:q.2.2<st.sl.length:=by rw [hl]; exact l2
      have hgl:g<st.ob.length:=by
       rcases zF g st.ob.length with h1 | h1
       ·exact h1
       ·rw [AF _ _ h1] at hob; cases hob
      refine wp_region_list ?_
      rw [hops]
      have fin:∀ (b:Bool) (u:List (Nat × Ob)) (w':World) (v:Value),okU (CU st.ob u).length u→RepI c I V B (st.f.setO u) a w'→(Instr.extract v 0).run P w'=.ok (.bool b) w'→(Instr.next (a.eval x) false o1.type).run P w=.ok v w'→K .normal (Ew q.2.1 q.2.2 st b u)→wpList P ops Q [o1,o2] a w:=fun b u w' v hu hr2 hx hrun hK=>by
       have ht:∀ tm,Region.wanted o1 tm=true:=fun tm=>by unfold Region.wanted; rw [g1]
       have ht2:∀ tm,Region.wanted o2 tm=true:=fun tm=>by unfold Region.wanted; rw [g2]
       unfold wpList
       rw [ht,if_pos rfl]
       left
       unfold Oper.wp
       have hx1:(execOp a.eval o1).run P w=.ok (.value v) w':=by simp only [execOp,p1]; exact Be hrun
       rw [hx1,Oper.upon_value]
       have r1:RepI c I V B ((st.f.setO u).put (some q.2.1) .any) (a.put (some q.2.1) v) w':=hr2.put (by simpa [AS] using l1) (by simp [RepV])
       unfold wpList
       rw [ht2,if_pos rfl]
       left
       unfold Oper.wp
       have hv:(a.put o1.dst v).eval (.tmp q.2.1)=v:=by
        rw [d1]
        have:q.2.1<a.tmps.size:=by rw [hr.sz]; exact l1
        simp [Act.eval,Act.put,yD,this]
       have hx2:(execOp (a.put o1.dst v).eval o2).run P w'=.ok (.value (.bool b)) w':=by simp only [execOp,p2]; rw [hv]; exact Be hx
       rw [hx2,Oper.upon_value,d1,d2]
       have r2:=r1.put (d:=some q.2.2) (by simpa [AS] using l2) (x:=.bool b) (v:=.bool b) (by simp [RepV])
       refine hq .normal _ _ _ hK (by simp [Ew,St.app,EK,Io,hl]) ⟨I,V,B,?_⟩
       have e1:(st.app (some q.2.1) .any u).f=st.f.app (some q.2.1) .any u:=St.NJ (by simpa [AS] using hlt) hu
       have e2:(Ew q.2.1 q.2.2 st b u).f=(st.app (some q.2.1) .any u).f.app (some q.2.2) (.bool b) []:=St.NJ (by simpa [AS,St.app,EK,Io] using hlt2) (by simp [okU])
       rw [e2,e1]
       exact r2
      rcases QD hr (s:=st.f) he hob o1.type with ⟨h1,h2⟩ | ⟨k,y,w',u,v,h1,h2,h3,h4⟩
      ·refine fin false [] w (.tuple #[.bool false]) (by simp [okU]) ?_ (by simp [Instr.extract]) h2 (hN h1)
       exact hr
      ·refine fin true _ w' (.tuple #[.bool true,u,v]) ?_ (hr.after h4) (by simp [Instr.extract]) h3 (hS k y h1 h2)
       simp [okU,CU,Ip,hgl]
       omega
     ·exact h.elim
    ·exact h.elim
   ·split at hc <;> (try split at hc) <;> (try split at hc) <;> (try split at hc) <;> cases hc
 | .reg sl,K,st,h=>by
  intro code hc a w Q hl hr hq
  cases code <;> simp only [trC] at hc <;> (try (cases hc; done)) <;> (try (obtain ⟨_,_,e⟩:=zC.1 hc; cases e; done))
  case region id ops draw =>
   split at hc
   ·cases hc
   rename_i hnn
   split at hc
   ·rename_i sl' hsl
    split at hc
    ·rename_i hall
     split at hc
     ·split at hc <;> cases hc
     ·rename_i hdr
      obtain rfl:=SC.reg.inj (zA hc)
      have hdr:draw=false:=by simpa using hdr
      subst hdr
      have hall:∀ o∈ops.toList,AS c.nt o.dst=true∧N7 c.nt ops o=true:=fun o ho=>by
       have:=(zM.1 hall) o ho
       simpa using this
      obtain ⟨es,st',h1,h2,h3,h4⟩:=K2 (c:=c) hsl hl (fun o ho=>(hall o ho).1) h
      exact wp_region_list (Jp ops.toList es st.f a w hall h2 hr fun a' w' hr'=>hq .normal st' a' w' h1 h4 (by rw [←h3]; exact hr'))
    ·cases hc
   ·cases hc
  case seq=>split at hc <;> cases hc
  case cond=>split at hc <;> cases hc
 | .dreg anc sl,K,st,h=>by
  intro code hc a w Q hl hr hq
  cases code <;> simp only [trC] at hc <;> (try (cases hc; done)) <;> (try (obtain ⟨_,_,e⟩:=zC.1 hc; cases e; done))
  case region id ops draw =>
   split at hc
   ·cases hc
   rename_i hnn
   split at hc
   ·rename_i sl' hsl
    split at hc
    ·rename_i hall
     split at hc
     ·rename_i hdr
      split at hc
      ·rename_i hsb
       obtain ⟨rfl,rfl⟩:=SC.dreg.inj (zA hc)
       have hdr:draw=true:=by simpa using hdr
       subst hdr
       have hall:∀ o∈ops.toList,AS c.nt o.dst=true∧N7 c.nt ops o=true:=fun o ho=>by
        have:=(zM.1 hall) o ho
        simpa using this
       rw [zD] at hsb
       obtain ⟨es,st',⟨hob,h1⟩,h2,h3,h4⟩:=K1 (c:=c) hsl hl (fun o ho=>(hall o ho).1) h
       have:=Kj (P:=P) (c:=c) (Q:=Q) (l:=ops.toList) (es:=es) (anc:=OM ops.toList []) (id:=id) (a:=a) (w:=w) (s:=st.f) hm hsb.1 rfl hsb.2 hob (by simpa using hall) (by simpa using h2) hr (fun a' w' hr'=>hq .normal st' a' w' h1 h4 (by rw [←h3]; exact hr'))
       simpa using this
      ·cases hc
     ·cases hc
    ·cases hc
   ·cases hc
  case seq=>split at hc <;> cases hc
  case cond=>split at hc <;> cases hc
 | .seq x y,K,st,h=>by
  intro code hc a w Q hl hr hq
  cases code <;> simp only [trC] at hc <;> (try (cases hc; done)) <;> (try (obtain ⟨_,_,e⟩:=zC.1 hc; cases e; done))
  case region=>split at hc <;> (try split at hc) <;> (try split at hc) <;> (try split at hc) <;> (try split at hc) <;> cases hc
  case cond=>split at hc <;> cases hc
  case seq u v =>
   split at hc
   ·rename_i x' y' hx hy
    obtain ⟨rfl,rfl⟩:=SC.seq.inj (zA hc)
    simp only [sw] at h
    refine wp_seq (Ex hm _ _ st h u hx a w _ hl hr fun e st' a' w' hk hl' hr'=>?_)
    cases e with
    | normal=>exact Ex hm _ _ st' hk v hy a' w' Q hl' hr' hq
    | exit id=>exact hq _ _ _ _ hk hl' hr'
    | ret=>exact hq _ _ _ _ hk hl' hr'
   ·cases hc
 | .cond cx x y,K,st,h=>by
  intro code hc a w Q hl hr hq
  cases code <;> simp only [trC] at hc <;> (try (cases hc; done)) <;> (try (obtain ⟨_,_,e⟩:=zC.1 hc; cases e; done))
  case region=>split at hc <;> (try split at hc) <;> (try split at hc) <;> (try split at hc) <;> (try split at hc) <;> cases hc
  case seq=>split at hc <;> cases hc
  case cond q u v =>
   split at hc
   ·rename_i x' y' hx hy
    obtain ⟨rfl,rfl,rfl⟩:=SC.cond.inj (zA hc)
    simp only [sw] at h
    split at h
    ·rename_i t ht
     have hv:a.eval q=.bool t:=by
      obtain ⟨I,V,B,hr⟩:=hr
      have:=An hr q
      have e:As st.f.sl (trX q)=.bool t:=ht
      rw [e] at this
      simpa only [RepV] using this
     refine wp_cond_split hv (fun e=>?_) (fun e=>?_)
     ·exact Ex hm _ _ st (h.1 e) u hx a w Q hl hr hq
     ·exact Ex hm _ _ st (h.2 e) v hy a w Q hl hr hq
    ·exact h.elim
   ·cases hc
 | .block id b,K,st,h=>by
  intro code hc a w Q hl hr hq
  cases code <;> simp only [trC] at hc <;> (try (cases hc; done))
  case region=>split at hc <;> (try split at hc) <;> (try split at hc) <;> (try split at hc) <;> (try split at hc) <;> cases hc
  case seq=>split at hc <;> cases hc
  case cond=>split at hc <;> cases hc
  case loop=>obtain ⟨_,_,e⟩:=zC.1 hc; cases e
  case block id' u =>
   obtain ⟨x',hx,e⟩:=zC.1 hc
   obtain ⟨rfl,rfl⟩:=SC.block.inj e
   simp only [sw] at h
   refine wp_block (Ex hm _ _ st h u hx a w _ hl hr fun e st' a' w' hk hl' hr'=>?_)
   cases e with
   | normal=>exact hq .normal st' a' w' hk hl' hr'
   | ret=>exact hq .ret st' a' w' hk hl' hr'
   | exit i =>
    simp only at hk
    simp only [X.exit',Exit.inBlock]
    by_cases hi:i=id'
    ·rw [if_pos hi] at hk ⊢
     exact hq .normal st' a' w' hk hl' hr'
    ·rw [if_neg hi] at hk ⊢
     exact hq (.exit i) st' a' w' hk hl' hr'
def Weak (c:Ctx) (st st':St):Prop:=st.sl.length=c.nt→st'.sl.length=c.nt∧∀ a w,Rep c st.f a w→Rep c st'.f a w
theorem Weak.trans {a b d:St} (h:Weak c a b) (k:Weak c b d):Weak c a d:=fun hl =>
 have h1:=h hl
 have h2:=k h1.1
 ⟨h2.1,fun x w hr=>h2.2 x w (h1.2 x w hr)⟩
theorem Run.weak {sc:SC} {K:X→St→Prop} {st st':St} (h:Weak c st st') (k:Run P c sc K st'):Run P c sc K st:=by
 intro code hc a w Q hl hr hq
 have h1:=h hl
 exact k code hc a w Q h1.1 (h1.2 a w hr) hq
theorem Run.seq {x y:SC} {K:X→St→Prop} {st:St} (h:Run P c x (fun e st'=>match e with | .normal=>Run P c y K st' | e=>K e st') st):Run P c (.seq x y) K st:=by
 intro code hc a w Q hl hr hq
 cases code <;> simp only [trC] at hc <;> (try (cases hc; done)) <;> (try (obtain ⟨_,_,e⟩:=zC.1 hc; cases e; done))
 case region=>split at hc <;> (try split at hc) <;> (try split at hc) <;> (try split at hc) <;> (try split at hc) <;> cases hc
 case cond=>split at hc <;> cases hc
 case seq u v =>
  split at hc
  ·rename_i x' y' hx hy
   obtain ⟨rfl,rfl⟩:=SC.seq.inj (zA hc)
   refine wp_seq (h u hx a w _ hl hr fun e st' a' w' hk hl' hr'=>?_)
   cases e with
   | normal=>exact hk v hy a' w' Q hl' hr' hq
   | exit id=>exact hq _ _ _ _ hk hl' hr'
   | ret=>exact hq _ _ _ _ hk hl' hr'
  ·cases hc
theorem Run.cond {cx:SX} {x y:SC} {K:X→St→Prop} {st:St} {t:Bool} (ht:As (gets st.sl) cx=.bool t) (h1:t=true→Run P c x K st) (h2:t=false→Run P c y K st):Run P c (.cond cx x y) K st:=by
 intro code hc a w Q hl hr hq
 cases code <;> simp only [trC] at hc <;> (try (cases hc; done)) <;> (try (obtain ⟨_,_,e⟩:=zC.1 hc; cases e; done))
 case region=>split at hc <;> (try split at hc) <;> (try split at hc) <;> (try split at hc) <;> (try split at hc) <;> cases hc
 case seq=>split at hc <;> cases hc
 case cond q u v =>
  split at hc
  ·rename_i x' y' hx hy
   obtain ⟨rfl,rfl,rfl⟩:=SC.cond.inj (zA hc)
   have hv:a.eval q=.bool t:=by
    obtain ⟨I,V,B,hr⟩:=hr
    have:=An hr q
    have e:As st.f.sl (trX q)=.bool t:=ht
    rw [e] at this
    simpa only [RepV] using this
   refine wp_cond_split hv (fun e=>?_) (fun e=>?_)
   ·exact h1 e u hx a w Q hl hr hq
   ·exact h2 e v hy a w Q hl hr hq
  ·cases hc
theorem Run.block {id:Nat} {b:SC} {K:X→St→Prop} {st:St} (h:Run P c b (fun e st'=>match e with | .exit i=>if i=id then K .normal st' else K (.exit i) st' | e=>K e st') st):Run P c (.block id b) K st:=by
 intro code hc a w Q hl hr hq
 cases code <;> simp only [trC] at hc <;> (try (cases hc; done))
 case region=>split at hc <;> (try split at hc) <;> (try split at hc) <;> (try split at hc) <;> (try split at hc) <;> cases hc
 case seq=>split at hc <;> cases hc
 case cond=>split at hc <;> cases hc
 case loop=>obtain ⟨_,_,e⟩:=zC.1 hc; cases e
 case block id' u =>
  obtain ⟨x',hx,e⟩:=zC.1 hc
  obtain ⟨rfl,rfl⟩:=SC.block.inj e
  refine wp_block (h u hx a w _ hl hr fun e st' a' w' hk hl' hr'=>?_)
  cases e with
  | normal=>exact hq .normal st' a' w' hk hl' hr'
  | ret=>exact hq .ret st' a' w' hk hl' hr'
  | exit i =>
   simp only at hk
   simp only [X.exit',Exit.inBlock]
   by_cases hi:i=id'
   ·rw [if_pos hi] at hk ⊢
    exact hq .normal st' a' w' hk hl' hr'
   ·rw [if_neg hi] at hk ⊢
    exact hq (.exit i) st' a' w' hk hl' hr'
theorem Iq {α:Type} {junk:List Nat} {b:SC} {K:X→St→Prop} {st:St} (H:α→St) (μ:α→Nat) (x0:α) (h0:Weak c st (H x0))
  (round:∀ x,Run P c b (fun e st'=>match e with | .normal=>∃ y,μ y < μ x∧Weak c st' (H y) | e=>K e st') (H x)):Run P c (.loop junk b) K st:=by
 intro code hc a w Q hl hr hq
 cases code <;> simp only [trC] at hc <;> (try (cases hc; done))
 case region=>split at hc <;> (try split at hc) <;> (try split at hc) <;> (try split at hc) <;> (try split at hc) <;> cases hc
 case seq=>split at hc <;> cases hc
 case cond=>split at hc <;> cases hc
 case block=>obtain ⟨_,_,e⟩:=zC.1 hc; cases e
 case loop u =>
  obtain ⟨x',hx,e⟩:=zC.1 hc
  obtain ⟨_,rfl⟩:=SC.loop.inj e
  classical
  let I:Act→World→Prop:=fun a w=>∃ x,(H x).sl.length=c.nt∧Rep c (H x).f a w
  let Mx:Act→World→Nat→Prop:=fun a w n=>∃ x,(H x).sl.length=c.nt∧Rep c (H x).f a w∧μ x≤n
  have hex:∀ a w,I a w→∃ n,Mx a w n:=fun a w ⟨x,h1,h2⟩=>⟨μ x,x,h1,h2,zH _⟩
  have least:∀ (p:Nat→Prop),(∃ n,p n)→∃ n,p n∧∀ m,m<n→¬ p m:=fun p ⟨n,hn⟩=>by
   induction n using Nat.strongRecOn with
   | _ n ih =>
    by_cases h:∃ m,m<n∧p m
    ·obtain ⟨m,h1,h2⟩:=h; exact ih m h1 h2
    ·exact ⟨n,hn,fun m h1 h2=>h ⟨m,h1,h2⟩⟩
  let ν:Act→World→Nat:=fun a w=>if h:∃ n,Mx a w n then Classical.choose (least _ h) else 0
  have hν:∀ a w,(∃ n,Mx a w n)→Mx a w (ν a w)∧∀ m,m < ν a w→¬ Mx a w m:=fun a w h=>by
   have e:ν a w=Classical.choose (least _ h):=dif_pos h
   rw [e]
   exact Classical.choose_spec (least _ h)
  refine wp_loop I ν ?_ ?_
  ·exact ⟨x0,(h0 hl).1,(h0 hl).2 a w hr⟩
  ·intro a1 w1 hI
   obtain ⟨x,h1,h2,h3⟩:=(hν a1 w1 (hex a1 w1 hI)).1
   refine round x u hx a1 w1 _ h1 h2 fun e st' a' w' hk hl' hr'=>?_
   cases e with
   | normal =>
    obtain ⟨y,hy1,hy2⟩:=hk
    have h4:=hy2 hl'
    have hM:Mx a' w' (μ y):=⟨y,h4.1,h4.2 a' w' hr',zH _⟩
    refine ⟨⟨y,h4.1,h4.2 a' w' hr'⟩,?_⟩
    have h5:=(hν a' w' ⟨_,hM⟩).2
    rcases zF (ν a' w') (ν a1 w1) with h6 | h6
    ·exact h6
    ·exact absurd hM (h5 (μ y) (by omega))
   | exit id=>exact hq _ _ _ _ hk hl' hr'
   | ret=>exact hq _ _ _ _ hk hl' hr'
end
mutual
def SV.ren (σ:Nat→Nat):SV→SV
 | .ref g=>.ref (σ g)
 | .ptr g o=>.ptr (σ g) o
 | .eptr g sz k o=>.eptr (σ g) sz k o
 | .agg l=>.agg (SV.Ir σ l)
 | .tup l=>.tup (SV.Ir σ l)
 | .fn f l=>.fn f (SV.Ir σ l)
 | .any=>.any
 | .int k n=>.int k n
 | .bool b=>.bool b
 | .str s=>.str s
 | .nil=>.nil
 | .arr es=>.arr es
 | .vptr es k o=>.vptr es k o
 | .mp ks m=>.mp ks m
 | .val u=>.val u
def SV.Ir (σ:Nat→Nat):List SV→List SV
 | []=>[]
 | x :: r=>SV.ren σ x :: SV.Ir σ r
end
def Ob.ren (σ:Nat→Nat):Ob→Ob
 | .box t l=>.box t (SV.Ir σ l)
 | .tree es hs=>.tree es (hs.map fun h=>(h.1,h.2.1,σ h.2.2))
 | o=>o
section
variable {w:World} {I:Nat→Prop} {V:Nat→Option Value} {σ:Nat→Nat}
mutual
theorem RepV.ren:∀ (x:SV) (v:Value),RepV w I V (x.ren σ) v ↔ RepV w I (fun g=>V (σ g)) x v
 | .any,v=>by simp [SV.ren,RepV]
 | .int k n,v=>by simp [SV.ren,RepV]
 | .bool b,v=>by simp [SV.ren,RepV]
 | .str s,v=>by simp [SV.ren,RepV]
 | .nil,v=>by simp [SV.ren,RepV]
 | .arr es,v=>by simp [SV.ren,RepV]
 | .vptr es k o,v=>by simp [SV.ren,RepV]
 | .mp ks m,v=>by simp [SV.ren,RepV]
 | .val u,v=>by simp [SV.ren,RepV]
 | .ref g,v=>by simp [SV.ren,RepV]
 | .ptr g o,v=>by simp [SV.ren,RepV]
 | .eptr g sz k o,v=>by simp [SV.ren,RepV]
 | .agg l,v=>by
  simp only [SV.ren,RepV]
  exact ⟨fun ⟨vs,e,h⟩=>⟨vs,e,(RepVs.ren l vs).1 h⟩,fun ⟨vs,e,h⟩=>⟨vs,e,(RepVs.ren l vs).2 h⟩⟩
 | .tup l,v=>by
  simp only [SV.ren,RepV]
  exact ⟨fun ⟨vs,e,h⟩=>⟨vs,e,(RepVs.ren l vs).1 h⟩,fun ⟨vs,e,h⟩=>⟨vs,e,(RepVs.ren l vs).2 h⟩⟩
 | .fn f l,v=>by
  simp only [SV.ren,RepV]
  exact ⟨fun ⟨vs,e,h⟩=>⟨vs,e,(RepVs.ren l vs).1 h⟩,fun ⟨vs,e,h⟩=>⟨vs,e,(RepVs.ren l vs).2 h⟩⟩
theorem RepVs.ren:∀ (l:List SV) (vs:List Value),RepVs w I V (SV.Ir σ l) vs ↔ RepVs w I (fun g=>V (σ g)) l vs
 | [],vs=>by simp [SV.Ir,RepVs]
 | x :: r,vs=>by
  simp only [SV.Ir,RepVs]
  exact ⟨fun ⟨v,q,e,h1,h2⟩=>⟨v,q,e,(RepV.ren x v).1 h1,(RepVs.ren r q).1 h2⟩,fun ⟨v,q,e,h1,h2⟩=>⟨v,q,e,(RepV.ren x v).2 h1,(RepVs.ren r q).2 h2⟩⟩
end
theorem Ob.Is (o:Ob):(o.ren σ).live ↔ o.live:=by cases o <;> simp [Ob.ren,Ob.live]
theorem TreeR.ren {S:Nat→Prop} {val:Value} (es:List (List OT)) (hs:List (Nat × Nat × Nat)):TreeR w I V S es (hs.map fun h=>(h.1,h.2.1,σ h.2.2)) val ↔ TreeR w I (fun g=>V (σ g)) S es hs val:=by
 constructor
 ·rintro ⟨t,sz,h1,h2⟩
  exact ⟨t,sz,h1,fun h hh=>h2 (h.1,h.2.1,σ h.2.2) (yE.2 ⟨h,hh,rfl⟩)⟩
 ·rintro ⟨t,sz,h1,h2⟩
  refine ⟨t,sz,h1,fun h hh=>?_⟩
  obtain ⟨q,hq,rfl⟩:=yE.1 hh
  exact h2 q hq
theorem ObR.ren {S:Nat→Prop} {val:Value} (o:Ob):ObR w I V S val (o.ren σ) ↔ ObR w I (fun g=>V (σ g)) S val o:=by
 cases o with
 | free=>simp [Ob.ren,ObR]
 | gone=>simp [Ob.ren,ObR]
 | row t sz es=>simp [Ob.ren,ObR]
 | tree es hs=>exact TreeR.ren es hs
 | mp ks m=>simp [Ob.ren,ObR]
 | it ks m seen cur=>simp [Ob.ren,ObR]
 | shd es=>simp [Ob.ren,ObR]
 | hist t sz es us=>simp [Ob.ren,ObR]
 | box t l =>
  simp only [Ob.ren,ObR]
  exact ⟨fun ⟨b,vs,h1,h2,h3,h4⟩=>⟨b,vs,h1,h2,h3,(RepVs.ren l vs).1 h4⟩,fun ⟨b,vs,h1,h2,h3,h4⟩=>⟨b,vs,h1,h2,h3,(RepVs.ren l vs).2 h4⟩⟩
end
def sgp:List Nat→Nat→Nat→Nat
 | [],p,g=>p+g
 | x :: _,_,0=>x
 | _ :: r,p,g+1=>sgp r p g
theorem Du:∀ (m:List Nat) (p g:Nat),sgp m p g=match m[g]? with | some x=>x | none=>p+(g-m.length)
 | [],p,g=>by simp [sgp]
 | x :: r,p,0=>by simp [sgp]
 | x :: r,p,g+1=>by simp only [sgp,zY,zL,z6]; exact Du r p g
def leV (σ:Nat→Nat):SV→SV→Prop
 | .any,_=>True
 | x,y=>x.ren σ=y
def leL (σ:Nat→Nat):List SV→List SV→Prop
 | [],[]=>True
 | x :: xs,y :: ys=>leV σ x y∧leL σ xs ys
 | _,_=>False
def leO (σ:Nat→Nat):Ob→Ob→Prop
 | .gone,_=>True
 | .box t l,.box t' l'=>t=t'∧leL σ l l'
 | .row t sz es,.row t' sz' es'=>t=t'∧sz=sz'∧es=es'
 | .mp ks m,.mp ks' m'=>ks=ks'∧m=m'
 | .it ks m seen cur,.it ks' m' seen' cur'=>ks=ks'∧m=m'∧seen=seen'∧cur=cur'
 | .hist t sz es us,.hist t' sz' es' us'=>t=t'∧sz=sz'∧es=es'∧us=us'
 | .tree es hs,o=>(Ob.tree es hs).ren σ=o
 | _,_=>False
def TI (σ:Nat→Nat) (ob:List Ob):Nat→List Ob→Prop
 | _,[]=>True
 | k,o :: r=>leO σ o (Ad ob (σ k))∧TI σ ob (k+1) r
def TJ (σ:Nat→Nat):Nat→Prop
 | 0=>True
 | n+1=>σ n=n∧TJ σ n
def WeakC (n0:Nat) (m:List Nat) (st st':St):Prop :=
 leL (sgp m st.ob.length) st'.sl st.sl∧TI (sgp m st.ob.length) st.ob 0 st'.ob∧(m.length=st'.ob.length∧m.Nodup)∧TJ (sgp m st.ob.length) n0
section
variable {w:World} {I:Nat→Prop} {V:Nat→Option Value} {B:Nat→Nat→Prop} {σ:Nat→Nat}
theorem JV {x y:SV} {v:Value} (h:leV σ x y) (hy:RepV w I V y v):RepV w I (fun g=>V (σ g)) x v:=by
 cases x <;> simp only [leV] at h <;> first | (simp [RepV]; done) | (subst h; exact (RepV.ren _ v).1 hy)
theorem PR:∀ {xs ys:List SV} {vs:List Value},leL σ xs ys→RepVs w I V ys vs→RepVs w I (fun g=>V (σ g)) xs vs
 | [],[],vs,_,h=>by simpa [RepVs] using h
 | x :: xs,y :: ys,vs,h,hy=>by
  simp only [leL] at h
  simp only [RepVs] at hy ⊢
  obtain ⟨v,r,e,h1,h2⟩:=hy
  exact ⟨v,r,e,JV h.1 h1,PR h.2 h2⟩
 | [],_ :: _,_,h,_=>h.elim
 | _ :: _,[],_,h,_=>h.elim
theorem PS:∀ {xs ys:List SV},leL σ xs ys→xs.length=ys.length
 | [],[],_=>rfl
 | x :: xs,y :: ys,h=>by simp [PS h.2]
 | [],_ :: _,h=>h.elim
 | _ :: _,[],h=>h.elim
theorem NL:∀ {xs ys:List SV} (k:Nat),leL σ xs ys→leV σ (gets xs k) (gets ys k)
 | [],[],k,_=>by simp [gets,leV]
 | x :: xs,y :: ys,0,h=>h.1
 | x :: xs,y :: ys,k+1,h=>NL k h.2
 | [],_ :: _,_,h=>h.elim
 | _ :: _,[],_,h=>h.elim
theorem TK {S:Nat→Prop} {val:Value} {o o':Ob} (h:leO σ o o') (hl:o.live) (ho:ObR w I V S val o'):ObR w I (fun g=>V (σ g)) S val o:=by
 by_cases ht:∃ es hs,o=.tree es hs
 ·obtain ⟨es,hs,rfl⟩:=ht
  have h:(Ob.tree es hs).ren σ=o':=by cases o' <;> exact h
  subst h
  exact (ObR.ren _).1 ho
 cases o <;> cases o' <;> (try exact absurd ⟨_,_,rfl⟩ ht) <;> simp only [leO] at h <;> first | exact hl.elim | exact h.elim | skip
 ·obtain ⟨rfl,h⟩:=h
  obtain ⟨b,vs,h1,h2,h3,h4⟩:=ho
  exact ⟨b,vs,h1,h2,h3,PR h h4⟩
 ·obtain ⟨rfl,rfl,rfl⟩:=h
  exact ho
 ·obtain ⟨rfl,rfl⟩:=h
  exact ho
 ·obtain ⟨rfl,rfl,rfl,rfl⟩:=h
  exact ho
 ·obtain ⟨rfl,rfl,rfl,rfl⟩:=h
  exact ho
theorem El {o o':Ob} (h:leO σ o o') (hl:o.live):o'.live:=by
 by_cases ht:∃ es hs,o=.tree es hs
 ·obtain ⟨es,hs,rfl⟩:=ht
  have h:(Ob.tree es hs).ren σ=o':=by cases o' <;> exact h
  subst h
  trivial
 cases o <;> cases o' <;> (try exact absurd ⟨_,_,rfl⟩ ht) <;> simp only [leO] at h <;> first | exact hl.elim | exact h.elim | trivial
theorem EB {ob:List Ob}:∀ {l:List Ob} {k j:Nat},TI σ ob k l→j<l.length→leO σ (Ad l j) (Ad ob (σ (k+j)))
 | [],k,j,_,hj=>absurd hj (by simp)
 | o :: r,k,0,h,_=>h.1
 | o :: r,k,j+1,h,hj=>by
  have:=EB (j:=j) h.2 (by simpa using hj)
  rwa [show k+1+j=k+(j+1) by omega] at this
theorem Hn:∀ {n:Nat},TJ σ n→∀ g,g<n→σ g=g
 | 0,_,g,h=>by omega
 | n+1,h,g,hg=>by
  by_cases e:g=n
  ·subst e; exact h.1
  ·exact Hn h.2 g (by omega)
theorem WeakC.wf {n0:Nat} {m:List Nat} {st st':St} (h:WeakC n0 m st st') (hw:Wf w I V B (Ad st.ob)):Wf w I (fun g=>V (sgp m st.ob.length g)) (fun g=>B (sgp m st.ob.length g)) (Ad st'.ob):=by
 obtain ⟨_,hO,⟨hlen,hnd⟩,_⟩:=h
 have hlt:∀ g,(Ad st'.ob g).live→g<st'.ob.length:=fun g hl=>by
  rcases zF g st'.ob.length with h1 | h1
  ·exact h1
  ·rw [AF _ _ h1] at hl; exact hl.elim
 have hle:∀ g,(Ad st'.ob g).live→leO (sgp m st.ob.length) (Ad st'.ob g) (Ad st.ob (sgp m st.ob.length g)):=fun g hl=>by
  have:=EB (j:=g) hO (hlt g hl)
  rwa [zP] at this
 refine ⟨hw.ilt,fun g hl=>?_,fun g b hl hb=>?_,fun g b hl hb=>?_,fun g g' b hl hl' hb hb'=>?_,fun g hf=>?_,hw.gl⟩
 ·obtain ⟨val,h1,h2⟩:=hw.obj _ (El (hle g hl) hl)
  exact ⟨val,h1,TK (hle g hl) hl h2⟩
 ·exact hw.lt _ b (El (hle g hl) hl) hb
 ·exact hw.dI _ b (El (hle g hl) hl) hb
 ·have e:=hw.dO _ _ b (El (hle g hl) hl) (El (hle g' hl') hl') hb hb'
  have h1:=hlt g hl
  have h2:=hlt g' hl'
  rw [←hlen] at h1 h2
  rw [Du,Du,zG h1,zG h2] at e
  exact (List.getElem_inj hnd).1 e
 ·rcases zF g st'.ob.length with h1 | h1
  ·have:=EB (j:=g) hO h1
   rw [hf] at this
   cases Ad st.ob (sgp m st.ob.length (0+g)) <;> exact this.elim
  ·refine hw.fr _ (AF _ _ ?_)
   rw [Du,z8 (by omega)]
   simp only; omega
theorem TM {c:Ctx} (m:List Nat) {st st':St} (h:WeakC c.m m st st'):Weak c st st':=by
 intro hl
 have hL:=h.1
 refine ⟨(PS hL).trans hl,fun a w hr=>?_⟩
 obtain ⟨I,V,B,hr⟩:=hr
 have hwf:=h.wf hr.wf
 refine ⟨I,_,_,hr.fr,hr.i0,hr.i1,fun g u hu=>?_,hwf,fun g b hlv hb=>?_,hr.nd,hr.sz,fun k=>?_⟩
 ·have hg:g<c.m:=by
   rcases zF g c.m with h1 | h1
   ·exact h1
   ·rw [c.vm g h1] at hu; cases hu
  rw [Hn h.2.2.2 g hg]
  exact hr.v0 g u hu
 ·have hlt:g<st'.ob.length:=by
   rcases zF g st'.ob.length with h1 | h1
   ·exact h1
   ·have:Ad st'.ob g=.free:=AF _ _ h1
    have hlv':(Ad st'.ob g).live:=hlv
    rw [this] at hlv'; exact hlv'.elim
  have:=EB (j:=g) h.2.1 hlt
  rw [zP] at this
  exact hr.bh _ b (El this hlv) hb
 ·exact JV (NL k hL) (hr.slots k)
end
mutual
def OT.noSh:OT→Bool
 | .sh _=>false
 | .ow es=>OT.BN es
 | _=>true
def OT.E1:List OT→Bool
 | []=>true
 | x :: r=>OT.noSh x&&OT.E1 r
def OT.BN:List (List OT)→Bool
 | []=>true
 | x :: r=>OT.E1 x&&OT.BN r
end
theorem OT.IR:∀ {l:List OT},OT.E1 l=true→∀ x∈l,OT.noSh x=true
 | [],_,x,h=>by cases h
 | y :: r,h,x,hx=>by
  simp only [OT.E1,zD] at h
  rcases zO.1 hx with rfl | hx
  ·exact h.1
  ·exact OT.IR h.2 x hx
theorem OT.HN:∀ {l:List (List OT)},OT.BN l=true→∀ x∈l,OT.E1 x=true
 | [],_,x,h=>by cases h
 | y :: r,h,x,hx=>by
  simp only [OT.BN,zD] at h
  rcases zO.1 hx with rfl | hx
  ·exact h.1
  ·exact OT.HN h.2 x hx
theorem ORep.noSh {w:World} {I I' S:Nat→Prop} {o:OT} {v:Value} (h:ORep w I S o v) (hn:o.noSh=true):ORep w I' S o v:=by
 induction h with
 | int S n=>exact .int _ n
 | byte S n=>exact .byte _ n
 | bool S b=>exact .bool _ b
 | str S s h=>exact .str _ s h
 | sh S es v h=>simp [OT.noSh] at hn
 | nil S=>exact .nil _
 | hole S v h=>exact .hole _ v h
 | pin S v h=>exact .pin _ v h
 | row S t sz es b cap cur Sub hs hb h1 h2 h3 h4 h5 h6 h7 ih =>
  refine .row _ t sz es b cap cur Sub hs hb h1 h2 h3 h4 h5 h6 fun i j hi hj=>ih i j hi hj ?_
  simp only [OT.noSh] at hn
  exact OT.IR (OT.HN hn _ (zR hi)) _ (zR hj)
theorem RowR.noSh {w:World} {I I' S:Nat→Prop} {t:TypeId} {sz:Nat} {es:List (List OT)} {v:Value} (h:RowR w I S t sz es v) (hn:OT.BN es=true):RowR w I' S t sz es v:=by
 rcases h with h | ⟨b,cap,cur,Sub,rfl,hs,hb,h1,h2,h3,h4,h5,h6,h7⟩
 ·exact .inl h
 ·exact .inr ⟨b,cap,cur,Sub,rfl,hs,hb,h1,h2,h3,h4,h5,h6,fun i j hi hj=>(h7 i j hi hj).noSh (OT.IR (OT.HN hn _ (zR hi)) _ (zR hj))⟩
mutual
def SV.noSh:SV→Bool
 | .arr _=>false
 | .vptr _ _ _=>false
 | .mp _ _=>false
 | .agg l=>SV.Jx l
 | .tup l=>SV.Jx l
 | .fn _ l=>SV.Jx l
 | _=>true
def SV.Jx:List SV→Bool
 | []=>true
 | x :: r=>SV.noSh x&&SV.Jx r
end
def Ob.noSh:Ob→Bool
 | .box _ l=>SV.Jx l
 | .row _ _ es=>OT.BN es
 | .tree es _=>OT.BN es
 | .mp _ _=>false
 | .it _ _ _ _=>false
 | .shd _=>false
 | .hist _ _ _ _=>false
 | _=>true
section
variable {w:World} {I I':Nat→Prop} {V:Nat→Option Value}
mutual
theorem RepV.noSh:∀ (x:SV) (v:Value),x.noSh=true→RepV w I V x v→RepV w I' V x v
 | .any,v,_,_=>by simp [RepV]
 | .int k n,v,_,h=>by simpa [RepV] using h
 | .bool b,v,_,h=>by simpa [RepV] using h
 | .str s,v,_,h=>by simpa [RepV] using h
 | .nil,v,_,h=>by simpa [RepV] using h
 | .arr es,v,hn,_=>by simp [SV.noSh] at hn
 | .vptr es k o,v,hn,_=>by simp [SV.noSh] at hn
 | .mp ks m,v,hn,_=>by simp [SV.noSh] at hn
 | .val u,v,_,h=>by simpa [RepV] using h
 | .ref g,v,_,h=>by simpa [RepV] using h
 | .ptr g o,v,_,h=>by simpa [RepV] using h
 | .eptr g sz k o,v,_,h=>by simpa [RepV] using h
 | .agg l,v,hn,h=>by
  simp only [RepV] at h ⊢
  obtain ⟨vs,e,h⟩:=h
  exact ⟨vs,e,RepVs.noSh l vs (by simpa [SV.noSh] using hn) h⟩
 | .tup l,v,hn,h=>by
  simp only [RepV] at h ⊢
  obtain ⟨vs,e,h⟩:=h
  exact ⟨vs,e,RepVs.noSh l vs (by simpa [SV.noSh] using hn) h⟩
 | .fn f l,v,hn,h=>by
  simp only [RepV] at h ⊢
  obtain ⟨vs,e,h⟩:=h
  exact ⟨vs,e,RepVs.noSh l vs (by simpa [SV.noSh] using hn) h⟩
theorem RepVs.noSh:∀ (l:List SV) (vs:List Value),SV.Jx l=true→RepVs w I V l vs→RepVs w I' V l vs
 | [],vs,_,h=>by simpa [RepVs] using h
 | x :: r,vs,hn,h=>by
  simp only [SV.Jx,zD] at hn
  simp only [RepVs] at h ⊢
  obtain ⟨v,q,e,h1,h2⟩:=h
  exact ⟨v,q,e,RepV.noSh x v hn.1 h1,RepVs.noSh r q hn.2 h2⟩
end
theorem ObR.noSh {S:Nat→Prop} {val:Value} {o:Ob} (h:ObR w I V S val o) (hn:o.noSh=true):ObR w I' V S val o:=by
 cases o with
 | free=>trivial
 | gone=>trivial
 | row t sz es=>exact RowR.noSh h hn
 | tree es hs =>
  obtain ⟨t,sz,h1,h2⟩:=h
  exact ⟨t,sz,RowR.noSh h1 hn,h2⟩
 | mp ks m=>cases hn
 | it ks m seen cur=>cases hn
 | shd es=>cases hn
 | hist t sz es us=>cases hn
 | box t l =>
  obtain ⟨b,vs,h1,h2,h3,h4⟩:=h
  exact ⟨b,vs,h1,h2,h3,RepVs.noSh l vs hn h4⟩
end
def HB (B:Nat→Nat→Prop) (ob:List Ob) (b:Nat):Prop:=∃ g,(Ad ob g).live∧B g b
structure FunPost (w:World) (I:Nat→Prop) (V:Nat→Option Value) (B:Nat→Nat→Prop) (ob ob':List Ob) (w':World) (I':Nat→Prop) (V':Nat→Option Value) (B':Nat→Nat→Prop):Prop where
 fr:Fr w (HB B ob) w'
 i0:∀ b,I b→I' b
 i1:∀ b,I' b→I b∨w.heap.size≤b∨HB B ob b
 v:VLe V V'
 wf:Wf w' I' V' B' (Ad ob')
 bh:∀ g b,(Ad ob' g).live→B' g b→HB B ob b∨w.heap.size≤b
def Fun (P:Program) (f:FuncId) (args:List SV) (ob:List Ob) (r:SV) (ob':List Ob):Prop :=
 ∀ (w:World) (I:Nat→Prop) (V:Nat→Option Value) (B:Nat→Nat→Prop) (vs:List Value),Wf w I V B (Ad ob)→RepVs w I V args vs →
  Calls P f vs.toArray w (fun e w'=>∃ v I' V' B',e=.returned v∧RepV w' I' V' r v∧FunPost w I V B ob ob' w' I' V' B')
def FR:List Nat→Nat→Option Nat
 | [],_=>none
 | x :: r,g=>if x=g then some 0 else (FR r g).map (·+1)
theorem Ho:∀ {m:List Nat} {g i:Nat},FR m g=some i→m[i]?=some g
 | [],g,i,h=>by cases h
 | x :: r,g,i,h=>by
  simp only [FR] at h
  split at h
  ·rename_i e; obtain rfl:=zA h; simp [e]
  ·obtain ⟨j,hj,rfl⟩:=zC.1 h
   simpa using Ho hj
mutual
def Cp (ob:Nat→Ob) (sel:List Nat):SV→SV
 | .ref g=>match FR sel g with
  | some i=>.ref i
  | none=>match ob g with
   | .row _ _ es=>bif OT.Aq es then .arr (OT.erss es) else .any
   | .tree es hs=>bif OT.Aq es then .arr (OT.erss es) else .any
   | .mp ks m=>.mp ks m
   | _=>.any
 | .ptr g o=>match FR sel g with
  | some i=>.ptr i o
  | none=>.any
 | .nil=>.arr []
 | .agg l=>.agg (G1 ob sel l)
 | .tup l=>.tup (G1 ob sel l)
 | .fn f l=>.fn f (G1 ob sel l)
 | .eptr _ _ _ _=>.any
 | .any=>.any
 | .int k n=>.int k n
 | .bool b=>.bool b
 | .str s=>.str s
 | .arr es=>.arr es
 | .vptr es k o=>.vptr es k o
 | .mp ks m=>.mp ks m
 | .val u=>.val u
def G1 (ob:Nat→Ob) (sel:List Nat):List SV→List SV
 | []=>[]
 | x :: r=>Cp ob sel x :: G1 ob sel r
end
mutual
def Bl (sel:List Nat):SV→List Nat
 | .ref g=>match FR sel g with
  | some _=>[]
  | none=>[g]
 | .agg l=>Bs sel l
 | .tup l=>Bs sel l
 | .fn _ l=>Bs sel l
 | _=>[]
def Bs (sel:List Nat):List SV→List Nat
 | []=>[]
 | x :: r=>Bl sel x++Bs sel r
end
section
variable {w:World} {I J:Nat→Prop} {V:Nat→Option Value} {B:Nat→Nat→Prop} {ob:Nat→Ob} {sel:List Nat} {p:Nat}
theorem Hp {m:List Nat} {g i:Nat} (h:FR m g=some i):sgp m p i=g:=by rw [Du,Ho h]
theorem Jy (T:Nat→Prop):DRep false w T (.arr []) (.slice none 0 0):=.arr _ 0 [] none 0 (fun _ _=>undef) (fun _ _ _=>False) (zH _) (by omega) (.inl rfl) (fun i h=>absurd h (by simp)) (fun _ _ _ h=>h.elim) (fun e=>by cases e) (fun i j h=>absurd h (by simp))
variable {Vc:Nat→Option Value}
mutual
theorem Hq (hwf:Wf w I V B ob) (hI:∀ b,I b→J b) (hVc:∀ g i,FR sel g=some i→Vc i=V g):∀ (x:SV) (v:Value),(∀ g b,g∈Bl sel x→(ob g).live→B g b→J b)→RepV w I V x v→RepV w J Vc (Cp ob sel x) v
 | .any,v,_,_=>by simp [Cp,RepV]
 | .eptr _ _ _ _,v,_,_=>by simp [Cp,RepV]
 | .int k n,v,_,h=>by simpa [Cp,RepV] using h
 | .bool b,v,_,h=>by simpa [Cp,RepV] using h
 | .str s,v,_,h=>by simpa [Cp,RepV] using h
 | .nil,v,_,h=>by
  simp only [RepV] at h
  subst h
  simp only [Cp,RepV]
  exact Jy _
 | .arr es,v,_,h=>by
  simp only [Cp,RepV] at h ⊢
  exact h.up hI
 | .mp ks m,v,_,h=>by
  simp only [Cp,RepV] at h ⊢
  exact h.mono (KeepS.refl _ _) hI
 | .val u,v,_,h=>by simpa [Cp,RepV] using h
 | .vptr es k o,v,_,h=>by
  simp only [Cp,RepV] at h ⊢
  obtain ⟨b,off,c,h1,h2⟩:=h
  exact ⟨b,off,c,h1.up hI,h2⟩
 | .ref g,v,hU,h=>by
  simp only [Cp]
  simp only [Bl] at hU
  split
  ·rename_i i hi
   simp only [RepV] at h ⊢
   rw [hVc _ _ hi]; exact h
  ·rename_i hi
   split
   ·rename_i t sz es hob
    rw [hi] at hU
    cases hf:OT.Aq es with
    | false=>simp [RepV]
    | true =>
     obtain ⟨val,h1,h2⟩:=hwf.obj g (by rw [hob]; trivial)
     rw [hob] at h2
     simp only [RepV,cond_true] at h ⊢
     rw [h1] at h
     obtain rfl:=zA h.1
     exact RowR.er h2 (fun b hb=>hU g b (by simp) (by rw [hob]; trivial) hb) hI hf
   ·rename_i es hs hob
    rw [hi] at hU
    cases hf:OT.Aq es with
    | false=>simp [RepV]
    | true =>
     obtain ⟨val,h1,h2⟩:=hwf.obj g (by rw [hob]; trivial)
     rw [hob] at h2
     simp only [RepV,cond_true] at h ⊢
     rw [h1] at h
     obtain rfl:=zA h.1
     obtain ⟨t,sz,h3,_⟩:=h2
     exact RowR.er h3 (fun b hb=>hU g b (by simp) (by rw [hob]; trivial) hb) hI hf
   ·rename_i ks m hob
    rw [hi] at hU
    obtain ⟨val,h1,h2⟩:=hwf.obj g (by rw [hob]; trivial)
    rw [hob] at h2
    simp only [RepV] at h ⊢
    rw [h1] at h
    obtain rfl:=zA h.1
    exact MapO.give h2 (fun b hb=>hU g b (by simp) (by rw [hob]; trivial) hb) hI
   ·simp [RepV]
 | .ptr g o,v,_,h=>by
  simp only [Cp]
  split
  ·rename_i i hi
   simp only [RepV] at h ⊢
   rw [hVc _ _ hi]; exact h
  ·simp [RepV]
 | .agg l,v,hU,h=>by
  simp only [Cp,RepV] at h ⊢
  obtain ⟨vs,e,h⟩:=h
  exact ⟨vs,e,FS hwf hI hVc l vs (by simpa only [Bl] using hU) h⟩
 | .tup l,v,hU,h=>by
  simp only [Cp,RepV] at h ⊢
  obtain ⟨vs,e,h⟩:=h
  exact ⟨vs,e,FS hwf hI hVc l vs (by simpa only [Bl] using hU) h⟩
 | .fn f l,v,hU,h=>by
  simp only [Cp,RepV] at h ⊢
  obtain ⟨vs,e,h⟩:=h
  exact ⟨vs,e,FS hwf hI hVc l vs (by simpa only [Bl] using hU) h⟩
theorem FS (hwf:Wf w I V B ob) (hI:∀ b,I b→J b) (hVc:∀ g i,FR sel g=some i→Vc i=V g):∀ (l:List SV) (vs:List Value),(∀ g b,g∈Bs sel l→(ob g).live→B g b→J b)→RepVs w I V l vs→RepVs w J Vc (G1 ob sel l) vs
 | [],vs,_,h=>by simpa [G1,RepVs] using h
 | x :: r,vs,hU,h=>by
  simp only [G1,RepVs] at h ⊢
  obtain ⟨v,q,e,h1,h2⟩:=h
  exact ⟨v,q,e,Hq hwf hI hVc x v (fun g b hg hl hb=>hU g b (by simp only [Bs,zK]; exact .inl hg) hl hb) h1,FS hwf hI hVc r q (fun g b hg hl hb=>hU g b (by simp only [Bs,zK]; exact .inr hg) hl hb) h2⟩
end
mutual
theorem QE:∀ (x:SV) (g:Nat),g∈Bl sel x→FR sel g=none
 | .ref g0,g,h=>by
  simp only [Bl] at h
  split at h
  ·cases h
  ·rename_i hp; rw [zT.1 h]; exact hp
 | .agg l,g,h=>EC l g (by simpa only [Bl] using h)
 | .tup l,g,h=>EC l g (by simpa only [Bl] using h)
 | .fn f l,g,h=>EC l g (by simpa only [Bl] using h)
 | .any,g,h=>by simp [Bl] at h
 | .eptr _ _ _ _,g,h=>by simp [Bl] at h
 | .int k n,g,h=>by simp [Bl] at h
 | .bool b,g,h=>by simp [Bl] at h
 | .str s,g,h=>by simp [Bl] at h
 | .nil,g,h=>by simp [Bl] at h
 | .arr es,g,h=>by simp [Bl] at h
 | .vptr es k o,g,h=>by simp [Bl] at h
 | .mp ks m,g,h=>by simp [Bl] at h
 | .val u,g,h=>by simp [Bl] at h
 | .ptr _ _,g,h=>by simp [Bl] at h
theorem EC:∀ (l:List SV) (g:Nat),g∈Bs sel l→FR sel g=none
 | [],g,h=>by simp [Bs] at h
 | x :: r,g,h=>by
  simp only [Bs,zK] at h
  rcases h with h | h
  ·exact QE x g h
  ·exact EC r g h
end
mutual
theorem Jz {ob':Nat→Ob}:∀ (x:SV),(∀ g,g∈Bl sel x→ob' g=ob g)→Cp ob' sel x=Cp ob sel x
 | .any,_=>rfl
 | .eptr _ _ _ _,_=>rfl
 | .int k n,_=>rfl
 | .bool b,_=>rfl
 | .str s,_=>rfl
 | .nil,_=>rfl
 | .arr es,_=>rfl
 | .mp ks m,_=>rfl
 | .val u,_=>rfl
 | .vptr es k o,_=>rfl
 | .ptr g o,_=>rfl
 | .ref g,h=>by
  simp only [Cp]
  simp only [Bl] at h
  split
  ·rfl
  ·rename_i hi
   rw [hi] at h
   rw [h g (by simp)]
 | .agg l,h=>by simp only [Cp]; rw [Em l h]
 | .tup l,h=>by simp only [Cp]; rw [Em l h]
 | .fn f l,h=>by simp only [Cp]; rw [Em l h]
theorem Em {ob':Nat→Ob}:∀ (l:List SV),(∀ g,g∈Bs sel l→ob' g=ob g)→G1 ob' sel l=G1 ob sel l
 | [],_=>rfl
 | x :: r,h=>by
  simp only [G1]
  rw [Jz x (fun g hg=>h g (by simp only [Bs,zK]; exact .inl hg)),Em r (fun g hg=>h g (by simp only [Bs,zK]; exact .inr hg))]
end
def SV.isNil:SV→Bool
 | .nil=>true
 | .any=>false
 | .int _ _=>false
 | .bool _=>false
 | .str _=>false
 | .arr _=>false
 | .agg _=>false
 | .tup _=>false
 | .ref _=>false
 | .ptr _ _=>false
 | .eptr _ _ _ _=>false
 | .vptr _ _ _=>false
 | .fn _ _=>false
 | .mp _ _=>false
 | .val _=>false
def NM (b:Bool) (ob:Nat→Ob) (sel:List Nat) (x:SV):SV:=bif b&&x.isNil then .nil else Cp ob sel x
def Fs:List Bool→(Nat→Ob)→List Nat→List SV→List SV
 | [],ob,sel,xs=>G1 ob sel xs
 | _ :: _,_,_,[]=>[]
 | b :: h,ob,sel,x :: r=>NM b ob sel x :: Fs h ob sel r
theorem QF (hwf:Wf w I V B ob) (hI:∀ b,I b→J b) (hVc:∀ g i,FR sel g=some i→Vc i=V g) (b:Bool) (x:SV) (v:Value) (hU:∀ g b,g∈Bl sel x→(ob g).live→B g b→J b) (h:RepV w I V x v):RepV w J Vc (NM b ob sel x) v:=by
 unfold NM
 cases hb:b&&x.isNil with
 | false=>exact Hq hwf hI hVc x v hU h
 | true =>
  rw [cond_true]
  rw [zD] at hb
  cases x with
  | nil=>simpa only [RepV] using h
  | _=>cases hb.2
theorem IS (hwf:Wf w I V B ob) (hI:∀ b,I b→J b) (hVc:∀ g i,FR sel g=some i→Vc i=V g):∀ (hd:List Bool) (l:List SV) (vs:List Value),(∀ g b,g∈Bs sel l→(ob g).live→B g b→J b)→RepVs w I V l vs→RepVs w J Vc (Fs hd ob sel l) vs
 | [],l,vs,hU,h=>FS hwf hI hVc l vs hU h
 | b :: hd,[],vs,_,h=>by simpa [Fs,RepVs] using h
 | b :: hd,x :: r,vs,hU,h=>by
  simp only [Fs,RepVs] at h ⊢
  obtain ⟨v,q,e,h1,h2⟩:=h
  exact ⟨v,q,e,QF hwf hI hVc b x v (fun g b hg hl hb=>hU g b (by simp only [Bs,zK]; exact .inl hg) hl hb) h1,IS hwf hI hVc hd r q (fun g b hg hl hb=>hU g b (by simp only [Bs,zK]; exact .inr hg) hl hb) h2⟩
theorem GD {ob':Nat→Ob}:∀ (hd:List Bool) (l:List SV),(∀ g,g∈Bs sel l→ob' g=ob g)→Fs hd ob' sel l=Fs hd ob sel l
 | [],l,h=>Em l h
 | b :: hd,[],_=>rfl
 | b :: hd,x :: r,h=>by
  simp only [Fs,NM]
  rw [Jz x (fun g hg=>h g (by simp only [Bs,zK]; exact .inl hg)),GD hd r (fun g hg=>h g (by simp only [Bs,zK]; exact .inr hg))]
end
mutual
def SV.idsB (n:Nat):SV→Bool
 | .ref g=>decide (g < n)
 | .ptr g _=>decide (g < n)
 | .eptr g _ _ _=>decide (g < n)
 | .agg l=>SV.J0 n l
 | .tup l=>SV.J0 n l
 | .fn _ l=>SV.J0 n l
 | _=>true
def SV.J0 (n:Nat):List SV→Bool
 | []=>true
 | x :: r=>SV.idsB n x&&SV.J0 n r
end
def Ob.idsB (n:Nat):Ob→Bool
 | .box _ l=>SV.J0 n l
 | .tree _ hs=>hs.all fun h=>decide (h.2.2 < n)
 | _=>true
section
variable {w:World} {I:Nat→Prop} {V V':Nat→Option Value} {n:Nat}
mutual
theorem RepV.idsB (hV:∀ g,g<n→V' g=V g):∀ (x:SV) (v:Value),x.idsB n=true→RepV w I V x v→RepV w I V' x v
 | .any,v,_,_=>by simp [RepV]
 | .int k m,v,_,h=>by simpa [RepV] using h
 | .bool b,v,_,h=>by simpa [RepV] using h
 | .str s,v,_,h=>by simpa [RepV] using h
 | .nil,v,_,h=>by simpa [RepV] using h
 | .arr es,v,_,h=>by simpa [RepV] using h
 | .vptr es k o,v,_,h=>by simpa [RepV] using h
 | .mp ks m,v,_,h=>by simpa [RepV] using h
 | .val u,v,_,h=>by simpa [RepV] using h
 | .ref g,v,hn,h=>by
  simp only [SV.idsB,decide_eq_true_eq] at hn
  simp only [RepV] at h ⊢
  rw [hV g hn]; exact h
 | .ptr g o,v,hn,h=>by
  simp only [SV.idsB,decide_eq_true_eq] at hn
  simp only [RepV] at h ⊢
  rw [hV g hn]; exact h
 | .eptr g sz k o,v,hn,h=>by
  simp only [SV.idsB,decide_eq_true_eq] at hn
  simp only [RepV] at h ⊢
  rw [hV g hn]; exact h
 | .agg l,v,hn,h=>by
  simp only [RepV] at h ⊢
  obtain ⟨vs,e,h⟩:=h
  exact ⟨vs,e,RepVs.idsB hV l vs (by simpa [SV.idsB] using hn) h⟩
 | .tup l,v,hn,h=>by
  simp only [RepV] at h ⊢
  obtain ⟨vs,e,h⟩:=h
  exact ⟨vs,e,RepVs.idsB hV l vs (by simpa [SV.idsB] using hn) h⟩
 | .fn f l,v,hn,h=>by
  simp only [RepV] at h ⊢
  obtain ⟨vs,e,h⟩:=h
  exact ⟨vs,e,RepVs.idsB hV l vs (by simpa [SV.idsB] using hn) h⟩
theorem RepVs.idsB (hV:∀ g,g<n→V' g=V g):∀ (l:List SV) (vs:List Value),SV.J0 n l=true→RepVs w I V l vs→RepVs w I V' l vs
 | [],vs,_,h=>by simpa [RepVs] using h
 | x :: r,vs,hn,h=>by
  simp only [SV.J0,zD] at hn
  simp only [RepVs] at h ⊢
  obtain ⟨v,q,e,h1,h2⟩:=h
  exact ⟨v,q,e,RepV.idsB hV x v hn.1 h1,RepVs.idsB hV r q hn.2 h2⟩
end
theorem ObR.idsB {S:Nat→Prop} {val:Value} {o:Ob} (hV:∀ g,g<n→V' g=V g) (hn:o.idsB n=true) (h:ObR w I V S val o):ObR w I V' S val o:=by
 cases o with
 | free=>trivial
 | mp ks m=>exact h
 | it ks m seen cur=>exact h
 | shd es=>exact h
 | hist t sz es us=>exact h
 | gone=>trivial
 | row t sz es=>exact h
 | tree es hs =>
  obtain ⟨t,sz,h1,h2⟩:=h
  refine ⟨t,sz,h1,fun q hq=>?_⟩
  obtain ⟨g1,g2,b,c,v,e,g3,g4,g5⟩:=h2 q hq
  have hb:q.2.2<n:=of_decide_eq_true (zM.1 hn q hq)
  exact ⟨g1,g2,b,c,v,e,g3,by rw [hV _ hb]; exact g4,g5⟩
 | box t l =>
  obtain ⟨b,vs,h1,h2,h3,h4⟩:=h
  exact ⟨b,vs,h1,h2,h3,RepVs.idsB hV l vs hn h4⟩
end
def mkU (σ:Nat→Nat):Nat→List Ob→List (Nat × Ob)
 | _,[]=>[]
 | k,o :: r=>(σ k,o.ren σ) :: mkU σ (k+1) r
def Mc (ob:Nat→Ob) (σ:Nat→Nat):Nat→List Ob→Prop
 | _,[]=>True
 | k,o :: r=>ob (σ k)=o.ren σ∧Mc ob σ (k+1) r
theorem HO {ob:Nat→Ob} {σ:Nat→Nat}:∀ {l:List Ob} {k j:Nat},Mc ob σ k l→j<l.length→ob (σ (k+j))=(Ad l j).ren σ
 | [],k,j,_,h=>absurd h (by simp)
 | o :: r,k,0,h,_=>h.1
 | o :: r,k,j+1,h,hj=>by
  have:=HO (j:=j) h.2 (by simpa using hj)
  rwa [show k+1+j=k+(j+1) by omega] at this
theorem It:∀ {l:List Ob} {j:Nat},j<l.length→Ad l j∈l
 | [],j,h=>absurd h (by simp)
 | o :: r,0,_=>by simp [Ad]
 | o :: r,j+1,h=>by simp only [Ad,zO]; exact .inr (It (by simpa using h))
theorem MU {σ:Nat→Nat}:∀ {l:List Ob} {k g:Nat},g∈(mkU σ k l).map (·.1) ↔ ∃ j,j<l.length∧σ (k+j)=g
 | [],k,g=>by simp [mkU]
 | o :: r,k,g=>by
  simp only [mkU,zN,zO]
  rw [MU]
  constructor
  ·rintro (h | ⟨j,h1,h2⟩)
   ·exact ⟨0,by simp,h.symm⟩
   ·exact ⟨j+1,by simp; omega,by rw [←h2]; congr 1; omega⟩
  ·rintro ⟨j,h1,h2⟩
   cases j with
   | zero=>exact .inl h2.symm
   | succ j=>exact .inr ⟨j,by simp at h1; omega,by rw [←h2]; congr 1; omega⟩
theorem K3 {σ:Nat→Nat}:∀ {l:List Ob} {k j:Nat},(∀ i i',k≤i→i<k+l.length→k≤i'→i' < k+l.length→σ i=σ i'→i=i')→j<l.length→AE (mkU σ k l) (σ (k+j))=some ((Ad l j).ren σ)
 | [],k,j,_,h=>absurd h (by simp)
 | o :: r,k,0,_,_=>by simp [mkU,AE,Ad]
 | o :: r,k,j+1,hi,hj=>by
  simp only [mkU,AE]
  simp only [zL] at hi hj
  rw [if_neg (fun e=>by have:=hi k (k+(j+1)) (zH _) (by omega) (by omega) (by omega) e; omega)]
  have:=K3 (l:=r) (k:=k+1) (j:=j) (fun i i' h1 h2 h3 h4 e=>hi i i' (by omega) (by omega) (by omega) (by omega) e) (by omega)
  rwa [show k+1+j=k+(j+1) by omega] at this
def K4 (ob:Nat→Ob) (p:Nat):Prop:=∀ g,p≤g→ob g=.free
theorem Gh:∀ {m:List Nat} {g i:Nat},m.Nodup→m[i]?=some g→FR m g=some i
 | [],g,i,_,h=>by simp at h
 | x :: r,g,i,hn,h=>by
  rw [yO] at hn
  simp only [FR]
  cases i with
  | zero=>simp only [zX,zB] at h; rw [if_pos h]
  | succ i =>
   simp only [zY] at h
   have hne:¬ x=g:=fun e=>hn.1 (e▸zU h)
   rw [if_neg hne,Gh hn.2 h]; rfl
theorem CallP.of {P:Program} {f:FuncId} {cas:List SV} {fob:List Ob} {r:SV} {fob':List Ob} (h:Fun P f cas fob r fob') {xs:List SV} {ob:Nat→Ob} {p:Nat} {K:Kont} (sel:List Nat)
  (hargs:∃ hd,Fs hd ob sel xs=cas) (hsel:sel.length=fob.length∧sel.Nodup) (hlt:∀ g,g∈sel→g<p) (hlen:fob.length≤fob'.length) (hob:Mc ob (sgp sel p) 0 fob) (hids:∀ o,o∈fob→o.idsB fob.length=true) (hfree:K4 ob p)
  (hsh:Bs sel xs=[]∨(r.noSh=true∧∀ o,o∈fob'→o.noSh=true)) (hK:K (r.ren (sgp sel p)) (mkU (sgp sel p) 0 fob') (Bs sel xs++sel)):CallP P f xs ob p K:=by
 refine ⟨_,_,_,hK,fun ob' hrd hup w I V B vs hwf hxs=>?_⟩
 obtain ⟨hsl,hsn⟩:=hsel
 have hs1:∀ k,k<fob.length→∃ g,sel[k]?=some g∧sgp sel p k=g∧g<p:=fun k hk=>by
  have:k<sel.length:=by omega
  refine ⟨sel[k],zG this,by rw [Du,zG this],hlt _ (zR this)⟩
 have hs2:∀ k,fob.length≤k→sgp sel p k=p+(k-fob.length):=fun k hk=>by
  rw [Du,z8 (by omega),hsl]
 have hinj:∀ i j,sgp sel p i=sgp sel p j→i=j:=fun i j e=>by
  rcases zF i fob.length with h1 | h1 <;> rcases zF j fob.length with h2 | h2
  ·obtain ⟨g,g1,g2,g3⟩:=hs1 i h1
   obtain ⟨g',g1',g2',g3'⟩:=hs1 j h2
   have e2:g=g':=by rw [←g2,← g2',e]
   subst e2
   have a1:=Gh hsn g1
   have a2:=Gh hsn g1'
   rw [a1] at a2
   exact zA a2
  ·obtain ⟨g,g1,g2,g3⟩:=hs1 i h1
   have:=hs2 j h2
   omega
  ·obtain ⟨g,g1,g2,g3⟩:=hs1 j h2
   have:=hs2 i h1
   omega
  ·have:=hs2 i h1
   have:=hs2 j h2
   omega
 have htouch:∀ g,Ao (mkU (sgp sel p) 0 fob') g ↔ ∃ k,k<fob'.length∧sgp sel p k=g:=fun g=>by
  unfold Ao
  rw [MU]
  simp
 have hlook:∀ k,k<fob'.length→A1 ob' (mkU (sgp sel p) 0 fob') (sgp sel p k)=(Ad fob' k).ren (sgp sel p):=fun k hk=>by
  have:=K3 (σ:=sgp sel p) (l:=fob') (k:=0) (j:=k) (fun i i' _ _ _ _ e=>hinj i i' e) hk
  rw [zP] at this
  unfold A1
  rw [this]; rfl
 have hobk:∀ k,k<fob.length→ob' (sgp sel p k)=(Ad fob k).ren (sgp sel p):=fun k hk=>by
  have:=HO hob hk
  rw [zP] at this
  obtain ⟨g,g1,g2,g3⟩:=hs1 k hk
  rw [←this,g2]
  exact hrd g (z7 _ (zU g1))
 have hnew:∀ k,fob.length≤k→k<fob'.length→ob' (sgp sel p k)=.free:=fun k h1 h2=>by
  rw [hup _ ((htouch _).2 ⟨k,h2,rfl⟩)]
  exact hfree _ (by rw [hs2 k h1]; omega)
 have hlv:∀ k,(Ad fob k).live→k<fob.length:=fun k hl=>by
  rcases zF k fob.length with h1 | h1
  ·exact h1
  ·rw [AF _ _ h1] at hl; exact hl.elim
 have hlv':∀ k,(Ad fob' k).live→k<fob'.length:=fun k hl=>by
  rcases zF k fob'.length with h1 | h1
  ·exact h1
  ·rw [AF _ _ h1] at hl; exact hl.elim
 have hlvo:∀ k,(Ad fob k).live→(ob' (sgp sel p k)).live:=fun k hl=>by
  rw [hobk k (hlv k hl)]
  exact (Ob.Is _).2 hl
 have hlent:∀ g,g∈Bs sel xs→ob' g=ob g:=fun g hg=>hrd g (List.mem_append_left _ hg)
 let Vc:Nat→Option Value:=fun k=>if k<fob.length then V (sgp sel p k) else none
 let Bc:Nat→Nat→Prop:=fun k=>B (sgp sel p k)
 let J:Nat→Prop:=fun b=>I b∨∃ g,g∈Bs sel xs∧(ob' g).live∧B g b
 have notsel:∀ g,g∈Bs sel xs→∀ k,k<fob.length→sgp sel p k≠g:=by
  intro g hg k hk e
  have h1:=EC xs g hg
  obtain ⟨g',g1,g2,_⟩:=hs1 k hk
  rw [g2] at e
  subst e
  rw [Gh hsn g1] at h1
  cases h1
 have hIJ:∀ b,I b→J b:=fun b hb=>.inl hb
 have hwfc:Wf w J Vc Bc (Ad fob):=by
  refine ⟨fun b hb=>?_,fun k hl=>?_,fun k b hl hb=>hwf.lt _ b (hlvo k hl) hb,fun k b hl hb hJ=>?_,fun k k' b hl hl' hb hb'=>hinj _ _ (hwf.dO _ _ b (hlvo k hl) (hlvo k' hl') hb hb'),fun k hf=>?_,hwf.gl.keep (KeepS.refl _ _) hIJ⟩
  ·rcases hb with hb | ⟨g,_,hl,hb⟩
   ·exact hwf.ilt b hb
   ·exact hwf.lt g b hl hb
  ·have hk:=hlv k hl
   obtain ⟨val,h1,h2⟩:=hwf.obj _ (hlvo k hl)
   refine ⟨val,by simp only [Vc,hk,if_true]; exact h1,?_⟩
   rw [hobk k hk] at h2
   have h3:=(ObR.ren _).1 h2
   have h4:=ObR.idsB (n:=fob.length) (V':=Vc) (fun g hg=>by simp only [Vc,hg,if_true]) (hids _ (It hk)) h3
   exact h4.keep ⟨zH _,fun _ _ _=>rfl⟩ hIJ (VLe.refl _) fun _ _ _=>rfl
  ·rcases hJ with hJ | ⟨g,hg,hlg,hgb⟩
   ·exact hwf.dI _ b (hlvo k hl) hb hJ
   ·exact notsel g hg k (hlv k hl) (hwf.dO _ _ b (hlvo k hl) hlg hb hgb)
  ·by_cases hk:k<fob.length
   ·simp only [Vc,hk,if_true]
    refine hwf.fr _ ?_
    rw [hobk k hk,hf]; rfl
   ·simp only [Vc,hk,if_false]
 have hargs':RepVs w J Vc cas vs:=by
  obtain ⟨hd,hargs⟩:=hargs
  rw [←hargs,← GD (ob:=ob) (ob':=ob') hd xs hlent]
  refine IS hwf hIJ (fun g i hi=>?_) hd xs vs (fun g b hg hl hb=>.inr ⟨g,hg,hl,hb⟩) hxs
  have hlt':i<fob.length:=by rw [←hsl]; exact (yI.1 (Ho hi)).1
  simp only [Vc,hlt',if_true,Hp hi]
 refine (h w J Vc Bc vs hwfc hargs').mono ?_
 rintro e w' ⟨v,I',V',B',rfl,hr,hpost⟩
 obtain ⟨hfr,hi0,hi1,hv,hwf',hbh⟩:=hpost
 have hHB:∀ b,HB Bc fob b→∃ g,Ao (mkU (sgp sel p) 0 fob') g∧(ob' g).live∧B g b:=fun b ⟨k,hl,hb⟩=>⟨sgp sel p k,(htouch _).2 ⟨k,by have:=hlv k hl; omega,rfl⟩,hlvo k hl,hb⟩
 classical
 let V2:Nat→Option Value:=fun g=>if hg:∃ k,k<fob'.length∧sgp sel p k=g then V' (Classical.choose hg) else V g
 let B2:Nat→Nat→Prop:=fun g=>if hg:∃ k,k<fob'.length∧sgp sel p k=g then B' (Classical.choose hg) else B g
 let I2:Nat→Prop:=fun b=>I b∨(I' b∧¬ ∃ g,g∈Bs sel xs∧(ob' g).live∧B g b)
 have hV2:∀ k,k<fob'.length→V2 (sgp sel p k)=V' k:=fun k hk=>by
  have hg:∃ k',k' < fob'.length∧sgp sel p k'=sgp sel p k:=⟨k,hk,rfl⟩
  have:V2 (sgp sel p k)=V' (Classical.choose hg):=dif_pos hg
  rw [this,hinj _ _ (Classical.choose_spec hg).2]
 have hB2:∀ k,k<fob'.length→B2 (sgp sel p k)=B' k:=fun k hk=>by
  have hg:∃ k',k' < fob'.length∧sgp sel p k'=sgp sel p k:=⟨k,hk,rfl⟩
  have:B2 (sgp sel p k)=B' (Classical.choose hg):=dif_pos hg
  rw [this,hinj _ _ (Classical.choose_spec hg).2]
 have hV2n:∀ g,¬ Ao (mkU (sgp sel p) 0 fob') g→V2 g=V g:=fun g hg=>dif_neg fun h=>hg ((htouch g).2 h)
 have hB2n:∀ g,¬ Ao (mkU (sgp sel p) 0 fob') g→B2 g=B g:=fun g hg=>dif_neg fun h=>hg ((htouch g).2 h)
 have hI2':∀ b,I2 b→I' b:=fun b hb=>by
  rcases hb with hb | hb
  ·exact hi0 b (hIJ b hb)
  ·exact hb.1
 have hVV:VLe V V2:=fun g u hu=>by
  by_cases hg:Ao (mkU (sgp sel p) 0 fob') g
  ·obtain ⟨k,hk,rfl⟩:=(htouch g).1 hg
   rw [hV2 k hk]
   by_cases h1:k<fob.length
   ·exact hv k u (by simp only [Vc,h1,if_true]; exact hu)
   ·rw [hwf.fr _ (hnew k (by omega) hk)] at hu; cases hu
  ·rw [hV2n g hg]; exact hu
 have hV'σ:VLe V' (fun k=>V2 (sgp sel p k)):=fun k u hu=>by
  rcases zF k fob'.length with h1 | h1
  ·simp only [hV2 k h1]; exact hu
  ·rw [hwf'.fr k (AF _ _ h1)] at hu; cases hu
 have kr:KeepS I' w' w':=⟨zH _,fun _ _ _=>rfl⟩
 have kr2:KeepS I2 w' w':=⟨zH _,fun _ _ _=>rfl⟩
 have hmove:∀ {b},I' b→Bs sel xs=[]→I2 b:=fun {b} hb hn=>.inr ⟨hb,fun ⟨g,hg,_⟩=>by rw [hn] at hg; cases hg⟩
 have hres:RepV w' I2 V2 (r.ren (sgp sel p)) v:=by
  refine (RepV.ren r v).2 ?_
  rcases hsh with hn | ⟨hn,_⟩
  ·exact RepV.mono kr (fun b hb=>hmove hb hn) hV'σ _ _ hr
  ·exact RepV.mono kr2 (fun _ h=>h) hV'σ _ _ (RepV.noSh (I:=I') (I':=I2) r v hn hr)
 have hobr:∀ k,(Ad fob' k).live→∃ val,V2 (sgp sel p k)=some val∧ObR w' I2 V2 (B2 (sgp sel p k)) val ((Ad fob' k).ren (sgp sel p)):=fun k hl=>by
  have hk:=hlv' k hl
  obtain ⟨val,h1,h2⟩:=hwf'.obj k hl
  refine ⟨val,by rw [hV2 k hk]; exact h1,(ObR.ren _).2 ?_⟩
  rw [hB2 k hk]
  rcases hsh with hn | ⟨_,hn⟩
  ·exact h2.keep kr (fun b hb=>hmove hb hn) hV'σ fun _ _ _=>rfl
  ·exact (ObR.noSh (I':=I2) h2 (hn _ (It hk))).keep kr2 (fun _ h=>h) hV'σ fun _ _ _=>rfl
 have hi2:∀ b,I2 b→I b∨w.heap.size≤b∨∃ g,Ao (mkU (sgp sel p) 0 fob') g∧(ob' g).live∧B g b:=fun b hb=>by
  rcases hb with hb | ⟨hb,hno⟩
  ·exact .inl hb
  ·rcases hi1 b hb with h1 | h1 | h1
   ·rcases h1 with h1 | h1
    ·exact .inl h1
    ·exact (hno h1).elim
   ·exact .inr (.inl h1)
   ·exact .inr (.inr (hHB b h1))
 have hkeep:∀ b,b<w.heap.size→(∀ g,Ao (mkU (sgp sel p) 0 fob') g→(ob' g).live→¬ B g b)→w'.heap[b]?=w.heap[b]?:=fun b hb hno=>hfr.block b hb fun hH=>by
  obtain ⟨g,h1,h2,h3⟩:=hHB b hH
  exact hno g h1 h2 h3
 have live2:∀ k,k<fob'.length→(A1 ob' (mkU (sgp sel p) 0 fob') (sgp sel p k)).live→(Ad fob' k).live:=fun k hk hl=>by
  rw [hlook k hk] at hl
  exact (Ob.Is _).1 hl
 have hbf:∀ k b,(Ad fob' k).live→B' k b→(w.heap.size≤b∧b<w'.heap.size)∨∃ g0,Ao (mkU (sgp sel p) 0 fob') g0∧(ob' g0).live∧B g0 b:=fun k b hl hb=>by
  rcases hbh k b hl hb with h1 | h1
  ·exact .inr (hHB b h1)
  ·exact .inl ⟨h1,hwf'.lt k b hl hb⟩
 have hwf2:Wf w' I2 V2 B2 (A1 ob' (mkU (sgp sel p) 0 fob')):=by
  refine hwf.upd (Ao (mkU (sgp sel p) 0 fob')) hfr.size hkeep (fun b hb=>.inl hb) hVV (fun g hg=>⟨FL hg,hB2n g hg,fun hf=>by rw [hV2n g hg]; exact hwf.fr g hf⟩) hi2 (fun b hb=>hwf'.ilt b (hI2' b hb)) (fun g hg hl=>?_) (fun g b hg hl hb=>?_) (fun g b hg hl hb hI=>?_) (fun g g' b hg hg' hl hl' hb hb'=>?_) (fun g hg hf=>?_)
  ·obtain ⟨k,hk,rfl⟩:=(htouch g).1 hg
   rw [hlook k hk]
   exact hobr k (live2 k hk hl)
  ·obtain ⟨k,hk,rfl⟩:=(htouch g).1 hg
   rw [hB2 k hk] at hb
   exact hbf k b (live2 k hk hl) hb
  ·obtain ⟨k,hk,rfl⟩:=(htouch g).1 hg
   rw [hB2 k hk] at hb
   exact hwf'.dI k b (live2 k hk hl) hb (hI2' b hI)
  ·obtain ⟨k,hk,rfl⟩:=(htouch g).1 hg
   obtain ⟨k',hk',rfl⟩:=(htouch g').1 hg'
   rw [hB2 k hk] at hb
   rw [hB2 k' hk'] at hb'
   rw [hwf'.dO k k' b (live2 k hk hl) (live2 k' hk' hl') hb hb']
  ·obtain ⟨k,hk,rfl⟩:=(htouch g).1 hg
   rw [hV2 k hk]
   rw [hlook k hk] at hf
   refine hwf'.fr k ?_
   cases hq:Ad fob' k <;> rw [hq] at hf <;> simp [Ob.ren] at hf ⊢
 refine ⟨v,I2,V2,B2,rfl,hres,⟨hwf2,hfr.os,hfr.tape,hfr.output,hfr.size,hkeep,fun b hb=>.inl hb,hi2,hVV,fun g hg=>hB2n g hg,fun g b hg hl hb=>?_⟩⟩
 obtain ⟨k,hk,rfl⟩:=(htouch g).1 hg
 rw [hB2 k hk] at hb
 exact (hbf k b (live2 k hk hl) hb).imp (fun h=>h.1) id
inductive RX where
 |tmp (t:Nat)
 |cell (a:Nat) (agg:Bool) (n:Nat)
def K5 (P:Program) (nt:Nat):ResultVar→Option RX
 | .tmp t=>some (.tmp t)
 | .cell a t=>match G7 P t,P.info? t with
  | some g,some i=>if g || i.size == 1 then some (.cell a g i.size) else none
  | _,_=>none
def rxV (st:St):RX→Option SV
 | .tmp t=>some (gets st.sl t)
 | .cell a agg n=>match gets st.sl a with
  | .ptr g o=>match Ad st.ob g with
   | .box _ l=>if o+n≤l.length then some (if agg then .agg ((l.drop o).take n) else l.getD o .any) else none
   | _=>none
  | _=>none
def OX (st:St):List RX→Option (List SV)
 | []=>some []
 | x :: r=>match rxV st x,OX st r with
  | some v,some vs=>some (v :: vs)
  | _,_=>none
def HP (st:St) (rs:List RX):Option SV :=
 match OX st rs with
 | some [x]=>some x
 | some xs=>some (.tup xs)
 | none=>none
section
variable {P:Program} {c:Ctx}
def TO (tmps:Array Value):ResultVar→Sem Value
 | .tmp t=>pure (tmps.getD t undef)
 | .cell q t=>do loadVar t (← asAddr (tmps.getD q undef))
theorem OY (fn:Func) (tmps:Array Value):results fn tmps=(fn.results.mapM (TO tmps) >>= fun vs=>pure (if h:vs.size=1 then vs[0] else .tuple vs)):=by
 unfold results
 congr 1
theorem TP {a:Act} {w:World} {I:Nat→Prop} {V:Nat→Option Value} {B:Nat→Nat→Prop} {st:St} {rv:ResultVar} {rx:RX} {x:SV} (hr:RepI c I V B st.f a w) (hx:K5 P c.nt rv=some rx) (hv:rxV st rx=some x) :
  ∃ v,(TO a.tmps rv).run P w=.ok v w∧RepV w I V x v:=by
 cases rv with
 | tmp t =>
  simp only [K5,zB] at hx
  subst hx
  simp only [rxV,zB] at hv
  subst hv
  exact ⟨_,rfl,hr.slots t⟩
 | cell q t =>
  simp only [K5] at hx
  split at hx
  ·rename_i g i hg hi
   split at hx
   ·rename_i h1
    obtain rfl:=zA hx
    simp only [rxV] at hv
    split at hv
    ·rename_i g0 off he
     split at hv
     ·rename_i t0 l hob
      split at hv
      ·rename_i hn
       obtain rfl:=zA hv
       have hp:=hr.slots q
       have he':st.f.sl q=.ptr g0 off:=he
       rw [he'] at hp
       obtain ⟨b,vs,h2,h3,h4,h5,h6⟩:=OR hr (show st.f.ob g0=.box t0 l from hob) hp
       have hlen:=h6.len
       have:=GA (P:=P) (w:=w) hg hi h1 b off ((vs.drop off).take i.size) (by simp; omega) (fun j v hj=>by
        rw [cell_of_row w b _ _ _ _ h5]
        rw [List.getElem?_take] at hj
        split at hj
        ·rw [List.getElem?_drop] at hj; simpa using hj
        ·cases hj)
       refine ⟨_,?_,GB h6 hn h1⟩
       simp only [TO,Sem.run_bind,h2,asAddr,Sem.run_pure,Result.andThen_ok]
       exact this
      ·cases hv
     ·cases hv
    ·cases hv
   ·cases hx
  ·cases hx
theorem PT {a:Act} {w:World} {I:Nat→Prop} {V:Nat→Option Value} {B:Nat→Nat→Prop} {st:St} (hr:RepI c I V B st.f a w):∀ (rvs:List ResultVar) (rxs:List RX) (xs:List SV),B3 (rvs.map (K5 P c.nt))=some rxs→OX st rxs=some xs →
  ∃ vs:List Value,(rvs.mapM (TO a.tmps):Sem (List Value)).run P w=.ok vs w∧RepVs w I V xs vs
 | [],rxs,xs,h,hx=>by
  simp only [yC,B3,zB] at h
  subst h
  simp only [OX,zB] at hx
  subst hx
  exact ⟨[],by simp,by simp [RepVs]⟩
 | rv :: rvs,rxs,xs,h,hx=>by
  simp only [zN] at h
  cases h1:K5 P c.nt rv with
  | none=>rw [h1] at h; cases h
  | some rx =>
   rw [h1] at h
   simp only [B3] at h
   obtain ⟨rxs',h2,rfl⟩:=zC.1 h
   simp only [OX] at hx
   split at hx
   ·rename_i x xs' h3 h4
    obtain rfl:=zA hx
    obtain ⟨v,g1,g2⟩:=TP (P:=P) hr h1 h3
    obtain ⟨vs,g3,g4⟩:=PT hr rvs rxs' xs' h2 h4
    refine ⟨v :: vs,?_,by simp only [RepVs]; exact ⟨v,vs,rfl,g2,g4⟩⟩
    rw [List.mapM_cons,Sem.run_bind,g1,Result.andThen_ok,Sem.run_bind,g3]
    rfl
   ·cases hx
theorem J1 {fn:Func} {a:Act} {w:World} {I:Nat→Prop} {V:Nat→Option Value} {B:Nat→Nat→Prop} {st:St} (hr:RepI c I V B st.f a w) {rxs:List RX} {x:SV} (h:B3 (fn.results.toList.map (K5 P c.nt))=some rxs) (hx:HP st rxs=some x) :
  ∃ v,(results fn a.tmps).run P w=.ok v w∧RepV w I V x v:=by
 unfold HP at hx
 cases hxs:OX st rxs with
 | none=>rw [hxs] at hx; cases hx
 | some xs =>
  rw [hxs] at hx
  obtain ⟨vs,h1,h2⟩:=PT hr _ _ _ h hxs
  have hrun:(results fn a.tmps).run P w=.ok (if h:vs.toArray.size=1 then vs.toArray[0] else .tuple vs.toArray) w:=by
   rw [OY,Sem.run_bind,Array.mapM_eq_mapM_toList,Sem.run_map,h1]
   rfl
  refine ⟨_,hrun,?_⟩
  match xs,vs,h2,hx with
  | [],vs,h2,hx =>
   simp only [zB] at hx
   subst hx
   simp only [RepVs] at h2
   subst h2
   simp only [RepV]
   exact ⟨[],by simp,by simp [RepVs]⟩
  | [y],vs,h2,hx =>
   simp only [zB] at hx
   subst hx
   simp only [RepVs] at h2
   obtain ⟨v,r,rfl,h3,rfl⟩:=h2
   simpa using h3
  | y :: z :: ys,vs,h2,hx =>
   simp only [zB] at hx
   subst hx
   have hlen:=h2.len
   simp only [zL] at hlen
   simp only [RepV]
   refine ⟨vs,?_,h2⟩
   rw [dif_neg (by rw [List.size_toArray]; omega)]
def FT:Nat→List SV
 | 0=>[]
 | n+1=>.any :: FT n
theorem IT:∀ (n k:Nat),gets (FT n) k=.any
 | 0,_=>rfl
 | n+1,0=>rfl
 | n+1,k+1=>IT n k
theorem K6:∀ (l l':List SV) (k:Nat),gets (l++l') k=if k<l.length then gets l k else gets l' (k-l.length)
 | [],l',k=>by simp
 | x :: r,l',0=>by simp [gets]
 | x :: r,l',k+1=>by
  simp only [yL,gets,zL,zS,z6]
  exact K6 r l' k
theorem K7:∀ n,(FT n).length=n
 | 0=>rfl
 | n+1=>by simp [FT,K7 n]
theorem RepVs.gets {w:World} {I:Nat→Prop} {V:Nat→Option Value}:∀ {l:List SV} {vs:List Value} (k:Nat),RepVs w I V l vs→k<l.length→RepV w I V (gets l k) (vs.getD k undef)
 | [],vs,k,_,h=>absurd h (by simp)
 | x :: r,vs,0,h,_=>by
  simp only [RepVs] at h
  obtain ⟨v,q,rfl,h1,_⟩:=h
  simpa [Proofs.Ytjkcamgfimpggaa.gets] using h1
 | x :: r,vs,k+1,h,hk=>by
  simp only [RepVs] at h
  obtain ⟨v,q,rfl,_,h2⟩:=h
  simpa [Proofs.Ytjkcamgfimpggaa.gets] using RepVs.gets k h2 (by simpa using hk)
def Fin (rs:List RX) (n0:Nat) (r:SV) (ob':List Ob) (e:X) (st:St):Prop :=
 (e=.ret∨e=.normal)∧∃ r0 m,HP st rs=some r0∧WeakC n0 m ⟨[r0],st.ob⟩ ⟨[r],ob'⟩
theorem Sd {f:FuncId} {fn:Func} {code:Code} {sc:SC} {rs:List RX} {args:List SV} {ob:List Ob} {r:SV} {ob':List Ob} (hf:P.funcs[f]?=some fn) (hb:fn.body=some code) (ht:trC P fn.ntmps code=some sc) (hrs:B3 (fn.results.toList.map (K5 P fn.ntmps))=some rs) (hn:args.length≤fn.ntmps)
  (h:∀ c:Ctx,c.nt=fn.ntmps→c.m=ob.length→Run P c sc (Fin rs ob.length r ob') ⟨args++FT (fn.ntmps-args.length),ob⟩):Fun P f args ob r ob':=by
 intro w I V B vs hwf hvs
 let c:Ctx:=⟨w,HB B ob,I,V,fn.ntmps,ob.length,fun g hg=>hwf.fr g (AF _ _ hg)⟩
 have hvl:=hvs.len
 have hrep:Rep c (St.f ⟨args++FT (fn.ntmps-args.length),ob⟩) { tmps:=vs.toArray++Array.replicate (fn.ntmps-vs.toArray.size) undef,defers:=[] } w:=by
  refine ⟨I,V,B,⟨⟨rfl,TapeOk.mk' rfl rfl,rfl,zH _,fun _ _ _=>rfl⟩,fun _ h=>h,fun _ h=>.inl h,VLe.refl _,hwf,fun g b hl hb=>.inl ⟨g,hl,hb⟩,rfl,?_,fun k=>?_⟩⟩
  ·simp only [Array.size_append,List.size_toArray,Array.size_replicate]
   show vs.length+(fn.ntmps-vs.length)=fn.ntmps
   omega
  ·show RepV w I V (gets (args++FT (fn.ntmps-args.length)) k) _
   rw [K6]
   by_cases hk:k<args.length
   ·rw [if_pos hk]
    have:=hvs.gets k hk
    have e:(vs.toArray++Array.replicate (fn.ntmps-vs.toArray.size) undef).getD k undef=vs.getD k undef:=by
     rw [yD,Array.getElem?_append_left (by simp; omega)]
     simp [zV]
    rw [e]; exact this
   ·rw [if_neg hk,IT]; simp [RepV]
 refine calls_of_wp hf hb ?_
 refine h c rfl rfl code ht _ w _ ?_ hrep fun x st' a' w' hk hl' hr'=>?_
 ·simp only [yG,K7]
  show args.length+(fn.ntmps-args.length)=fn.ntmps
  omega
 ·obtain ⟨hx,r0,m,hres,hweak⟩:=hk
  obtain ⟨I',V',B',hr'⟩:=hr'
  obtain ⟨v,hrun,hv⟩:=J1 hr' hrs hres
  have hwf':=hweak.wf hr'.wf
  have hv':RepV w' I' (fun g=>V' (sgp m st'.ob.length g)) r v:=by
   have h1:=hweak.1
   simp only [leL] at h1
   exact JV h1.1 hv
  have hpost:FunPost w I V B ob ob' w' I' (fun g=>V' (sgp m st'.ob.length g)) (fun g=>B' (sgp m st'.ob.length g)):=by
   refine ⟨hr'.fr,hr'.i0,fun b hb=>hr'.i1 b hb,fun g u hu=>?_,hwf',fun g b hl hb=>?_⟩
   ·have hg:g<ob.length:=by
     rcases zF g ob.length with h1 | h1
     ·exact h1
     ·rw [hwf.fr g (AF _ _ h1)] at hu; cases hu
    rw [Hn hweak.2.2.2 g hg]
    exact hr'.v0 g u hu
   ·have hlt:g<ob'.length:=by
     rcases zF g ob'.length with h1 | h1
     ·exact h1
     ·rw [AF _ _ h1] at hl; exact hl.elim
    have h1:=EB (j:=g) hweak.2.1 hlt
    rw [zP] at h1
    exact hr'.bh _ b (El h1 hl) hb
  have hfin:bodyPost P fn (fun e w'=>∃ v I' V' B',e=.returned v∧RepV w' I' V' r v∧FunPost w I V B ob ob' w' I' V' B') x.exit' a' w':=by
   rcases hx with rfl | rfl
   ·exact bodyPost_ret hrun hr'.nd ⟨v,I',_,_,rfl,hv',hpost⟩
   ·exact bodyPost_end hrun hr'.nd ⟨v,I',_,_,rfl,hv',hpost⟩
  exact hfin
end
section
variable {P:Program} {c:Ctx} {K:X→St→Prop} {x:SV} {l:List SV} {ob:List Ob}
theorem QG:CU ob []=ob:=by
 have:∀ (l:List Ob) k,In [] k l=l:=by
  intro l
  induction l with
  | nil=>intro k; rfl
  | cons o r ih=>intro k; simp [In,AE,ih]
 simp [CU,this,Kz]
theorem K8 {l:List Ob} {p:Nat} (h:l.length=p):K4 (Ad l) p:=fun g hg=>AF l g (by omega)
end
theorem TQ {n:Int}:inK .i64 n ↔ -9223372036854775808≤n∧n≤9223372036854775807:=by
 unfold inK
 simp only [IntKind.min,IntKind.max,IntKind.bits,IntKind.signed]
 simp
section
variable {P:Program} {c:Ctx} {K:X→St→Prop}
theorem Weak.Dl (st:St):Weak c st st:=fun h=>⟨h,fun _ _ hr=>hr⟩
end
theorem IU:Try.prog.follows .mixedOrders=true:=by kernel_rfl
end Go.Proofs.Ytjkcamgfimpggaa
set_option maxRecDepth 100000
set_option linter.unusedSimpArgs false
set_option linter.unusedVariables false
set_option linter.unusedSectionVars false
namespace Go.Proofs.Ytjkcamgfimpggaa
open Go.RowKit
noncomputable def dec (p:Prop):Bool:=@decide p (Classical.propDecidable p)
theorem At {p:Prop}:dec p=true ↔ p:=by unfold dec; exact ⟨@of_decide_eq_true p (Classical.propDecidable p),@decide_eq_true p (Classical.propDecidable p)⟩
theorem AV {p:Prop} (h:p):dec p=true:=At.2 h
theorem Bg {p:Prop} (h:¬ p):dec p=false:=by
 cases e:dec p with
 | false=>rfl
 | true=>exact absurd (At.1 e) h
theorem HQ {p:Prop} [hp:Decidable p]:dec p=decide p:=by
 cases hp with
 | isTrue h=>rw [AV h]; rfl
 | isFalse h=>rw [Bg h]; rfl
theorem Ee {p:Prop}:dec p=false ↔ ¬ p:=by
 constructor
 ·intro h hp
  rw [AV hp] at h; cases h
 ·exact Bg
theorem IV {a b:ByteArray} (h:a.toList=b.toList):a=b:=by
 rw [ByteArray.toList_eq,ByteArray.toList_eq] at h
 exact ByteArray.ext (Array.toList_inj.1 h)
theorem QH (a b:ByteArray):H2 a b=dec (a=b):=by
 unfold H2
 cases e:(a.toList == b.toList) with
 | true=>exact (AV (IV (by simpa using e))).symm
 | false =>
  refine (Bg fun h=>?_).symm
  subst h; simp at e
abbrev R3:=SV × List (Nat × Ob) × List Nat
abbrev CallF:=FuncId→List SV→List Ob→Option R3
def F7 (x:Nat):List Nat→Bool
 | []=>false
 | y :: r=>(x == y) || F7 x r
def F8:List Nat→Bool
 | []=>true
 | x :: r=>!F7 x r&&F8 r
theorem CV {x:Nat}:∀ {l:List Nat},F7 x l=true ↔ x∈l
 | []=>by simp [F7]
 | y :: r=>by simp [F7,CV (l:=r)]
theorem EM:∀ {l:List Nat},F8 l=true ↔ l.Nodup
 | []=>by simp [F8]
 | x :: r=>by
  have:=CV (x:=x) (l:=r)
  simp only [F8,zD,zI,yO,EM (l:=r)]
  rw [←this]; simp
noncomputable def GE (k:IntKind) (r:Int):Option SV :=
 match k with
 | .u64=>some (.int k (k.wrap r))
 | .u32=>some (.int k (k.wrap r))
 | .u8=>some (.int k (k.wrap r))
 | _=>bif dec (inK k r) then some (.int k r) else some (.int k (k.wrap r))
def eqK:IntKind→IntKind→Bool:=fun a b=>decide (a=b)
noncomputable def PU (op:BinOp) (k:IntKind) (a b:Int):Option SV :=
 match op with
 | .add=>GE k (a+b)
 | .sub=>GE k (a - b)
 | .mul=>GE k (a*b)
 | .quo=>bif dec (b=0) then none else GE k (a.tdiv b)
 | .rem=>bif dec (b=0) then none else some (.int k (a.tmod b))
 | .eql=>some (.bool (dec (a=b)))
 | .neq=>some (.bool (!dec (a=b)))
 | .lss=>some (.bool (dec (a < b)))
 | .leq=>some (.bool (dec (a≤b)))
 | .gtr=>some (.bool (dec (b < a)))
 | .geq=>some (.bool (dec (b≤a)))
 | .shr=>bif dec (b=1) then some (.int k (a / 2)) else bif dec (b=40)&&eqK k .u64 then some (.int k (a / 1099511627776)) else none
 | .and=>some (.int k (bits .and k a b))
 | _=>none
noncomputable def PV (op:BinOp) (a b:ByteArray):Option SV :=
 match op with
 | .add=>bif dec (a.size+b.size≤9223372036854775807) then some (.str (a++b)) else none
 | .eql=>some (.bool (dec (a=b)))
 | .neq=>some (.bool (!dec (a=b)))
 | .lss=>some (.bool (strLt a b))
 | .leq=>some (.bool (strLt a b || dec (a=b)))
 | .gtr=>some (.bool (!(strLt a b || dec (a=b))))
 | .geq=>some (.bool (!strLt a b))
 | _=>none
def Se (op:BinOp) (a b:Bool):Option SV :=
 match op with
 | .eql=>some (.bool (a == b))
 | .neq=>some (.bool (!(a == b)))
 | _=>none
noncomputable def TR (op:BinOp) (tb:Bool) (x y:SV):Option SV :=
 match x,y with
 | .int k a,.int k' b=>bif eqK k k' then PU op k a b else none
 | .str a,.str b=>PV op a b
 | .bool a,.bool b=>bif tb then Se op a b else none
 | _,_=>none
def En (x:SV):Option R3:=some (x,[],[])
def PW:Option SV→Option R3
 | some x=>some (x,[],[])
 | none=>none
def Sf (g:Nat) (es:List (List OT)) (hs:List (Nat × Nat × Nat)) (k o:Nat) (l:List OT) (p:Nat):OT→Option R3
 | .ow e2=>some (.ref p,[(p,.tree e2 []),(g,.tree (es.set k (l.set o .hole)) ((k,o,p) :: hs))],[])
 | .hole=>none
 | .pin _=>none
 | .int n=>some (.int .i64 n,[],[g])
 | .byte n=>some (.int .u8 n,[],[g])
 | .bool b=>some (.bool b,[],[g])
 | .str s=>some (.str s,[],[g])
 | .sh e=>some (.arr e,[],[g])
def W4 (ok agg:Bool) (z:List SV) (rd:List Nat):Option MV→Option R3
 | some x=>some (bif ok then .tup [MV.sv x,.bool true] else MV.sv x,[],rd)
 | none=>some (bif ok then .tup [bif agg then .agg z else z.getD 0 .any,.bool false] else (bif agg then .agg z else z.getD 0 .any),[],rd)
noncomputable def fOp (P:Program) (C:CallF) (so:SOp) (sl:List SV) (ob:List Ob):Option R3 :=
 match so with
 | .mv x=>En (As (gets sl) x)
 | .pick c a b=>match As (gets sl) c with
  | .bool t=>En (bif t then As (gets sl) a else As (gets sl) b)
  | _=>none
 | .alloc t z=>some (.ptr ob.length 0,[(ob.length,.box t z)],[])
 | .boxv t n x=>match (As (gets sl) x).cellsN n with
  | some l=>some (.ptr ob.length 0,[(ob.length,.box t l)],[])
  | none=>none
 | .build z parts=>match H1 (As (gets sl)) z parts with
  | some l=>En (.agg l)
  | none=>none
 | .mkrow t sz z len parts=>match Dq (Ad ob) z with
  | some zl=>match eOp.mkEs (As (gets sl)) (Ad ob) sz (List.replicate len zl) parts with
   | some es=>bif (BA zl).isEmpty&&F8 (es.map BA).flatten then some (.ref ob.length,(ob.length,.row t sz (es.map Dg)) :: B7 (es.map BA).flatten,(parts.map fun q=>Il (As (gets sl) q.2)).flatten) else none
   | none=>none
  | none=>none
 | .load agg n x=>match As (gets sl) x with
  | .ptr g o=>match Ad ob g with
   | .box _ l=>bif decide (o+n≤l.length) then some (bif agg then .agg ((l.drop o).take n) else l.getD o .any,[],[g]) else none
   | _=>none
  | .vptr es k o=>match es[k]? with
   | some l=>bif decide (o+n≤l.length) then En (bif agg then .agg (((l.drop o).take n).map D.sv) else (l.map D.sv).getD o .any) else none
   | none=>none
  | .eptr g sz k o=>match Ad ob g with
   | .row _ sz' es=>match es[k]? with
    | some l=>bif (sz == sz')&&decide (o+n≤l.length) then some (bif agg then .agg (((l.drop o).take n).map OT.sv) else (l.map OT.sv).getD o .any,[],[g]) else none
    | none=>none
   | .tree es hs=>match es[k]? with
    | some l=>bif !agg&&(n == 1)&&(l.length == sz)&&decide (o < sz) then match DO hs k o with
     | some q=>some (.ref q,[],[g])
     | none=>match l[o]? with
      | some x=>Sf g es hs k o l ob.length x
      | none=>none
     else none
    | none=>none
   | .hist _ sz' es _=>match es[k]? with
    | some l=>bif (sz == sz')&&decide (o+n≤l.length) then some (bif agg then .agg (((l.drop o).take n).map OT.sv) else (l.map OT.sv).getD o .any,[],[g]) else none
    | none=>none
   | _=>none
  | _=>none
 | .store n x v=>match As (gets sl) x with
  | .ptr g o=>match Ad ob g with
   | .box t l=>match (As (gets sl) v).cellsN n with
    | some vs=>bif decide (o+n≤l.length)&&vs.all SV.one then some (.any,[(g,.box t (splice l o vs))],[]) else none
    | none=>none
   | _=>none
  | .eptr g sz k o=>match Ad ob g with
   | .row t sz' es=>match (As (gets sl) v).cellsN n with
    | some vs=>match Dq (Ad ob) vs with
     | some ls=>match es[k]? with
      | some l=>bif (sz == sz')&&decide (o+n≤sz)&&!F7 g (BA ls)&&F8 (BA ls) then some (.any,(g,.row t sz (es.set k (splice l o (Dg ls)))) :: B7 (BA ls),Il (As (gets sl) v)) else none
      | none=>none
     | none=>none
    | none=>none
   | .tree es hs=>match (As (gets sl) v).cellsN n with
    | some [v]=>match LT v with
     | some x=>match DO hs k o with
      | some _=>none
      | none=>match es[k]? with
       | some l=>bif (l.length == sz)&&decide (o < sz) then some (.any,[(g,.tree (es.set k (splice l o [x])) hs)],[]) else none
       | none=>none
     | none=>none
    | _=>none
   | _=>none
  | _=>none
 | .nilchk x=>match As (gets sl) x with
  | .ptr g o=>En (.ptr g o)
  | .eptr g sz k o=>En (.eptr g sz k o)
  | .vptr es k o=>En (.vptr es k o)
  | _=>none
 | .bin op tb x y=>PW (TR op tb (As (gets sl) x) (As (gets sl) y))
 | .un op x=>match As (gets sl) x with
  | .bool b=>match op with
   | .not=>En (.bool (!b))
   | _=>none
  | .int k n=>match op with
   | .neg=>bif dec (inK k (0 - n)) then En (.int k (0 - n)) else none
   | _=>none
  | _=>none
 | .conv k x=>match As (gets sl) x with
  | .int _ n=>PW (GE k n)
  | _=>none
 | .mkfn f caps=>En (.fn f (caps.map (As (gets sl))))
 | .mkslice t sz bytes z len=>match As (gets sl) len with
  | .int _ n=>match Dq (Ad ob) z with
   | some zl=>bif dec (0≤n)&&dec ((bytes:Int)*n≤140737488355328)&&dec (n≤9223372036854775807)&&(BA zl).isEmpty then some (.ref ob.length,[(ob.length,.row t sz (List.replicate n.toNat (Dg zl)))],[]) else none
   | none=>none
  | _=>none
 | .slice str sz x lo hi=>match As (gets sl) x with
  | .str s=>match FK (As (gets sl)) lo with
   | some l=>match G0 (As (gets sl)) s.size hi with
    | some h=>bif dec (0≤l)&&dec (l≤h)&&dec (h≤s.size)&&str then En (.str (s.extract l.toNat h.toNat)) else none
    | none=>none
   | none=>none
  | .arr es=>match FK (As (gets sl)) lo with
   | some l=>match G0 (As (gets sl)) es.length hi with
    | some h=>bif dec (0≤l)&&dec (l≤h)&&dec (h≤es.length)&&!str&&es.all (fun e=>(e.length == sz)) then En (.arr ((es.take h.toNat).drop l.toNat)) else none
    | none=>none
   | none=>none
  | .ref g=>match Ad ob g with
   | .row t sz' es=>match FK (As (gets sl)) lo with
    | some l=>match G0 (As (gets sl)) es.length hi with
     | some h=>bif pfx lo hi then (bif dec (0≤l)&&dec (l≤h)&&dec (h≤es.length)&&!str&&(sz' == sz) then some (.ref ob.length,[(ob.length,.row t sz (es.take h.toNat)),(g,.gone)],[]) else none) else bif dec (0≤l)&&dec (l≤h)&&dec (h≤es.length)&&!str&&(sz' == sz)&&OT.Aq es then some (.arr (((OT.erss es).take h.toNat).drop l.toNat),[(g,.shd (OT.erss es))],[]) else none
     | none=>none
    | none=>none
   | .shd es=>match FK (As (gets sl)) lo with
    | some l=>match G0 (As (gets sl)) es.length hi with
     | some h=>bif dec (0≤l)&&dec (l≤h)&&dec (h≤es.length)&&!str&&es.all (fun e=>(e.length == sz)) then some (.arr ((es.take h.toNat).drop l.toNat),[],[g]) else none
     | none=>none
    | none=>none
   | _=>none
  | _=>none
 | .faddr off x=>match As (gets sl) x with
  | .ptr g o=>En (.ptr g (o+off))
  | .vptr es k o=>En (.vptr es k (o+off))
  | .eptr g sz k o=>En (.eptr g sz k (o+off))
  | _=>none
 | .field agg off n x=>match As (gets sl) x with
  | .agg l=>bif decide (off+n≤l.length) then En (bif agg then .agg ((l.drop off).take n) else l.getD off .any) else none
  | _=>none
 | .iaddr sz x i=>match As (gets sl) x with
  | .arr es=>match As (gets sl) i with
   | .int _ n=>bif dec (0≤n) then match es[n.toNat]? with
    | some l=>bif (l.length == sz) then En (.vptr es n.toNat 0) else none
    | none=>none
    else none
   | _=>none
  | .ref g=>match As (gets sl) i with
   | .int _ n=>match Ad ob g with
    | .row _ sz' es=>bif (sz == sz')&&dec (0≤n)&&dec (n.toNat < es.length) then some (.eptr g sz n.toNat 0,[],[g]) else none
    | .tree es _=>bif dec (0≤n)&&dec (n.toNat < es.length) then some (.eptr g sz n.toNat 0,[],[g]) else none
    | .hist _ sz' es _=>bif (sz == sz')&&dec (0≤n)&&dec (n.toNat < es.length) then some (.eptr g sz n.toNat 0,[],[g]) else none
    | _=>none
   | _=>none
  | _=>none
 | .idx x i=>match As (gets sl) x with
  | .str s=>match As (gets sl) i with
   | .int _ n=>bif dec (0≤n)&&dec (n.toNat < s.size) then En (.int .u8 (G8 s n.toNat)) else none
   | _=>none
  | _=>none
 | .ext x k=>match As (gets sl) x with
  | .tup l=>bif decide (k < l.length) then En (l.getD k .any) else none
  | _=>none
 | .call f args=>C f (args.map (As (gets sl))) ob
 | .callv x args=>match As (gets sl) x with
  | .fn f caps=>bif JK P f then C f (args.map (As (gets sl))++caps) ob else none
  | _=>none
 | .len str x=>match As (gets sl) x with
  | .str s=>bif str then En (.int .i64 s.size) else none
  | .arr es=>bif str then none else En (.int .i64 es.length)
  | .nil=>bif str then none else En (.int .i64 0)
  | .ref g=>match Ad ob g with
   | .row _ _ es=>bif str then none else some (.int .i64 es.length,[],[g])
   | .tree es _=>bif str then none else some (.int .i64 es.length,[],[g])
   | .hist _ _ es _=>bif str then none else some (.int .i64 es.length,[],[g])
   | _=>none
  | _=>none
 | .append t sz bytes z x y=>match eOp.addS (Ad ob) sz (As (gets sl) y) with
  | some (new,gs)=>match As (gets sl) x with
   | .nil=>bif dec ((new.length:Int)*bytes≤140737488355328)&&dec (new.length≤9223372036854775807)&&(new.all fun l=>(l.length == sz)) then some (.ref ob.length,(ob.length,.row t sz new) :: B7 gs,[]) else none
   | .ref g=>match Ad ob g with
    | .row t' sz' es=>bif (t == t')&&(sz == sz')&&dec (((es.length+new.length:Nat):Int)*bytes≤140737488355328)&&dec (es.length+new.length≤9223372036854775807)&&!F7 g gs&&(new.all fun l=>(l.length == sz)) then some (.ref ob.length,(ob.length,.row t sz (es++new)) :: B7 (g :: gs),[]) else none
    | .hist t' sz' es us=>bif (t == t')&&(sz == sz')&&dec (((es.length+new.length:Nat):Int)*bytes≤140737488355328)&&dec (es.length+new.length≤9223372036854775807)&&!F7 g gs&&(new.all fun l=>(l.length == sz))&&Cj new then some (.ref ob.length,(ob.length,.hist t sz (es++new) us) :: B7 (g :: gs),[]) else none
    | _=>none
   | _=>none
  | none=>none
 | .minmax mx x y=>match As (gets sl) x with
  | .int k a=>match As (gets sl) y with
   | .int k' b=>bif eqK k k' then En (.int k (bif mx then (bif dec (a < b) then b else a) else (bif dec (b < a) then b else a))) else none
   | _=>none
  | _=>none
 | .mkmap ks hint=>match hint with
  | none=>some (.ref ob.length,[(ob.length,.mp ks nomap)],[])
  | some x=>match As (gets sl) x with
   | .int _ _=>some (.ref ob.length,[(ob.length,.mp ks nomap)],[])
   | _=>none
 | .mset ks m k v=>match As (gets sl) m with
  | .ref g=>match Ad ob g with
   | .mp ks' f=>match svK ks (As (gets sl) k) with
    | some q=>match svM (As (gets sl) v) with
     | some x=>bif (ks' == ks) then some (.any,[(g,.mp ks (Kk f q x))],[]) else none
     | none=>none
    | none=>none
   | _=>none
  | _=>none
 | .mkit x=>match As (gets sl) x with
  | .mp ks m=>some (.ptr ob.length 0,[(ob.length,.it ks m [] none)],[])
  | _=>none
 | .mcur x=>match As (gets sl) x with
  | .ptr g o=>match Ad ob g with
   | .it _ _ _ (some (k,v))=>bif (o == 0) then some (.tup [MK.sv k,MV.sv v],[],[g]) else none
   | _=>none
  | _=>none
 | .mget ks ok agg z m k=>match PI (Ad ob) (As (gets sl) m) with
  | some (ks',f,rd)=>match svK ks (As (gets sl) k) with
   | some q=>bif (ks' == ks) then W4 ok agg z rd (f q) else none
   | none=>none
  | none=>none
theorem Al {α:Type} {b:Bool} {x:Option α} {r:α} (h:(bif b then x else none)=some r):b=true∧x=some r:=by
 cases b with
 | true=>exact ⟨rfl,h⟩
 | false=>cases h
theorem ED {α:Type} {b:Bool} {x:Option α} {r:α} (h:(bif b then none else x)=some r):b=false∧x=some r:=by
 cases b with
 | false=>exact ⟨rfl,h⟩
 | true=>cases h
theorem Ca {x y:SV} {u:List (Nat × Ob)} {rd:List Nat} (h:En x=some (y,u,rd)):x=y∧u=[]∧rd=[]:=by
 unfold En at h
 simp only [zB,zE] at h
 exact ⟨h.1,h.2.1.symm,h.2.2.symm⟩
theorem NN {x:Option SV} {y:SV} {u:List (Nat × Ob)} {rd:List Nat} (h:PW x=some (y,u,rd)):x=some y∧u=[]∧rd=[]:=by
 cases x with
 | none=>cases h
 | some x =>
  have:=Ca (x:=x) h
  exact ⟨congrArg some this.1,this.2⟩
theorem K9 {k:IntKind} {r:Int} {x:SV} {K:Kont} (h:GE k r=some x) (hK:K x [] []):F6 k r K:=by
  unfold GE at h
  unfold F6
  cases k <;> simp only at h ⊢ <;> first
    | (obtain rfl:=zA h; exact hK)
    | (cases hd:dec (inK _ r) with
       | true=>rw [hd] at h; obtain rfl:=zA h; exact ⟨fun _=>hK,fun hn=>absurd (At.1 hd) hn⟩
       | false=>rw [hd] at h; obtain rfl:=zA h; exact ⟨fun hi=>absurd hi (Ee.1 hd),fun _=>hK⟩)
theorem TS {op:BinOp} {k:IntKind} {a b:Int} {x:SV} {K:Kont} (h:PU op k a b=some x) (hK:K x [] []):T3 op k a b K:=by
  cases op <;> simp only [PU,T3] at h ⊢ <;> first
    | exact K9 h hK
    | (obtain ⟨h1,h2⟩:=Al h; obtain rfl:=zA h2; exact ⟨At.1 h1,hK⟩)
    | (cases h0:dec (b=1) with
       | true=>rw [h0,cond_true] at h; obtain rfl:=zA h; exact .inl ⟨At.1 h0,hK⟩
       | false =>
         rw [h0,cond_false] at h
         obtain ⟨h1,h2⟩:=Al h
         rw [zD] at h1
         obtain rfl:=zA h2
         exact .inr ⟨⟨At.1 h1.1,of_decide_eq_true h1.2⟩,hK⟩)
    | (obtain ⟨h1,h2⟩:=ED h; first | exact ⟨Ee.1 h1,K9 h2 hK⟩ | (obtain rfl:=zA h2; exact ⟨Ee.1 h1,hK⟩))
    | (obtain rfl:=zA h; first | exact hK | (rw [HQ] at hK; first | exact hK | (simpa [bne,beq_eq_decide] using hK)))
    | cases h
theorem TT {op:BinOp} {a b:ByteArray} {x:SV} {K:Kont} (h:PV op a b=some x) (hK:K x [] []):T4 op a b K:=by
 cases op <;> simp only [PV,T4,QH] at h ⊢ <;> first
  |(obtain ⟨h1,h2⟩:=Al h; obtain rfl:=zA h2; exact ⟨At.1 h1,hK⟩)
  |(obtain rfl:=zA h; exact hK)
  |cases h
theorem V4 {op:BinOp} {tb:Bool} {y z x:SV} {K:Kont} (h:TR op tb y z=some x) (hK:K x [] []):T5 op tb y z K:=by
 unfold TR at h
 unfold T5
 split at h <;> simp only at h ⊢
 ·obtain ⟨h1,h2⟩:=Al h
  exact ⟨of_decide_eq_true h1,TS h2 hK⟩
 ·exact TT h hK
 ·obtain ⟨h1,h2⟩:=Al h
  refine ⟨h1,?_⟩
  cases op <;> simp only [Se,Vt] at h2 ⊢ <;> first | (obtain rfl:=zA h2; exact hK) | cases h2
 ·cases h
theorem Sg {m:MF} {a b:Int} {x:MV}:Kk m (.int a) x (.int b)=bif dec (b=a) then some x else m (.int b):=by
 by_cases h:b=a
 ·subst h; rw [Hk,AV rfl]; rfl
 ·rw [Gg (fun e=>h (by injection e)),Bg h]; rfl
theorem NO {m:MF} {a b:ByteArray} {x:MV}:Kk m (.str a) x (.str b)=bif dec (b=a) then some x else m (.str b):=by
 by_cases h:b=a
 ·subst h; rw [Hk,AV rfl]; rfl
 ·rw [Gg (fun e=>h (by injection e)),Bg h]; rfl
theorem Sh (k:MK):nomap k=none:=rfl
variable [Flag]
theorem C4 {a x:SV} {b u:List (Nat × Ob)} {c rd:List Nat} (h:(some (a,b,c):Option R3)=some (x,u,rd)):a=x∧b=u∧c=rd:=by
 simp only [zB,zE] at h; exact h
theorem MW {α:Type} {l:List (List α)} {n:Nat} (h:(l.all fun e=>(e.length == n))=true):(l.all fun e=>e.length == n)=true:=by
 refine zM.2 fun e he=>?_
 exact beq_iff_eq.2 (eq_of_beq ((zM.1 h) e he))
theorem isEmpty_nil {l:List Nat} (h:l.isEmpty=true):l=[]:=List.isEmpty_iff.1 h
theorem W5 {P:Program} {C:CallF} {so:SOp} {sl:List SV} {ob:List Ob} {x:SV} {u:List (Nat × Ob)} {rd:List Nat} {K:Kont} (h:fOp P C so sl ob=some (x,u,rd))
  (hC:∀ f xs x u rd,C f xs ob=some (x,u,rd)→∀ K:Kont,K x u rd→CallP P f xs (Ad ob) ob.length K) (hK:K x u rd):eOp P so (gets sl) (Ad ob) ob.length K:=by
 cases so with
 | mv y =>
  obtain ⟨rfl,rfl,rfl⟩:=Ca h
  exact hK
 | pick a b c =>
  simp only [fOp,eOp] at h ⊢
  split at h
  ·obtain ⟨rfl,rfl,rfl⟩:=Ca h
   rename_i t ht
   simp only [ht]
   cases t <;> exact hK
  ·cases h
 | alloc t z =>
  obtain ⟨rfl,rfl,rfl⟩:=C4 h
  exact hK
 | boxv t n y =>
  simp only [fOp,eOp] at h ⊢
  split at h
  ·rename_i l hl
   obtain ⟨rfl,rfl,rfl⟩:=C4 h
   simp only [hl]; exact hK
  ·cases h
 | build z parts =>
  simp only [fOp,eOp] at h ⊢
  split at h
  ·rename_i l hl
   obtain ⟨rfl,rfl,rfl⟩:=Ca h
   simp only [hl]; exact hK
  ·cases h
 | mkrow t sz z len parts =>
  simp only [fOp,eOp] at h ⊢
  split at h
  ·rename_i zl hz
   split at h
   ·rename_i es he
    obtain ⟨h1,h2⟩:=Al h
    obtain ⟨rfl,rfl,rfl⟩:=C4 h2
    rw [zD] at h1
    simp only [hz,he]
    exact ⟨⟨isEmpty_nil h1.1,EM.1 h1.2⟩,hK⟩
   ·cases h
  ·cases h
 | load agg n y =>
  simp only [fOp,eOp] at h ⊢
  split at h
  ·rename_i g o hy
   simp only [hy]
   split at h
   ·rename_i t l hl
    obtain ⟨h1,h2⟩:=Al h
    obtain ⟨rfl,rfl,rfl⟩:=C4 h2
    simp only [hl]
    exact ⟨of_decide_eq_true h1,by cases agg <;> exact hK⟩
   ·cases h
  ·rename_i es k o hy
   simp only [hy]
   split at h
   ·rename_i l hl
    obtain ⟨h1,h2⟩:=Al h
    obtain ⟨rfl,rfl,rfl⟩:=Ca h2
    exact ⟨l,hl,of_decide_eq_true h1,by cases agg <;> exact hK⟩
   ·cases h
  ·rename_i g sz k o hy
   simp only [hy]
   split at h
   ·rename_i t sz' es hl
    split at h
    ·rename_i l hl'
     obtain ⟨h1,h2⟩:=Al h
     obtain ⟨rfl,rfl,rfl⟩:=C4 h2
     rw [zD] at h1
     simp only [hl]
     exact ⟨eq_of_beq h1.1,l,hl',of_decide_eq_true h1.2,by cases agg <;> exact hK⟩
    ·cases h
   ·rename_i es hs hl
    split at h
    ·rename_i l hl'
     obtain ⟨h1,h2⟩:=Al h
     simp only [zD,zI,beq_iff_eq,decide_eq_true_eq] at h1
     simp only [hl]
     refine ⟨⟨h1.1.1.1,h1.1.1.2⟩,l,hl',⟨h1.1.2,h1.2⟩,?_⟩
     split at h2
     ·rename_i q hq
      obtain ⟨rfl,rfl,rfl⟩:=C4 h2
      simp only [hq]; exact hK
     ·rename_i hq
      simp only [hq]
      split at h2
      ·rename_i z hz
       refine ⟨z,hz,?_⟩
       cases z <;> simp only [Sf,OQ] at h2 ⊢ <;> first | (obtain ⟨e1,rfl,rfl⟩:=C4 h2; rw [←e1] at hK; exact hK) | cases h2
      ·cases h2
    ·cases h
   ·rename_i t sz' es us hl
    split at h
    ·rename_i l hl'
     obtain ⟨h1,h2⟩:=Al h
     obtain ⟨rfl,rfl,rfl⟩:=C4 h2
     rw [zD] at h1
     simp only [hl]
     exact ⟨eq_of_beq h1.1,l,hl',of_decide_eq_true h1.2,by cases agg <;> exact hK⟩
    ·cases h
   ·cases h
  ·cases h
 | store n y v =>
  simp only [fOp,eOp] at h ⊢
  split at h
  ·rename_i g o hy
   simp only [hy]
   split at h
   ·rename_i t l hl
    split at h
    ·rename_i vs hv
     obtain ⟨h1,h2⟩:=Al h
     obtain ⟨rfl,rfl,rfl⟩:=C4 h2
     rw [zD] at h1
     simp only [hl,hv]
     exact ⟨⟨of_decide_eq_true h1.1,h1.2⟩,hK⟩
    ·cases h
   ·cases h
  ·rename_i g sz k o hy
   simp only [hy]
   split at h
   ·rename_i t sz' es hl
    split at h
    ·rename_i vs hv
     split at h
     ·rename_i ls hls
      split at h
      ·rename_i l hl'
       obtain ⟨h1,h2⟩:=Al h
       obtain ⟨rfl,rfl,rfl⟩:=C4 h2
       simp only [zD,zI] at h1
       simp only [hl,hv,hls]
       refine ⟨⟨eq_of_beq h1.1.1.1,of_decide_eq_true h1.1.1.2,fun hm=>?_,EM.1 h1.2⟩,l,hl',hK⟩
       rw [CV.2 hm] at h1
       exact absurd h1.1.2 (by simp)
      ·cases h
     ·cases h
    ·cases h
   ·rename_i es hs hl
    split at h
    ·rename_i v0 hv
     split at h
     ·rename_i z hz
      split at h
      ·cases h
      ·rename_i hh
       split at h
       ·rename_i l hl'
        obtain ⟨h1,h2⟩:=Al h
        obtain ⟨rfl,rfl,rfl⟩:=C4 h2
        simp only [zD,beq_iff_eq,decide_eq_true_eq] at h1
        simp only [hl,hv]
        exact ⟨v0,z,rfl,hz,hh,l,hl',⟨h1.1,h1.2⟩,hK⟩
       ·cases h
     ·cases h
    ·cases h
   ·cases h
  ·cases h
 | nilchk y =>
  simp only [fOp,eOp] at h ⊢
  split at h
  all_goals first | (rename_i hy; simp only [hy]; obtain ⟨e1,rfl,rfl⟩:=Ca h; rw [e1]; exact hK) | cases h
 | bin op tb y z =>
  simp only [fOp,eOp] at h ⊢
  obtain ⟨h1,rfl,rfl⟩:=NN h
  exact V4 h1 hK
 | un op y =>
  simp only [fOp,eOp] at h ⊢
  split at h
  ·rename_i b hy
   split at h
   ·obtain ⟨rfl,rfl,rfl⟩:=Ca h
    simp only [hy]; exact hK
   ·cases h
  ·rename_i k n hy
   split at h
   ·obtain ⟨h1,h2⟩:=Al h
    obtain ⟨rfl,rfl,rfl⟩:=Ca h2
    simp only [hy]; exact ⟨At.1 h1,hK⟩
   ·cases h
  ·cases h
 | conv k y =>
  simp only [fOp,eOp] at h ⊢
  split at h
  ·rename_i k' n hy
   obtain ⟨h1,rfl,rfl⟩:=NN h
   simp only [hy]
   exact K9 h1 hK
  ·cases h
 | mkfn f caps =>
  obtain ⟨rfl,rfl,rfl⟩:=Ca h
  exact hK
 | mkslice t sz bytes z len =>
  simp only [fOp,eOp] at h ⊢
  split at h
  ·rename_i k n hn
   split at h
   ·rename_i zl hz
    obtain ⟨h1,h2⟩:=Al h
    obtain ⟨rfl,rfl,rfl⟩:=C4 h2
    simp only [zD] at h1
    simp only [hn,hz]
    exact ⟨⟨At.1 h1.1.1.1,At.1 h1.1.1.2,At.1 h1.1.2,isEmpty_nil h1.2⟩,hK⟩
   ·cases h
  ·cases h
 | slice str sz y lo hi =>
  simp only [fOp,eOp] at h ⊢
  split at h
  ·rename_i s hy
   split at h
   ·rename_i l hl
    split at h
    ·rename_i q hq
     obtain ⟨h1,h2⟩:=Al h
     obtain ⟨rfl,rfl,rfl⟩:=Ca h2
     simp only [zD] at h1
     simp only [hy,hl,hq]
     exact ⟨⟨At.1 h1.1.1.1,At.1 h1.1.1.2,At.1 h1.1.2⟩,h1.2,hK⟩
    ·cases h
   ·cases h
  ·rename_i es hy
   split at h
   ·rename_i l hl
    split at h
    ·rename_i q hq
     obtain ⟨h1,h2⟩:=Al h
     obtain ⟨rfl,rfl,rfl⟩:=Ca h2
     simp only [zD,zI] at h1
     simp only [hy,hl,hq]
     refine ⟨⟨At.1 h1.1.1.1.1,At.1 h1.1.1.1.2,At.1 h1.1.1.2⟩,h1.1.2,fun e he=>?_,hK⟩
     exact eq_of_beq ((zM.1 h1.2) e he)
    ·cases h
   ·cases h
  ·rename_i g hy
   split at h
   ·rename_i t0 sz' es hg
    split at h
    ·rename_i l hl
     split at h
     ·rename_i q hq
      simp only [hy,hg,hl,hq]
      cases hpf:pfx lo hi with
      | true =>
       rw [hpf,cond_true] at h
       obtain ⟨h1,h2⟩:=Al h
       simp only [zB,zE] at h2
       obtain ⟨rfl,rfl,rfl⟩:=h2
       simp only [zD,zI] at h1
       exact ⟨⟨At.1 h1.1.1.1.1,At.1 h1.1.1.1.2,At.1 h1.1.1.2⟩,h1.1.2,eq_of_beq h1.2,.inr ⟨rfl,hK⟩⟩
      | false =>
       rw [hpf,cond_false] at h
       obtain ⟨h1,h2⟩:=Al h
       simp only [zB,zE] at h2
       obtain ⟨rfl,rfl,rfl⟩:=h2
       simp only [zD,zI] at h1
       exact ⟨⟨At.1 h1.1.1.1.1.1,At.1 h1.1.1.1.1.2,At.1 h1.1.1.1.2⟩,h1.1.1.2,eq_of_beq h1.1.2,.inl ⟨h1.2,hK⟩⟩
     ·cases h
    ·cases h
   ·rename_i es hg
    split at h
    ·rename_i l hl
     split at h
     ·rename_i q hq
      obtain ⟨h1,h2⟩:=Al h
      simp only [zB,zE] at h2
      obtain ⟨rfl,rfl,rfl⟩:=h2
      simp only [zD,zI] at h1
      simp only [hy,hg,hl,hq]
      refine ⟨⟨At.1 h1.1.1.1.1,At.1 h1.1.1.1.2,At.1 h1.1.1.2⟩,h1.1.2,fun e he=>?_,hK⟩
      exact eq_of_beq ((zM.1 h1.2) e he)
     ·cases h
    ·cases h
   ·cases h
  ·cases h
 | faddr off y =>
  simp only [fOp,eOp] at h ⊢
  split at h
  all_goals first | (rename_i hy; simp only [hy]; obtain ⟨e1,rfl,rfl⟩:=Ca h; rw [e1]; exact hK) | cases h
 | field agg off n y =>
  simp only [fOp,eOp] at h ⊢
  split at h
  ·rename_i l hy
   obtain ⟨h1,h2⟩:=Al h
   obtain ⟨rfl,rfl,rfl⟩:=Ca h2
   simp only [hy]
   exact ⟨of_decide_eq_true h1,by cases agg <;> exact hK⟩
  ·cases h
 | iaddr sz y i =>
  simp only [fOp,eOp] at h ⊢
  split at h
  ·rename_i es hy
   split at h
   ·rename_i k n hn
    obtain ⟨h1,h2⟩:=Al h
    split at h2
    ·rename_i l hl
     obtain ⟨h3,h4⟩:=Al h2
     obtain ⟨rfl,rfl,rfl⟩:=Ca h4
     simp only [hy,hn]
     exact ⟨At.1 h1,l,hl,eq_of_beq h3,hK⟩
    ·cases h2
   ·cases h
  ·rename_i g hy
   split at h
   ·rename_i k n hn
    split at h
    ·rename_i t sz' es hl
     obtain ⟨h1,h2⟩:=Al h
     obtain ⟨rfl,rfl,rfl⟩:=C4 h2
     simp only [zD] at h1
     simp only [hy,hn,hl]
     exact ⟨⟨eq_of_beq h1.1.1,At.1 h1.1.2,At.1 h1.2⟩,hK⟩
    ·rename_i es hs hl
     obtain ⟨h1,h2⟩:=Al h
     obtain ⟨rfl,rfl,rfl⟩:=C4 h2
     simp only [zD] at h1
     simp only [hy,hn,hl]
     exact ⟨⟨At.1 h1.1,At.1 h1.2⟩,hK⟩
    ·rename_i t sz' es us hl
     obtain ⟨h1,h2⟩:=Al h
     obtain ⟨rfl,rfl,rfl⟩:=C4 h2
     simp only [zD] at h1
     simp only [hy,hn,hl]
     exact ⟨⟨eq_of_beq h1.1.1,At.1 h1.1.2,At.1 h1.2⟩,hK⟩
    ·cases h
   ·cases h
  ·cases h
 | idx y i =>
  simp only [fOp,eOp] at h ⊢
  split at h
  ·rename_i s hy
   split at h
   ·rename_i k n hn
    obtain ⟨h1,h2⟩:=Al h
    obtain ⟨rfl,rfl,rfl⟩:=Ca h2
    simp only [zD] at h1
    simp only [hy,hn]
    exact ⟨⟨At.1 h1.1,At.1 h1.2⟩,hK⟩
   ·cases h
  ·cases h
 | ext y k =>
  simp only [fOp,eOp] at h ⊢
  split at h
  ·rename_i l hy
   obtain ⟨h1,h2⟩:=Al h
   obtain ⟨rfl,rfl,rfl⟩:=Ca h2
   simp only [hy]
   exact ⟨of_decide_eq_true h1,hK⟩
  ·cases h
 | call f args=>exact hC f _ x u rd h K hK
 | callv y args =>
  simp only [fOp,eOp] at h ⊢
  split at h
  ·rename_i f caps hy
   obtain ⟨h1,h2⟩:=Al h
   simp only [hy]
   exact ⟨h1,hC f _ x u rd h2 K hK⟩
  ·cases h
 | len str y =>
  simp only [fOp,eOp] at h ⊢
  split at h
  ·rename_i s hy
   obtain ⟨h1,h2⟩:=Al h
   obtain ⟨rfl,rfl,rfl⟩:=Ca h2
   simp only [hy]; exact ⟨h1,hK⟩
  ·rename_i es hy
   obtain ⟨h1,h2⟩:=ED h
   obtain ⟨rfl,rfl,rfl⟩:=Ca h2
   simp only [hy]; exact ⟨h1,hK⟩
  ·rename_i hy
   obtain ⟨h1,h2⟩:=ED h
   obtain ⟨rfl,rfl,rfl⟩:=Ca h2
   simp only [hy]; exact ⟨h1,hK⟩
  ·rename_i g hy
   split at h
   ·rename_i t sz es hl
    obtain ⟨h1,h2⟩:=ED h
    obtain ⟨rfl,rfl,rfl⟩:=C4 h2
    simp only [hy,hl]; exact ⟨h1,hK⟩
   ·rename_i es hs hl
    obtain ⟨h1,h2⟩:=ED h
    obtain ⟨rfl,rfl,rfl⟩:=C4 h2
    simp only [hy,hl]; exact ⟨h1,hK⟩
   ·rename_i t sz es us hl
    obtain ⟨h1,h2⟩:=ED h
    obtain ⟨rfl,rfl,rfl⟩:=C4 h2
    simp only [hy,hl]; exact ⟨h1,hK⟩
   ·cases h
  ·cases h
 | append t sz bytes z y w =>
  simp only [fOp,eOp] at h ⊢
  split at h
  ·rename_i new gs ha
   simp only [ha]
   split at h
   ·rename_i hy
    obtain ⟨h1,h2⟩:=Al h
    obtain ⟨rfl,rfl,rfl⟩:=C4 h2
    simp only [zD] at h1
    simp only [hy]
    exact ⟨⟨At.1 h1.1.1,At.1 h1.1.2,MW h1.2⟩,hK⟩
   ·rename_i g hy
    split at h
    ·rename_i t' sz' es hl
     obtain ⟨h1,h2⟩:=Al h
     obtain ⟨rfl,rfl,rfl⟩:=C4 h2
     simp only [zD,zI] at h1
     simp only [hy,hl]
     refine ⟨⟨eq_of_beq h1.1.1.1.1.1,eq_of_beq h1.1.1.1.1.2,At.1 h1.1.1.1.2,At.1 h1.1.1.2,fun hm=>?_,MW h1.2⟩,hK⟩
     rw [CV.2 hm] at h1
     exact absurd h1.1.2 (by simp)
    ·rename_i t' sz' es us hl
     obtain ⟨h1,h2⟩:=Al h
     obtain ⟨rfl,rfl,rfl⟩:=C4 h2
     simp only [zD,zI] at h1
     simp only [hy,hl]
     refine ⟨⟨eq_of_beq h1.1.1.1.1.1.1,eq_of_beq h1.1.1.1.1.1.2,At.1 h1.1.1.1.1.2,At.1 h1.1.1.1.2,fun hm=>?_,MW h1.1.2,h1.2⟩,hK⟩
     rw [CV.2 hm] at h1
     exact absurd h1.1.1.2 (by simp)
    ·cases h
   ·cases h
  ·cases h
 | minmax mx y z =>
  simp only [fOp,eOp] at h ⊢
  split at h
  ·rename_i k a hy
   split at h
   ·rename_i k' b hz
    obtain ⟨h1,h2⟩:=Al h
    obtain ⟨rfl,rfl,rfl⟩:=Ca h2
    simp only [hy,hz]
    refine ⟨of_decide_eq_true h1,?_⟩
    cases mx
    ·by_cases q:b<a
     ·rw [AV q] at hK; simpa [q] using hK
     ·rw [Bg q] at hK; simpa [q] using hK
    ·by_cases q:a<b
     ·rw [AV q] at hK; simpa [q] using hK
     ·rw [Bg q] at hK; simpa [q] using hK
   ·cases h
  ·cases h
 | mkmap ks hint =>
  simp only [fOp,eOp] at h ⊢
  cases hint with
  | none =>
   obtain ⟨rfl,rfl,rfl⟩:=C4 h
   exact ⟨trivial,hK⟩
  | some y =>
   simp only at h ⊢
   split at h
   ·rename_i k n hy
    obtain ⟨rfl,rfl,rfl⟩:=C4 h
    rw [hy]
    exact ⟨rfl,hK⟩
   ·cases h
 | mset ks m k v =>
  simp only [fOp,eOp] at h ⊢
  split at h
  ·rename_i g hm
   simp only [hm]
   split at h
   ·rename_i ks' f hg
    simp only [hg]
    split at h
    ·rename_i q hq
     split at h
     ·rename_i y hy
      obtain ⟨h1,h2⟩:=Al h
      obtain ⟨rfl,rfl,rfl⟩:=C4 h2
      exact ⟨eq_of_beq h1,q,y,hq,hy,hK⟩
     ·cases h
    ·cases h
   ·cases h
  ·cases h
 | mkit y =>
  simp only [fOp,eOp] at h ⊢
  split at h
  ·rename_i ks m hy
   obtain ⟨rfl,rfl,rfl⟩:=C4 h
   simp only [hy]; exact hK
  ·cases h
 | mcur y =>
  simp only [fOp,eOp] at h ⊢
  split at h
  ·rename_i g o hy
   simp only [hy]
   split at h
   ·rename_i hg
    obtain ⟨h1,h2⟩:=Al h
    obtain ⟨rfl,rfl,rfl⟩:=C4 h2
    simp only [hg]
    exact ⟨by simpa using h1,hK⟩
   ·cases h
  ·cases h
 | mget ks ok agg z m k =>
  simp only [fOp,eOp] at h ⊢
  split at h
  ·rename_i ks' f rd' hm
   split at h
   ·rename_i q hq
    obtain ⟨h1,h2⟩:=Al h
    obtain rfl:=eq_of_beq h1
    refine ⟨f,rd',q,hm,hq,?_⟩
    cases hf:f q with
    | none =>
     rw [hf] at h2
     obtain ⟨rfl,rfl,rfl⟩:=C4 h2
     cases ok <;> cases agg <;> exact hK
    | some y =>
     rw [hf] at h2
     obtain ⟨rfl,rfl,rfl⟩:=C4 h2
     cases ok <;> exact hK
   ·cases h
  ·cases h
def QI (n:Nat):List (Nat × Ob)→Bool
 | []=>true
 | (g,_) :: r=>decide (g < n)&&QI n r
theorem NP {n:Nat}:∀ {u:List (Nat × Ob)},QI n u=true→okU n u
 | [],_=>trivial
 | (g,o) :: r,h=>by
  simp only [QI,zD] at h
  exact ⟨of_decide_eq_true h.1,NP h.2⟩
def Gi (d:Option Tmp) (st:St):Option R3→Option (Ent × St)
 | some (x,[],rd)=>some (⟨true,x,[],rd⟩,⟨EK st.sl d x,st.ob⟩)
 | some (x,u,rd)=>bif QI (CU st.ob u).length u then some (⟨true,x,u,rd⟩,⟨EK st.sl d x,CU st.ob u⟩) else none
 | none=>none
def OZ:Bool→Bool→Bool
 | true,b=>b
 | false,true=>false
 | false,false=>true
noncomputable def EN (P:Program) (C:CallF) (o:SOper) (st:St):Option (Ent × St) :=
 match o.gd with
 | none=>Gi o.dst st (fOp P C o.op st.sl st.ob)
 | some (k,want)=>match gets st.sl k with
  | .bool b=>bif OZ b want then Gi o.dst st (fOp P C o.op st.sl st.ob) else some (⟨false,.tup [],[],[]⟩,⟨EK st.sl o.dst (.tup []),st.ob⟩)
  | .tup []=>some (⟨false,.tup [],[],[]⟩,⟨EK st.sl o.dst (.tup []),st.ob⟩)
  | _=>none
noncomputable def KA (P:Program) (C:CallF):List SOper→St→Option St
 | [],st=>some st
 | o :: r,st=>match EN P C o st with
  | some (_,st')=>KA P C r st'
  | none=>none
noncomputable def D2 (P:Program) (C:CallF):List SOper→List Ent→St→Option (List Ent × St)
 | [],acc,st=>some (acc,st)
 | o :: r,acc,st=>match EN P C o st with
  | some (e,st')=>D2 P C r (acc++[e]) st'
  | none=>none
def Dz (P:Program) (C:CallF):Prop:=∀ ob f xs x u rd,C f xs ob=some (x,u,rd)→∀ K:Kont,K x u rd→CallP P f xs (Ad ob) ob.length K
section
variable {P:Program} {C:CallF}
theorem V5 {d:Option Tmp} {st st':St} {r:Option R3} {e:Ent} (h:Gi d st r=some (e,st')):∃ x u rd,r=some (x,u,rd)∧okU (CU st.ob u).length u∧e=⟨true,x,u,rd⟩∧st'=st.app d x u:=by
 unfold Gi at h
 split at h
 ·rename_i x rd
  simp only [zB,zE] at h
  refine ⟨x,[],rd,rfl,trivial,h.1.symm,?_⟩
  rw [←h.2]
  simp only [St.app,QG]
 ·rename_i x u rd _
  obtain ⟨h1,h2⟩:=Al h
  simp only [zB,zE] at h2
  exact ⟨x,u,rd,rfl,NP h1,h2.1.symm,h2.2.symm⟩
 ·cases h
theorem PX (hC:Dz P C) {o:SOper} {st st':St} {e:Ent} {K:Ent→St→Prop} (h:EN P C o st=some (e,st')) (hK:K e st'):Mb P o st K:=by
 have run:∀ {e:Ent} {st':St},Gi o.dst st (fOp P C o.op st.sl st.ob)=some (e,st')→K e st'→eOp P o.op (gets st.sl) (Ad st.ob) st.ob.length fun x upd rd=>okU (CU st.ob upd).length upd∧K ⟨true,x,upd,rd⟩ (st.app o.dst x upd):=fun h hK=>by
  obtain ⟨x,u,rd,h1,h2,rfl,rfl⟩:=V5 h
  exact W5 h1 (fun f xs x u rd=>hC st.ob f xs x u rd) ⟨h2,hK⟩
 unfold EN at h
 unfold Mb
 split at h
 ·rename_i hg
  try simp only [hg]
  exact run h hK
 ·rename_i k want hg
  try simp only [hg]
  split at h
  ·rename_i b hb
   simp only [hb]
   cases hw:OZ b want with
   | true =>
    rw [hw] at h
    have e:b=want:=by cases b <;> cases want <;> simp [OZ] at hw ⊢
    exact ⟨fun _=>run h hK,fun e'=>by subst e; cases b <;> cases e'⟩
   | false =>
    rw [hw] at h
    have e:¬ b=want:=by cases b <;> cases want <;> simp [OZ] at hw ⊢
    simp only [cond_false,zB,zE] at h
    obtain ⟨rfl,rfl⟩:=h
    exact ⟨fun e'=>absurd e' e,fun _=>hK⟩
  ·rename_i ht
   simp only [ht,zB,zE] at h ⊢
   obtain ⟨rfl,rfl⟩:=h
   exact ⟨trivial,hK⟩
  ·cases h
theorem Si (hC:Dz P C):∀ {l:List SOper} {st st':St} {K:St→Prop},KA P C l st=some st'→K st'→Sa P l st K
 | [],st,st',K,h,hK=>by
  obtain rfl:=zA h
  exact hK
 | o :: r,st,st',K,h,hK=>by
  simp only [KA] at h
  split at h
  ·rename_i e st1 h1
   exact PX hC h1 (Si hC h hK)
  ·cases h
theorem NQ:∀ {l:List SOper} {acc:List Ent} {st:St} {out:List Ent × St},D2 P C l acc st=some out→∃ es,out.1=acc++es∧D2 P C l [] st=some (es,out.2)
 | [],acc,st,out,h=>by
  obtain rfl:=zA h
  exact ⟨[],by simp,rfl⟩
 | o :: r,acc,st,out,h=>by
  simp only [D2] at h ⊢
  split at h
  ·rename_i e st1 h1
   obtain ⟨es,e1,e2⟩:=NQ h
   have:∃ es',e :: es=es'∧D2 P C r ([]++[e]) st1=some (es',out.2):=by
    have key:∀ (l:List SOper) (a b:List Ent) (s:St) (es:List Ent) (s':St),D2 P C l a s=some (es,s')→D2 P C l (b++a) s=some (b++es,s'):=by
     intro l
     induction l with
     | nil=>intro a b s es s' h; simp only [D2,zB,zE] at h ⊢; exact ⟨by rw [h.1],h.2⟩
     | cons o r ih =>
      intro a b s es s' h
      simp only [D2] at h ⊢
      split at h
      ·rename_i e s1 h1
       rw [yK]
       exact ih _ _ _ _ _ h
      ·cases h
    refine ⟨_,rfl,?_⟩
    have:=key r [] [e] st1 es out.2 e2
    simpa using this
   obtain ⟨es',rfl,h3⟩:=this
   exact ⟨e :: es,by rw [e1]; simp,h3⟩
  ·cases h
theorem Sj (hC:Dz P C):∀ {l:List SOper} {st st':St} {es:List Ent} {K:List Ent→St→Prop},D2 P C l [] st=some (es,st')→K es st'→RZ P l st K
 | [],st,st',es,K,h,hK=>by
  simp only [D2,zB,zE] at h
  obtain ⟨rfl,rfl⟩:=h
  exact hK
 | o :: r,st,st',es,K,h,hK=>by
  simp only [D2] at h
  split at h
  ·rename_i e st1 h1
   obtain ⟨es',e1,e2⟩:=NQ h
   simp only at e1
   subst e1
   exact PX hC h1 (Sj hC e2 (by simpa using hK))
  ·cases h
end
mutual
def SV.back (m:List Nat):SV→Option SV
 | .ref g=>match FR m g with
  | some i=>some (.ref i)
  | none=>none
 | .ptr g o=>match FR m g with
  | some i=>some (.ptr i o)
  | none=>none
 | .eptr g sz k o=>match FR m g with
  | some i=>some (.eptr i sz k o)
  | none=>none
 | .agg l=>match SV.J2 m l with
  | some l'=>some (.agg l')
  | none=>none
 | .tup l=>match SV.J2 m l with
  | some l'=>some (.tup l')
  | none=>none
 | .fn f l=>match SV.J2 m l with
  | some l'=>some (.fn f l')
  | none=>none
 | .any=>some .any
 | .int k n=>some (.int k n)
 | .bool b=>some (.bool b)
 | .str s=>some (.str s)
 | .nil=>some .nil
 | .arr es=>some (.arr es)
 | .vptr es k o=>some (.vptr es k o)
 | .mp ks m=>some (.mp ks m)
 | .val u=>some (.val u)
def SV.J2 (m:List Nat):List SV→Option (List SV)
 | []=>some []
 | x :: r=>match SV.back m x with
  | some y=>match SV.J2 m r with
   | some r'=>some (y :: r')
   | none=>none
  | none=>none
end
mutual
theorem SV.back_ren {m:List Nat} {p:Nat}:∀ {x y:SV},x.back m=some y→y.ren (sgp m p)=x
 | .ref g,y,h=>by
  simp only [SV.back] at h
  split at h
  ·rename_i i hi
   obtain rfl:=zA h
   simp only [SV.ren,Hp hi]
  ·cases h
 | .ptr g o,y,h=>by
  simp only [SV.back] at h
  split at h
  ·rename_i i hi
   obtain rfl:=zA h
   simp only [SV.ren,Hp hi]
  ·cases h
 | .eptr g sz k o,y,h=>by
  simp only [SV.back] at h
  split at h
  ·rename_i i hi
   obtain rfl:=zA h
   simp only [SV.ren,Hp hi]
  ·cases h
 | .agg l,y,h=>by
  simp only [SV.back] at h
  split at h
  ·rename_i l' hl
   obtain rfl:=zA h
   simp only [SV.ren,SV.FU hl]
  ·cases h
 | .tup l,y,h=>by
  simp only [SV.back] at h
  split at h
  ·rename_i l' hl
   obtain rfl:=zA h
   simp only [SV.ren,SV.FU hl]
  ·cases h
 | .fn f l,y,h=>by
  simp only [SV.back] at h
  split at h
  ·rename_i l' hl
   obtain rfl:=zA h
   simp only [SV.ren,SV.FU hl]
  ·cases h
 | .any,y,h=>by obtain rfl:=zA h; rfl
 | .int k n,y,h=>by obtain rfl:=zA h; rfl
 | .bool b,y,h=>by obtain rfl:=zA h; rfl
 | .str s,y,h=>by obtain rfl:=zA h; rfl
 | .nil,y,h=>by obtain rfl:=zA h; rfl
 | .arr es,y,h=>by obtain rfl:=zA h; rfl
 | .vptr es k o,y,h=>by obtain rfl:=zA h; rfl
 | .mp ks m,y,h=>by obtain rfl:=zA h; rfl
 | .val u,y,h=>by obtain rfl:=zA h; rfl
theorem SV.FU {m:List Nat} {p:Nat}:∀ {x y:List SV},SV.J2 m x=some y→SV.Ir (sgp m p) y=x
 | [],y,h=>by obtain rfl:=zA h; rfl
 | x :: r,y,h=>by
  simp only [SV.J2] at h
  split at h
  ·rename_i y1 h1
   split at h
   ·rename_i r' h2
    obtain rfl:=zA h
    simp only [SV.Ir,SV.back_ren h1,SV.FU h2]
   ·cases h
  ·cases h
end
def FV (m:List Nat):List (Nat × Nat × Nat)→Option (List (Nat × Nat × Nat))
 | []=>some []
 | (k,o,q) :: r=>match FR m q with
  | some i=>match FV m r with
   | some r'=>some ((k,o,i) :: r')
   | none=>none
  | none=>none
theorem H3 {m:List Nat} {p:Nat}:∀ {hs hs':List (Nat × Nat × Nat)},FV m hs=some hs'→hs'.map (fun h=>(h.1,h.2.1,sgp m p h.2.2))=hs
 | [],hs',h=>by obtain rfl:=zA h; rfl
 | (k,o,q) :: r,hs',h=>by
  simp only [FV] at h
  split at h
  ·rename_i i hi
   split at h
   ·rename_i r' hr
    obtain rfl:=zA h
    simp only [zN,Hp hi,H3 hr]
   ·cases h
  ·cases h
def Ob.back (m:List Nat):Ob→Option Ob
 | .box t l=>match SV.J2 m l with
  | some l'=>some (.box t l')
  | none=>none
 | .row t sz es=>some (.row t sz es)
 | .tree es hs=>match FV m hs with
  | some hs'=>some (.tree es hs')
  | none=>none
 | .gone=>some .gone
 | .mp ks m=>some (.mp ks m)
 | .it ks m seen cur=>some (.it ks m seen cur)
 | .shd _=>none
 | .hist t sz es us=>some (.hist t sz es us)
 | .free=>none
theorem Ob.back_ren {m:List Nat} {p:Nat} {x y:Ob} (h:x.back m=some y):y.ren (sgp m p)=x:=by
 cases x with
 | box t l =>
  simp only [Ob.back] at h
  split at h
  ·rename_i l' hl
   obtain rfl:=zA h
   simp only [Ob.ren,SV.FU hl]
  ·cases h
 | row t sz es=>obtain rfl:=zA h; rfl
 | tree es hs =>
  simp only [Ob.back] at h
  split at h
  ·rename_i hs' hl
   obtain rfl:=zA h
   simp only [Ob.ren,H3 hl]
  ·cases h
 | gone=>obtain rfl:=zA h; rfl
 | mp ks m=>obtain rfl:=zA h; rfl
 | it ks m seen cur=>obtain rfl:=zA h; rfl
 | shd es=>cases h
 | hist t sz es us=>obtain rfl:=zA h; rfl
 | free=>cases h
def E7 (m:List Nat) (ob:List Ob):List Nat→Option (List Ob)
 | []=>some []
 | g :: r=>match (Ad ob g).back m with
  | some o=>match E7 m ob r with
   | some l=>some (o :: l)
   | none=>none
  | none=>none
theorem J3 {m:List Nat} {ob:List Ob}:∀ {l:List Nat} {r:List Ob},E7 m ob l=some r→r.length=l.length
 | [],r,h=>by obtain rfl:=zA h; rfl
 | g :: l,r,h=>by
  simp only [E7] at h
  split at h
  ·split at h
   ·rename_i l' hl
    obtain rfl:=zA h
    simp [J3 hl]
   ·cases h
  ·cases h
theorem J4 {m:List Nat} {ob:List Ob} {p:Nat}:∀ (l:List Nat) (r:List Ob) (k:Nat),E7 m ob l=some r→(∀ j,j<l.length→sgp m p (k+j)=l.getD j 0)→Mc (Ad ob) (sgp m p) k r
 | [],r,k,h,_=>by obtain rfl:=zA h; trivial
 | a :: l,r,k,h,hs=>by
  simp only [E7] at h
  split at h
  ·rename_i o ho
   split at h
   ·rename_i l' hl
    obtain rfl:=zA h
    have h0:=hs 0 (by simp)
    simp only [Nat.add_zero,List.getD_cons_zero] at h0
    refine ⟨by rw [h0,Ob.back_ren ho],J4 l l' (k+1) hl fun j hj=>?_⟩
    have:=hs (j+1) (by simpa using hj)
    simpa [Nat.add_assoc,Nat.add_comm 1 j] using this
   ·cases h
  ·cases h
mutual
def SV.refs:SV→List Nat
 | .ref g=>[g]
 | .ptr g _=>[g]
 | .eptr g _ _ _=>[g]
 | .agg l=>SV.Md l
 | .tup l=>SV.Md l
 | .fn _ l=>SV.Md l
 | _=>[]
def SV.Md:List SV→List Nat
 | []=>[]
 | x :: r=>x.refs++SV.Md r
end
def Ob.refs:Ob→List Nat
 | .box _ l=>SV.Md l
 | .tree _ hs=>hs.map (·.2.2)
 | _=>[]
def Ob.liveB:Ob→Bool
 | .free=>false
 | .gone=>false
 | .shd _=>false
 | _=>true
def reach (ob:List Ob):Nat→List Nat→List Nat→List Nat
 | 0,_,acc=>acc
 | _+1,[],acc=>acc
 | n+1,g :: r,acc=>bif F7 g acc || !(Ad ob g).liveB then reach ob n r acc else reach ob n (r++(Ad ob g).refs) (acc++[g])
mutual
def SV.ptrs:SV→List Nat
 | .ptr g _=>[g]
 | .eptr g _ _ _=>[g]
 | .agg l=>SV.Me l
 | .tup l=>SV.Me l
 | .fn _ l=>SV.Me l
 | _=>[]
def SV.Me:List SV→List Nat
 | []=>[]
 | x :: r=>x.ptrs++SV.Me r
end
inductive RM where
 |asis
 |frz
 |late
 |own (l:List (Option (Nat × Nat)))
 |half (l:List (Option (Nat × Nat)))
 |frzg (d n:Nat)
 |halfg (d n:Nat) (l:List (Option (Nat × Nat)))
 |tr (l:List (Option (Nat × Nat)))
 |frl (l:List Nat)
structure FM where
 hand:List Bool
 res:RM
 ext:Option (List SV→List Ob→Option (SV × List Ob))
 tree:Bool
def FW:List Bool→List SV→List Nat
 | [],xs=>SV.Me xs
 | _,[]=>[]
 | b :: bs,x :: xs=>(bif b then x.refs else x.ptrs)++FW bs xs
abbrev FEnv:=FuncId→List SV→List Ob→Option (SV × List Ob)
def NR (r:SV) (fob:List Ob):Bool:=r.noSh&&fob.all Ob.noSh
def HR (n:Nat):List Nat→Bool
 | []=>true
 | g :: r=>decide (g < n)&&HR n r
def Gj (n:Nat):List Ob→Bool
 | []=>true
 | o :: r=>o.idsB n&&Gj n r
def Ft (sel lent:List Nat) (p:Nat) (r:SV) (fob':List Ob):R3 :=
 bif lent.isEmpty || NR r fob' then (r.ren (sgp sel p),mkU (sgp sel p) 0 fob',lent++sel)
 else (r.ren (sgp sel p),mkU (sgp sel p) 0 fob'++B7 lent,lent++sel)
def CJ (hd:List Bool) (E:FEnv) (f:FuncId) (xs:List SV) (ob:List Ob) (sel:List Nat):Option R3 :=
 match E7 sel ob sel with
 | some fob=>bif F8 sel&&HR ob.length sel&&Gj fob.length fob then
   match E f (Fs hd (Ad ob) sel xs) fob with
   | some (r,fob')=>bif decide (fob.length≤fob'.length) then some (Ft sel (Bs sel xs) ob.length r fob') else none
   | none=>none
   else none
 | none=>none
def Do (gs:List Nat):List (Nat × Ob)→List (Nat × Ob)
 | []=>[]
 | (g,o) :: r=>(g,bif F7 g gs then .gone else o) :: Do gs r
def NS (u:List (Nat × Ob)):List Nat→Bool
 | []=>true
 | g :: r=>F7 g (u.map (·.1))&&NS u r
def seen (u:List (Nat × Ob)) (g:Nat):Ob:=(AE u g).getD .gone
def NT:R3→Option R3
 | (x,u,rd)=>bif NS u (Bl [] x) then some (Cp (seen u) [] x,Do (Bl [] x) u,rd) else none
def EO:RM→Option R3→Option R3
 | .late,some r=>NT r
 | .late,none=>none
 | _,r=>r
def CB (M:FuncId→FM) (E:FEnv):CallF:=fun f xs ob=>EO (M f).res (CJ (M f).hand E f xs ob (reach ob 64 (FW (M f).hand xs) []))
theorem HS {n:Nat}:∀ {l:List Nat},HR n l=true→∀ g∈l,g<n
 | [],_,g,hg=>by cases hg
 | x :: r,h,g,hg=>by
  simp only [HR,zD] at h
  rcases zO.1 hg with rfl | hg
  ·exact of_decide_eq_true h.1
  ·exact HS h.2 g hg
theorem GF {n:Nat}:∀ {l:List Ob},Gj n l=true→∀ o∈l,o.idsB n=true
 | [],_,g,hg=>by cases hg
 | x :: r,h,g,hg=>by
  simp only [Gj,zD] at h
  rcases zO.1 hg with rfl | hg
  ·exact h.1
  ·exact GF h.2 g hg
theorem IW {l:List (Nat × Ob)} {gs:List Nat} {g:Nat}:AE (l++B7 gs) g=match AE l g with | some o=>some o | none=>if g∈gs then some .gone else none:=by
 induction l with
 | nil =>
  simp only [List.nil_append,AE]
  induction gs with
  | nil=>simp [B7,AE]
  | cons a r ih =>
   simp only [B7,zN,AE] at ih ⊢
   by_cases h:a=g
   ·subst h; simp
   ·have h':¬ g=a:=fun e=>h e.symm
    simp [h,h',ih]
 | cons x l ih =>
  obtain ⟨a,o⟩:=x
  simp only [yL,AE]
  by_cases h:a=g
  ·simp [h]
  ·simp [h,ih]
theorem CallP.given {P:Program} {f:FuncId} {cas:List SV} {fob:List Ob} {r:SV} {fob':List Ob} (h:Fun P f cas fob r fob') {xs:List SV} {ob:Nat→Ob} {p:Nat} {K:Kont} (sel:List Nat)
  (hargs:∃ hd,Fs hd ob sel xs=cas) (hsel:sel.length=fob.length∧sel.Nodup) (hlt:∀ g,g∈sel→g<p) (hlen:fob.length≤fob'.length) (hob:Mc ob (sgp sel p) 0 fob) (hids:∀ o,o∈fob→o.idsB fob.length=true) (hfree:K4 ob p)
  (hK:K (r.ren (sgp sel p)) (mkU (sgp sel p) 0 fob'++B7 (Bs sel xs)) (Bs sel xs++sel)):CallP P f xs ob p K:=by
 refine ⟨_,_,_,hK,fun ob' hrd hup w I V B vs hwf hxs=>?_⟩
 obtain ⟨hsl,hsn⟩:=hsel
 have hs1:∀ k,k<fob.length→∃ g,sel[k]?=some g∧sgp sel p k=g∧g<p:=fun k hk=>by
  have:k<sel.length:=by omega
  refine ⟨sel[k],zG this,by rw [Du,zG this],hlt _ (zR this)⟩
 have hs2:∀ k,fob.length≤k→sgp sel p k=p+(k-fob.length):=fun k hk=>by
  rw [Du,z8 (by omega),hsl]
 have hinj:∀ i j,sgp sel p i=sgp sel p j→i=j:=fun i j e=>by
  rcases zF i fob.length with h1 | h1 <;> rcases zF j fob.length with h2 | h2
  ·obtain ⟨g,g1,g2,g3⟩:=hs1 i h1
   obtain ⟨g',g1',g2',g3'⟩:=hs1 j h2
   have e2:g=g':=by rw [←g2,← g2',e]
   subst e2
   have a1:=Gh hsn g1
   have a2:=Gh hsn g1'
   rw [a1] at a2
   exact zA a2
  ·obtain ⟨g,g1,g2,g3⟩:=hs1 i h1
   have:=hs2 j h2
   omega
  ·obtain ⟨g,g1,g2,g3⟩:=hs1 j h2
   have:=hs2 i h1
   omega
  ·have:=hs2 i h1
   have:=hs2 j h2
   omega
 have htm:∀ g,g∈(mkU (sgp sel p) 0 fob').map (·.1) ↔ ∃ k,k<fob'.length∧sgp sel p k=g:=fun g=>by
  rw [MU]
  simp
 have htouch:∀ g,Ao (mkU (sgp sel p) 0 fob'++B7 (Bs sel xs)) g ↔ (∃ k,k<fob'.length∧sgp sel p k=g)∨g∈Bs sel xs:=fun g=>by
  unfold Ao
  rw [yB,zK,htm]
  simp [B7]
 have hlook:∀ k,k<fob'.length→A1 ob' (mkU (sgp sel p) 0 fob'++B7 (Bs sel xs)) (sgp sel p k)=(Ad fob' k).ren (sgp sel p):=fun k hk=>by
  have:=K3 (σ:=sgp sel p) (l:=fob') (k:=0) (j:=k) (fun i i' _ _ _ _ e=>hinj i i' e) hk
  rw [zP] at this
  unfold A1
  rw [IW,this]; rfl
 have hlookg:∀ g,g∈Bs sel xs→¬ (A1 ob' (mkU (sgp sel p) 0 fob'++B7 (Bs sel xs)) g).live∨∃ k,k<fob'.length∧sgp sel p k=g:=fun g hg=>by
  by_cases h1:∃ k,k<fob'.length∧sgp sel p k=g
  ·exact .inr h1
  ·left
   have h2:AE (mkU (sgp sel p) 0 fob') g=none:=IP (upd:=mkU (sgp sel p) 0 fob') fun h=>h1 ((htm g).1 h)
   unfold A1
   rw [IW,h2]
   simp only [hg,if_true,Option.getD_some]
   exact fun h=>h
 have hobk:∀ k,k<fob.length→ob' (sgp sel p k)=(Ad fob k).ren (sgp sel p):=fun k hk=>by
  have:=HO hob hk
  rw [zP] at this
  obtain ⟨g,g1,g2,g3⟩:=hs1 k hk
  rw [←this,g2]
  exact hrd g (z7 _ (zU g1))
 have hnew:∀ k,fob.length≤k→k<fob'.length→ob' (sgp sel p k)=.free:=fun k h1 h2=>by
  rw [hup _ ((htouch _).2 (.inl ⟨k,h2,rfl⟩))]
  exact hfree _ (by rw [hs2 k h1]; omega)
 have hlv:∀ k,(Ad fob k).live→k<fob.length:=fun k hl=>by
  rcases zF k fob.length with h1 | h1
  ·exact h1
  ·rw [AF _ _ h1] at hl; exact hl.elim
 have hlv':∀ k,(Ad fob' k).live→k<fob'.length:=fun k hl=>by
  rcases zF k fob'.length with h1 | h1
  ·exact h1
  ·rw [AF _ _ h1] at hl; exact hl.elim
 have hlvo:∀ k,(Ad fob k).live→(ob' (sgp sel p k)).live:=fun k hl=>by
  rw [hobk k (hlv k hl)]
  exact (Ob.Is _).2 hl
 have hlent:∀ g,g∈Bs sel xs→ob' g=ob g:=fun g hg=>hrd g (List.mem_append_left _ hg)
 let Vc:Nat→Option Value:=fun k=>if k<fob.length then V (sgp sel p k) else none
 let Bc:Nat→Nat→Prop:=fun k=>B (sgp sel p k)
 let J:Nat→Prop:=fun b=>I b∨∃ g,g∈Bs sel xs∧(ob' g).live∧B g b
 have notsel:∀ g,g∈Bs sel xs→∀ k,k<fob.length→sgp sel p k≠g:=by
  intro g hg k hk e
  have h1:=EC xs g hg
  obtain ⟨g',g1,g2,_⟩:=hs1 k hk
  rw [g2] at e
  subst e
  rw [Gh hsn g1] at h1
  cases h1
 have hIJ:∀ b,I b→J b:=fun b hb=>.inl hb
 have hwfc:Wf w J Vc Bc (Ad fob):=by
  refine ⟨fun b hb=>?_,fun k hl=>?_,fun k b hl hb=>hwf.lt _ b (hlvo k hl) hb,fun k b hl hb hJ=>?_,fun k k' b hl hl' hb hb'=>hinj _ _ (hwf.dO _ _ b (hlvo k hl) (hlvo k' hl') hb hb'),fun k hf=>?_,hwf.gl.keep (KeepS.refl _ _) hIJ⟩
  ·rcases hb with hb | ⟨g,_,hl,hb⟩
   ·exact hwf.ilt b hb
   ·exact hwf.lt g b hl hb
  ·have hk:=hlv k hl
   obtain ⟨val,h1,h2⟩:=hwf.obj _ (hlvo k hl)
   refine ⟨val,by simp only [Vc,hk,if_true]; exact h1,?_⟩
   rw [hobk k hk] at h2
   have h3:=(ObR.ren _).1 h2
   have h4:=ObR.idsB (n:=fob.length) (V':=Vc) (fun g hg=>by simp only [Vc,hg,if_true]) (hids _ (It hk)) h3
   exact h4.keep ⟨zH _,fun _ _ _=>rfl⟩ hIJ (VLe.refl _) fun _ _ _=>rfl
  ·rcases hJ with hJ | ⟨g,hg,hlg,hgb⟩
   ·exact hwf.dI _ b (hlvo k hl) hb hJ
   ·exact notsel g hg k (hlv k hl) (hwf.dO _ _ b (hlvo k hl) hlg hb hgb)
  ·by_cases hk:k<fob.length
   ·simp only [Vc,hk,if_true]
    refine hwf.fr _ ?_
    rw [hobk k hk,hf]; rfl
   ·simp only [Vc,hk,if_false]
 have hargs':RepVs w J Vc cas vs:=by
  obtain ⟨hd,hargs⟩:=hargs
  rw [←hargs,← GD (ob:=ob) (ob':=ob') hd xs hlent]
  refine IS hwf hIJ (fun g i hi=>?_) hd xs vs (fun g b hg hl hb=>.inr ⟨g,hg,hl,hb⟩) hxs
  have hlt':i<fob.length:=by rw [←hsl]; exact (yI.1 (Ho hi)).1
  simp only [Vc,hlt',if_true,Hp hi]
 refine (h w J Vc Bc vs hwfc hargs').mono ?_
 rintro e w' ⟨v,I',V',B',rfl,hr,hpost⟩
 obtain ⟨hfr,hi0,hi1,hv,hwf',hbh⟩:=hpost
 have hHB:∀ b,HB Bc fob b→∃ g,Ao (mkU (sgp sel p) 0 fob'++B7 (Bs sel xs)) g∧(ob' g).live∧B g b:=fun b ⟨k,hl,hb⟩=>⟨sgp sel p k,(htouch _).2 (.inl ⟨k,by have:=hlv k hl; omega,rfl⟩),hlvo k hl,hb⟩
 classical
 let V2:Nat→Option Value:=fun g=>if hg:∃ k,k<fob'.length∧sgp sel p k=g then V' (Classical.choose hg) else V g
 let B2:Nat→Nat→Prop:=fun g=>if hg:∃ k,k<fob'.length∧sgp sel p k=g then B' (Classical.choose hg) else B g
 have hV2:∀ k,k<fob'.length→V2 (sgp sel p k)=V' k:=fun k hk=>by
  have hg:∃ k',k' < fob'.length∧sgp sel p k'=sgp sel p k:=⟨k,hk,rfl⟩
  have:V2 (sgp sel p k)=V' (Classical.choose hg):=dif_pos hg
  rw [this,hinj _ _ (Classical.choose_spec hg).2]
 have hB2:∀ k,k<fob'.length→B2 (sgp sel p k)=B' k:=fun k hk=>by
  have hg:∃ k',k' < fob'.length∧sgp sel p k'=sgp sel p k:=⟨k,hk,rfl⟩
  have:B2 (sgp sel p k)=B' (Classical.choose hg):=dif_pos hg
  rw [this,hinj _ _ (Classical.choose_spec hg).2]
 have hV2n:∀ g,¬ (∃ k,k<fob'.length∧sgp sel p k=g)→V2 g=V g:=fun g hg=>dif_neg hg
 have hB2n:∀ g,¬ (∃ k,k<fob'.length∧sgp sel p k=g)→B2 g=B g:=fun g hg=>dif_neg hg
 have hVV:VLe V V2:=fun g u hu=>by
  by_cases hg:∃ k,k<fob'.length∧sgp sel p k=g
  ·obtain ⟨k,hk,rfl⟩:=hg
   rw [hV2 k hk]
   by_cases h1:k<fob.length
   ·exact hv k u (by simp only [Vc,h1,if_true]; exact hu)
   ·rw [hwf.fr _ (hnew k (by omega) hk)] at hu; cases hu
  ·rw [hV2n g hg]; exact hu
 have hV'σ:VLe V' (fun k=>V2 (sgp sel p k)):=fun k u hu=>by
  rcases zF k fob'.length with h1 | h1
  ·simp only [hV2 k h1]; exact hu
  ·rw [hwf'.fr k (AF _ _ h1)] at hu; cases hu
 have kr:KeepS I' w' w':=⟨zH _,fun _ _ _=>rfl⟩
 have hres:RepV w' I' V2 (r.ren (sgp sel p)) v:=(RepV.ren r v).2 (RepV.mono kr (fun b hb=>hb) hV'σ _ _ hr)
 have hobr:∀ k,(Ad fob' k).live→∃ val,V2 (sgp sel p k)=some val∧ObR w' I' V2 (B2 (sgp sel p k)) val ((Ad fob' k).ren (sgp sel p)):=fun k hl=>by
  have hk:=hlv' k hl
  obtain ⟨val,h1,h2⟩:=hwf'.obj k hl
  refine ⟨val,by rw [hV2 k hk]; exact h1,(ObR.ren _).2 ?_⟩
  rw [hB2 k hk]
  exact h2.keep kr (fun b hb=>hb) hV'σ fun _ _ _=>rfl
 let T:Nat→Prop:=Ao (mkU (sgp sel p) 0 fob'++B7 (Bs sel xs))
 have hi2:∀ b,I' b→I b∨w.heap.size≤b∨∃ g,T g∧(ob' g).live∧B g b:=fun b hb=>by
  rcases hi1 b hb with h1 | h1 | h1
  ·rcases h1 with h1 | ⟨g,h1,h2,h3⟩
   ·exact .inl h1
   ·exact .inr (.inr ⟨g,(htouch g).2 (.inr h1),h2,h3⟩)
  ·exact .inr (.inl h1)
  ·exact .inr (.inr (hHB b h1))
 have hkeep:∀ b,b<w.heap.size→(∀ g,T g→(ob' g).live→¬ B g b)→w'.heap[b]?=w.heap[b]?:=fun b hb hno=>hfr.block b hb fun hH=>by
  obtain ⟨g,h1,h2,h3⟩:=hHB b hH
  exact hno g h1 h2 h3
 have live2:∀ k,k<fob'.length→(A1 ob' (mkU (sgp sel p) 0 fob'++B7 (Bs sel xs)) (sgp sel p k)).live→(Ad fob' k).live:=fun k hk hl=>by
  rw [hlook k hk] at hl
  exact (Ob.Is _).1 hl
 have liveT:∀ g,T g→(A1 ob' (mkU (sgp sel p) 0 fob'++B7 (Bs sel xs)) g).live→∃ k,k<fob'.length∧sgp sel p k=g:=fun g hg hl=>by
  rcases (htouch g).1 hg with h1 | h1
  ·exact h1
  ·rcases hlookg g h1 with h2 | h2
   ·exact absurd hl h2
   ·exact h2
 have hbf:∀ k b,(Ad fob' k).live→B' k b→(w.heap.size≤b∧b<w'.heap.size)∨∃ g0,T g0∧(ob' g0).live∧B g0 b:=fun k b hl hb=>by
  rcases hbh k b hl hb with h1 | h1
  ·exact .inr (hHB b h1)
  ·exact .inl ⟨h1,hwf'.lt k b hl hb⟩
 have hwf2:Wf w' I' V2 B2 (A1 ob' (mkU (sgp sel p) 0 fob'++B7 (Bs sel xs))):=by
  refine hwf.upd T hfr.size hkeep (fun b hb=>hi0 b (hIJ b hb)) hVV (fun g hg=>⟨FL hg,hB2n g (fun h=>hg ((htouch g).2 (.inl h))),fun hf=>by rw [hV2n g (fun h=>hg ((htouch g).2 (.inl h)))]; exact hwf.fr g hf⟩) hi2 (fun b hb=>hwf'.ilt b hb) (fun g hg hl=>?_) (fun g b hg hl hb=>?_) (fun g b hg hl hb hI=>?_) (fun g g' b hg hg' hl hl' hb hb'=>?_) (fun g hg hf=>?_)
  ·obtain ⟨k,hk,rfl⟩:=liveT g hg hl
   rw [hlook k hk]
   exact hobr k (live2 k hk hl)
  ·obtain ⟨k,hk,rfl⟩:=liveT g hg hl
   rw [hB2 k hk] at hb
   exact hbf k b (live2 k hk hl) hb
  ·obtain ⟨k,hk,rfl⟩:=liveT g hg hl
   rw [hB2 k hk] at hb
   exact hwf'.dI k b (live2 k hk hl) hb hI
  ·obtain ⟨k,hk,rfl⟩:=liveT g hg hl
   obtain ⟨k',hk',rfl⟩:=liveT g' hg' hl'
   rw [hB2 k hk] at hb
   rw [hB2 k' hk'] at hb'
   rw [hwf'.dO k k' b (live2 k hk hl) (live2 k' hk' hl') hb hb']
  ·by_cases h1:∃ k,k<fob'.length∧sgp sel p k=g
   ·obtain ⟨k,hk,rfl⟩:=h1
    rw [hV2 k hk]
    rw [hlook k hk] at hf
    refine hwf'.fr k ?_
    cases hq:Ad fob' k <;> rw [hq] at hf <;> simp [Ob.ren] at hf ⊢
   ·exfalso
    rcases (htouch g).1 hg with h2 | h2
    ·exact h1 h2
    ·have h3:AE (mkU (sgp sel p) 0 fob') g=none:=IP (upd:=mkU (sgp sel p) 0 fob') fun h=>h1 ((htm g).1 h)
     unfold A1 at hf
     rw [IW,h3] at hf
     simp only [h2,if_true,Option.getD_some] at hf
     cases hf
 refine ⟨v,I',V2,B2,rfl,hres,⟨hwf2,hfr.os,hfr.tape,hfr.output,hfr.size,hkeep,fun b hb=>hi0 b (hIJ b hb),hi2,hVV,fun g hg=>hB2n g fun h=>hg ((htouch g).2 (.inl h)),fun g b hg hl hb=>?_⟩⟩
 obtain ⟨k,hk,rfl⟩:=liveT g hg hl
 rw [hB2 k hk] at hb
 exact (hbf k b (live2 k hk hl) hb).imp (fun h=>h.1) id
theorem QJ {r:SV} {l:List Ob} (h:NR r l=true):r.noSh=true∧∀ o,o∈l→o.noSh=true:=by
 unfold NR at h
 rw [zD] at h
 exact ⟨h.1,zM.1 h.2⟩
def Hr (P:Program) (E:FEnv):Prop:=∀ f xs ob r ob',E f xs ob=some (r,ob')→Fun P f xs ob r ob'
theorem BR {P:Program} {E:FEnv} (hE:Hr P E) {hd:List Bool} {f:FuncId} {xs:List SV} {ob:List Ob} {sel:List Nat} {x:SV} {u:List (Nat × Ob)} {rd:List Nat} (h:CJ hd E f xs ob sel=some (x,u,rd)) (K:Kont) (hK:K x u rd):CallP P f xs (Ad ob) ob.length K:=by
 unfold CJ at h
 split at h
 ·rename_i fob hfob
  obtain ⟨h1,h2⟩:=Al h
  split at h2
  ·rename_i r fob' hr
   obtain ⟨h3,h4⟩:=Al h2
   simp only [zD] at h1
   have hlen:=J3 hfob
   have hsel:Mc (Ad ob) (sgp sel ob.length) 0 fob:=J4 sel fob 0 hfob fun j hj=>by
    rw [zP,Du,zG hj]
    simp [zV,zG hj]
   have h4:Ft sel (Bs sel xs) ob.length r fob'=(x,u,rd):=zA h4
   unfold Ft at h4
   cases hb:((Bs sel xs).isEmpty || NR r fob') with
   | true =>
    rw [hb] at h4
    simp only [cond_true,zE] at h4
    obtain ⟨rfl,rfl,rfl⟩:=h4
    refine CallP.of (hE f _ _ _ _ hr) sel ⟨hd,rfl⟩ ⟨hlen.symm,EM.1 h1.1.1⟩ (HS h1.1.2) (of_decide_eq_true h3) hsel (GF h1.2) (K8 rfl) ?_ hK
    rw [Bool.or_eq_true] at hb
    exact hb.imp isEmpty_nil QJ
   | false =>
    rw [hb] at h4
    simp only [cond_false,zE] at h4
    obtain ⟨rfl,rfl,rfl⟩:=h4
    exact CallP.given (hE f _ _ _ _ hr) sel ⟨hd,rfl⟩ ⟨hlen.symm,EM.1 h1.1.1⟩ (HS h1.1.2) (of_decide_eq_true h3) hsel (GF h1.2) (K8 rfl) hK
  ·cases h2
 ·cases h
theorem J5 {gs:List Nat} {g:Nat}:∀ {u:List (Nat × Ob)},AE (Do gs u) g=if g∈gs then (AE u g).map (fun _=>.gone) else AE u g
 | []=>by simp [Do,AE]
 | (a,o) :: u=>by
  rw [Do,AE,AE]
  by_cases h:a=g
  ·subst h
   rw [if_pos rfl,if_pos rfl]
   by_cases hm:a∈gs
   ·rw [if_pos hm,CV.2 hm]; rfl
   ·have:F7 a gs=false:=by
     cases e:F7 a gs with
     | false=>rfl
     | true=>exact absurd (CV.1 e) hm
    rw [if_neg hm,this]; rfl
  ·rw [if_neg h,if_neg h,J5]
theorem GG {gs:List Nat}:∀ {u:List (Nat × Ob)},(Do gs u).map (·.1)=u.map (·.1)
 | []=>rfl
 | (a,o) :: u=>by rw [Do,zN,zN,GG]
theorem Mf {u:List (Nat × Ob)}:∀ {l:List Nat},NS u l=true→∀ g∈l,g∈u.map (·.1)
 | [],_,g,hg=>by cases hg
 | x :: r,h,g,hg=>by
  simp only [NS,zD] at h
  rcases zO.1 hg with rfl | hg
  ·exact CV.1 h.1
  ·exact Mf h.2 g hg
theorem NU {u:List (Nat × Ob)} {g:Nat} (h:g∈u.map (·.1)):∃ o,AE u g=some o:=by
 induction u with
 | nil=>cases h
 | cons q r ih =>
  obtain ⟨a,o⟩:=q
  rw [AE]
  by_cases e:a=g
  ·exact ⟨o,if_pos e⟩
  ·rw [if_neg e]
   simp only [zN,zO] at h
   exact ih (h.resolve_left fun h=>e h.symm)
theorem Wf.less {w:World} {I:Nat→Prop} {V:Nat→Option Value} {B:Nat→Nat→Prop} {ob ob2:Nat→Ob} (h:Wf w I V B ob) (hl:∀ g,ob2 g=ob g∨ob2 g=.gone):Wf w I V B ob2:=by
 have live:∀ g,(ob2 g).live→ob2 g=ob g:=fun g hg=>(hl g).resolve_right fun e=>by rw [e] at hg; exact hg.elim
 refine ⟨h.ilt,fun g hg=>?_,fun g b hg=>?_,fun g b hg=>?_,fun g g' b hg hg'=>?_,fun g hg=>?_,h.gl⟩
 ·have e:=live g hg
  rw [e] at hg ⊢; exact h.obj g hg
 ·rw [live g hg] at hg; exact h.lt g b hg
 ·rw [live g hg] at hg; exact h.dI g b hg
 ·rw [live g hg] at hg; rw [live g' hg'] at hg'; exact h.dO g g' b hg hg'
 ·rcases hl g with e | e
  ·rw [e] at hg; exact h.fr g hg
  ·rw [e] at hg; cases hg
theorem CallOK.late {P:Program} {f:FuncId} {xs:List SV} {ob:Nat→Ob} {x:SV} {u:List (Nat × Ob)} (h:CallOK P f xs ob x u) (hk:∀ g∈Bl [] x,g∈u.map (·.1)):CallOK P f xs ob (Cp (seen u) [] x) (Do (Bl [] x) u):=by
 intro w I V B vs hwf hvs
 refine (h w I V B vs hwf hvs).mono ?_
 rintro e w' ⟨v,I',V',B',rfl,hr,ha⟩
 have hwf':=ha.wf
 have hseen:∀ g,seen u g=A1 ob u g∨seen u g=.gone:=fun g=>by
  unfold seen A1
  cases AE u g with
  | none=>exact .inr rfl
  | some o=>exact .inl rfl
 have hseenk:∀ g,g∈u.map (·.1)→seen u g=A1 ob u g:=fun g hg=>by
  obtain ⟨o,ho⟩:=NU hg
  unfold seen A1
  rw [ho]; rfl
 have hnew:∀ g,A1 ob (Do (Bl [] x) u) g=if g∈Bl [] x then .gone else A1 ob u g:=fun g=>by
  unfold A1
  rw [J5]
  by_cases hm:g∈Bl [] x
  ·obtain ⟨o,ho⟩:=NU (hk g hm)
   rw [if_pos hm,if_pos hm,ho]; rfl
  ·rw [if_neg hm,if_neg hm]
 have hlive:∀ g,(A1 ob (Do (Bl [] x) u) g).live→(A1 ob u g).live∧g ∉ Bl [] x:=fun g hl=>by
  rw [hnew g] at hl
  by_cases hm:g∈Bl [] x
  ·rw [if_pos hm] at hl; exact hl.elim
  ·rw [if_neg hm] at hl; exact ⟨hl,hm⟩
 have htch:∀ g,Ao (Do (Bl [] x) u) g ↔ Ao u g:=fun g=>by unfold Ao; rw [GG]
 let J:Nat→Prop:=fun b=>I' b∨∃ g,g∈Bl [] x∧(A1 ob u g).live∧B' g b
 refine ⟨v,J,V',B',rfl,?_,⟨⟨fun b hb=>?_,fun g hg=>?_,fun g b hg hb=>hwf'.lt g b (hlive g hg).1 hb,fun g b hg hb hJ=>?_,fun g g' b hg hg' hb hb'=>hwf'.dO g g' b (hlive g hg).1 (hlive g' hg').1 hb hb',fun g hg=>?_,hwf'.gl.keep (KeepS.refl _ _) fun _ h=>.inl h⟩,ha.os,ha.tape,ha.output,ha.size,fun b hb hno=>ha.block b hb fun g hg=>hno g ((htch g).2 hg),fun b hb=>.inl (ha.i0 b hb),fun b hb=>?_,ha.v,fun g hg=>ha.out g fun h=>hg ((htch g).2 h),fun g b hg hl hb=>?_⟩⟩
 ·exact Hq (hwf'.less hseen) (fun b hb=>.inl hb) (fun g i hi=>by cases hi) x v (fun g b hm hl hb=>.inr ⟨g,hm,by rw [←hseenk g (hk g hm)]; exact hl,hb⟩) hr
 ·rcases hb with hb | ⟨g,_,hl,hb⟩
  ·exact hwf'.ilt b hb
  ·exact hwf'.lt g b hl hb
 ·obtain ⟨h1,h2⟩:=hlive g hg
  rw [hnew g,if_neg h2]
  obtain ⟨val,h3,h4⟩:=hwf'.obj g h1
  exact ⟨val,h3,h4.keep (KeepS.refl _ _) (fun _ h=>.inl h) (VLe.refl _) fun _ _ _=>rfl⟩
 ·obtain ⟨h1,h2⟩:=hlive g hg
  rcases hJ with hJ | ⟨g',hm,hl,hb'⟩
  ·exact hwf'.dI g b h1 hb hJ
  ·rw [hwf'.dO g g' b h1 hl hb hb'] at h2
   exact h2 hm
 ·rw [hnew g] at hg
  by_cases hm:g∈Bl [] x
  ·rw [if_pos hm] at hg; cases hg
  ·rw [if_neg hm] at hg; exact hwf'.fr g hg
 ·rcases hb with hb | ⟨g,hm,hl,hb⟩
  ·rcases ha.i1 b hb with h1 | h1 | ⟨g,h1,h2⟩
   ·exact .inl h1
   ·exact .inr (.inl h1)
   ·exact .inr (.inr ⟨g,(htch g).2 h1,h2⟩)
  ·rcases ha.b1 g b (hk g hm) hl hb with h1 | ⟨g0,h1,h2⟩
   ·exact .inr (.inl h1)
   ·exact .inr (.inr ⟨g0,(htch g0).2 h1,h2⟩)
 ·rcases ha.b1 g b ((htch g).1 hg) (hlive g hl).1 hb with h1 | ⟨g0,h1,h2⟩
  ·exact .inl h1
  ·exact .inr ⟨g0,(htch g0).2 h1,h2⟩
theorem KB {P:Program} {M:FuncId→FM} {E:FEnv} (hE:Hr P E):Dz P (CB M E):=fun ob f xs x u rd h K hK=>by
 unfold CB at h
 cases hm:(M f).res with
 | asis=>rw [hm] at h; exact BR hE h K hK
 | frz=>rw [hm] at h; exact BR hE h K hK
 | own l=>rw [hm] at h; exact BR hE h K hK
 | tr l=>rw [hm] at h; exact BR hE h K hK
 | half l=>rw [hm] at h; exact BR hE h K hK
 | halfg d n l=>rw [hm] at h; exact BR hE h K hK
 | frzg d n=>rw [hm] at h; exact BR hE h K hK
 | frl l=>rw [hm] at h; exact BR hE h K hK
 | late =>
  rw [hm] at h
  cases hq:CJ (M f).hand E f xs ob (reach ob 64 (FW (M f).hand xs) []) with
  | none=>rw [hq] at h; cases h
  | some q =>
   obtain ⟨x0,u0,rd0⟩:=q
   rw [hq] at h
   have h:NT (x0,u0,rd0)=some (x,u,rd):=h
   unfold NT at h
   obtain ⟨h1,h2⟩:=Al h
   simp only [zB,zE] at h2
   obtain ⟨rfl,rfl,rfl⟩:=h2
   obtain ⟨x1,u1,rd1,⟨rfl,rfl,rfl⟩,hall⟩:=BR hE hq (fun a b c=>a=x0∧b=u0∧c=rd0) ⟨rfl,rfl,rfl⟩
   exact ⟨_,_,_,hK,fun ob' h3 h4=>(hall ob' h3 fun g hg=>h4 g (by rw [GG]; exact hg)).late (Mf h1)⟩
def Iu:Nat→List Nat
 | 0=>[]
 | n+1=>Iu n++[n]
theorem Sk {n g:Nat}:g∈Iu n ↔ g<n:=by
 induction n with
 | zero=>simp [Iu]
 | succ n ih=>simp [Iu,ih]; omega
theorem KC:∀ n,(Iu n).Nodup
 | 0=>yQ
 | n+1=>by
  simp only [Iu,zZ,KC n,yO,yM,not_false_eq_true,yQ,true_and]
  intro a ha b hb
  simp only [zO,yM,or_false] at hb
  have:=Sk.1 ha
  omega
theorem GH:∀ n,(Iu n).length=n
 | 0=>rfl
 | n+1=>by simp [Iu,GH n]
theorem NV:∀ {n g:Nat},g<n→(Iu n)[g]?=some g
 | 0,g,h=>absurd h (by omega)
 | n+1,g,h=>by
  simp only [Iu]
  rcases zF g n with h1 | h1
  ·rw [yJ (by rw [GH]; exact h1)]
   exact NV h1
  ·obtain rfl:g=n:=by omega
   rw [List.getElem?_append_right (by rw [GH]; omega),GH]
   simp
theorem IX (ob:List Ob):∀ (n:Nat) (todo acc:List Nat),∃ t,reach ob n todo acc=acc++t
 | 0,_,acc=>⟨[],by simp [reach]⟩
 | n+1,[],acc=>⟨[],by simp [reach]⟩
 | n+1,g :: r,acc=>by
  simp only [reach]
  cases (F7 g acc || !(Ad ob g).liveB) with
  | true=>exact IX ob n r acc
  | false =>
   obtain ⟨t,h⟩:=IX ob n (r++(Ad ob g).refs) (acc++[g])
   exact ⟨g :: t,by simp only [cond_false,h]; simp⟩
theorem GI (ob:List Ob):∀ (n:Nat) (todo acc:List Nat),acc.Nodup→(reach ob n todo acc).Nodup
 | 0,_,acc,h=>by simpa [reach] using h
 | n+1,[],acc,h=>by simpa [reach] using h
 | n+1,g :: r,acc,h=>by
  simp only [reach]
  cases hb:(F7 g acc || !(Ad ob g).liveB) with
  | true=>exact GI ob n r acc h
  | false =>
   refine GI ob n _ _ ?_
   rw [Bool.or_eq_false_iff] at hb
   rw [zZ]
   refine ⟨h,by simp,fun a ha b hb' e=>?_⟩
   simp only [zO,yM,or_false] at hb'
   subst hb' e
   have:=CV.2 ha
   rw [hb.1] at this; cases this
def J6 (m:List Nat) (ob:List Ob):List Nat→List Ob
 | []=>[]
 | g :: r=>(match (Ad ob g).back m with
  | some o=>o
  | none=>.gone) :: J6 m ob r
theorem Mg {m:List Nat} {ob:List Ob}:∀ {l:List Nat},(J6 m ob l).length=l.length
 | []=>rfl
 | g :: r=>by simp [J6,Mg (l:=r)]
theorem Pa {σ:Nat→Nat} {x y:SV} (h:x.ren σ=y):leV σ x y:=by cases x <;> first | exact trivial | exact h
theorem Sl {σ:Nat→Nat}:∀ {xs ys:List SV},SV.Ir σ xs=ys→leL σ xs ys
 | [],ys,h=>by simp only [SV.Ir] at h; subst h; trivial
 | x :: xs,ys,h=>by
  simp only [SV.Ir] at h
  subst h
  exact ⟨Pa rfl,Sl rfl⟩
theorem Sm {m:List Nat} {p:Nat} (o:Ob):leO (sgp m p) (match o.back m with | some o'=>o' | none=>.gone) o:=by
 split
 ·rename_i o' h
  have:=Ob.back_ren (p:=p) h
  cases o' with
  | gone=>exact trivial
  | free=>cases o <;> simp [Ob.back] at h <;> (split at h <;> cases h)
  | box t l=>subst this; exact ⟨rfl,Sl rfl⟩
  | row t sz es=>subst this; exact ⟨rfl,rfl,rfl⟩
  | mp ks m=>subst this; exact ⟨rfl,rfl⟩
  | it ks m seen cur=>subst this; exact ⟨rfl,rfl,rfl,rfl⟩
  | shd es=>cases o <;> simp [Ob.back] at h <;> (split at h <;> cases h)
  | tree es hs=>subst this; exact rfl
  | hist t sz es us=>subst this; exact ⟨rfl,rfl,rfl,rfl⟩
 ·trivial
theorem NW {m:List Nat} {p:Nat} {ob:List Ob}:∀ {l:List Nat} {k:Nat},(∀ j,j<l.length→sgp m p (k+j)=l.getD j 0)→TI (sgp m p) ob k (J6 m ob l)
 | [],k,_=>trivial
 | g :: r,k,hs=>by
  have h0:=hs 0 (by simp)
  simp only [Nat.add_zero,List.getD_cons_zero] at h0
  refine ⟨by rw [h0]; exact Sm _,NW fun j hj=>?_⟩
  have:=hs (j+1) (by simpa using hj)
  simpa [Nat.add_assoc,Nat.add_comm 1 j] using this
def PY:Nat→List Ob→List Nat
 | 0,_=>[]
 | _+1,[]=>[]
 | n+1,o :: r=>o.refs++PY n r
def names (n0:Nat) (ob:List Ob) (todo:List Nat):List Nat:=reach ob 64 (todo++PY n0 ob) (Iu n0)
theorem KD {n0:Nat} {ob:List Ob} {todo:List Nat} {sl sl':List SV} (h:leL (sgp (names n0 ob todo) ob.length) sl' sl):WeakC n0 (names n0 ob todo) ⟨sl,ob⟩ ⟨sl',J6 (names n0 ob todo) ob (names n0 ob todo)⟩:=by
 obtain ⟨t,ht⟩:=IX ob 64 (todo++PY n0 ob) (Iu n0)
 refine ⟨h,NW fun j hj=>?_,⟨Mg.symm,GI _ _ _ _ (KC n0)⟩,?_⟩
 ·rw [zP,Du,zG hj]
  simp [zV,zG hj]
 ·have key:∀ n,n≤n0→TJ (sgp (names n0 ob todo) ob.length) n:=by
   intro n
   induction n with
   | zero=>intro _; trivial
   | succ n ih =>
    intro hn
    refine ⟨?_,ih (by omega)⟩
    have:(names n0 ob todo)[n]?=some n:=by
     unfold names
     rw [ht,yJ (by rw [GH]; omega)]
     exact NV (by omega)
    show sgp (names n0 ob todo) ob.length n=n
    rw [Du,this]
  exact key n0 (zH _)
section
variable {P:Program} {f:FuncId} {args:List SV} {ob:List Ob} {r:SV} {ob':List Ob}
theorem Fun.weak {r2:SV} {ob2:List Ob} {m:List Nat} (h:Fun P f args ob r ob') (hw:WeakC ob.length m ⟨[r],ob'⟩ ⟨[r2],ob2⟩):Fun P f args ob r2 ob2:=by
 intro w I V B vs hwf hvs
 refine (h w I V B vs hwf hvs).mono ?_
 rintro e w' ⟨v,I',V',B',rfl,hr,hp⟩
 refine ⟨v,I',fun g=>V' (sgp m ob'.length g),fun g=>B' (sgp m ob'.length g),rfl,?_,⟨hp.fr,hp.i0,hp.i1,fun g u hu=>?_,hw.wf hp.wf,fun g b hl hb=>?_⟩⟩
 ·have h1:=hw.1
  simp only [leL] at h1
  exact JV h1.1 hr
 ·have hg:g<ob.length:=by
   rcases zF g ob.length with h1 | h1
   ·exact h1
   ·rw [hwf.fr g (AF _ _ h1)] at hu; cases hu
  rw [Hn hw.2.2.2 g hg]
  exact hp.v g u hu
 ·have hlt:g<ob2.length:=by
   rcases zF g ob2.length with h1 | h1
   ·exact h1
   ·rw [AF _ _ h1] at hl; exact hl.elim
  have h1:=EB (j:=g) hw.2.1 hlt
  rw [zP] at h1
  exact hp.bh _ b (El h1 hl) hb
end
def gc (n0:Nat) (r:SV) (ob:List Ob):Option (SV × List Ob) :=
 match r.back (names n0 ob r.refs) with
 | some r'=>some (r',J6 (names n0 ob r.refs) ob (names n0 ob r.refs))
 | none=>none
theorem E8 {n0:Nat} {r r':SV} {ob ob':List Ob} (h:gc n0 r ob=some (r',ob')):WeakC n0 (names n0 ob r.refs) ⟨[r],ob⟩ ⟨[r'],ob'⟩:=by
 unfold gc at h
 split at h
 ·rename_i r1 h1
  simp only [zB,zE] at h
  obtain ⟨rfl,rfl⟩:=h
  exact KD ⟨Pa (SV.back_ren h1),trivial⟩
 ·cases h
def Ey (gs:List Nat):Nat→List Ob→List Ob
 | _,[]=>[]
 | k,o :: r=>(bif F7 k gs then .gone else o) :: Ey gs (k+1) r
theorem KE {gs:List Nat}:∀ {l:List Ob} {k j:Nat},Ad (Ey gs k l) j=if j<l.length∧k+j∈gs then .gone else Ad l j
 | [],k,j=>by simp [Ey,Ad]
 | o :: r,k,0=>by
  simp only [Ey,Ad,zL,Nat.zero_lt_succ,true_and,Nat.add_zero]
  by_cases h:k∈gs
  ·rw [if_pos h,CV.2 h]; rfl
  ·have:F7 k gs=false:=by
    cases e:F7 k gs with
    | false=>rfl
    | true=>exact absurd (CV.1 e) h
   rw [if_neg h,this]; rfl
 | o :: r,k,j+1=>by
  simp only [Ey,Ad,zL,zS]
  rw [KE (l:=r) (k:=k+1) (j:=j),show k+1+j=k+(j+1) by omega]
section
variable {P:Program} {f:FuncId} {args:List SV} {ob:List Ob} {r:SV} {ob':List Ob}
theorem Fun.give (h:Fun P f args ob r ob'):Fun P f args ob (Cp (Ad ob') [] r) (Ey (Bl [] r) 0 ob'):=by
 intro w I V B vs hwf hvs
 refine (h w I V B vs hwf hvs).mono ?_
 rintro e w' ⟨v,I',V',B',rfl,hr,hp⟩
 have hwf':=hp.wf
 let J:Nat→Prop:=fun b=>I' b∨∃ g,g∈Bl [] r∧(Ad ob' g).live∧B' g b
 have hg:∀ g,Ad (Ey (Bl [] r) 0 ob') g=if g<ob'.length∧g∈Bl [] r then .gone else Ad ob' g:=fun g=>by
  rw [KE,zP]
 have hlv:∀ g,(Ad (Ey (Bl [] r) 0 ob') g).live→(Ad ob' g).live∧¬ g∈Bl [] r:=fun g hl=>by
  rw [hg g] at hl
  split at hl
  ·exact hl.elim
  ·rename_i hn
   refine ⟨hl,fun hm=>hn ⟨?_,hm⟩⟩
   rcases zF g ob'.length with h1 | h1
   ·exact h1
   ·rw [AF _ _ h1] at hl; exact hl.elim
 refine ⟨v,J,V',B',rfl,?_,⟨hp.fr,fun b hb=>.inl (hp.i0 b hb),fun b hb=>?_,hp.v,?_,fun g b hl hb=>hp.bh g b (hlv g hl).1 hb⟩⟩
 ·exact Hq hwf' (fun b hb=>.inl hb) (fun g i hi=>by cases hi) r v (fun g b hm hl hb=>.inr ⟨g,hm,hl,hb⟩) hr
 ·rcases hb with hb | ⟨g,hm,hl,hb⟩
  ·exact hp.i1 b hb
  ·exact .inr ((hp.bh g b hl hb).symm)
 ·refine hwf'.upd (w':=w') (fun g=>g∈Bl [] r) (zH _) (fun _ _ _=>rfl) (fun b hb=>.inl hb) (VLe.refl _) (fun g hn=>⟨by rw [hg g,if_neg fun h=>hn h.2],rfl,fun hf=>hwf'.fr g hf⟩) (fun b hb=>?_) (fun b hb=>?_) (fun g hm hl=>absurd hm (hlv g hl).2) (fun g b hm hl=>absurd hm (hlv g hl).2) (fun g b hm hl=>absurd hm (hlv g hl).2) (fun g g' b hm hm' hl=>absurd hm (hlv g hl).2) (fun g hm hf=>?_)
  ·rcases hb with hb | ⟨g,hm,hl,hb⟩
   ·exact .inl hb
   ·exact .inr (.inr ⟨g,hm,hl,hb⟩)
  ·rcases hb with hb | ⟨g,hm,hl,hb⟩
   ·exact hwf'.ilt b hb
   ·exact hwf'.lt g b hl hb
  ·rw [hg g] at hf
   split at hf
   ·cases hf
   ·exact hwf'.fr g hf
end
mutual
def SV.own (n:Nat) (l:List (Option (Nat × Nat))):SV→SV × List Ob × List (Option (Nat × Nat))
 | .agg xs=>match SV.MX n l xs with
  | (ys,os,l')=>(.agg ys,os,l')
 | .tup xs=>match SV.MX n l xs with
  | (ys,os,l')=>(.tup ys,os,l')
 | .nil=>match l with
  | some (t,sz) :: l'=>(.ref n,[.row t sz []],l')
  | _ :: l'=>(.nil,[],l')
  | []=>(.nil,[],[])
 | .any=>(.any,[],l.drop 1)
 | .int k m=>(.int k m,[],l.drop 1)
 | .bool b=>(.bool b,[],l.drop 1)
 | .str s=>(.str s,[],l.drop 1)
 | .arr es=>(.arr es,[],l.drop 1)
 | .ref g=>(.ref g,[],l.drop 1)
 | .ptr g o=>(.ptr g o,[],l.drop 1)
 | .eptr g sz k o=>(.eptr g sz k o,[],l.drop 1)
 | .vptr es k o=>(.vptr es k o,[],l.drop 1)
 | .mp ks m=>(.mp ks m,[],l.drop 1)
 | .fn f caps=>(.fn f caps,[],l.drop 1)
 | .val u=>(.val u,[],l.drop 1)
def SV.MX (n:Nat) (l:List (Option (Nat × Nat))):List SV→List SV × List Ob × List (Option (Nat × Nat))
 | []=>([],[],l)
 | x :: r=>match SV.own n l x with
  | (y,os,l1)=>match SV.MX (n+os.length) l1 r with
   | (ys,os',l2)=>(y :: ys,os++os',l2)
end
def More (w:World) (I:Nat→Prop) (V:Nat→Option Value) (B:Nat→Nat→Prop) (ob:List Ob) (V':Nat→Option Value) (B':Nat→Nat→Prop) (ob':List Ob):Prop :=
 Wf w I V' B' (Ad ob')∧VLe V V'∧(∀ g,g<ob.length→Ad ob' g=Ad ob g∧B' g=B g)∧(∀ g b,ob.length≤g→¬ B' g b)
theorem More.refl {w:World} {I:Nat→Prop} {V:Nat→Option Value} {B:Nat→Nat→Prop} {ob:List Ob} (h:Wf w I V B (Ad ob)):∃ B',More w I V B ob V B' ob:=by
 have lt:∀ g,(Ad ob g).live→g<ob.length:=fun g hl=>by
  rcases zF g ob.length with h1 | h1
  ·exact h1
  ·rw [AF _ _ h1] at hl; exact hl.elim
 refine ⟨fun g=>if g<ob.length then B g else fun _=>False,⟨h.ilt,fun g hl=>?_,fun g b hl hb=>?_,fun g b hl hb=>?_,fun g g' b hl hl' hb hb'=>?_,h.fr,h.gl⟩,VLe.refl _,fun g hg=>⟨rfl,if_pos hg⟩,fun g b hg hb=>by simp only [if_neg (show ¬ g<ob.length by omega)] at hb⟩
 ·obtain ⟨val,h1,h2⟩:=h.obj g hl
  exact ⟨val,h1,by simp only [if_pos (lt g hl)]; exact h2⟩
 ·simp only [if_pos (lt g hl)] at hb; exact h.lt g b hl hb
 ·simp only [if_pos (lt g hl)] at hb; exact h.dI g b hl hb
 ·simp only [if_pos (lt g hl)] at hb
  simp only [if_pos (lt g' hl')] at hb'
  exact h.dO g g' b hl hl' hb hb'
theorem QK (ob:List Ob) (o:Ob):Ad (ob++[o]) ob.length=o:=by rw [GC]; simp [Ad]
theorem More.one {w:World} {I:Nat→Prop} {V:Nat→Option Value} {B:Nat→Nat→Prop} {ob:List Ob} (h:Wf w I V B (Ad ob)) (t sz:Nat):∃ V' B',More w I V B ob V' B' (ob++[.row t sz []])∧V' ob.length=some (.slice none 0 0):=by
 have hn:V ob.length=none:=h.fr _ (AF _ _ (zH _))
 have e:∀ g,g≠ob.length→Ad (ob++[Ob.row t sz []]) g=Ad ob g:=fun g hg=>by
  rw [GC]
  split
  ·rfl
  ·rename_i h1
   rw [AF ob g (by omega)]
   obtain ⟨q,hq⟩:∃ q,g-ob.length=q+1:=⟨g-ob.length-1,by omega⟩
   rw [hq]; rfl
 have e0:=QK ob (.row t sz [])
 have lt:∀ g,(Ad (ob++[Ob.row t sz []]) g).live→g=ob.length∨(g<ob.length∧(Ad ob g).live):=fun g hl=>by
  by_cases hg:g=ob.length
  ·exact .inl hg
  ·rw [e g hg] at hl
   refine .inr ⟨?_,hl⟩
   rcases zF g ob.length with h1 | h1
   ·exact h1
   ·rw [AF _ _ h1] at hl; exact hl.elim
 refine ⟨fun g=>if g=ob.length then some (.slice none 0 0) else V g,fun g=>if g<ob.length then B g else fun _=>False,⟨⟨h.ilt,fun g hl=>?_,fun g b hl hb=>?_,fun g b hl hb=>?_,fun g g' b hl hl' hb hb'=>?_,fun g hf=>?_,h.gl⟩,fun g u hu=>?_,fun g hg=>⟨e g (by omega),if_pos hg⟩,fun g b hg hb=>by simp only [if_neg (show ¬ g<ob.length by omega)] at hb⟩,if_pos rfl⟩
 ·rcases lt g hl with rfl | ⟨h1,h2⟩
  ·refine ⟨_,if_pos rfl,?_⟩
   rw [e0]
   exact RowR.nil _ _ _ _ _
  ·obtain ⟨val,h3,h4⟩:=h.obj g h2
   refine ⟨val,by simp only [if_neg (show ¬ g=ob.length by omega)]; exact h3,?_⟩
   rw [e g (by omega)]
   simp only [if_pos h1]
   refine h4.keep ⟨zH _,fun _ _ _=>rfl⟩ (fun _ h=>h) (fun g u hu=>?_) fun _ _ _=>rfl
   by_cases hg:g=ob.length
   ·subst hg; rw [hn] at hu; cases hu
   ·simp only [if_neg hg]; exact hu
 ·rcases lt g hl with rfl | ⟨h1,h2⟩
  ·simp at hb
  ·simp only [if_pos h1] at hb; exact h.lt g b h2 hb
 ·rcases lt g hl with rfl | ⟨h1,h2⟩
  ·simp at hb
  ·simp only [if_pos h1] at hb; exact h.dI g b h2 hb
 ·rcases lt g hl with rfl | ⟨h1,h2⟩
  ·simp at hb
  ·rcases lt g' hl' with rfl | ⟨h1',h2'⟩
   ·simp at hb'
   ·simp only [if_pos h1] at hb
    simp only [if_pos h1'] at hb'
    exact h.dO g g' b h2 h2' hb hb'
 ·have hg:g≠ob.length:=fun hg=>by subst hg; rw [e0] at hf; cases hf
  simp only [if_neg hg]
  rw [e g hg] at hf
  exact h.fr g hf
 ·by_cases hg:g=ob.length
  ·subst hg; rw [hn] at hu; cases hu
  ·simp only [if_neg hg]; exact hu
theorem More.trans {w:World} {I:Nat→Prop} {V V1 V2:Nat→Option Value} {B B1 B2:Nat→Nat→Prop} {ob ob1 ob2:List Ob} (h:More w I V B ob V1 B1 ob1) (k:More w I V1 B1 ob1 V2 B2 ob2) (hl:ob.length≤ob1.length):More w I V B ob V2 B2 ob2:=by
 refine ⟨k.1,h.2.1.trans k.2.1,fun g hg=>?_,fun g b hg hb=>?_⟩
 ·have h1:=h.2.2.1 g hg
  have h2:=k.2.2.1 g (by omega)
  exact ⟨h2.1.trans h1.1,h2.2.trans h1.2⟩
 ·rcases zF g ob1.length with h1 | h1
  ·rw [(k.2.2.1 g h1).2] at hb; exact h.2.2.2 g b hg hb
  ·exact k.2.2.2 g b h1 hb
section
variable {w:World} {I:Nat→Prop}
mutual
theorem SV.PZ:∀ (x:SV) (n:Nat) (l:List (Option (Nat × Nat))) (V:Nat→Option Value) (B:Nat→Nat→Prop) (ob:List Ob) (v:Value),n=ob.length→Wf w I V B (Ad ob)→RepV w I V x v→∃ V' B',More w I V B ob V' B' (ob++(SV.own n l x).2.1)∧RepV w I V' (SV.own n l x).1 v
 | .agg xs,n,l,V,B,ob,v,hn,hwf,h=>by
  simp only [RepV] at h
  obtain ⟨vs,rfl,h⟩:=h
  obtain ⟨V',B',h1,h2⟩:=SV.KF xs n l V B ob vs hn hwf h
  refine ⟨V',B',by simpa only [SV.own] using h1,?_⟩
  simp only [SV.own,RepV]
  exact ⟨vs,rfl,h2⟩
 | .tup xs,n,l,V,B,ob,v,hn,hwf,h=>by
  simp only [RepV] at h
  obtain ⟨vs,rfl,h⟩:=h
  obtain ⟨V',B',h1,h2⟩:=SV.KF xs n l V B ob vs hn hwf h
  refine ⟨V',B',by simpa only [SV.own] using h1,?_⟩
  simp only [SV.own,RepV]
  exact ⟨vs,rfl,h2⟩
 | .nil,n,l,V,B,ob,v,hn,hwf,h=>by
  have nil:∃ V' B',More w I V B ob V' B' (ob++[])∧RepV w I V' .nil v:=by
   obtain ⟨B',hm⟩:=More.refl hwf
   exact ⟨V,B',by rw [zJ]; exact hm,h⟩
  match l with
  | some (t,sz) :: l' =>
   obtain ⟨V',B',h1,h2⟩:=More.one hwf t sz
   refine ⟨V',B',h1,?_⟩
   simp only [RepV] at h
   subst h hn
   simp only [SV.own,RepV]
   exact ⟨h2,rfl⟩
  | none :: l'=>exact nil
  | []=>exact nil
 | .any,n,l,V,B,ob,v,hn,hwf,h=>by obtain ⟨B',hm⟩:=More.refl hwf; exact ⟨V,B',by simp only [SV.own,zJ]; exact hm,h⟩
 | .int _ _,n,l,V,B,ob,v,hn,hwf,h=>by obtain ⟨B',hm⟩:=More.refl hwf; exact ⟨V,B',by simp only [SV.own,zJ]; exact hm,h⟩
 | .bool _,n,l,V,B,ob,v,hn,hwf,h=>by obtain ⟨B',hm⟩:=More.refl hwf; exact ⟨V,B',by simp only [SV.own,zJ]; exact hm,h⟩
 | .str _,n,l,V,B,ob,v,hn,hwf,h=>by obtain ⟨B',hm⟩:=More.refl hwf; exact ⟨V,B',by simp only [SV.own,zJ]; exact hm,h⟩
 | .arr _,n,l,V,B,ob,v,hn,hwf,h=>by obtain ⟨B',hm⟩:=More.refl hwf; exact ⟨V,B',by simp only [SV.own,zJ]; exact hm,h⟩
 | .ref _,n,l,V,B,ob,v,hn,hwf,h=>by obtain ⟨B',hm⟩:=More.refl hwf; exact ⟨V,B',by simp only [SV.own,zJ]; exact hm,h⟩
 | .ptr _ _,n,l,V,B,ob,v,hn,hwf,h=>by obtain ⟨B',hm⟩:=More.refl hwf; exact ⟨V,B',by simp only [SV.own,zJ]; exact hm,h⟩
 | .eptr _ _ _ _,n,l,V,B,ob,v,hn,hwf,h=>by obtain ⟨B',hm⟩:=More.refl hwf; exact ⟨V,B',by simp only [SV.own,zJ]; exact hm,h⟩
 | .vptr _ _ _,n,l,V,B,ob,v,hn,hwf,h=>by obtain ⟨B',hm⟩:=More.refl hwf; exact ⟨V,B',by simp only [SV.own,zJ]; exact hm,h⟩
 | .mp _ _,n,l,V,B,ob,v,hn,hwf,h=>by obtain ⟨B',hm⟩:=More.refl hwf; exact ⟨V,B',by simp only [SV.own,zJ]; exact hm,h⟩
 | .fn _ _,n,l,V,B,ob,v,hn,hwf,h=>by obtain ⟨B',hm⟩:=More.refl hwf; exact ⟨V,B',by simp only [SV.own,zJ]; exact hm,h⟩
 | .val _,n,l,V,B,ob,v,hn,hwf,h=>by obtain ⟨B',hm⟩:=More.refl hwf; exact ⟨V,B',by simp only [SV.own,zJ]; exact hm,h⟩
theorem SV.KF:∀ (xs:List SV) (n:Nat) (l:List (Option (Nat × Nat))) (V:Nat→Option Value) (B:Nat→Nat→Prop) (ob:List Ob) (vs:List Value),n=ob.length→Wf w I V B (Ad ob)→RepVs w I V xs vs→∃ V' B',More w I V B ob V' B' (ob++(SV.MX n l xs).2.1)∧RepVs w I V' (SV.MX n l xs).1 vs
 | [],n,l,V,B,ob,vs,hn,hwf,h=>by obtain ⟨B',hm⟩:=More.refl hwf; exact ⟨V,B',by simp only [SV.MX,zJ]; exact hm,h⟩
 | x :: xs,n,l,V,B,ob,vs,hn,hwf,h=>by
  simp only [RepVs] at h
  obtain ⟨v,us,rfl,h1,h2⟩:=h
  obtain ⟨V1,B1,m1,r1⟩:=SV.PZ x n l V B ob v hn hwf h1
  have h2':=RepVs.mono (w':=w) (I':=I) (V':=V1) ⟨zH _,fun _ _ _=>rfl⟩ (fun _ h=>h) m1.2.1 xs us h2
  obtain ⟨V2,B2,m2,r2⟩:=SV.KF xs (n+(SV.own n l x).2.1.length) (SV.own n l x).2.2 V1 B1 (ob++(SV.own n l x).2.1) us (by rw [yG,hn]) m1.1 h2'
  refine ⟨V2,B2,?_,?_⟩
  ·have:=m1.trans m2 (by simp)
   simpa only [SV.MX,yK] using this
  ·simp only [SV.MX,RepVs]
   exact ⟨v,us,rfl,RepV.mono (w':=w) (I':=I) (V':=V2) ⟨zH _,fun _ _ _=>rfl⟩ (fun _ h=>h) m2.2.1 _ _ r1,r2⟩
end
end
section
variable {P:Program} {f:FuncId} {args:List SV} {ob:List Ob} {r:SV} {ob':List Ob}
theorem Fun.rows (h:Fun P f args ob r ob') (l:List (Option (Nat × Nat))):Fun P f args ob (SV.own ob'.length l r).1 (ob'++(SV.own ob'.length l r).2.1):=by
 intro w I V B vs hwf hvs
 refine (h w I V B vs hwf hvs).mono ?_
 rintro e w' ⟨v,I',V',B',rfl,hr,hp⟩
 obtain ⟨V2,B2,hm,hr2⟩:=SV.PZ r ob'.length l V' B' ob' v rfl hp.wf hr
 refine ⟨v,I',V2,B2,rfl,hr2,⟨hp.fr,hp.i0,hp.i1,hp.v.trans hm.2.1,hm.1,fun g b hl hb=>?_⟩⟩
 rcases zF g ob'.length with h1 | h1
 ·obtain ⟨e1,e2⟩:=hm.2.2.1 g h1
  rw [e1] at hl
  rw [e2] at hb
  exact hp.bh g b hl hb
 ·exact absurd hb (hm.2.2.2 g b h1)
end
def toTree:List Ob→List Ob
 | []=>[]
 | .row _ _ es :: r=>.tree es [] :: toTree r
 | .box t l :: r=>.box t l :: toTree r
 | .tree es hs :: r=>.tree es hs :: toTree r
 | .gone :: r=>.gone :: toTree r
 | .mp ks m :: r=>.mp ks m :: toTree r
 | .it ks m seen cur :: r=>.it ks m seen cur :: toTree r
 | .shd es :: r=>.shd es :: toTree r
 | .hist t sz es us :: r=>.hist t sz es us :: toTree r
 | .free :: r=>.free :: toTree r
theorem KG:∀ l,(toTree l).length=l.length
 | []=>rfl
 | o :: r=>by cases o <;> simp [toTree,KG r]
theorem Gk:∀ (l:List Ob) (g:Nat),Ad (toTree l) g=match Ad l g with | .row _ _ es=>.tree es [] | o=>o
 | [],g=>rfl
 | o :: r,0=>by cases o <;> rfl
 | o :: r,g+1=>by cases o <;> simp only [toTree,Ad] <;> exact Gk r g
theorem CC {l:List Ob} {g:Nat}:(Ad (toTree l) g).live ↔ (Ad l g).live:=by
 rw [Gk]
 cases Ad l g <;> exact Iff.rfl
theorem Wf.tree {w:World} {I:Nat→Prop} {V:Nat→Option Value} {B:Nat→Nat→Prop} {ob:List Ob} (hwf:Wf w I V B (Ad ob)):Wf w I V B (Ad (toTree ob)):=by
 refine ⟨hwf.ilt,fun g hl=>?_,fun g b hl hb=>hwf.lt g b (CC.1 hl) hb,fun g b hl hb=>hwf.dI g b (CC.1 hl) hb,fun g g' b hl hl' hb hb'=>hwf.dO g g' b (CC.1 hl) (CC.1 hl') hb hb',fun g hf=>?_,hwf.gl⟩
 ·obtain ⟨val,h1,h2⟩:=hwf.obj g (CC.1 hl)
  refine ⟨val,h1,?_⟩
  rw [Gk]
  cases hg:Ad ob g <;> rw [hg] at h2 <;> first | exact h2 | exact ⟨_,_,h2,fun q hq=>by cases hq⟩
 ·refine hwf.fr g ?_
  rw [Gk] at hf
  cases hg:Ad ob g <;> rw [hg] at hf <;> first | rfl | cases hf
theorem Fun.trees {P:Program} {f:FuncId} {args:List SV} {ob:List Ob} {r:SV} {ob':List Ob} (h:Fun P f args ob r ob'):Fun P f args ob r (toTree ob'):=by
 intro w I V B vs hwf hvs
 refine (h w I V B vs hwf hvs).mono ?_
 rintro e w' ⟨v,I',V',B',he,hr,hp⟩
 exact ⟨v,I',V',B',he,hr,⟨hp.fr,hp.i0,hp.i1,hp.v,hp.wf.tree,fun g b hl hb=>hp.bh g b (CC.1 hl) hb⟩⟩
theorem Fun.tree {P:Program} {f:FuncId} {args:List SV} {ob:List Ob} {r:SV} {ob':List Ob} (h:Fun P f args (toTree ob) r ob'):Fun P f args ob r ob':=by
 intro w I V B vs hwf hvs
 have hwf':Wf w I V B (Ad (toTree ob)):=hwf.tree
 have hHB:∀ b,HB B (toTree ob) b ↔ HB B ob b:=fun b=>⟨fun ⟨g,hl,hb⟩=>⟨g,CC.1 hl,hb⟩,fun ⟨g,hl,hb⟩=>⟨g,CC.2 hl,hb⟩⟩
 refine (h w I V B vs hwf' hvs).mono ?_
 rintro e w' ⟨v,I',V',B',he,hr,hp⟩
 exact ⟨v,I',V',B',he,hr,⟨⟨hp.fr.os,hp.fr.tape,hp.fr.output,hp.fr.size,fun b hb hn=>hp.fr.block b hb fun h=>hn ((hHB b).1 h)⟩,hp.i0,fun b hb=>(hp.i1 b hb).imp id (fun h=>h.imp id (hHB b).1),hp.v,hp.wf,fun g b hl hb=>(hp.bh g b hl hb).imp (hHB b).1 id⟩⟩
def OT.half:OT→OT
 | .ow es=>.sh (OT.erss es)
 | .int n=>.int n
 | .byte n=>.byte n
 | .bool b=>.bool b
 | .str s=>.str s
 | .sh es=>.sh es
 | .hole=>.hole
 | .pin u=>.pin u
def OT.G2:List OT→List OT
 | []=>[]
 | x :: r=>OT.half x :: OT.G2 r
def OT.BB:List (List OT)→List (List OT)
 | []=>[]
 | x :: r=>OT.G2 x :: OT.BB r
theorem OT.Mh:∀ l:List OT,OT.G2 l=l.map OT.half
 | []=>rfl
 | x :: r=>by simp [OT.G2,OT.Mh r]
theorem OT.DQ:∀ l:List (List OT),OT.BB l=l.map (·.map OT.half)
 | []=>rfl
 | x :: r=>by simp [OT.BB,OT.DQ r,OT.Mh]
def H4:Ob→Ob
 | .row t sz es=>bif OT.Aq es then .row t sz (OT.BB es) else .row t sz es
 | .free=>.free
 | .gone=>.gone
 | .box t l=>.box t l
 | .tree es hs=>.tree es hs
 | .mp ks m=>.mp ks m
 | .it ks m seen cur=>.it ks m seen cur
 | .shd es=>.shd es
 | .hist t sz es us=>.hist t sz es us
def DK:Nat→List Ob→List Ob
 | _,[]=>[]
 | 0,o :: r=>H4 o :: DK 0 r
 | n+1,o :: r=>o :: DK n r
theorem DR:∀ (l:List Ob) (n g:Nat),Ad (DK n l) g=if n≤g then H4 (Ad l g) else Ad l g
 | [],n,g=>by
  have:DK n []=[]:=by cases n <;> rfl
  rw [this]
  show Ob.free=if n≤g then H4 .free else .free
  split <;> rfl
 | o :: r,0,0=>by simp [DK,Ad]
 | o :: r,0,g+1=>by
  have:=DR r 0 g
  simp only [DK,Ad,Nat.zero_le,if_true] at this ⊢
  exact this
 | o :: r,n+1,0=>by simp [DK,Ad]
 | o :: r,n+1,g+1=>by
  have:=DR r n g
  simp only [DK,Ad,Nat.add_le_add_iff_right] at this ⊢
  exact this
theorem KH {o:Ob}:(H4 o).live ↔ o.live:=by
 cases o <;> first | exact Iff.rfl | (simp only [H4]; cases OT.Aq _ <;> exact Iff.rfl)
theorem ORep.half {w:World} {I S T:Nat→Prop} {o:OT} {v:Value} (h:ORep w I S o v) (hS:∀ b,S b→T b) (hI:∀ b,I b→T b) (hf:o.full=true):ORep w T (fun _=>False) o.half v:=by
 cases o with
 | int n=>cases h; exact .int _ _
 | byte n=>cases h; exact .byte _ _
 | bool b=>cases h; exact .bool _ _
 | str s=>cases h with | str _ _ hs=>exact .str _ _ hs
 | sh es=>cases h with | sh _ _ _ hs=>exact .sh _ _ _ (hs.up hI)
 | hole=>cases hf
 | pin u=>cases hf
 | ow es=>exact .sh _ _ _ (h.er hS hI hf)
theorem Wf.half {w:World} {I:Nat→Prop} {V:Nat→Option Value} {B:Nat→Nat→Prop} {ob:List Ob} (hwf:Wf w I V B (Ad ob)) (n:Nat) :
  ∃ (I':Nat→Prop) (B':Nat→Nat→Prop),Wf w I' V B' (Ad (DK n ob))∧(∀ b,I b→I' b)∧(∀ b,I' b→I b∨∃ g,(Ad ob g).live∧B g b)∧∀ g b,B' g b→B g b:=by
 classical
 obtain ⟨out,hout⟩:∃ out:Nat→Nat→Prop,out=fun g b=>∃ m c,V g=some (.slice (some ⟨b,0,none⟩) m c):=⟨_,rfl⟩
 obtain ⟨isH,hH⟩:∃ isH:Nat→Prop,isH=fun g=>n≤g∧∃ t sz es,Ad ob g=.row t sz es∧OT.Aq es=true:=⟨_,rfl⟩
 have lv:∀ g,(Ad (DK n ob) g).live ↔ (Ad ob g).live:=fun g=>by
  rw [DR]
  split
  ·exact KH
  ·exact Iff.rfl
 have Hl:∀ g,isH g→(Ad ob g).live:=fun g h=>by
  rw [hH] at h
  obtain ⟨_,t,sz,es,e,_⟩:=h
  rw [e]; trivial
 have Bn:∀ g,¬ isH g→(fun b=>B g b∧(isH g→out g b))=B g:=fun g h=>by
  funext b
  exact propext ⟨fun x=>x.1,fun x=>⟨x,fun h'=>absurd h' h⟩⟩
 refine ⟨fun b=>I b∨∃ g,isH g∧B g b∧¬ out g b,fun g b=>B g b∧(isH g→out g b),⟨fun b hb=>?_,fun g hl=>?_,fun g b hl hb=>hwf.lt g b ((lv g).1 hl) hb.1,fun g b hl hb hI=>?_,fun g g' b hl hl' hb hb'=>hwf.dO g g' b ((lv g).1 hl) ((lv g').1 hl') hb.1 hb'.1,fun g hf=>?_,hwf.gl.keep (KeepS.refl _ _) fun _ h=>.inl h⟩,fun _ h=>.inl h,fun b hb=>?_,fun _ _ h=>h.1⟩
 ·rcases hb with hb | ⟨g,h1,h2,_⟩
  ·exact hwf.ilt b hb
  ·exact hwf.lt g b (Hl g h1) h2
 ·obtain ⟨val,h1,h2⟩:=hwf.obj g ((lv g).1 hl)
  refine ⟨val,h1,?_⟩
  by_cases hg:isH g
  ·have hg':=hg
   rw [hH] at hg'
   obtain ⟨hn,t,sz,es,e,hf⟩:=hg'
   rw [e] at h2
   have h2:RowR w I (B g) t sz es val:=h2
   rw [DR,if_pos hn,e]
   simp only [H4,hf,cond_true]
   show RowR _ _ _ _ _ _ _
   rcases h2 with ⟨rfl,rfl⟩ | ⟨b,cap,cur,Sub,rfl,hS,hb,g1,g2,g3,g4,g5,g6,g7⟩
   ·exact .inl ⟨rfl,rfl⟩
   ·have hlen:(OT.BB es).length=es.length:=by rw [OT.DQ,yP]
    have hob:out g b:=by rw [hout]; exact ⟨_,_,h1⟩
    have hou:∀ x,out g x→x=b:=fun x hx=>by
     rw [hout] at hx
     obtain ⟨m,c,hx⟩:=hx
     rw [h1] at hx
     injection hx with hx
     injection hx with hx
     injection hx with hx
     injection hx with hx
     exact hx.symm
    have get:∀ i (hi:i<es.length) (hi':i<(OT.BB es).length),(OT.BB es)[i]=es[i].map OT.half:=fun i hi hi'=>by
     simp only [OT.DQ,List.getElem_map]
    refine .inr ⟨b,cap,cur,fun _ _ _=>False,by rw [hlen],⟨hS,fun _=>hob⟩,hb,by rw [hlen]; exact g1,g2,g3,fun i hi=>?_,fun _ _ _ h=>h.elim,fun _ _ _ _ _ h=>h.elim,fun i j hi hj=>?_⟩
    ·rw [get i (by omega) hi,yP]; exact g4 i (by omega)
    ·have hi2:i<es.length:=by omega
     have e2:=get i hi2 hi
     have hj2:j<es[i].length:=by rw [e2,yP] at hj; exact hj
     have e3:(OT.BB es)[i][j]=(es[i][j]).half:=by simp only [e2,List.getElem_map]
     rw [e3]
     refine (g7 i j hi2 hj2).half (fun x hx=>.inr ⟨g,hg,(g5 i j x hx).1,fun ho=>(g5 i j x hx).2 (hou x ho)⟩) (fun x hx=>.inl hx) ?_
     exact OT.IO (OT.HH hf es[i] (zR hi2)) _ (zR hj2)
  ·have e:Ad (DK n ob) g=Ad ob g:=by
    rw [DR]
    split
    ·rename_i hn
     cases ho:Ad ob g with
     | row t sz es =>
      cases hf:OT.Aq es with
      | true=>exact absurd (by rw [hH]; exact ⟨hn,t,sz,es,ho,hf⟩) hg
      | false=>simp only [H4,hf,cond_false]
     | _=>rfl
    ·rfl
   rw [e,Bn g hg]
   exact ObR.keep h2 (KeepS.refl _ _) (fun _ h=>.inl h) (VLe.refl _) fun _ _ _=>rfl
 ·rcases hI with hI | ⟨g0,k1,k2,k3⟩
  ·exact hwf.dI g b ((lv g).1 hl) hb.1 hI
  ·obtain rfl:=hwf.dO g g0 b ((lv g).1 hl) (Hl g0 k1) hb.1 k2
   exact k3 (hb.2 k1)
 ·refine hwf.fr g ?_
  rw [DR] at hf
  split at hf
  ·cases ho:Ad ob g <;> rw [ho] at hf <;> first | rfl | cases hf | (simp only [H4] at hf; cases OT.Aq _ <;> cases hf) | skip
   rename_i t sz es
   simp only [H4] at hf
   cases h:OT.Aq es <;> rw [h] at hf <;> cases hf
  ·exact hf
 ·rcases hb with hb | ⟨g,h1,h2,_⟩
  ·exact .inl hb
  ·exact .inr ⟨g,Hl g h1,h2⟩
theorem Fun.half {P:Program} {f:FuncId} {args:List SV} {ob:List Ob} {r:SV} {ob':List Ob} (h:Fun P f args ob r ob') (n:Nat):Fun P f args ob r (DK n ob'):=by
 intro w I V B vs hwf hvs
 refine (h w I V B vs hwf hvs).mono ?_
 rintro e w' ⟨v,I',V',B',he,hr,hp⟩
 obtain ⟨I2,B2,k1,k2,k3,k4⟩:=hp.wf.half n
 have lv:∀ g,(Ad (DK n ob') g).live→(Ad ob' g).live:=fun g hl=>by
  rw [DR] at hl
  split at hl
  ·exact KH.1 hl
  ·exact hl
 refine ⟨v,I2,V',B2,he,RepV.mono (KeepS.refl _ _) k2 (VLe.refl _) _ _ hr,⟨hp.fr,fun b hb=>k2 b (hp.i0 b hb),fun b hb=>?_,hp.v,k1,fun g b hl hb=>hp.bh g b (lv g hl) (k4 g b hb)⟩⟩
 rcases k3 b hb with hb | ⟨g,h1,h2⟩
 ·exact hp.i1 b hb
 ·exact .inr ((hp.bh g b h1 h2).symm)
def order (res:RM) (n0:Nat) (r:SV) (ob:List Ob):Option (SV × List Ob) :=
 match res with
 | .asis=>some (r,ob)
 | .late=>some (r,ob)
 | .frz=>gc n0 (Cp (Ad ob) [] r) (Ey (Bl [] r) 0 ob)
 | .frl _=>gc n0 (Cp (Ad ob) [] r) (Ey (Bl [] r) 0 ob)
 | .frzg _ _=>gc n0 (Cp (Ad ob) [] r) (Ey (Bl [] r) 0 ob)
 | .own l=>match SV.own ob.length l r with
  | (r',os,_)=>bif os.isEmpty then some (r,ob) else gc n0 r' (ob++os)
 | .half l=>match SV.own ob.length l r with
  | (r',os,_)=>bif os.isEmpty then some (r,DK n0 ob) else match gc n0 r' (ob++os) with
   | some (r2,ob2)=>some (r2,DK n0 ob2)
   | none=>none
 | .halfg _ _ l=>match SV.own ob.length l r with
  | (r',os,_)=>bif os.isEmpty then some (r,DK n0 ob) else match gc n0 r' (ob++os) with
   | some (r2,ob2)=>some (r2,DK n0 ob2)
   | none=>none
 | .tr l=>match SV.own ob.length l r with
  | (r',os,_)=>bif os.isEmpty then some (r,toTree ob) else match gc n0 r' (ob++os) with
   | some (r2,ob2)=>some (r2,toTree ob2)
   | none=>none
theorem Mi {P:Program} {f:FuncId} {args:List SV} {ob ob1 ob2:List Ob} {r r2:SV} {res:RM} (h:Fun P f args ob r ob1) (ho:order res ob.length r ob1=some (r2,ob2)):Fun P f args ob r2 ob2:=by
 unfold order at ho
 split at ho
 ·simp only [zB,zE] at ho
  obtain ⟨rfl,rfl⟩:=ho
  exact h
 ·simp only [zB,zE] at ho
  obtain ⟨rfl,rfl⟩:=ho
  exact h
 ·exact h.give.weak (E8 ho)
 ·exact h.give.weak (E8 ho)
 ·exact h.give.weak (E8 ho)
 ·rename_i l
  split at ho
  rename_i r' os l' he
  cases hb:os.isEmpty with
  | true =>
   rw [hb] at ho
   simp only [cond_true,zB,zE] at ho
   obtain ⟨rfl,rfl⟩:=ho
   exact h
  | false =>
   rw [hb] at ho
   have:=h.rows l
   rw [he] at this
   exact this.weak (E8 ho)
 ·rename_i l
  split at ho
  rename_i r' os l' he
  cases hb:os.isEmpty with
  | true =>
   rw [hb] at ho
   simp only [cond_true,zB,zE] at ho
   obtain ⟨rfl,rfl⟩:=ho
   exact h.half _
  | false =>
   rw [hb] at ho
   simp only [cond_false] at ho
   have:=h.rows l
   rw [he] at this
   cases hg:gc ob.length r' (ob1++os) with
   | none=>rw [hg] at ho; cases ho
   | some q =>
    rw [hg] at ho
    obtain ⟨r3,ob3⟩:=q
    simp only [zB,zE] at ho
    obtain ⟨rfl,rfl⟩:=ho
    exact (this.weak (E8 hg)).half _
 ·rename_i l
  split at ho
  rename_i r' os l' he
  cases hb:os.isEmpty with
  | true =>
   rw [hb] at ho
   simp only [cond_true,zB,zE] at ho
   obtain ⟨rfl,rfl⟩:=ho
   exact h.half _
  | false =>
   rw [hb] at ho
   simp only [cond_false] at ho
   have:=h.rows l
   rw [he] at this
   cases hg:gc ob.length r' (ob1++os) with
   | none=>rw [hg] at ho; cases ho
   | some q =>
    rw [hg] at ho
    obtain ⟨r3,ob3⟩:=q
    simp only [zB,zE] at ho
    obtain ⟨rfl,rfl⟩:=ho
    exact (this.weak (E8 hg)).half _
 ·rename_i l
  split at ho
  rename_i r' os l' he
  cases hb:os.isEmpty with
  | true =>
   rw [hb] at ho
   simp only [cond_true,zB,zE] at ho
   obtain ⟨rfl,rfl⟩:=ho
   exact h.trees
  | false =>
   rw [hb] at ho
   simp only [cond_false] at ho
   have:=h.rows l
   rw [he] at this
   cases hg:gc ob.length r' (ob1++os) with
   | none=>rw [hg] at ho; cases ho
   | some q =>
    rw [hg] at ho
    obtain ⟨r3,ob3⟩:=q
    simp only [zB,zE] at ho
    obtain ⟨rfl,rfl⟩:=ho
    exact (this.weak (E8 hg)).trees
def Mj (m:List Nat):List Nat→List SV→List SV
 | [],[]=>[]
 | _ :: _,[]=>[]
 | [],_ :: xs=>.any :: Mj m [] xs
 | 0 :: ks,_ :: xs=>.any :: Mj m ks xs
 | (_+1) :: ks,x :: xs=>(match x.back m with | some y=>y | none=>.any) :: Mj m ks xs
def EP:List Nat→List SV→List Nat
 | (_+1) :: ks,x :: xs=>x.refs++EP ks xs
 | 0 :: ks,_ :: xs=>EP ks xs
 | _,_=>[]
def BW:List Ob→Nat→Ob→List Ob
 | [],_,_=>[]
 | _ :: r,0,o=>o :: r
 | x :: r,g+1,o=>x :: BW r g o
def Qa (live:List Nat) (ob:List Ob) (g:Nat):Ob→List Ob
 | .tree es ((k,o,q) :: r)=>bif F7 q live || (q == g) then ob else match Ad ob q with
  | .tree e2 []=>match es[k]? with
   | some l=>bif decide (o < l.length) then BW (BW ob g (.tree (es.set k (l.set o (.ow e2))) r)) q .gone else ob
   | none=>ob
  | _=>ob
 | _=>ob
def NX (live:List Nat):Nat→Nat→List Ob→List Ob
 | 0,_,ob=>ob
 | n+1,g,ob=>NX live n g (Qa live ob g (Ad ob g))
def Qb (live:List Nat):List Nat→List Ob→List Ob
 | [],ob=>ob
 | g :: r,ob=>Qb live r (match Ad ob g with
  | .tree _ (_ :: _)=>NX live 8 g ob
  | _=>ob)
def Sn (n0:Nat) (keep:List Nat) (sl:List SV) (ob:List Ob):St :=
 ⟨Mj (names n0 ob (EP keep sl)) keep sl,J6 (names n0 ob (EP keep sl)) ob (names n0 ob (EP keep sl))⟩
def KI (n0:Nat) (keep:List Nat) (st:St):St:=Sn n0 keep st.sl (Qb (EP keep st.sl) (Iu st.ob.length) st.ob)
def So (n:Nat) (st:St):St :=
 match gets st.sl n with
 | .ref g=>match Ad st.ob g with
  | .row _ _ es=>bif OT.Aq es then ⟨st.sl.set n (.arr (OT.erss es)),BW st.ob g .gone⟩ else st
  | _=>st
 | .nil=>⟨st.sl.set n (.arr []),st.ob⟩
 | _=>st
def NY (n:Nat) (st:St):St :=
 match gets st.sl n with
 | .ref g=>match Ad st.ob g with
  | .row _ _ es=>bif OT.Aq es then ⟨st.sl,BW st.ob g (.shd (OT.erss es))⟩ else st
  | _=>st
 | _=>st
def canon (n0:Nat):List Nat→St→St
 | (n+7) :: ks,st=>canon n0 ks (So n st)
 | ks,st=>KI n0 ks st
theorem TU {n0:Nat} {ks:List Nat} {st:St}:canon n0 (0 :: ks) st=KI n0 (0 :: ks) st:=rfl
theorem TV {n0:Nat} {ks:List Nat} {st:St}:canon n0 (1 :: ks) st=KI n0 (1 :: ks) st:=rfl
theorem TW {n0 n:Nat} {ks:List Nat} {st:St}:canon n0 ((n+7) :: ks) st=canon n0 ks (So n st):=rfl
theorem Co:∀ {l:List Ob} {g j:Nat} {o:Ob},Ad (BW l g o) j=if j=g∧g<l.length then o else Ad l j
 | [],g,j,o=>by simp [BW,Ad]
 | x :: r,0,0,o=>by simp [BW,Ad]
 | x :: r,0,j+1,o=>by simp [BW,Ad]
 | x :: r,g+1,0,o=>by simp [BW,Ad]
 | x :: r,g+1,j+1,o=>by
  simp only [BW,Ad,zL,zS,zW]
  exact Co
theorem Wf.plug {w:World} {I:Nat→Prop} {V:Nat→Option Value} {B:Nat→Nat→Prop} {ob ob':Nat→Ob} (h:Wf w I V B ob) {g q k o:Nat} {es e2:List (List OT)} {r:List (Nat × Nat × Nat)} {l:List OT} (hg:ob g=.tree es ((k,o,q) :: r)) (hq:ob q=.tree e2 []) (hne:q≠g) (hl:es[k]?=some l) (ho:o<l.length)
  (h1:ob' g=.tree (es.set k (l.set o (.ow e2))) r) (h2:ob' q=.gone) (h3:∀ j,j≠g→j≠q→ob' j=ob j):Wf w I V (fun j x=>if j=g then B g x∨B q x else B j x) ob':=by
 have lg:(ob g).live:=by rw [hg]; trivial
 have lq:(ob q).live:=by rw [hq]; trivial
 obtain ⟨val,hV,t,sz,hR,hH⟩:∃ val,V g=some val∧TreeR w I V (B g) es ((k,o,q) :: r) val:=by
  obtain ⟨val,a,b⟩:=h.obj g lg
  rw [hg] at b; exact ⟨val,a,b⟩
 obtain ⟨val2,hV2,t2,sz2,hR2,_⟩:∃ val,V q=some val∧TreeR w I V (B q) e2 [] val:=by
  obtain ⟨val,a,b⟩:=h.obj q lq
  rw [hq] at b; exact ⟨val,a,b⟩
 refine h.upd (w':=w) (fun j=>j=g∨j=q) (zH _) (fun _ _ _=>rfl) (fun _ h=>h) (VLe.refl _) (fun j hj=>?_) (fun b hb=>.inl hb) h.ilt (fun j hj hlv=>?_) (fun j b hj hlv hb=>?_) (fun j b hj hlv hb hI=>?_) (fun j j' b hj hj' hlv hlv' _ _=>?_) (fun j hj hf=>?_)
 ·have a:¬ j=g:=fun e=>hj (.inl e)
  have b:¬ j=q:=fun e=>hj (.inr e)
  exact ⟨h3 j a b,by funext x; simp only [if_neg a],fun hf=>h.fr j hf⟩
 ·rcases hj with rfl | rfl
  ·refine ⟨val,hV,?_⟩
   rw [h1]
   obtain ⟨g1,g2,b2,c2,v2,e4,g3,g4,g5⟩:=hH (k,o,q) (by simp)
   obtain ⟨b,cap,v,S0,e1,e5,hb1,hb2,hc,_,hS,hnew⟩:=hR.leaf (l:=l) (off:=o) hl (.inr ho) ho
   subst e1
   have hbb:b2=b:=by rw [e4] at e5; simp at e5; exact e5.1
   subst hbb
   rw [hc] at g3
   obtain rfl:=zA g3
   rw [hV2] at g4
   obtain rfl:=zA g4
   refine ⟨t,l.length,(hnew (.ow e2) (B q) hR2.ot (fun x hx hx'=>absurd (h.dO q j x lq lg hx hx') hne)).up fun x hx=>?_,fun p hp=>?_⟩
   ·simp only [if_true]
    exact hx.imp (fun h=>h.1) id
   ·rw [List.length_set]
    exact hH p (by simp [hp])
  ·rw [h2] at hlv; exact hlv.elim
 ·rcases hj with rfl | rfl
  ·simp only [if_true] at hb
   rcases hb with hb | hb
   ·exact .inr ⟨j,.inl rfl,lg,hb⟩
   ·exact .inr ⟨q,.inr rfl,lq,hb⟩
  ·rw [h2] at hlv; exact hlv.elim
 ·rcases hj with rfl | rfl
  ·simp only [if_true] at hb
   rcases hb with hb | hb
   ·exact h.dI j b lg hb hI
   ·exact h.dI q b lq hb hI
  ·rw [h2] at hlv; exact hlv.elim
 ·rcases hj with rfl | rfl
  ·rcases hj' with rfl | rfl
   ·rfl
   ·rw [h2] at hlv'; exact hlv'.elim
  ·rw [h2] at hlv; exact hlv.elim
 ·rcases hj with rfl | rfl
  ·rw [h1] at hf; cases hf
  ·rw [h2] at hf; cases hf
theorem Pb {c:Ctx} {live:List Nat} {sl:List SV} {ob:List Ob} {g:Nat}:Weak c ⟨sl,ob⟩ ⟨sl,Qa live ob g (Ad ob g)⟩:=by
 cases hgo:Ad ob g with
 | free=>exact Weak.Dl _
 | gone=>exact Weak.Dl _
 | box t l=>exact Weak.Dl _
 | row t sz es=>exact Weak.Dl _
 | mp ks m=>exact Weak.Dl _
 | it ks m seen cur=>exact Weak.Dl _
 | shd es=>exact Weak.Dl _
 | hist t sz es us=>exact Weak.Dl _
 | tree es hs =>
  cases hs with
  | nil=>exact Weak.Dl _
  | cons h r =>
   obtain ⟨k,o,q⟩:=h
   simp only [Qa]
   cases hc:(F7 q live || (q == g)) with
   | true=>exact Weak.Dl _
   | false =>
    simp only [cond_false]
    split
    ·rename_i e2 hq
     split
     ·rename_i l hl
      cases hd:decide (o<l.length) with
      | false=>exact Weak.Dl _
      | true =>
       have ho:=of_decide_eq_true hd
       simp only [cond_true]
       have hne:q≠g:=by
        rw [Bool.or_eq_false_iff] at hc
        simpa using hc.2
       have lt:∀ j,(Ad ob j).live→j<ob.length:=fun j hj=>by
        rcases zF j ob.length with h | h
        ·exact h
        ·rw [AF _ _ h] at hj; exact hj.elim
       have hlg:=lt g (by rw [hgo]; trivial)
       have hlq:=lt q (by rw [hq]; trivial)
       have hsl:∀ (l:List Ob) (j:Nat) (x:Ob),(BW l j x).length=l.length:=by
        intro l
        induction l with
        | nil=>intro j x; rfl
        | cons y r ih=>intro j x; cases j <;> simp [BW,ih]
       have e1:Ad (BW (BW ob g (.tree (es.set k (l.set o (.ow e2))) r)) q .gone) g=.tree (es.set k (l.set o (.ow e2))) r:=by
        rw [Co,if_neg (fun h=>hne h.1.symm),Co,if_pos ⟨rfl,hlg⟩]
       have e2':Ad (BW (BW ob g (.tree (es.set k (l.set o (.ow e2))) r)) q .gone) q=.gone:=by
        rw [Co,if_pos ⟨rfl,by rw [hsl]; exact hlq⟩]
       have e3:∀ j,j≠g→j≠q→Ad (BW (BW ob g (.tree (es.set k (l.set o (.ow e2))) r)) q .gone) j=Ad ob j:=fun j h1 h2=>by
        rw [Co,if_neg (fun h=>h2 h.1),Co,if_neg (fun h=>h1 h.1)]
       intro hlen
       refine ⟨hlen,fun a w hr=>?_⟩
       obtain ⟨I,V,B,hr⟩:=hr
       refine ⟨I,V,_,hr.fr,hr.i0,hr.i1,hr.v0,hr.wf.plug (es:=es) (e2:=e2) (ob':=Ad (BW (BW ob g (.tree (es.set k (l.set o (.ow e2))) r)) q .gone)) hgo hq hne hl ho e1 e2' e3,fun j b hj hb=>?_,hr.nd,hr.sz,hr.slots⟩
       have hj:(Ad (BW (BW ob g (.tree (es.set k (l.set o (.ow e2))) r)) q .gone) j).live:=hj
       by_cases hjg:j=g
       ·subst hjg
        simp only [if_true] at hb
        rcases hb with hb | hb
        ·exact hr.bh j b (by show (Ad ob j).live; rw [hgo]; trivial) hb
        ·exact hr.bh q b (by show (Ad ob q).live; rw [hq]; trivial) hb
       ·simp only [if_neg hjg] at hb
        by_cases hjq:j=q
        ·subst hjq; rw [e2'] at hj; exact hj.elim
        ·rw [e3 j hjg hjq] at hj
         exact hr.bh j b hj hb
     ·exact Weak.Dl _
    ·exact Weak.Dl _
theorem KJ {c:Ctx} {live:List Nat} {sl:List SV} {g:Nat}:∀ {n:Nat} {ob:List Ob},Weak c ⟨sl,ob⟩ ⟨sl,NX live n g ob⟩
 | 0,ob=>Weak.Dl _
 | n+1,ob=>Weak.trans Pb KJ
theorem KK {c:Ctx} {live:List Nat} {sl:List SV}:∀ {gs:List Nat} {ob:List Ob},Weak c ⟨sl,ob⟩ ⟨sl,Qb live gs ob⟩
 | [],ob=>Weak.Dl _
 | g :: r,ob=>by
  have h1:Weak c ⟨sl,ob⟩ ⟨sl,match Ad ob g with
   | .tree _ (_ :: _)=>NX live 8 g ob
   | _=>ob⟩:=by
   split
   ·exact KJ
   ·exact Weak.Dl _
  exact Weak.trans h1 (KK (gs:=r))
theorem Iv {m:List Nat} {p:Nat}:∀ {ks:List Nat} {xs:List SV},leL (sgp m p) (Mj m ks xs) xs
 | [],[]=>trivial
 | _ :: _,[]=>trivial
 | [],x :: xs=>⟨trivial,Iv (ks:=[]) (xs:=xs)⟩
 | 0 :: ks,x :: xs=>⟨trivial,Iv (ks:=ks) (xs:=xs)⟩
 | (k+1) :: ks,x :: xs=>by
  refine ⟨?_,Iv (ks:=ks) (xs:=xs)⟩
  split
  ·rename_i y h
   exact Pa (SV.back_ren h)
  ·trivial
theorem CD {c:Ctx} {keep:List Nat} {st:St}:Weak c st (KI c.m keep st):=Weak.trans (KK (sl:=st.sl) (ob:=st.ob)) (TM _ (KD Iv))
theorem Iw {sl:List SV} {n k:Nat} {x:SV}:gets (sl.set n x) k=if n=k∧n<sl.length then x else gets sl k:=by
 induction sl generalizing n k with
 | nil=>simp [gets]
 | cons y r ih =>
  cases n with
  | zero=>cases k with
   | zero=>simp [gets]
   | succ k=>simp [gets]
  | succ n=>cases k with
   | zero=>simp [gets]
   | succ k=>simp only [List.set_cons_succ,gets,zL,zS,zW]; exact ih
theorem QL {c:Ctx} {n:Nat} {st:St}:Weak c st (So n st):=by
 unfold So
 split
 ·rename_i g hg
  split
  ·rename_i t sz es hob
   cases hf:OT.Aq es with
   | false=>exact Weak.Dl _
   | true =>
    rw [cond_true]
    intro hlen
    refine ⟨by simpa using hlen,fun a w hr=>?_⟩
    obtain ⟨I,V,B,hr⟩:=hr
    have hl:(Ad st.ob g).live:=by rw [hob]; trivial
    have hlt:g<st.ob.length:=by
     rcases zF g st.ob.length with h | h
     ·exact h
     ·rw [AF _ _ h] at hl; exact hl.elim
    have k:=hr.after (After.frz hr.wf (g:=g) hl)
    have eob:A1 (Ad st.ob) [(g,.gone)]=Ad (BW st.ob g .gone):=by
     funext j
     rw [Co]
     by_cases e:j=g
     ·subst e; simp [A1,AE,hlt]
     ·have e':¬ g=j:=fun h=>e h.symm
      simp [A1,AE,e,e']
    have kw:Wf w (fun b=>I b∨B g b) V B (A1 (Ad st.ob) [(g,.gone)]):=k.wf
    have kb:∀ j b,(A1 (Ad st.ob) [(g,.gone)] j).live→B j b→c.H b∨c.w0.heap.size≤b:=k.bh
    rw [eob] at kw kb
    refine ⟨_,V,B,k.fr,k.i0,k.i1,k.v0,kw,kb,k.nd,k.sz,fun j=>?_⟩
    have hs:=k.slots j
    show RepV w _ V (gets (st.sl.set n (.arr (OT.erss es))) j) _
    rw [Iw]
    split
    ·rename_i hj
     obtain ⟨rfl,_⟩:=hj
     have hv:=hr.slots n
     have hv:RepV w I V (gets st.sl n) (a.tmps.getD n undef):=hv
     rw [hg] at hv
     simp only [RepV] at hv
     obtain ⟨val,h1,h2⟩:=hr.wf.obj g hl
     rw [hv.1] at h1
     obtain rfl:=zA h1
     have h2:ObR w I V (B g) _ (Ad st.ob g):=h2
     rw [hob] at h2
     simp only [RepV]
     exact RowR.er h2 (fun b hb=>.inr hb) (fun b hb=>.inl hb) hf
    ·exact hs
  ·exact Weak.Dl _
 ·rename_i hg
  intro hlen
  refine ⟨by simpa using hlen,fun a w hr=>?_⟩
  obtain ⟨I,V,B,hr⟩:=hr
  refine ⟨I,V,B,hr.fr,hr.i0,hr.i1,hr.v0,hr.wf,hr.bh,hr.nd,hr.sz,fun j=>?_⟩
  have hs:=hr.slots j
  show RepV w _ V (gets (st.sl.set n (.arr [])) j) _
  rw [Iw]
  split
  ·rename_i hj
   obtain ⟨rfl,_⟩:=hj
   have hv:RepV w I V (gets st.sl n) (a.tmps.getD n undef):=hr.slots n
   rw [hg] at hv
   simp only [RepV] at hv ⊢
   rw [hv]
   exact Jy _
  ·exact hs
 ·exact Weak.Dl _
theorem QM {c:Ctx} {n:Nat} {st:St}:Weak c st (NY n st):=by
 unfold NY
 split
 ·rename_i g hg
  split
  ·rename_i t sz es hob
   cases hf:OT.Aq es with
   | false=>exact Weak.Dl _
   | true =>
    rw [cond_true]
    intro hlen
    refine ⟨hlen,fun a w hr=>?_⟩
    obtain ⟨I,V,B,hr⟩:=hr
    have hl:(Ad st.ob g).live:=by rw [hob]; trivial
    have hlt:g<st.ob.length:=by
     rcases zF g st.ob.length with h | h
     ·exact h
     ·rw [AF _ _ h] at hl; exact hl.elim
    obtain ⟨val,h1,h2⟩:=hr.wf.obj g hl
    have h2:ObR w I V (B g) _ (Ad st.ob g):=h2
    rw [hob] at h2
    have hD:DRep false w (fun b=>I b∨B g b) (.arr (OT.erss es)) val:=RowR.er h2 (fun b hb=>.inr hb) (fun b hb=>.inl hb) hf
    have k:=hr.after (After.shd hr.wf (g:=g) hl h1 hD)
    have eob:A1 (Ad st.ob) [(g,.shd (OT.erss es))]=Ad (BW st.ob g (.shd (OT.erss es))):=by
     funext j
     rw [Co]
     by_cases e:j=g
     ·subst e; simp [A1,AE,hlt]
     ·have e':¬ g=j:=fun h=>e h.symm
      simp [A1,AE,e,e']
    have kw:Wf w (fun b=>I b∨B g b) V (fun x b=>x≠g∧B x b) (A1 (Ad st.ob) [(g,.shd (OT.erss es))]):=k.wf
    have kb:∀ j b,(A1 (Ad st.ob) [(g,.shd (OT.erss es))] j).live→(j≠g∧B j b)→c.H b∨c.w0.heap.size≤b:=k.bh
    rw [eob] at kw kb
    exact ⟨_,V,_,k.fr,k.i0,k.i1,k.v0,kw,kb,k.nd,k.sz,fun j=>k.slots j⟩
  ·exact Weak.Dl _
 ·exact Weak.Dl _
theorem Cq {c:Ctx}:∀ {keep:List Nat} {st:St},Weak c st (canon c.m keep st)
 | [],st=>CD
 | 0 :: ks,st=>CD
 | 1 :: ks,st=>CD
 | 2 :: ks,st=>CD
 | 3 :: ks,st=>CD
 | 4 :: ks,st=>CD
 | 5 :: ks,st=>CD
 | 6 :: ks,st=>CD
 | (n+7) :: ks,st=>Weak.trans QL (Cq (keep:=ks))
def C5 (r:Option (X × St)) (k:St→Option (X × St)):Option (X × St) :=
 match r with
 | some (.normal,st)=>k st
 | some (.exit i,st)=>some (.exit i,st)
 | some (.ret,st)=>some (.ret,st)
 | none=>none
def Gl (id:Nat) (r:Option (X × St)):Option (X × St) :=
 match r with
 | some (.normal,st)=>some (.normal,st)
 | some (.exit i,st)=>if i=id then some (.normal,st) else some (.exit i,st)
 | some (.ret,st)=>some (.ret,st)
 | none=>none
structure MI where
 keepO:List Nat
 it:SX
 nx:Nat
 more:Nat
abbrev LoopF:=Option MI→List Nat→(St→Option (X × St))→St→Option (X × St)
noncomputable def fr (P:Program) (C:CallF) (L:LoopF):SC→St→Option (X × St)
 | .skip,st=>some (.normal,st)
 | .reg ops,st=>match KA P C ops st with
  | some st'=>some (.normal,st')
  | none=>none
 | .dreg anc ops,st=>match D2 P C ops [] st with
  | some (es,st')=>bif obB anc [] (Hy es) 0 then some (.normal,st') else none
  | none=>none
 | .seq a b,st=>C5 (fr P C L a st) (fr P C L b)
 | .cond q a b,st=>match As (gets st.sl) q with
  | .bool t=>bif t then fr P C L a st else fr P C L b st
  | _=>none
 | .block id b,st=>Gl id (fr P C L b st)
 | .loop keep b,st=>L none keep (fr P C L b) st
 | .exit id,st=>some (.exit id,st)
 | .ret,st=>some (.ret,st)
 | .next _ _ _,_=>none
 | .mloop keep keepO it nx more b,st=>L (some ⟨keepO,it,nx,more⟩) keep (fr P C L b) st
 | .ghost n b,st=>fr P C L b (NY n st)
def D3 (n0:Nat) (keep:List Nat) (step:St→Option (X × St)):Nat→St→Option (X × St)
 | 0,_=>none
 | n+1,st=>C5 (step (canon n0 keep st)) (D3 n0 keep step n)
abbrev EL:=List (MK × MV)
structure Enum (f:MF) (l:EL):Prop where
 nd:(l.map (·.1)).Nodup
 mem:∀ k x,(k,x)∈l ↔ f k=some x
noncomputable def Pc {α β:Type} (p:α→Prop) (f:α→Option β):Option β :=
 match Classical.propDecidable ((∃ a,p a)∧∃ o,∀ a,p a→f a=some o) with
 | .isTrue h=>some (Classical.choose h.2)
 | .isFalse _=>none
theorem EQ {α β:Type} {p:α→Prop} {f:α→Option β} {o:β}:Pc p f=some o ↔ (∃ a,p a)∧∀ a,p a→f a=some o:=by
 unfold Pc
 split
 ·rename_i h _
  have hs:=Classical.choose_spec h.2
  constructor
  ·intro e
   obtain rfl:=zA e
   exact ⟨h.1,hs⟩
  ·rintro ⟨⟨a,ha⟩,h2⟩
   have:=(hs a ha).symm.trans (h2 a ha)
   exact this
 ·rename_i h _
  exact ⟨fun e=>(by cases e),fun ⟨h1,h2⟩=>absurd ⟨h1,o,h2⟩ h⟩
def MY (it:SX) (st:St):Option (Nat × Bool × MF × List MK) :=
 match As (gets st.sl) it with
 | .ptr g o=>match Ad st.ob g with
  | .it ks m seen _=>bif (o == 0) then some (g,ks,m,seen) else none
  | _=>none
 | _=>none
def Pd:Option (X × St)→Option (X × St)
 | some (.normal,_)=>none
 | some (.exit i,st)=>some (.exit i,st)
 | some (.ret,st)=>some (.ret,st)
 | none=>none
noncomputable def ER (n0:Nat) (mi:MI) (keep:List Nat) (step:St→Option (X × St)) (f:MF):EL→List MK→St→Option (X × St)
 | [],seen,st=>match MY mi.it (canon n0 keep st) with
  | some (_,_,f',seen')=>bif dec (f'=f)&&dec (seen'=seen) then Pd (step (Ew mi.nx mi.more (canon n0 keep st) false [])) else none
  | none=>none
 | (k,x) :: l,seen,st=>match MY mi.it (canon n0 keep st) with
  | some (g,ks,f',seen')=>bif dec (f'=f)&&dec (seen'=seen) then C5 (step (Ew mi.nx mi.more (canon n0 keep st) true [(g,.it ks f (k :: seen) (some (k,x)))])) (ER n0 mi keep step f l (k :: seen)) else none
  | none=>none
def LC (n0:Nat) (keepO:List Nat):Option (X × St)→Option (X × St)
 | some (x,st)=>some (x,canon n0 keepO st)
 | none=>none
noncomputable def GJ (n0:Nat) (mi:MI) (keep:List Nat) (step:St→Option (X × St)) (st:St):Option (X × St) :=
 match MY mi.it (canon n0 keep st) with
 | some (_,_,f,[])=>Pc (Enum f) fun l=>LC n0 mi.keepO (ER n0 mi keep step f l [] st)
 | _=>none
noncomputable def GK (n0:Nat):Option MI→List Nat→(St→Option (X × St))→Nat→St→Option (X × St)
 | none,keep,step,n,st=>D3 n0 keep step n st
 | some mi,keep,step,_,st=>GJ n0 mi keep step st
def BQ:SC→SC→Prop
 | .ghost _ b,sc=>BQ b sc
 | .skip,.skip=>True
 | .reg a,.reg b=>a=b
 | .dreg x a,.dreg y b=>x=y∧a=b
 | .seq a b,.seq a' b'=>BQ a a'∧BQ b b'
 | .cond q a b,.cond q' a' b'=>q=q'∧BQ a a'∧BQ b b'
 | .block i b,.block i' b'=>i=i'∧BQ b b'
 | .loop _ b,.loop _ b'=>BQ b b'
 | .exit i,.exit i'=>i=i'
 | .ret,.ret=>True
 | .next a b d,.next a' b' d'=>a=a'∧b=b'∧d=d'
 | .next _ _ _,.mloop _ _ _ _ _ _=>True
 | .next _ _ _,.ghost _ _=>True
 | .mloop _ _ it nx more b,.loop _ (.seq (.next it' nx' more') b')=>it=it'∧nx=nx'∧more=more'∧BQ b b'
 | _,_=>False
section
variable {P:Program} {c:Ctx} {C:CallF}
def W6 (mi:Option MI) (b:SC):SC :=
 match mi with
 | none=>b
 | some mi=>.seq (.next mi.it mi.nx mi.more) b
def KL (P:Program) (c:Ctx) (L:LoopF):Prop:=∀ (mi:Option MI) (keep junk:List Nat) (step:St→Option (X × St)) (b:SC) (st:St) (out:X × St),
 (∀ st out,step st=some out→∀ K:X→St→Prop,K out.1 out.2→Run P c b K st)→L mi keep step st=some out→∀ K:X→St→Prop,K out.1 out.2→Run P c (.loop junk (W6 mi b)) K st
theorem Pe (hm:P.follows .mixedOrders=true) (n:Nat) (keep junk:List Nat) (step:St→Option (X × St)) (b:SC) (st:St) (out:X × St) (hstep:∀ st out,step st=some out→∀ K:X→St→Prop,K out.1 out.2→Run P c b K st) (h:D3 c.m keep step n st=some out) (K:X→St→Prop) (hK:K out.1 out.2):Run P c (.loop junk b) K st:=by
 let A:={ p:Nat × St // C5 (step p.2) (D3 c.m keep step p.1)=some out }
 have start:∀ n st,D3 c.m keep step n st=some out→∃ a:A,a.1.2=canon c.m keep st∧a.1.1<n:=fun n st h=>by
  cases n with
  | zero=>cases h
  | succ n=>exact ⟨⟨(n,canon c.m keep st),h⟩,rfl,Nat.lt_succ_self n⟩
 obtain ⟨a0,ha0,_⟩:=start n st h
 refine Iq (α:=A) (fun a=>a.1.2) (fun a=>a.1.1) a0 (by show Weak c st a0.1.2; rw [ha0]; exact Cq) fun a=>?_
 obtain ⟨⟨m,s⟩,ha⟩:=a
 simp only at ha ⊢
 unfold C5 at ha
 split at ha
 ·rename_i st' hs
  refine hstep s _ hs _ ?_
  obtain ⟨y,hy1,hy2⟩:=start m st' ha
  exact ⟨y,hy2,by show Weak c st' y.1.2; rw [hy1]; exact Cq⟩
 ·rename_i i st' hs
  obtain rfl:=zA ha
  exact hstep s _ hs _ hK
 ·rename_i st' hs
  obtain rfl:=zA ha
  exact hstep s _ hs _ hK
 ·cases ha
theorem Run.weakR {sc:SC} {K:X→St→Prop} {st:St} (h:Run P c sc (fun x s=>∃ s',Weak c s s'∧K x s') st):Run P c sc K st:=by
 intro code hc a w Q hl hr hq
 refine h code hc a w Q hl hr fun x s a' w' hk hl' hr'=>?_
 obtain ⟨s',hw,hk⟩:=hk
 obtain ⟨h1,h2⟩:=hw hl'
 exact hq x s' a' w' hk h1 (h2 a' w' hr')
theorem Mk {it:SX} {st:St} {g:Nat} {ks:Bool} {f:MF} {seen:List MK} (h:MY it st=some (g,ks,f,seen)):As (gets st.sl) it=.ptr g 0∧∃ cur,Ad st.ob g=.it ks f seen cur:=by
 unfold MY at h
 split at h
 ·rename_i g' o hg
  split at h
  ·rename_i ks' m' seen' cur hob
   obtain ⟨h1,h2⟩:=Al h
   simp only [zB,zE] at h2
   obtain ⟨rfl,rfl,rfl,rfl⟩:=h2
   have:o=0:=by simpa using h1
   subst this
   exact ⟨hg,cur,hob⟩
  ·cases h
 ·cases h
theorem Ml {r:Option (X × St)} {o:X × St} (h:Pd r=some o):r=some o∧o.1≠.normal:=by
 unfold Pd at h
 split at h
 ·cases h
 ·obtain rfl:=zA h; exact ⟨rfl,fun e=>by cases e⟩
 ·obtain rfl:=zA h; exact ⟨rfl,fun e=>by cases e⟩
 ·cases h
theorem IY {n0:Nat} {keepO:List Nat} {r:Option (X × St)} {o:X × St} (h:LC n0 keepO r=some o):∃ st,r=some (o.1,st)∧o.2=canon n0 keepO st:=by
 unfold LC at h
 split at h
 ·obtain rfl:=zA h; exact ⟨_,rfl,rfl⟩
 ·cases h
theorem filter_lt {α:Type} {p q:α→Bool}:∀ {l:List α} {a:α},(∀ x,q x=true→p x=true)→a∈l→p a=true→q a=false→(l.filter q).length<(l.filter p).length
 | [],a,_,ha,_,_=>by cases ha
 | x :: l,a,hpq,ha,hp,hq=>by
  have mono:∀ l:List α,(l.filter q).length≤(l.filter p).length:=by
   intro l
   induction l with
   | nil=>exact zH _
   | cons y l ih =>
    rw [yA,yA]
    cases hy:q y with
    | true=>rw [hpq y hy]; simpa using ih
    | false =>
     cases p y with
     | true=>simp only [if_true,zL]; simp; omega
     | false=>simpa using ih
  rw [yA,yA]
  rcases zO.1 ha with rfl | ha
  ·rw [hp,hq]
   have:=mono l
   simp; omega
  ·have ih:=filter_lt hpq ha hp hq
   cases hx:q x with
   | true=>rw [hpq x hx]; simpa using ih
   | false =>
    cases p x with
    | true=>simp; omega
    | false=>simpa using ih
theorem Pf (hm:P.follows .mixedOrders=true) (mi:MI) (keep junk:List Nat) (step:St→Option (X × St)) (b:SC) (st:St) (out:X × St) (hstep:∀ st out,step st=some out→∀ K:X→St→Prop,K out.1 out.2→Run P c b K st) (h:GJ c.m mi keep step st=some out) (K:X→St→Prop) (hK:K out.1 out.2):Run P c (.loop junk (.seq (.next mi.it mi.nx mi.more) b)) K st:=by
 unfold GJ at h
 split at h
 ·rename_i g0 ks0 f hit
  obtain ⟨⟨L0,hL0⟩,hall⟩:=EQ.1 h
  let G:EL→St→Prop:=fun l s=>(l.map (·.1)).Nodup∧(∀ e,e∈l→f e.1=some e.2)∧∀ rest,Enum f (l++rest)→LC c.m mi.keepO (ER c.m mi keep step f rest (l.map (·.1)).reverse s)=some out
  have more:∀ l:EL,(l.map (·.1)).Nodup→(∀ e,e∈l→f e.1=some e.2)→∃ rest,Enum f (l++rest):=fun l h1 h2=>by
   refine ⟨L0.filter fun e=>!dec (e.1∈l.map (·.1)),?_,fun k x=>?_⟩
   ·rw [yB,zZ]
    refine ⟨h1,(List.filter_sublist.map _).nodup hL0.nd,fun a ha b hb e=>?_⟩
    obtain ⟨q,hq,rfl⟩:=yE.1 hb
    rw [List.mem_filter,zI,Ee] at hq
    subst e
    exact hq.2 ha
   ·rw [zK,List.mem_filter,zI,Ee]
    constructor
    ·rintro (h3 | h3)
     ·exact h2 _ h3
     ·exact (hL0.mem k x).1 h3.1
    ·intro h3
     by_cases h4:k∈l.map (·.1)
     ·obtain ⟨⟨k',x'⟩,h5,rfl⟩:=yE.1 h4
      have h6:=h2 _ h5
      have h6:f k'=some x':=h6
      rw [h3] at h6
      obtain rfl:=zA h6
      exact .inl h5
     ·exact .inr ⟨(hL0.mem k x).2 h3,h4⟩
  have hG0:G [] st:=⟨yQ,fun e he=>(by cases he),fun rest hr=>hall rest (by simpa using hr)⟩
  let A:={ q:EL × St // G q.1 q.2 }
  let μ:A→Nat:=fun q=>(L0.filter fun e=>!dec (e.1∈q.1.1.map (·.1))).length
  refine Run.weakR (Iq (α:=A) (fun q=>canon c.m keep q.1.2) μ ⟨([],st),hG0⟩ Cq fun q=>?_)
  obtain ⟨⟨l,s⟩,hG⟩:=q
  obtain ⟨g1,g2,g3⟩:=hG
  refine Run.seq (Ex hm _ _ _ ?_)
  obtain ⟨r0,hr0⟩:=more l g1 g2
  have hitl:∃ g ks,MY mi.it (canon c.m keep s)=some (g,ks,f,(l.map (·.1)).reverse):=by
   obtain ⟨st1,h1,_⟩:=IY (g3 r0 hr0)
   have key:∀ rest,∀ o,ER c.m mi keep step f rest (l.map (·.1)).reverse s=some o→∃ g ks,MY mi.it (canon c.m keep s)=some (g,ks,f,(l.map (·.1)).reverse):=fun rest o ho=>by
    cases rest with
    | nil =>
     unfold ER at ho
     split at ho
     ·rename_i g ks f' seen' he
      obtain ⟨h2,_⟩:=Al ho
      rw [zD,At,At] at h2
      obtain ⟨rfl,rfl⟩:=h2
      exact ⟨g,ks,he⟩
     ·cases ho
    | cons e rest =>
     obtain ⟨k,x⟩:=e
     unfold ER at ho
     split at ho
     ·rename_i g ks f' seen' he
      obtain ⟨h2,_⟩:=Al ho
      rw [zD,At,At] at h2
      obtain ⟨rfl,rfl⟩:=h2
      exact ⟨g,ks,he⟩
     ·cases ho
   exact key r0 _ h1
  obtain ⟨g,ks,hitl⟩:=hitl
  obtain ⟨e1,cur,e2⟩:=Mk hitl
  simp only [sw]
  rw [e1]
  simp only
  rw [e2]
  simp only
  refine ⟨trivial,fun hend=>?_,fun k x hk hn=>?_⟩
  ·
   have hE:Enum f (l++[]):=by
    rw [zJ]
    refine ⟨g1,fun k x=>⟨fun hm=>g2 _ hm,fun hk=>?_⟩⟩
    have:=hend k x hk
    rw [List.mem_reverse] at this
    obtain ⟨⟨k',x'⟩,h5,rfl⟩:=yE.1 this
    have h6:f k'=some x':=g2 _ h5
    rw [hk] at h6
    obtain rfl:=zA h6
    exact h5
   obtain ⟨st1,h1,h2⟩:=IY (g3 [] hE)
   unfold ER at h1
   rw [hitl] at h1
   simp only [AV rfl,AV True.intro,Bool.and_self,cond_true] at h1
   obtain ⟨h3,h4⟩:=Ml h1
   have hfin:∃ s',Weak c st1 s'∧K out.1 s':=⟨canon c.m mi.keepO st1,Cq,by rw [←h2]; exact hK⟩
   refine hstep _ (out.1,st1) h3 _ ?_
   dsimp only
   cases ho:out.1 with
   | normal=>exact absurd ho h4
   | exit i=>rw [ho] at hfin; exact hfin
   | ret=>rw [ho] at hfin; exact hfin
  ·
   have hn':k ∉ l.map (·.1):=fun hm=>hn (List.mem_reverse.2 hm)
   have k1:((l++[(k,x)]).map (·.1)).Nodup:=by
    rw [yB,zZ]
    refine ⟨g1,by simp,fun a ha b hb e=>?_⟩
    simp only [zN,yC,zT] at hb
    subst hb e
    exact hn' ha
   have k2:∀ e,e∈l++[(k,x)]→f e.1=some e.2:=fun e he=>by
    rcases zK.1 he with he | he
    ·exact g2 e he
    ·rw [zT.1 he]; exact hk
   have hrev:((l++[(k,x)]).map (·.1)).reverse=k :: (l.map (·.1)).reverse:=by simp
   have one:∀ rest,Enum f ((l++[(k,x)])++rest)→LC c.m mi.keepO (C5 (step (Ew mi.nx mi.more (canon c.m keep s) true [(g,.it ks f (k :: (l.map (·.1)).reverse) (some (k,x)))])) (ER c.m mi keep step f rest (k :: (l.map (·.1)).reverse)))=some out:=fun rest hr=>by
    have h3:=g3 ((k,x) :: rest) (by rw [yK] at hr; exact hr)
    rw [ER] at h3
    rw [hitl] at h3
    simp only [AV rfl,AV True.intro,Bool.and_self,cond_true] at h3
    exact h3
   obtain ⟨r1,hr1⟩:=more _ k1 k2
   obtain ⟨st1,h1,h2⟩:=IY (one r1 hr1)
   cases hs:step (Ew mi.nx mi.more (canon c.m keep s) true [(g,.it ks f (k :: (l.map (·.1)).reverse) (some (k,x)))]) with
   | none=>rw [hs] at h1; cases h1
   | some o1 =>
    obtain ⟨x1,s1⟩:=o1
    rw [hs] at h1
    refine hstep _ _ hs _ ?_
    have hfin:some (x1,s1)=some (out.1,st1)→∃ s',Weak c s1 s'∧K x1 s':=fun e=>by
     simp only [zB,zE] at e
     obtain ⟨rfl,rfl⟩:=e
     exact ⟨canon c.m mi.keepO s1,Cq,by rw [←h2]; exact hK⟩
    cases x1 with
    | normal =>
     have hG':G (l++[(k,x)]) s1:=⟨k1,k2,fun rest hr=>by
      have h3:=one rest hr
      rw [hs] at h3
      rw [hrev]
      exact h3⟩
     refine ⟨⟨(l++[(k,x)],s1),hG'⟩,?_,Cq⟩
     refine filter_lt (a:=(k,x)) (fun e he=>?_) ((hL0.mem k x).2 hk) (by rw [zI,Ee]; exact hn') (by rw [Bool.not_eq_false',At]; simp)
     rw [zI,Ee] at he ⊢
     exact fun hm=>he (by simp only [yB,zK]; exact .inl hm)
    | exit i=>exact hfin h1
    | ret=>exact hfin h1
 ·cases h
theorem J7 (hm:P.follows .mixedOrders=true) (n:Nat):KL P c fun mi keep step st=>GK c.m mi keep step n st:=by
 intro mi keep junk step b st out hstep h K hK
 cases mi with
 | none=>exact Pe hm n keep junk step b st out hstep h K hK
 | some mi=>exact Pf hm mi keep junk step b st out hstep h K hK
theorem Dw (hm:P.follows .mixedOrders=true) (hC:Dz P C) {L:LoopF} (hL:KL P c L):∀ (sc' sc:SC) (st:St) (out:X × St),BQ sc' sc→fr P C L sc' st=some out→∀ K:X→St→Prop,K out.1 out.2→Run P c sc K st
 | .skip,sc,st,out,hl,h,K,hK=>by
  cases sc <;> simp only [BQ] at hl
  obtain rfl:=zA h
  exact Ex hm _ _ _ hK
 | .reg ops,sc,st,out,hl,h,K,hK=>by
  cases sc <;> simp only [BQ] at hl
  subst hl
  simp only [fr] at h
  split at h
  ·rename_i st' hs
   obtain rfl:=zA h
   exact Ex hm _ _ _ (Si hC hs hK)
  ·cases h
 | .dreg anc ops,sc,st,out,hl,h,K,hK=>by
  cases sc <;> simp only [BQ] at hl
  obtain ⟨rfl,rfl⟩:=hl
  simp only [fr] at h
  split at h
  ·rename_i es st' hs
   obtain ⟨h1,h2⟩:=Al h
   obtain rfl:=zA h2
   exact Ex hm _ _ _ (Sj hC hs ⟨h1,hK⟩)
  ·cases h
 | .seq a b,sc,st,out,hl,h,K,hK=>by
  cases sc <;> simp only [BQ] at hl
  simp only [fr,C5] at h
  refine Run.seq ?_
  split at h
  ·rename_i st' hs
   exact Dw hm hC hL a _ st _ hl.1 hs _ (Dw hm hC hL b _ st' out hl.2 h K hK)
  ·rename_i i st' hs
   obtain rfl:=zA h
   exact Dw hm hC hL a _ st _ hl.1 hs _ hK
  ·rename_i st' hs
   obtain rfl:=zA h
   exact Dw hm hC hL a _ st _ hl.1 hs _ hK
  ·cases h
 | .cond q a b,sc,st,out,hl,h,K,hK=>by
  cases sc <;> simp only [BQ] at hl
  obtain ⟨rfl,h1,h2⟩:=hl
  simp only [fr] at h
  split at h
  ·rename_i t ht
   refine Run.cond ht (fun e=>?_) fun e=>?_
   ·subst e; exact Dw hm hC hL a _ st out h1 h K hK
   ·subst e; exact Dw hm hC hL b _ st out h2 h K hK
  ·cases h
 | .block id b,sc,st,out,hl,h,K,hK=>by
  cases sc <;> simp only [BQ] at hl
  obtain ⟨rfl,h1⟩:=hl
  simp only [fr,Gl] at h
  refine Run.block ?_
  split at h
  ·rename_i st' hs
   obtain rfl:=zA h
   exact Dw hm hC hL b _ st _ h1 hs _ hK
  ·rename_i i st' hs
   refine Dw hm hC hL b _ st _ h1 hs _ ?_
   by_cases hi:i=id
   ·simp only [if_pos hi] at h ⊢
    obtain rfl:=zA h
    exact hK
   ·simp only [if_neg hi] at h ⊢
    obtain rfl:=zA h
    exact hK
  ·rename_i st' hs
   obtain rfl:=zA h
   exact Dw hm hC hL b _ st _ h1 hs _ hK
  ·cases h
 | .loop keep b,sc,st,out,hl,h,K,hK=>by
  cases sc <;> simp only [BQ] at hl
  simp only [fr] at h
  exact hL none keep _ _ _ st out (fun st out hs K hK=>Dw hm hC hL b _ st out hl hs K hK) h K hK
 | .next _ _ _,sc,st,out,hl,h,K,hK=>by cases h
 | .ghost n b,sc,st,out,hl,h,K,hK=>Run.weak QM (Dw hm hC hL b sc (NY n st) out hl h K hK)
 | .mloop keep keepO it nx more b,sc,st,out,hl,h,K,hK=>by
  cases sc <;> (try simp only [BQ] at hl)
  case loop j b' =>
   cases b' <;> (try simp only [BQ] at hl)
   case seq x y =>
    cases x <;> (try simp only [BQ] at hl)
    case next it' nx' more' =>
     obtain ⟨rfl,rfl,rfl,hl⟩:=hl
     simp only [fr] at h
     exact hL (some ⟨keepO,it,nx,more⟩) keep j _ _ st out (fun st out hs K hK=>Dw hm hC hL b _ st out hl hs K hK) h K hK
 | .exit id,sc,st,out,hl,h,K,hK=>by
  cases sc <;> simp only [BQ] at hl
  subst hl
  obtain rfl:=zA h
  exact Ex hm _ _ _ hK
 | .ret,sc,st,out,hl,h,K,hK=>by
  cases sc <;> simp only [BQ] at hl
  obtain rfl:=zA h
  exact Ex hm _ _ _ hK
end
def Qc (k s:Nat):Nat:=s ||| (1 <<< k)
def Pg (k s:Nat):Nat:=s ^^^ (s &&& (1 <<< k))
def SX.live (s:Nat):SX→Nat
 | .t k=>Qc k s
 | .c _=>s
def SX.Mm (s:Nat):List SX→Nat
 | []=>s
 | x :: r=>SX.Mm (x.live s) r
def SX.Sp (s:Nat):Option SX→Nat
 | some x=>x.live s
 | none=>s
def SOp.live (s:Nat):SOp→Nat
 | .mv x=>x.live s
 | .pick a b c=>c.live (b.live (a.live s))
 | .alloc _ _=>s
 | .boxv _ _ x=>x.live s
 | .build _ parts=>SX.Mm s (parts.map (·.2.2))
 | .mkrow _ _ _ _ parts=>SX.Mm s (parts.map (·.2))
 | .load _ _ x=>x.live s
 | .store _ x v=>v.live (x.live s)
 | .nilchk x=>x.live s
 | .bin _ _ x y=>y.live (x.live s)
 | .un _ x=>x.live s
 | .conv _ x=>x.live s
 | .mkfn _ caps=>SX.Mm s caps
 | .mkslice _ _ _ _ x=>x.live s
 | .slice _ _ x lo hi=>SX.Sp (SX.Sp (x.live s) lo) hi
 | .faddr _ x=>x.live s
 | .field _ _ _ x=>x.live s
 | .iaddr _ x i=>i.live (x.live s)
 | .idx x i=>i.live (x.live s)
 | .ext x _=>x.live s
 | .call _ args=>SX.Mm s args
 | .callv x args=>SX.Mm (x.live s) args
 | .len _ x=>x.live s
 | .append _ _ _ _ x y=>y.live (x.live s)
 | .minmax _ x y=>y.live (x.live s)
 | .mkmap _ x=>SX.Sp s x
 | .mset _ m k v=>v.live (k.live (m.live s))
 | .mget _ _ _ _ m k=>k.live (m.live s)
 | .mkit x=>x.live s
 | .mcur x=>x.live s
def SOper.live (o:SOper) (s:Nat):Nat :=
 let s1:=match o.dst with | some d=>Pg d s | none=>s
 let s2:=o.op.live s1
 match o.gd with | some (k,_)=>Qc k s2 | none=>s2
def MZ:List SOper→Nat→Nat
 | [],s=>s
 | o :: r,s=>o.live (MZ r s)
def Sq:List (Nat × Nat)→Nat→Nat
 | [],_=>0
 | (i,s) :: r,k=>if i=k then s else Sq r k
def D4 (ex:List (Nat × Nat)) (ret:Nat):SC→Nat→Nat
 | .skip,out=>out
 | .reg ops,out=>MZ ops out
 | .dreg _ ops,out=>MZ ops out
 | .seq a b,out=>D4 ex ret a (D4 ex ret b out)
 | .cond q a b,out=>q.live (D4 ex ret a out ||| D4 ex ret b out)
 | .block id b,out=>D4 ((id,out) :: ex) ret b out
 | .loop _ b,_=>D4 ex ret b (D4 ex ret b 0)
 | .exit id,_=>Sq ex id
 | .ret,_=>ret
 | .next it nx more,out=>it.live (Pg nx (Pg more out))
 | .mloop _ _ _ _ _ b,out=>D4 ex ret b out
 | .ghost _ b,out=>D4 ex ret b out
def UW:List (Nat × Nat)→Nat
 | []=>0
 | (_,s) :: r=>s ||| UW r
def mask (nt s:Nat):List Nat:=(List.range nt).map fun k=>(s >>> k) % 2
def ann (nt:Nat) (ex:List (Nat × Nat)) (ret:Nat):SC→Nat→SC
 | .seq a b,out=>.seq (ann nt ex ret a (D4 ex ret b out)) (ann nt ex ret b out)
 | .cond q a b,out=>.cond q (ann nt ex ret a out) (ann nt ex ret b out)
 | .block id b,out=>.block id (ann nt ((id,out) :: ex) ret b out)
 | .loop j (.seq (.next it nx more) b),out=>.mloop (mask nt (D4 ex ret (.loop j (.seq (.next it nx more) b)) out)) (mask nt (ret ||| UW ex)) it nx more (ann nt ex ret b (D4 ex ret (.loop j (.seq (.next it nx more) b)) out))
 | .loop j b,out=>.loop (mask nt (D4 ex ret (.loop j b) out)) (ann nt ex ret b (D4 ex ret (.loop j b) out))
 | .mloop _ _ it nx more _,_=>.next it nx more
 | .ghost _ _,_=>.next (.t 0) 0 0
 | sc,_=>sc
theorem Bu {nt:Nat} {ret:Nat}:∀ (sc:SC) (ex:List (Nat × Nat)) (out:Nat),BQ (ann nt ex ret sc out) sc
 | .skip,_,_=>trivial
 | .reg _,_,_=>rfl
 | .dreg _ _,_,_=>⟨rfl,rfl⟩
 | .seq a b,ex,out=>⟨Bu a _ _,Bu b _ _⟩
 | .cond q a b,ex,out=>⟨rfl,Bu a _ _,Bu b _ _⟩
 | .block id b,ex,out=>⟨rfl,Bu b _ _⟩
 | .loop j b,ex,out=>by
  cases b with
  | seq x y =>
   cases x with
   | next it nx more=>exact ⟨rfl,rfl,rfl,Bu y _ _⟩
   | skip=>exact Bu (.seq .skip y) _ _
   | reg o=>exact Bu (.seq (.reg o) y) _ _
   | dreg a o=>exact Bu (.seq (.dreg a o) y) _ _
   | seq u v=>exact Bu (.seq (.seq u v) y) _ _
   | cond q u v=>exact Bu (.seq (.cond q u v) y) _ _
   | block i u=>exact Bu (.seq (.block i u) y) _ _
   | loop j' u=>exact Bu (.seq (.loop j' u) y) _ _
   | exit i=>exact Bu (.seq (.exit i) y) _ _
   | ret=>exact Bu (.seq .ret y) _ _
   | mloop a b' d e g u=>exact Bu (.seq (.mloop a b' d e g u) y) _ _
   | ghost n u=>exact Bu (.seq (.ghost n u) y) _ _
  | skip=>exact trivial
  | reg o=>exact rfl
  | dreg a o=>exact ⟨rfl,rfl⟩
  | cond q u v=>exact Bu (nt:=nt) (ret:=ret) (.cond q u v) ex _
  | block i u=>exact Bu (nt:=nt) (ret:=ret) (.block i u) ex _
  | loop j' u=>exact Bu (nt:=nt) (ret:=ret) (.loop j' u) ex _
  | exit i=>exact rfl
  | ret=>exact trivial
  | next a b' d=>exact ⟨rfl,rfl,rfl⟩
  | mloop a b' d e g u=>exact trivial
  | ghost n u=>exact trivial
 | .next _ _ _,_,_=>⟨rfl,rfl,rfl⟩
 | .mloop _ _ _ _ _ _,_,_=>trivial
 | .ghost _ _,_,_=>trivial
 | .exit id,_,_=>rfl
 | .ret,_,_=>trivial
def IZ:List RX→Nat→Nat
 | [],s=>s
 | .tmp t :: r,s=>Qc t (IZ r s)
 | .cell a _ _ :: r,s=>Qc a (IZ r s)
def SC.mark (l:List Nat):SC→SC
 | .seq a b=>.seq (SC.mark l a) (SC.mark l b)
 | .cond q a b=>.cond q (SC.mark l a) (SC.mark l b)
 | .block id b=>.block id (SC.mark l b)
 | .loop j b=>.loop (l++j) (SC.mark l b)
 | sc=>sc
theorem DS {l:List Nat}:∀ (a sc:SC),BQ a sc→BQ (SC.mark l a) sc
 | .seq a b,sc,h=>by
  cases sc <;> first | exact h.elim | exact ⟨DS a _ h.1,DS b _ h.2⟩
 | .cond q a b,sc,h=>by
  cases sc <;> first | exact h.elim | exact ⟨h.1,DS a _ h.2.1,DS b _ h.2.2⟩
 | .block id b,sc,h=>by
  cases sc <;> first | exact h.elim | exact ⟨h.1,DS b _ h.2⟩
 | .loop j b,sc,h=>by
  cases sc <;> first | exact h.elim | exact DS b _ h
 | .skip,sc,h=>h
 | .reg _,sc,h=>h
 | .dreg _ _,sc,h=>h
 | .next _ _ _,sc,h=>h
 | .mloop _ _ _ _ _ _,sc,h=>h
 | .ghost _ _,sc,h=>h
 | .exit _,sc,h=>h
 | .ret,sc,h=>h
def Sr (d:Nat):List SOper→Bool
 | ⟨some k,_,_⟩ :: _=>k == d
 | _=>false
def SC.Dh (d n:Nat):SC→SC
 | .seq a b=>.seq (SC.Dh d n a) (SC.Dh d n b)
 | .cond q a b=>.cond q (SC.Dh d n a) (SC.Dh d n b)
 | .block id b=>.block id (SC.Dh d n b)
 | .loop j b=>.loop j (SC.Dh d n b)
 | .dreg anc ops=>bif Sr d ops then .ghost n (.dreg anc ops) else .dreg anc ops
 | .skip=>.skip
 | .reg ops=>.reg ops
 | .next a b e=>.next a b e
 | .mloop a b e g u v=>.mloop a b e g u v
 | .exit i=>.exit i
 | .ret=>.ret
 | .ghost m b=>.ghost m b
theorem Dx {d n:Nat}:∀ (a sc:SC),BQ a sc→BQ (SC.Dh d n a) sc
 | .seq a b,sc,h=>by
  cases sc <;> first | exact h.elim | exact ⟨Dx a _ h.1,Dx b _ h.2⟩
 | .cond q a b,sc,h=>by
  cases sc <;> first | exact h.elim | exact ⟨h.1,Dx a _ h.2.1,Dx b _ h.2.2⟩
 | .block id b,sc,h=>by
  cases sc <;> first | exact h.elim | exact ⟨h.1,Dx b _ h.2⟩
 | .loop j b,sc,h=>by
  cases sc <;> first | exact h.elim | exact Dx b _ h
 | .skip,sc,h=>h
 | .reg _,sc,h=>h
 | .dreg anc ops,sc,h=>by
  simp only [SC.Dh]
  cases Sr d ops with
  | true=>exact h
  | false=>exact h
 | .next _ _ _,sc,h=>h
 | .mloop _ _ _ _ _ _,sc,h=>h
 | .exit _,sc,h=>h
 | .ret,sc,h=>h
 | .ghost _ _,sc,h=>h
def E2:RM→SC→SC
 | .halfg d n _,sc=>SC.Dh d n sc
 | .frzg d n,sc=>SC.Dh d n sc
 | .frl l,sc=>SC.mark l sc
 | .asis,sc=>sc
 | .frz,sc=>sc
 | .late,sc=>sc
 | .own _,sc=>sc
 | .half _,sc=>sc
 | .tr _,sc=>sc
theorem Ph {res:RM} {a sc:SC} (h:BQ a sc):BQ (E2 res a) sc:=by
 cases res <;> first | exact h | exact DS _ _ h | exact Dx _ _ h
theorem TX {sc:SC}:E2 .asis sc=sc:=rfl
theorem TY {sc:SC}:E2 .frz sc=sc:=rfl
theorem TZ {sc:SC}:E2 .late sc=sc:=rfl
theorem Ua {l:List (Option (Nat × Nat))} {sc:SC}:E2 (.own l) sc=sc:=rfl
theorem Ub {l:List (Option (Nat × Nat))} {sc:SC}:E2 (.half l) sc=sc:=rfl
theorem Uc {l:List (Option (Nat × Nat))} {sc:SC}:E2 (.tr l) sc=sc:=rfl
theorem Ud {d n:Nat} {sc:SC}:E2 (.frzg d n) sc=SC.Dh d n sc:=rfl
theorem Ue {d n:Nat} {l:List (Option (Nat × Nat))} {sc:SC}:E2 (.halfg d n l) sc=SC.Dh d n sc:=rfl
theorem Uf {l:List Nat} {sc:SC}:E2 (.frl l) sc=SC.mark l sc:=rfl
structure FC where
 nt:Nat
 sc:SC
 rs:List RX
def Ar (P:Program) (f:FuncId):Option FC :=
 match P.funcs[f]? with
 | some fn=>match fn.body with
  | some code=>match trC P fn.ntmps code with
   | some sc=>match B3 (fn.results.toList.map (K5 P fn.ntmps)) with
    | some rs=>some ⟨fn.ntmps,ann fn.ntmps [] (IZ rs 0) sc (IZ rs 0),rs⟩
    | none=>none
   | none=>none
  | none=>none
 | none=>none
def fin (res:RM) (n0:Nat) (rs:List RX) (x:X) (st:St):Option (SV × List Ob) :=
 match x with
 | .exit _=>none
 | _=>match HP st rs with
  | some r0=>match gc n0 r0 st.ob with
   | some (r,ob)=>order res n0 r ob
   | none=>none
  | none=>none
def V6 (res:RM) (n0:Nat) (rs:List RX):Option (X × St)→Option (SV × List Ob)
 | some (x,st)=>fin res n0 rs x st
 | none=>none
def JM (g:List SV→Option SV) (xs:List SV) (ob:List Ob):Option (SV × List Ob) :=
 match ob with
 | []=>match g xs with
  | some r=>some (r,[])
  | none=>none
 | _ :: _=>none
theorem Hs {P:Program} {g:List SV→Option SV} {f:FuncId} (h:∀ {xs:List SV} {r:SV},g xs=some r→Fun P f xs [] r []) {xs:List SV} {ob:List Ob} {r:SV} {ob':List Ob} (hx:JM g xs ob=some (r,ob')):Fun P f xs ob r ob':=by
 unfold JM at hx
 split at hx
 ·split at hx
  ·rename_i r1 h1
   simp only [zB,zE] at hx
   obtain ⟨rfl,rfl⟩:=hx
   exact h h1
  ·cases hx
 ·cases hx
def JW (P:Program) (M:FuncId→FM):Prop:=∀ f g xs ob r ob',(M f).ext=some g→g xs ob=some (r,ob')→Fun P f xs ob r ob'
def entry (b:Bool) (ob:List Ob):List Ob:=bif b then toTree ob else ob
theorem Mn (b:Bool) (ob:List Ob):(entry b ob).length=ob.length:=by cases b <;> simp [entry,KG]
theorem Fun.entry {P:Program} {f:FuncId} {args:List SV} {ob:List Ob} {r:SV} {ob':List Ob} {b:Bool} (h:Fun P f args (entry b ob) r ob'):Fun P f args ob r ob':=by
 cases b with
 | true=>exact h.tree
 | false=>exact h
noncomputable def Fu (P:Program) (M:FuncId→FM) (E:FEnv) (L:Nat→LoopF):FEnv:=fun f xs ob =>
 match (M f).ext with
 | some g=>g xs ob
 | none=>match Ar P f with
  | some fc=>bif decide (xs.length≤fc.nt) then V6 (M f).res ob.length fc.rs (fr P (CB M E) (L ob.length) (E2 (M f).res fc.sc) ⟨xs++FT (fc.nt-xs.length),entry (M f).tree ob⟩) else none
  | none=>none
noncomputable def evN (P:Program) (M:FuncId→FM):Nat→FEnv
 | 0=>fun _ _ _=>none
 | n+1=>Fu P M (evN P M n) fun n0 mi keep step st=>GK n0 mi keep step n st
theorem QN {P:Program} (hm:P.follows .mixedOrders=true) {M:FuncId→FM} (hX:JW P M) {E:FEnv} (hE:Hr P E) {L:Nat→LoopF} (hL:∀ c:Ctx,KL P c (L c.m)):Hr P (Fu P M E L):=by
 intro f xs ob r ob' h
 unfold Fu Ar at h
 split at h
 ·rename_i g hg
  exact hX f g xs _ _ _ hg h
 cases hf:P.funcs[f]? with
 | none=>rw [hf] at h; cases h
 | some fn =>
  rw [hf] at h
  simp only at h
  cases hb:fn.body with
  | none=>rw [hb] at h; cases h
  | some code =>
   rw [hb] at h
   simp only at h
   cases ht:trC P fn.ntmps code with
   | none=>rw [ht] at h; cases h
   | some sc =>
    rw [ht] at h
    simp only at h
    cases hr:B3 (fn.results.toList.map (K5 P fn.ntmps)) with
    | none=>rw [hr] at h; cases h
    | some rs =>
     rw [hr] at h
     simp only at h
     obtain ⟨h1,h2⟩:=Al h
     have hn:xs.length≤fn.ntmps:=of_decide_eq_true h1
     cases ho:fr P (CB M E) (L ob.length) (E2 (M f).res (ann fn.ntmps [] (IZ rs 0) sc (IZ rs 0))) ⟨xs++FT (fn.ntmps-xs.length),entry (M f).tree ob⟩ with
     | none=>rw [ho] at h2; cases h2
     | some out =>
      rw [ho] at h2
      obtain ⟨x,st⟩:=out
      have h2:fin (M f).res ob.length rs x st=some (r,ob'):=h2
      unfold fin at h2
      have hx:x=.ret∨x=.normal:=by
       cases x with
       | exit i=>cases h2
       | normal=>exact .inr rfl
       | ret=>exact .inl rfl
      have h3:(match HP st rs with
       | some r0=>match gc ob.length r0 st.ob with
        | some (r,ob2)=>order (M f).res ob.length r ob2
        | none=>none
       | none=>none)=some (r,ob'):=by
       rcases hx with rfl | rfl <;> exact h2
      clear h2
      split at h3
      ·rename_i r0 hr0
       split at h3
       ·rename_i r1 ob1 hg
        refine Mi (Fun.entry (b:=(M f).tree) (Sd hf hb ht hr hn fun c hc1 hc2=>?_)) h3
        refine Dw hm (KB hE) (hL c) _ sc _ (x,st) (Ph (Bu sc _ _)) (by rw [hc2,Mn]; exact ho) _ ?_
        rw [Mn]
        exact ⟨hx,r0,_,hr0,E8 hg⟩
       ·cases h3
      ·cases h3
theorem KM {P:Program} (hm:P.follows .mixedOrders=true) {M:FuncId→FM} (hX:JW P M):∀ n,Hr P (evN P M n)
 | 0=>fun f xs ob r ob' h=>by cases h
 | n+1=>QN hm hX (KM hm hX n) fun c=>J7 hm n
end Go.Proofs.Ytjkcamgfimpggaa
