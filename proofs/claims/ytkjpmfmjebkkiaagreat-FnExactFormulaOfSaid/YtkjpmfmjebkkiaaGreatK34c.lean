/-
  Texts of this claim, one behind the other, each built on those ahead of it. No condition.
-/
import Derived.Test.YtkjpmfmjebkkiaaGreatK34a
import Derived.Test.YtkjpmfmjebkkiaaGreatK34b
import Derived.Shelf.Abstract
import Derived.WalkKit
import Derived.OwnWalkIn
import Derived.TacticsInMore
import Derived.LoopNIn
import Derived.LoopIn
import Derived.Laws.IdiomStrings
import Derived.Shelf.Lays2
import Derived.Test.YtkjpmfmjebkkiaaGreatChecked
import Derived.Shelf.Slices.Clone
import Derived.Shelf.Sort.Plain
import Derived.Sort.EncStr
import Derived.Shelf.Lays
import Derived.Shelf.Slices.In.SortNone
import Derived.RangeFuncBox
import Derived.RangeFuncLeaves
import Derived.RangeFuncKeeps
import Derived.RangeFuncFrom
import Derived.RangeFuncCalls
import Derived.RegionIn
import Derived.Shelf.RegionOpen
import Derived.Lib.BufferMore
import Derived.Laws.Rows
import Derived.RangeFuncOwn
set_option maxHeartbeats 16000000
open List renaming map_cons → zB, eq_nil_of_length_eq_zero → zE, length_cons → zG, getElem_mem → zH, drop_eq_getElem_cons → zJ, getElem?_eq_getElem → zK, drop_eq_nil_of_le → zO, mem_cons → zP, length_map → zQ, size_toArray → zS, length_nil → zT, getD_eq_getElem?_getD → zX, getElem_map → z6, drop_zero → yA, append_toArray → yC, getElem_cons_succ → yE, cons_append → yF, nil_append → yH, push_toArray → yI, getElem_cons_zero → yK, getElem_of_mem → yP, any_cons → yS, map_nil → yT, map_append → yX, all_cons → y2
open Bool renaming and_self → zC, and_true → zF, and_eq_true → zV, false_and → yZ, true_and → y4
open Option.some renaming inj → zD, injEq → zI
open Array renaming getElem?_eq_some_iff → zL, replicate_succ → z7, replicate_zero → z8, getD_eq_getD_getElem? → yD, getElem?_eq_getElem → yO
open Nat renaming zero_le → zM, lt_or_ge → zN, le_refl → zU, le_max_right → zW, lt_of_lt_of_le → zZ, le_max_left → yB, eq_zero_or_pos → yG, reduceAdd → yL, reduceSub → yM, le_trans → yQ, le_succ → yR, zero_add → yU, add_zero → yV, mul_one → yY
open Prod.mk renaming injEq → zR, inj → yJ
open List.cons renaming injEq → zY
open Option renaming getD_some → yN
open Int renaming lt_or_le → yW
set_option maxRecDepth 100000
set_option linter.unusedSimpArgs false
set_option linter.unusedVariables false
set_option linter.unusedSectionVars false
namespace Go.Proofs.YtkjpmfmjebkkiaaGreat
open Go.RowKit
variable [Flag]
def KBx (p q:Nat) (A B:World):Prop:=B.heap[p]?=A.heap[p]?∧B.heap[q]?=A.heap[q]?
theorem KBx.refl (p q:Nat) (A:World):KBx p q A A:=⟨rfl,rfl⟩
theorem KBx.trans {p q:Nat} {A B C:World} (h:KBx p q A B) (k:KBx p q B C):KBx p q A C:=⟨k.1.trans h.1,k.2.trans h.2⟩
def YS (P:Program) (gf N:Nat) (enc:Nat→Value) (w:World) (Bs b:Nat):Prop :=
 ∀ (lb n:Nat) (J Jx:Nat→World→Prop) (W:World),2≤n→W.heap[Bs]?=w.heap[Bs]?→W.heap[b]?=w.heap[b]? →
  (∀ k W1,k<N→J k W1→YieldAt Fence.wide (n-1) P lb #[.int .i64 ((N-1-k:Nat):Int),enc (N-1-k)] W1 fun e W' =>
   (e=.returned (.bool true)∧J (k+1) W'∧KBx Bs b W1 W')∨(e=.returned (.bool false)∧Jx k W')) →
  J 0 W→CallsIn Fence.wide n P gf #[.func (.yield lb) #[] #[],.pointer (some ⟨Bs,0,none⟩)] W fun e W'=>(∃ v,e=.returned v)∧(J N W'∨∃ k,k<N∧Jx k W')
def Wc (P:Program) (gf:Nat) (el:List D→SV) (es:List (List D)):Prop :=
 ∀ (w:World) (I:Nat→Prop) (V:Nat→Option Value) (Bs:Nat) (v:Value),w.cell? ⟨Bs,0,none⟩=some v→DRep false w I (.arr es) v →
  ∃ (b:Nat) (enc:Nat→Value),b<w.heap.size∧(0<es.length→I b)∧(∀ j (h:j<es.length),RepV w I V (el es[j]) (enc j))∧YS P gf es.length enc w Bs b
def YT (n1:Nat) (obs obx:Nat→List Ob) (Rk Xk:Nat→Prop) (k:Nat) (e:X) (st:St):Prop :=
 (e=.normal∧Rk (k+1)∧∃ m,WeakC n1 m ⟨[],st.ob⟩ ⟨[],obs (k+1)⟩)∨(e=.ret∧Xk k∧∃ m,WeakC n1 m ⟨[],st.ob⟩ ⟨[],obx k⟩)
def TW (P:Program) (nt n1:Nat) (scB:SC) (obs obx:Nat→List Ob) (Rk Xk:Nat→Prop) (k:Nat) (e:X) (st:St):Prop :=
 e=.normal∧∀ c:Ctx,c.nt=nt→c.m=st.ob.length→sw P c scB (YT n1 obs obx Rk Xk k) st
def Wd (D:Nat):Deferred:={ target:=.collected D,args:=#[] }
theorem Qj (w:World) (x:Nat) (o o':Obj):(w.putObj x o).putObj x o'=w.putObj x o':=by
 unfold World.putObj
 simp
theorem We {P:Program} (hm:P.follows .mixedOrders=true) {nt n n1:Nat} (hn:3≤n) {w:World} {I:Nat→Prop} {V:Nat→Option Value} {B:Nat→Nat→Prop} {st:St} {a:Act} {Q:Exit→Act→World→Prop}
  (hA:At nt w I V B st a.tmps) (hd:a.defers=[]) {g:Operand} {p1 p2 gf p:Nat} {asg body:Code} {scA scB:SC} {es:List (List D)} {el:List D→SV} {t:TypeId} {hs:List Nat} {obs obx:Nat→List Ob} {Rk Xk:Nat→Prop}
  (hg:Ar (gets st.sl) (trX g)=.fn gf [.ptr p 0]) (hp:Am st.ob p=.box t [.arr es]) (hps:p∈hs) (hlv:∀ g∈hs,(Am st.ob g).live) (hn1:∀ g∈hs,g<n1) (hids:SV.Gb n1 st.sl=true) (hobi:∀ g∈hs,(Am st.ob g).idsB n1=true) (h1:p1<nt) (h2:p2<nt)
  (eg:∀ args w,(callFunc gf args).run P w=.ok (.enter gf args) w)
  (hB:Wc P gf el es) (hcA:trC P nt asg=some scA) (hfA:Cg scA=true) (hcB:trC P nt body=some scB) (hfB:Cg scB=true)
  (h0:obs 0=Et hs st.ob) (hR0:Rk 0)
  (round:∀ k (hk:k<es.length),Rk k→∀ c:Ctx,c.nt=nt→c.m=(obs k).length→sw P c scA (TW P nt n1 scB obs obx Rk Xk k) ⟨Fh (Fh st.sl p1 (.int .i64 ((es.length-1-k:Nat):Int))) p2 (el (es[es.length-1-k]'(by omega))),obs k⟩)
  (done:∀ (x:X) (ob':List Ob) (W:World) (I':Nat→Prop) (V':Nat→Option Value) (B':Nat→Nat→Prop) (D:Nat),(x=.normal∧Rk es.length∧ob'=Fo hs st.ob (obs es.length))∨(x=.ret∧∃ k,k<es.length∧Xk k∧ob'=Fo hs st.ob (obx k)) →
   At nt W I' V' B' ⟨st.sl,ob'⟩ a.tmps→FunPost w I (SQ n1 V) B st.ob ob' W I' V' B'→w.heap.size≤D→D<W.heap.size→W.heap[D]?=some (.deferred (some []))→Off I' B' ob' D→Q x.exit' { a with defers:=[Wd D] } W) :
  (Code.rangeFunc g #[p1,p2] asg body).wpIn Fence.wide n P Q a w:=by
 have hwf:=hA.wf
 obtain ⟨Vc,hVc⟩:∃ Vc,Vc=SQ n1 V:=⟨_,rfl⟩
 have hcle:VLe Vc V:=hVc▸XT n1 V
 have hclt:∀ g u,Vc g=some u→g<n1:=hVc▸XU
 have hceq:∀ g,g<n1→Vc g=V g:=fun g hg=>by rw [hVc]; exact TV hg
 have hS:∀ k,RepV w I Vc (gets st.sl k) (a.tmps.getD k undef):=fun k=>RepV.idsB hceq _ _ (Rz _ k hids) (hA.sl k)
 rw [←hVc] at done
 obtain ⟨val,hVp,hob⟩:=hwf.obj p (by rw [hp]; trivial)
 rw [hp] at hob
 obtain ⟨Bs,vs,rfl,hBs,hbox,hvs⟩:=hob
 simp only [RepVs] at hvs
 obtain ⟨v,r,rfl,hv,rfl⟩:=hvs
 simp only [RepV] at hv
 have hBB:B p Bs:=(hBs Bs).2 rfl
 have hcell:w.cell? ⟨Bs,0,none⟩=some v:=by simp [World.cell?,hbox]
 obtain ⟨b,enc,hbl,hIb,henc,hback⟩:=hB w I Vc Bs v hcell hv
 have hBsl:Bs<w.heap.size:=hwf.lt p Bs (by rw [hp]; trivial) hBB
 have hev:a.eval g=.func (.func gf) #[] #[.pointer (some ⟨Bs,0,none⟩)]:=by
  have h3:=Aq hA.rep g
  have e0:Ar st.f.sl (trX g)=.fn gf [.ptr p 0]:=hg
  rw [e0] at h3
  simp only [RepV,RepVs] at h3
  obtain ⟨us,h4,u,q,rfl,⟨b',h5,rfl⟩,rfl⟩:=h3
  rw [hVp] at h5
  injection h5 with h5; injection h5 with h5; injection h5 with h5; injection h5 with h5 _ _
  subst h5
  have e2:Act.eval { tmps:=a.tmps,defers:=[] } g=a.eval g:=by cases g <;> rfl
  rw [←e2]; exact h4
 have hwh:=hwf.hold hs
 have oBs:Off I B (Et hs st.ob) Bs:=⟨hwf.dI p Bs (by rw [hp]; trivial) hBB,fun ⟨g',hl,hb'⟩=>by
  obtain ⟨h3,h4⟩:=Gn hl
  have h5:(Am st.ob g').live:=by rw [←h4]; exact hl
  exact h3 (hwf.dO p g' Bs (by rw [hp]; trivial) h5 hBB hb'▸hps)⟩
 refine wpIn_rangeFunc ?_
 intro fn hfn
 obtain ⟨rec,hrec⟩:∃ rec:LoopState→Option Code→Loop,rec=fun s pe=>{ state:=s,pending:=pe,fn,tmps:=a.tmps,params:=#[p1,p2],assign:=asg,body,defers:=w.heap.size }:=⟨_,rfl⟩
 obtain ⟨W1,hW1⟩:∃ W1,(w.alloc (.deferred (some []))).alloc (.loop (rec .ready none))=W1:=⟨_,rfl⟩
 have hs1:W1.heap.size=w.heap.size+2:=by rw [←hW1]; simp
 have hL1:W1.heap[w.heap.size+1]?=some (.loop (rec .ready none)):=by
  rw [←hW1]; have:=World.alloc_heap_new (w.alloc (.deferred (some []))) (.loop (rec .ready none)); rwa [World.size_alloc] at this
 have hK1:W1.heap[w.heap.size]?=some (.deferred (some [])):=by
  rw [←hW1]; exact (Below.heap_alloc _ _ _ (by simp)).trans (World.alloc_heap_new w _)
 have hlow:∀ x,x<w.heap.size→W1.heap[x]?=w.heap[x]?:=fun x hx=>by
  rw [←hW1,Below.heap_alloc _ _ _ (by simp; omega),Below.heap_alloc _ _ _ hx]
 have hAh:At nt w I V B ⟨st.sl,Et hs st.ob⟩ a.tmps:=⟨hwh,hA.len,hA.sz,hA.sl⟩
 have hA1:At nt W1 I V B ⟨st.sl,obs 0⟩ a.tmps:=by rw [←hW1,h0]; exact (hAh.alloc _).alloc _
 have hPw:FunPost w I V B (Et hs st.ob) (obs 0) W1 I V B:=by
  rw [←hW1,h0]
  exact (FunPost.allocB hwh _).trans (FunPost.allocB (hwh.allocB _) _)
 have off1:∀ x,w.heap.size≤x→Off I B (obs 0) x:=fun x hx=>by
  rw [h0]
  exact ⟨fun hi=>by have:=hwf.ilt x hi; omega,fun ⟨g',hl,hb'⟩=>by have:=hwh.lt g' x hl hb'; omega⟩
 have oBs1:Off I B (obs 0) Bs:=by rw [h0]; exact oBs
 refine ⟨w.heap.size+1,[Wd w.heap.size],W1,{ target:=.fn (.func gf) #[.pointer (some ⟨Bs,0,none⟩)],args:=#[.func (.yield (w.heap.size+1)) #[] #[]] },W1,gf,
  #[.func (.yield (w.heap.size+1)) #[] #[]]++#[.pointer (some ⟨Bs,0,none⟩)],W1,?_,?_,?_,?_,fun _=>by omega,?_⟩
 ·rw [←hW1,hrec]; exact run_enterLoop_outer _ _ _ _ _
 ·simp only [resolve,hev]
  simp [go_sem]
 ·intro f' hf'; trivial
 ·simp [invoke,go_sem,eg]
 ·refine (hback (w.heap.size+1) (n-1)
   (fun k W=>Rk k∧∃ I' V' B',At nt W I' V' B' ⟨st.sl,obs k⟩ a.tmps∧FunPost W1 I Vc B (obs 0) (obs k) W I' V' B')
   (fun k W=>Xk k∧∃ I' V' B',At nt W I' V' B' ⟨st.sl,obx k⟩ a.tmps∧FunPost w I Vc B (Et hs st.ob) (obx k) W I' V' B'∧Off I' B' (obx k) (w.heap.size+1)∧Off I' B' (obx k) w.heap.size∧W.heap[w.heap.size+1]?=some (.loop (rec .done (some .ret)))∧W.heap[w.heap.size]?=some (.deferred (some [])))
   W1 (by omega) (hlow Bs hBsl) ?_ ?_ ⟨hR0,I,V,B,hA1,(FunPost.refl (st:=⟨[],obs 0⟩) hA1.wf).cut hcle⟩).mono ?_
  ·exact hlow b hbl
  ·rintro k W hk ⟨hRk,I',V',B',hAk,hPk⟩
   obtain ⟨oL,eL⟩:=(off1 _ (by omega)).post (x:=w.heap.size+1) (by omega) hPk
   obtain ⟨oD,eD⟩:=(off1 _ (zU _)).post (x:=w.heap.size) (by omega) hPk
   obtain ⟨oB,eB⟩:=oBs1.post (x:=Bs) (by omega) hPk
   have hLk:=eL.trans hL1
   have hy:=run_yield (P:=P) (args:=#[.int .i64 ((es.length-1-k:Nat):Int),enc (es.length-1-k)]) hLk (by rw [hrec]; rfl)
   rw [hrec] at hy
   refine ⟨fn,_,asg,body,hy,roundIn_of_wpIn hfn ?_⟩
   have hj:es.length-1-k<es.length:=by omega
   have hsz1:=hPk.fr.size
   have hvk:RepV W I' V' (el (es[es.length-1-k])) (enc (es.length-1-k)):=by
    have q1:=henc _ hj
    refine RepV.mono ⟨by omega,fun x hx hl=>?_⟩ hPk.i0 hPk.v _ _ q1
    rw [hPk.fr.block x (by omega) fun hh=>by rw [h0] at hh; obtain ⟨g',hl',hb'⟩:=hh.hold; exact hwf.dI g' x hl' hb' hx]
    exact hlow x hl
   have hAs:=(hAk.setS (v:=.int .i64 ((es.length-1-k:Nat):Int)) h1 (y:=.int .i64 ((es.length-1-k:Nat):Int)) (by simp only [RepV])).setS h2 hvk
   have etm:∀ v1 v2:Value,(#[p1,p2].zip #[v1,v2]).foldl (fun (tmps:Array Value) (x:Nat × Value)=>tmps.setIfInBounds x.1 x.2) a.tmps=(a.tmps.setIfInBounds p1 v1).setIfInBounds p2 v2:=fun _ _=>by simp
   refine Eq.mpr (congrArg (fun t=>Code.wpIn _ _ P asg _ { tmps:=t,defers:=[] } W) (etm _ _)) ?_
   refine leg (ro:=some (w.heap.size+1)) (a:={ tmps:=(a.tmps.setIfInBounds p1 (.int .i64 ((es.length-1-k:Nat):Int))).setIfInBounds p2 (enc (es.length-1-k)),defers:=[] }) hm hAs hcA hfA (round k hk hRk) ?_
   rintro x st1 a1 w1 I1 V1 B1 ⟨rfl,hbody⟩ hd1 hA1' hP1
   obtain ⟨oL1,eL1⟩:=oL.post (by omega) hP1
   obtain ⟨oD1,eD1⟩:=oD.post (by omega) hP1
   obtain ⟨oB1,eB1⟩:=oB.post (by omega) hP1
   have hLw:=eL1.trans hLk
   have hws:=hP1.fr.size
   refine ⟨_,run_beginRound hLw (by rw [hrec]),?_⟩
   refine leg (ro:=some (w.heap.size+1)) hm (hA1'.put oL1 _) hcB hfB hbody ?_
   intro x st3 a3 w3 I3 V3 B3 hk3 hd3 hA3 hP3
   have hws3:=hP3.fr.size
   have hws3':w1.heap.size≤w3.heap.size:=by simpa using hws3
   obtain ⟨oL3,eL3⟩:=oL1.post (w:=w1.putObj (w.heap.size+1) _) (by simpa using (by omega:w.heap.size+1<w1.heap.size)) hP3
   obtain ⟨oD3,eD3⟩:=oD1.post (w:=w1.putObj (w.heap.size+1) _) (by simpa using (by omega:w.heap.size<w1.heap.size)) hP3
   have hL3:w3.heap[w.heap.size+1]?=some (.loop { rec .ready none with state:=.busy }):=by
    rw [eL3]; exact World.putObj_heap_same (by omega)
   have hP3':=hP3.around hLw oL3
   have hPW:=hP1.trans hP3'
   have hTot:=hPk.trans hPW
   have hS1:∀ j,RepV W1 I Vc (gets st.sl j) (a.tmps.getD j undef):=fun j=>RepV.mono ⟨by omega,fun x hx hl=>hlow x hl⟩ (fun _ h=>h) (VLe.refl _) _ _ (hS j)
   have hIk:I' b:=hPk.i0 b (hIb (by omega))
   have hKB:KBx Bs b W (w3.putObj (w.heap.size+1) (.loop (rec .ready none))):=⟨hPW.fr.block Bs (by omega) oB.2,hPW.fr.block b (hAk.wf.ilt b hIk) fun ⟨g',hl',hb'⟩=>hAk.wf.dI g' b hl' hb' hIk⟩
   rcases hk3 with ⟨rfl,hR1,m,hwk⟩ | ⟨rfl,hX1,m,hwk⟩
   ·have hT:=hTot.weak hclt hwk
    have hr:=run_endRound (P:=P) none hL3
    have e:(w3.putObj (w.heap.size+1) (.loop { ({ rec .ready none with state:=.busy }:Loop) with state:=if (none:Option Code).isNone then .ready else .done,pending:=none }))=w3.putObj (w.heap.size+1) (.loop (rec .ready none)):=by rw [hrec]; rfl
    rw [e] at hr
    exact ⟨_,_,hr,.inl ⟨rfl,⟨hR1,_,_,_,⟨hT.wf,hA.len,hA.sz,fun j=>RepV.mono (hT.keepI hA1.wf) hT.i0 hT.v _ _ (hS1 j)⟩,hT⟩,hKB⟩⟩
   ·have hT:=hTot.weak hclt hwk
    have hr:=run_endRound (P:=P) (some .ret) hL3
    refine ⟨_,_,hr,.inr ⟨rfl,?_⟩⟩
    obtain ⟨oL4,_⟩:=(off1 _ (by omega)).post (x:=w.heap.size+1) (by omega) hT
    obtain ⟨oD4,eD4⟩:=(off1 _ (zU _)).post (x:=w.heap.size) (by omega) hT
    have hA4:At nt _ _ _ _ ⟨st.sl,obx k⟩ a.tmps:=⟨hT.wf,hA.len,hA.sz,fun j=>RepV.mono (hT.keepI hA1.wf) hT.i0 hT.v _ _ (hS1 j)⟩
    have hA4:=hA4.put oL4 (.loop (rec .done (some .ret)))
    have hP4:=(hPw.trans2 hT (VLe.refl Vc)).putNew (by omega) oL4 (.loop (rec .done (some .ret)))
    rw [Qj] at hA4 hP4
    have e:(w3.putObj (w.heap.size+1) (.loop { ({ rec .ready none with state:=.busy }:Loop) with state:=if (some Code.ret).isNone then .ready else .done,pending:=some Code.ret }))=w3.putObj (w.heap.size+1) (.loop (rec .done (some .ret))):=by rw [hrec]; rfl
    rw [e]
    refine ⟨hX1,_,_,_,hA4,hP4,oL4,oD4,World.putObj_heap_same (by omega),?_⟩
    rw [World.putObj_heap_other (by omega)]
    rw [World.putObj_heap_other (by omega)] at eD4
    exact eD4.trans hK1
  ·have offR:∀ (ob':List Ob) (I':Nat→Prop) (B':Nat→Nat→Prop),Off I' B' ob' w.heap.size→Off I' (fun g=>if g∈hs then B g else B' g) (Fo hs st.ob ob') w.heap.size:=fun ob' I' B' ho=>⟨ho.1,fun ⟨g',hl,hb'⟩=>by
    by_cases hmem:g'∈hs
    ·simp only [if_pos hmem] at hb'
     have:=hwf.lt g' _ (hlv g' hmem) hb'
     omega
    ·simp only [if_neg hmem] at hb'
     rw [J6,if_neg (fun h=>hmem h.1)] at hl
     exact ho.2 ⟨g',hl,hb'⟩⟩
   rintro e W2 ⟨⟨v',rfl⟩,⟨hRN,I',V',B',hAN,hPN⟩ | ⟨k,hk,hXk,I',V',B',hAN,hPN,oL,oD,eL,eD⟩⟩
   ·obtain ⟨oL,eL⟩:=(off1 _ (by omega)).post (x:=w.heap.size+1) (by omega) hPN
    obtain ⟨oD,eD⟩:=(off1 _ (zU _)).post (x:=w.heap.size) (by omega) hPN
    have hsz2:=hPN.fr.size
    refine ⟨none,_,by have:=run_endLoop (P:=P) (eL.trans hL1) (by rw [hrec]; simp); rw [hrec] at this; exact this,?_⟩
    rw [hd]
    obtain ⟨q1,q2⟩:=At.rest hwf hlv hceq hn1 hobi ((hPw.trans2 hPN (VLe.refl Vc)).putNew (x:=w.heap.size+1) (by omega) oL _) (hAN.put oL _)
    exact done .normal _ _ _ _ _ w.heap.size (.inl ⟨rfl,hRN,rfl⟩) q1 q2 (zU _) (by simp; omega) (by rw [World.putObj_heap_other (by omega)]; exact eD.trans hK1) (offR _ _ _ oD)
   ·have hl2:=(zL.1 eD).1
    refine ⟨some .ret,_,by have:=run_endLoop (P:=P) eL (by rw [hrec]; simp); rw [hrec] at this; exact this,?_⟩
    rw [hd]
    obtain ⟨q1,q2⟩:=At.rest hwf hlv hceq hn1 hobi (hPN.putNew (x:=w.heap.size+1) (by omega) oL _) (hAN.put oL _)
    exact wpIn_ret (done .ret _ _ _ _ _ w.heap.size (.inr ⟨rfl,k,hk,hXk,rfl⟩) q1 q2 (zU _) (by simp; omega) (by rw [World.putObj_heap_other (by omega)]; exact eD) (offR _ _ _ oD))
section
variable {P:Program}
def XV (P:Program) (fn:Func) (w:World) (I:Nat→Prop) (V:Nat→Option Value) (B:Nat→Nat→Prop) (ob:List Ob) (r:SV) (ob':List Ob):Exit→Act→World→Prop :=
 bodyPostM Fence.wide 5 P fn (fun e w'=>∃ v I' V' B',e=.returned v∧RepV w' I' V' r v∧FunPost w I V B ob ob' w' I' V' B')
theorem Pp {f:FuncId} {fn:Func} {code:Code} {args:List SV} {ob:List Ob} {r:SV} {ob':List Ob} (hf:P.funcs[f]?=some fn) (hb:fn.body=some code) (hn:args.length≤fn.ntmps)
  (h:∀ w I V B tm,At fn.ntmps w I V B ⟨args++Hz (fn.ntmps-args.length),ob⟩ tm→code.wpIn Fence.wide 5 P (XV P fn w I V B ob r ob') { tmps:=tm,defers:=[] } w):Fun P f args ob r ob':=by
 intro w I V B vs hwf hvs
 have hvl:=hvs.len
 refine (callsIn_wide (n:=5)).1 ?_
 refine callsIn_of_wp_marks hf hb trivial (h w I V B _ ⟨hwf,?_,?_,fun k=>?_⟩) rfl
 ·simp only [List.length_append,MZ]
  omega
 ·simp only [Array.size_append,zS,Array.size_replicate]
  omega
 ·show RepV w I V (gets (args++Hz (fn.ntmps-args.length)) k) _
  rw [MY]
  by_cases hk:k<args.length
  ·rw [if_pos hk]
   have:=hvs.gets k hk
   have e:(vs.toArray++Array.replicate (fn.ntmps-vs.toArray.size) undef).getD k undef=vs.getD k undef:=by
    rw [yD,Array.getElem?_append_left (by simp; omega)]
    simp [zX]
   rw [e]; exact this
  ·rw [if_neg hk,KV]; simp [RepV]
theorem I5 {fn:Func} {w W:World} {I I':Nat→Prop} {V V':Nat→Option Value} {B B':Nat→Nat→Prop} {ob:List Ob} {r:SV} {ob':List Ob} {st:St} {a:Act} {rs:List RX} {e:X} (hrs:AI (fn.results.toList.map (KU P fn.ntmps))=some rs)
  (h0:Wf w I V B (Am ob)) (hA:At fn.ntmps W I' V' B' st a.tmps) (hP:FunPost w I V B ob st.ob W I' V' B') (hk:Fin rs ob.length r ob' e st)
  (hd:a.defers=[]∨∃ D,a.defers=[Wd D]∧w.heap.size≤D∧W.heap[D]?=some (.deferred (some []))∧Off I' B' st.ob D):XV P fn w I V B ob r ob' e.exit' a W:=by
 obtain ⟨hx,r0,m,hres,hweak⟩:=hk
 have key:∀ W2,At fn.ntmps W2 I' V' B' st a.tmps→FunPost w I V B ob st.ob W2 I' V' B'→∃ v,(results fn a.tmps).run P W2=.ok v W2∧∃ v2 I2 V2 B2,Ending.returned v=.returned v2∧RepV W2 I2 V2 r v2∧FunPost w I V B ob ob' W2 I2 V2 B2:=fun W2 hA2 hP2=>by
  obtain ⟨v,hrun,hv⟩:=LF (P:=P) hA2.rep hrs hres
  have hwk:WeakC ob.length m ⟨[],st.ob⟩ ⟨[],ob'⟩:=⟨trivial,hweak.2.1,hweak.2.2.1,hweak.2.2.2⟩
  have hP3:=hP2.weak (n1:=ob.length) (fun g u hu=>by
   rcases zN g ob.length with h1 | h1
   ·exact h1
   ·rw [h0.fr g (A5 _ _ h1)] at hu; cases hu) hwk
  have hv':RepV W2 I' (fun g=>V' (sgp m st.ob.length g)) r v:=by
   have h1:=hweak.1
   simp only [leL] at h1
   exact Iu h1.1 hv
  exact ⟨v,hrun,v,_,_,_,rfl,hv',hP3⟩
 have goal:LeavesInM Fence.wide 5 P fn a.tmps (fun e w'=>∃ v I' V' B',e=.returned v∧RepV w' I' V' r v∧FunPost w I V B ob ob' w' I' V' B') a.defers .returning W:=by
  rcases hd with hd | ⟨D,hd,hD,hh,ho⟩
  ·rw [hd]
   obtain ⟨v,h1,h2⟩:=key W hA hP
   exact ⟨v,h1,h2⟩
  ·rw [hd]
   obtain ⟨v,h1,h2⟩:=key _ (hA.put ho (.deferred none)) (hP.putNew hD ho _)
   exact ⟨by simp,.inl ⟨D,_,rfl,run_takeDeferred (ds:=[]) hh,v,h1,h2⟩⟩
 rcases hx with rfl | rfl
 ·exact goal
 ·exact goal
def ZF (rs:List RX) (n0:Nat) (r:SV) (ob':List Ob) (st1:St) (x:X) (st:St):Prop:=(x=.normal∧∃ m,WeakC n0 m st st1)∨(x=.ret∧Fin rs n0 r ob' .ret st)
theorem Wg (hm:P.follows .mixedOrders=true) {f:FuncId} {fn:Func} {nt n1 id:Nat} {args:List SV} {ob:List Ob} {r:SV} {ob':List Ob} {r0 rc r3 r4 tl asg bd:Code} {s0 s1 s3 s4 sT scA scB:SC} {rs:List RX} {g:Operand} {p1 p2 gf p:Nat} {st1:St} {es:List (List D)} {el:List D→SV} {t:TypeId} {hs:List Nat} {obs obx:Nat→List Ob} {Rk Xk:Nat→Prop}
  (hf:P.funcs[f]?=some fn) (hb:fn.body=some (.seq r0 (.seq rc (.seq r3 (.seq (.seq r4 (.block id (.rangeFunc g #[p1,p2] asg bd))) tl))))) (hnt:fn.ntmps=nt)
  (t0:trC P nt r0=some s0) (t1:trC P nt rc=some s1) (t3:trC P nt r3=some s3) (t4:trC P nt r4=some s4) (tT:trC P nt tl=some sT) (tA:trC P nt asg=some scA) (tB:trC P nt bd=some scB)
  (hfl:(Cg s0&&Cg s1&&Cg s3&&Cg s4&&Cg sT&&Cg scA&&Cg scB)=true) (hrs:AI (fn.results.toList.map (KU P nt))=some rs) (hn:args.length≤nt)
  (head:∀ c:Ctx,c.nt=nt→c.m=ob.length→sw P c (.seq s0 (.seq s1 (.seq s3 s4))) (ZF rs ob.length r ob' st1) ⟨args++Hz (nt-args.length),ob⟩)
  (hg:Ar (gets st1.sl) (trX g)=.fn gf [.ptr p 0]) (hp:Am st1.ob p=.box t [.arr es]) (hps:p∈hs) (hlv:∀ g∈hs,(Am st1.ob g).live) (hn1:∀ g∈hs,g<n1) (hids:SV.Gb n1 st1.sl=true) (hobi:∀ g∈hs,(Am st1.ob g).idsB n1=true) (hon:ob.length≤n1) (h1:p1<nt) (h2:p2<nt)
  (eg:∀ args w,(callFunc gf args).run P w=.ok (.enter gf args) w) (hB:Wc P gf el es) (h0:obs 0=Et hs st1.ob) (hR0:Rk 0)
  (round:∀ k (hk:k<es.length),Rk k→∀ c:Ctx,c.nt=nt→c.m=(obs k).length→sw P c scA (TW P nt n1 scB obs obx Rk Xk k) ⟨Fh (Fh st1.sl p1 (.int .i64 ((es.length-1-k:Nat):Int))) p2 (el (es[es.length-1-k]'(by omega))),obs k⟩)
  (tail:Rk es.length→∀ c:Ctx,c.nt=nt→c.m=(Fo hs st1.ob (obs es.length)).length→sw P c sT (Fin rs ob.length r ob') ⟨st1.sl,Fo hs st1.ob (obs es.length)⟩)
  (stop:∀ k,k<es.length→Xk k→Fin rs ob.length r ob' .ret ⟨st1.sl,Fo hs st1.ob (obx k)⟩):Fun P f args ob r ob':=by
 subst hnt
 simp only [zV] at hfl
 obtain ⟨⟨⟨⟨⟨⟨f0,f1⟩,f3⟩,f4⟩,fT⟩,fA⟩,fB⟩:=hfl
 refine Pp hf hb hn fun w I V B tm hA=>?_
 have wfn:wf none=Fence.wide:=rfl
 rw [←wfn]
 have hend:∀ (st:St) (a:Act) (W:World),Fin rs ob.length r ob' .ret st→RepD [] (Gc w I V B ob fn.ntmps hA.wf) st.f a W→st.sl.length=fn.ntmps→XV P fn w I V B ob r ob' .ret a W:=fun st a W hk hr hl=>by
  obtain ⟨hd,I',V',B',hr⟩:=hr
  obtain ⟨q1,q2⟩:=hA.post hr hl
  exact I5 (e:=.ret) hrs hA.wf q1 q2 hk (.inl hd)
 have hh:=head (Gc w I V B ob fn.ntmps hA.wf) rfl rfl
 simp only [sw] at hh
 refine wpIn_seq (De (c:=Gc w I V B ob fn.ntmps hA.wf) (ds:=[]) hm _ _ _ f0 hh _ t0 _ w _ hA.len ⟨rfl,I,V,B,hA.rep⟩ fun x st a W hk hl hr=>?_)
 cases x with
 | exit i=>rcases hk with ⟨h,_⟩ | ⟨h,_⟩ <;> cases h
 | ret =>
  rcases hk with ⟨h,_⟩ | ⟨_,h⟩
  ·cases h
  ·exact hend st a W h hr hl
 | normal =>
 refine wpIn_seq (De (c:=Gc w I V B ob fn.ntmps hA.wf) (ds:=[]) hm _ _ _ f1 hk _ t1 _ W _ hl hr fun x st a W hk hl hr=>?_)
 cases x with
 | exit i=>rcases hk with ⟨h,_⟩ | ⟨h,_⟩ <;> cases h
 | ret =>
  rcases hk with ⟨h,_⟩ | ⟨_,h⟩
  ·cases h
  ·exact hend st a W h hr hl
 | normal =>
 refine wpIn_seq (De (c:=Gc w I V B ob fn.ntmps hA.wf) (ds:=[]) hm _ _ _ f3 hk _ t3 _ W _ hl hr fun x st a W hk hl hr=>?_)
 cases x with
 | exit i=>rcases hk with ⟨h,_⟩ | ⟨h,_⟩ <;> cases h
 | ret =>
  rcases hk with ⟨h,_⟩ | ⟨_,h⟩
  ·cases h
  ·exact hend st a W h hr hl
 | normal =>
 refine wpIn_seq (wpIn_seq (De (c:=Gc w I V B ob fn.ntmps hA.wf) (ds:=[]) hm _ _ _ f4 hk _ t4 _ W _ hl hr fun x st a W hk hl hr=>?_))
 cases x with
 | exit i=>rcases hk with ⟨h,_⟩ | ⟨h,_⟩ <;> cases h
 | ret =>
  rcases hk with ⟨h,_⟩ | ⟨_,h⟩
  ·cases h
  ·exact hend st a W h hr hl
 | normal =>
 rcases hk with ⟨_,mk,hwk⟩ | ⟨h,_⟩
 rotate_left
 ·cases h
 obtain ⟨hd,I1,V1',B1',hr⟩:=hr
 obtain ⟨q1',q2'⟩:=hA.post hr hl
 have hVn:∀ g,ob.length≤g→V g=none:=fun g hg=>hA.wf.fr g (A5 _ _ hg)
 obtain ⟨q1,q2⟩:=q1'.weak (st0:=⟨[],ob⟩) hwk q2' hVn
 obtain ⟨V1,hV1⟩:∃ V1,V1=fun g=>V1' (sgp mk st.ob.length g):=⟨_,rfl⟩
 obtain ⟨B1,hB1⟩:∃ B1,B1=fun g=>B1' (sgp mk st.ob.length g):=⟨_,rfl⟩
 rw [←hV1,← hB1] at q1 q2
 refine wpIn_block (We (n:=5) (a:=a) hm (by omega) q1 hd hg hp hps hlv hn1 hids hobi h1 h2 eg hB tA fA tB fB h0 hR0 round ?_)
 intro x ob2 W2 I2 V2 B2 D hx hA2 hP2 hD hDl hh2 ho
 have hP:=q2.trans2 (V0:=V) hP2 fun g u hu=>by
  have hg:g<ob.length:=by
   rcases zN g ob.length with h | h
   ·exact h
   ·rw [hVn g h] at hu; cases hu
  rw [TV (by omega)]
  exact q2.v g u hu
 have hwD:w.heap.size≤D:=yQ q2.fr.size hD
 rcases hx with ⟨rfl,hRN,rfl⟩ | ⟨rfl,k,hk,hXk,rfl⟩
 ·have htl:=tail hRN
  refine leg (ro:=none) hm hA2 tT fT htl fun x st' a' W3 I3 V3 B3 hk3 hd3 hA3 hP3=>?_
  obtain ⟨o3,e3⟩:=ho.post hDl hP3
  exact I5 hrs hA.wf hA3 (hP.trans hP3) hk3 (.inr ⟨D,hd3,hwD,e3.trans hh2,o3⟩)
 ·exact I5 (e:=.ret) hrs hA.wf hA2 hP (stop k hk hXk) (.inr ⟨D,rfl,hwD,hh2,ho⟩)
theorem SR (hm:P.follows .mixedOrders=true) {f:FuncId} {fn:Func} {nt:Nat} {args:List SV} {ob:List Ob} {r:SV} {ob':List Ob} {r0 rc rr:Code} {s0 s1:SC} {rs:List RX}
  (hf:P.funcs[f]?=some fn) (hb:fn.body=some (.seq r0 (.seq rc rr))) (hnt:fn.ntmps=nt)
  (t0:trC P nt r0=some s0) (t1:trC P nt rc=some s1) (hfl:(Cg s0&&Cg s1)=true) (hrs:AI (fn.results.toList.map (KU P nt))=some rs) (hn:args.length≤nt)
  (head:∀ c:Ctx,c.nt=nt→c.m=ob.length→sw P c (.seq s0 s1) (fun x st=>x=.ret∧Fin rs ob.length r ob' .ret st) ⟨args++Hz (nt-args.length),ob⟩):Fun P f args ob r ob':=by
 subst hnt
 simp only [zV] at hfl
 refine Pp hf hb hn fun w I V B tm hA=>?_
 have wfn:wf none=Fence.wide:=rfl
 rw [←wfn]
 have hend:∀ (st:St) (a:Act) (W:World),Fin rs ob.length r ob' .ret st→RepD [] (Gc w I V B ob fn.ntmps hA.wf) st.f a W→st.sl.length=fn.ntmps→XV P fn w I V B ob r ob' .ret a W:=fun st a W hk hr hl=>by
  obtain ⟨hd,I',V',B',hr⟩:=hr
  obtain ⟨q1,q2⟩:=hA.post hr hl
  exact I5 (e:=.ret) hrs hA.wf q1 q2 hk (.inl hd)
 have hh:=head (Gc w I V B ob fn.ntmps hA.wf) rfl rfl
 simp only [sw] at hh
 refine wpIn_seq (De (c:=Gc w I V B ob fn.ntmps hA.wf) (ds:=[]) hm _ _ _ hfl.1 hh _ t0 _ w _ hA.len ⟨rfl,I,V,B,hA.rep⟩ fun x st a W hk hl hr=>?_)
 cases x with
 | exit i=>cases hk.1
 | ret=>exact hend st a W hk.2 hr hl
 | normal =>
 refine wpIn_seq (De (c:=Gc w I V B ob fn.ntmps hA.wf) (ds:=[]) hm _ _ _ hfl.2 hk _ t1 _ W _ hl hr fun x st a W hk hl hr=>?_)
 cases x with
 | exit i=>cases hk.1
 | ret=>exact hend st a W hk.2 hr hl
 | normal=>cases hk.1
def YU:Code→List Code
 | .seq r0 (.seq rc (.seq r3 (.seq (.seq r4 (.block _ (.rangeFunc _ _ asg bd))) tl)))=>[r0,rc,r3,r4,tl,asg,bd]
 | _=>[]
def Ki (fn:Func) (i:Nat):Code:=(YU (fn.body.getD .skip)).getD i .skip
end
end Go.Proofs.YtkjpmfmjebkkiaaGreat
set_option maxRecDepth 100000
set_option linter.unusedSimpArgs false
set_option linter.unusedVariables false
set_option linter.unusedSectionVars false
namespace Go.Proofs.YtkjpmfmjebkkiaaGreat
open Go.RowKit Go.Shelf
attribute [local go_sem] Oper.semAt_some
theorem DH {A B:World} {x o:Nat} (h:B.heap[x]?=A.heap[x]?):B.cell? ⟨x,o,none⟩=A.cell? ⟨x,o,none⟩:=by
 unfold World.cell?
 simp only [h]
theorem Nr [Flag] (N:Nat) (cv:Nat→Nat→Value) (Bs b off cap:Nat) (hreach:N*48≤140737488351232) (w:World) (hBs:w.cell? ⟨Bs,0,none⟩=some (.slice (some ⟨b,off,none⟩) N cap)) (hc0:∀ j,j<N→w.cell? ⟨b,off+j*3,none⟩=some (cv j 0)) (hc1:∀ j,j<N→w.cell? ⟨b,off+j*3+1,none⟩=some (cv j 1)) (hc2:∀ j,j<N→w.cell? ⟨b,off+j*3+2,none⟩=some (cv j 2)) :
  YS Tryz.prog 172 N (fun j=>.agg #[cv j 0,cv j 1,cv j 2]) w Bs b:=by
 intro lb n J Jx W hn eBs eb hY h0
 refine callsIn_of_wp Tryz.func172 rfl trivial ?_ rfl
 simp only [Tryz.ntmps172,zS,zG,zT,yL,yM,z7,z8,yI,yC,yH,yF]
 have hB0:=(DH (o:=0) eBs).trans hBs
 gi_wp2
 gi_loopw [3] (fun i wr=>∃ k:Nat,k≤N∧i=.int .i64 ((N:Int)-1-k)∧J k wr∧KBx Bs b W wr)
  (fun i _=>(intOf i+1).toNat)
 case atStart=>exact ⟨0,zM _,by simp,h0,KBx.refl _ _ _⟩
 case round =>
  obtain ⟨k,hk,rfl,hJs,hnx⟩:=hrel
  by_cases hlt:k<N
  ·have hj:N-1-k<N:=by omega
   have hbk:wr.cell? ⟨Bs,0,none⟩=some (.slice (some ⟨b,off,none⟩) N cap):=(DH hnx.1).trans hB0
   have hb:wr.heap[b]?=w.heap[b]?:=hnx.2.trans eb
   have hx0:=(DH (o:=off+(N-1-k)*3) hb).trans (hc0 _ hj)
   have hx1:=(DH (o:=off+(N-1-k)*3+1) hb).trans (hc1 _ hj)
   have hx2:=(DH (o:=off+(N-1-k)*3+2) hb).trans (hc2 _ hj)
   have hji:(N:Int)-1-k=((N-1-k:Nat):Int):=by omega
   obtain ⟨fn,tmps,assign,body,hy,hR⟩:=hY k wr hlt hJs
   rw [hji]
   gi_wp2
   refine ⟨fun _=>by omega,hR.mono ?_⟩
   rintro e W3 (⟨rfl,hJ3,hk3⟩ | ⟨rfl,hJx3⟩)
   ·gi_wp2
    go_roundw
    case rel=>exact ⟨k+1,by omega,by congr 1; omega,hJ3,hnx.trans hk3⟩
    case measure=>simp [intOf] <;> omega
   ·gi_wp2
    refine bodyPost_ret (results_none rfl _ _ _) rfl ?_
    exact ⟨⟨_,rfl⟩,.inr ⟨k,hlt,hJx3⟩⟩
  ·obtain rfl:k=N:=by omega
   gi_wp2
   go_end0
   exact ⟨⟨_,rfl⟩,.inl hJs⟩
theorem Mg [Flag] (enc:Nat→Value) (Bs b:Nat) (a:Option Addr) (cap:Nat) (w:World) (hBs:w.cell? ⟨Bs,0,none⟩=some (.slice a 0 cap)):YS Tryz.prog 172 0 enc w Bs b:=by
 intro lb n J Jx W hn eBs eb hY h0
 refine callsIn_of_wp Tryz.func172 rfl trivial ?_ rfl
 simp only [Tryz.ntmps172,zS,zG,zT,yL,yM,z7,z8,yI,yC,yH,yF]
 have hB0:=(DH (o:=0) eBs).trans hBs
 gi_wp2
 gi_loopw [3] (fun i wr=>i=.int .i64 (-1)∧J 0 wr) (fun _ _=>0)
 case atStart=>exact ⟨by rfl,h0⟩
 case round =>
  obtain ⟨rfl,hJs⟩:=hrel
  gi_wp2
  go_end0
  exact ⟨⟨_,rfl⟩,.inl hJs⟩
theorem Lc [Flag] (es:List (List D)) (hl:∀ l∈es,l.length=3) (hreach:es.length*48≤140737488351232):Wc Tryz.prog 172 (fun l=>.agg (l.map D.sv)) es:=by
 intro w I V Bs v hc hd
 have hd0:=hd
 cases hd with
 | arr S sz es a cap f Sub h1 h2 h3 h4 h5 h6 h7 =>
  rcases yG es.length with hz | hz
  ·obtain rfl:es=[]:=zE hz
   refine ⟨Bs,fun _=>undef,?_,fun h=>absurd h (by simp),fun j h=>absurd h (by simp),?_⟩
   ·obtain ⟨o,ho,_⟩:=cells_of_cell hc
    exact (zL.1 ho).1
   ·exact Mg _ _ _ a cap w (by simpa using hc)
  ·rcases h3 with h3 | ⟨b,off,rfl,hS,hlt,hcs,_⟩
   ·omega
   have hsz:sz=3:=by
    have:=h4 0 hz
    rw [hl _ (zH hz)] at this
    omega
   subst hsz
   have hq:∀ j i (hj:j<es.length) (hi:i<3),w.cell? ⟨b,off+j*3+i,none⟩=some (f j i):=fun j i hj hi=>hcs j i hj hi
   refine ⟨b,fun j=>.agg #[f j 0,f j 1,f j 2],hlt,fun _=>hS,fun j hj=>?_,Nr es.length f Bs b off cap hreach w hc (fun j hj=>hq j 0 hj (by omega)) (fun j hj=>hq j 1 hj (by omega)) (fun j hj=>hq j 2 hj (by omega))⟩
   have hlen:=h4 j hj
   obtain ⟨x,hx⟩:∃ x,x=es[j]:=⟨_,rfl⟩
   have hd7:∀ i (hi:i<x.length),RepV w I V (x[i]).sv (f j i):=fun i hi=>by
    subst hx
    exact D.rep_sv ((h7 j i hj hi).up fun y hy=>h5 j i y hy)
   rw [←hx] at hlen ⊢
   match x,hlen,hd7 with
   | [d0,d1,d2],_,hd7 =>
    simp only [zB,yT,RepV]
    refine ⟨[f j 0,f j 1,f j 2],rfl,?_⟩
    simp only [RepVs]
    exact ⟨f j 0,_,rfl,hd7 0 (by simp),⟨f j 1,_,rfl,hd7 1 (by simp),⟨f j 2,_,rfl,hd7 2 (by simp),rfl⟩⟩⟩
end Go.Proofs.YtkjpmfmjebkkiaaGreat
set_option maxRecDepth 100000
set_option linter.unusedSimpArgs false
set_option linter.unusedVariables false
set_option linter.unusedSectionVars false
namespace Go.Proofs.YtkjpmfmjebkkiaaGreat
open Go.RowKit
variable [Flag]
def ELe (E E':FEnv):Prop:=∀ f xs ob r,E f xs ob=some r→E' f xs ob=some r
def CLe (C C':CallF):Prop:=∀ f xs ob r,C f xs ob=some r→C' f xs ob=some r
theorem Oz {hd:List Bool} {E E':FEnv} (h:ELe E E') {f:FuncId} {xs:List SV} {ob:List Ob} {sel:List Nat} {r:R3} (hr:Cp hd E f xs ob sel=some r):Cp hd E' f xs ob sel=some r:=by
 unfold Cp at hr ⊢
 split at hr
 ·obtain ⟨h1,h2⟩:=Ao hr
  rw [h1]
  split at h2
  ·rename_i r0 fob' he
   rw [cond_true,h _ _ _ _ he]
   exact h2
  ·cases h2
 ·cases hr
theorem SS {m:RM} {a b:Option R3} (h:∀ r,a=some r→b=some r) {r:R3} (hr:Fl m a=some r):Fl m b=some r:=by
 cases m with
 | asis=>exact h r hr
 | frz=>exact h r hr
 | own l=>exact h r hr
 | tr l=>exact h r hr
 | half l=>exact h r hr
 | frl l=>exact h r hr
 | late =>
  cases a with
  | none=>cases hr
  | some q=>rw [h q rfl]; exact hr
theorem DI {M:FuncId→FM} {E E':FEnv} (h:ELe E E'):CLe (Ch M E) (Ch M E'):=fun f xs ob r hr=>SS (fun r hr=>Oz h hr) hr
section
variable {P:Program} {C C':CallF}
theorem Wh (h:CLe C C') {so:SOp} {sl:List SV} {ob:List Ob} {r:R3} (hr:fOp P C so sl ob=some r):fOp P C' so sl ob=some r:=by
 cases so
 case call f args=>exact h _ _ _ _ hr
 case callv x args =>
  simp only [fOp] at hr ⊢
  split at hr
  ·obtain ⟨h1,h2⟩:=Ao hr
   rw [h1]
   exact h _ _ _ _ h2
  ·cases hr
 all_goals exact hr
theorem GF (h:CLe C C') {o:SOper} {st:St} {r:Ent × St} (hr:IQ P C o st=some r):IQ P C' o st=some r:=by
 have one:∀ r,IG o.dst st (fOp P C o.op st.sl st.ob)=some r→IG o.dst st (fOp P C' o.op st.sl st.ob)=some r:=fun r hr=>by
  cases he:fOp P C o.op st.sl st.ob with
  | none=>rw [he] at hr; cases hr
  | some q=>rw [Wh h he]; rw [he] at hr; exact hr
 unfold IQ at hr ⊢
 split at hr
 ·exact one _ hr
 ·split at hr
  ·cases hb:SH _ _ with
   | true=>rw [hb] at hr; exact one _ hr
   | false=>rw [hb] at hr; exact hr
  ·exact hr
  ·cases hr
theorem Ld (h:CLe C C'):∀ {l:List SOper} {st st':St},Nd P C l st=some st'→Nd P C' l st=some st'
 | [],st,st',hr=>hr
 | o :: r,st,st',hr=>by
  simp only [Nd] at hr ⊢
  split at hr
  ·rename_i e st1 h1
   rw [GF h h1]
   exact Ld h hr
  ·cases hr
theorem Le (h:CLe C C'):∀ {l:List SOper} {acc:List Ent} {st:St} {r:List Ent × St},Gf P C l acc st=some r→Gf P C' l acc st=some r
 | [],acc,st,r,hr=>hr
 | o :: l,acc,st,r,hr=>by
  simp only [Gf] at hr ⊢
  split at hr
  ·rename_i e st1 h1
   rw [GF h h1]
   exact Le h hr
  ·cases hr
def LLe (L L':LoopF):Prop:=∀ mi keep (step step':St→Option (X × St)) st o,(∀ st o,step st=some o→step' st=some o)→L mi keep step st=some o→L' mi keep step' st=some o
theorem GG {r r':Option (X × St)} {k k':St→Option (X × St)} {o:X × St} (h1:∀ o,r=some o→r'=some o) (h2:∀ st o,k st=some o→k' st=some o) (h:BR r k=some o):BR r' k'=some o:=by
 unfold BR at h
 split at h
 ·rw [h1 _ rfl]; exact h2 _ _ h
 ·rw [h1 _ rfl]; exact h
 ·rw [h1 _ rfl]; exact h
 ·cases h
theorem R0 {id:Nat} {r r':Option (X × St)} {o:X × St} (h1:∀ o,r=some o→r'=some o) (h:GE id r=some o):GE id r'=some o:=by
 cases r with
 | none=>cases h
 | some q=>rw [h1 _ rfl]; exact h
theorem E4 (h:CLe C C') {L L':LoopF} (hL:LLe L L'):∀ (sc:SC) (st:St) (o:X × St),fr P C L sc st=some o→fr P C' L' sc st=some o
 | .skip,st,o,hr=>hr
 | .reg ops,st,o,hr=>by
  simp only [fr] at hr ⊢
  split at hr
  ·rename_i st' hs
   rw [Ld h hs]; exact hr
  ·cases hr
 | .dreg anc ops,st,o,hr=>by
  simp only [fr] at hr ⊢
  split at hr
  ·rename_i es st' hs
   rw [Le h hs]; exact hr
  ·cases hr
 | .seq a b,st,o,hr=>GG (fun o=>E4 h hL a st o) (fun st o=>E4 h hL b st o) hr
 | .cond q a b,st,o,hr=>by
  simp only [fr] at hr ⊢
  split at hr
  ·rename_i t ht
   cases t with
   | true=>exact E4 h hL a st o hr
   | false=>exact E4 h hL b st o hr
  ·cases hr
 | .block id b,st,o,hr=>R0 (fun o=>E4 h hL b st o) hr
 | .loop keep b,st,o,hr=>hL none keep _ _ st o (fun st o=>E4 h hL b st o) hr
 | .next _ _ _,st,o,hr=>by cases hr
 | .mloop keep keepO it nx more b,st,o,hr=>hL (some ⟨keepO,it,nx,more⟩) keep _ _ st o (fun st o=>E4 h hL b st o) hr
 | .exit id,st,o,hr=>hr
 | .ret,st,o,hr=>hr
end
theorem DJ {n0:Nat} {keep:List Nat} {step step':St→Option (X × St)} (h:∀ st o,step st=some o→step' st=some o):∀ {n m:Nat} {st:St} {o:X × St},n≤m→Dt n0 keep step n st=some o→Dt n0 keep step' m st=some o
 | 0,m,st,o,_,hr=>by cases hr
 | n+1,0,st,o,hn,hr=>absurd hn (by omega)
 | n+1,m+1,st,o,hn,hr=>GG (fun o ho=>h _ o ho) (fun st o ho=>DJ h (by omega) ho) hr
theorem UC {r r':Option (X × St)} {o:X × St} (h:∀ o,r=some o→r'=some o) (hr:SL r=some o):SL r'=some o:=by
 cases r with
 | none=>cases hr
 | some q=>rw [h q rfl]; exact hr
theorem Pq {n0:Nat} {keepO:List Nat} {r r':Option (X × St)} {o:X × St} (h:∀ o,r=some o→r'=some o) (hr:Oy n0 keepO r=some o):Oy n0 keepO r'=some o:=by
 cases r with
 | none=>cases hr
 | some q=>rw [h q rfl]; exact hr
theorem I6 {n0:Nat} {mi:MI} {keep:List Nat} {step step':St→Option (X × St)} {f:MF} (h:∀ st o,step st=some o→step' st=some o):∀ {l:EL} {seen:List MK} {st:St} {o:X × St},EN n0 mi keep step f l seen st=some o→EN n0 mi keep step' f l seen st=some o
 | [],seen,st,o,hr=>by
  unfold EN at hr ⊢
  split at hr
  ·obtain ⟨h1,h2⟩:=Ao hr
   rw [h1,cond_true]
   exact UC (fun o=>h _ o) h2
  ·cases hr
 | (k,x) :: l,seen,st,o,hr=>by
  unfold EN at hr ⊢
  split at hr
  ·obtain ⟨h1,h2⟩:=Ao hr
   rw [h1,cond_true]
   exact GG (fun o=>h _ o) (fun st o=>I6 h) h2
  ·cases hr
theorem Ns {n0:Nat} {mi:MI} {keep:List Nat} {step step':St→Option (X × St)} (h:∀ st o,step st=some o→step' st=some o) {st:St} {o:X × St} (hr:H6 n0 mi keep step st=some o):H6 n0 mi keep step' st=some o:=by
 unfold H6 at hr ⊢
 split at hr
 ·obtain ⟨h1,h2⟩:=EM.1 hr
  exact EM.2 ⟨h1,fun l hl=>Pq (fun o=>I6 h) (h2 l hl)⟩
 ·cases hr
theorem LM {n0:Nat} {mi:Option MI} {keep:List Nat} {step step':St→Option (X × St)} (h:∀ st o,step st=some o→step' st=some o) {n m:Nat} {st:St} {o:X × St} (hn:n≤m) (hr:H7 n0 mi keep step n st=some o):H7 n0 mi keep step' m st=some o:=by
 cases mi with
 | none=>exact DJ h hn hr
 | some mi=>exact Ns h hr
theorem Pr {res:RM} {n0:Nat} {rs:List RX} {r:Option (X × St)} {o:SV × List Ob} (h:YR res n0 rs r=some o):∃ q,r=some q∧fin res n0 rs q.1 q.2=some o:=by
 cases r with
 | none=>cases h
 | some q=>exact ⟨q,rfl,h⟩
theorem Nt {P:Program} {M:FuncId→FM} {E E':FEnv} (h:ELe E E') {L L':Nat→LoopF} (hL:∀ n0,LLe (L n0) (L' n0)):ELe (Fn P M E L) (Fn P M E' L'):=by
 intro f xs ob r hr
 unfold Fn at hr ⊢
 split at hr
 ·exact hr
 split at hr
 ·obtain ⟨h1,h2⟩:=Ao hr
  rw [h1]
  obtain ⟨q,h3,h4⟩:=Pr h2
  rw [cond_true,E4 (DI h) (hL _) _ _ _ h3]
  exact h4
 ·cases hr
theorem R1 {P:Program} {M:FuncId→FM}:∀ n,ELe (evN P M n) (evN P M (n+1))
 | 0=>fun f xs ob r h=>by cases h
 | n+1=>Nt (R1 n) fun n0 mi keep step step' st o hs h=>LM hs (yR n) h
theorem EO {P:Program} {M:FuncId→FM} {n m:Nat} (h:n≤m):ELe (evN P M n) (evN P M m):=by
 induction h with
 | refl=>exact fun f xs ob r h=>h
 | step _ ih=>exact fun f xs ob r h=>R1 _ _ _ _ _ (ih f xs ob r h)
noncomputable def Ps (n0:Nat):List Nat→(St→Option (X × St))→St→Option (X × St):=fun keep step st =>
 match Classical.propDecidable (∃ n o,Dt n0 keep step n st=some o) with
 | .isTrue h=>Dt n0 keep step (Classical.choose h) st
 | .isFalse _=>none
theorem Gp {n0:Nat} {keep:List Nat} {step:St→Option (X × St)} {st:St} {o:X × St}:Ps n0 keep step st=some o ↔ ∃ n,Dt n0 keep step n st=some o:=by
 unfold Ps
 split
 ·rename_i h _
  constructor
  ·intro e; exact ⟨_,e⟩
  ·rintro ⟨n,hn⟩
   obtain ⟨o',ho'⟩:=Classical.choose_spec h
   have h1:=DJ (fun _ _ h=>h) (yB n (Classical.choose h)) hn
   have h2:=DJ (fun _ _ h=>h) (zW n (Classical.choose h)) ho'
   rw [h1] at h2
   rw [ho',← h2]
 ·rename_i h _
  exact ⟨fun e=>(by cases e),fun ⟨n,hn⟩=>absurd ⟨n,o,hn⟩ h⟩
theorem H8 {n0:Nat} {keep:List Nat} {step:St→Option (X × St)} {st:St}:Ps n0 keep step st=BR (step (canon n0 keep st)) (Ps n0 keep step):=by
 refine Option.ext fun o=>?_
 rw [Gp]
 constructor
 ·rintro ⟨n,hn⟩
  cases n with
  | zero=>cases hn
  | succ n=>exact GG (fun o h=>h) (fun st o ho=>Gp.2 ⟨n,ho⟩) hn
 ·intro h
  unfold BR at h
  split at h
  ·rename_i st' hs
   obtain ⟨n,hn⟩:=Gp.1 h
   exact ⟨n+1,by simp only [Dt,BR,hs]; exact hn⟩
  ·rename_i i st' hs
   exact ⟨1,by simp only [Dt,BR,hs]; exact h⟩
  ·rename_i st' hs
   exact ⟨1,by simp only [Dt,BR,hs]; exact h⟩
  ·cases h
noncomputable def J7 (n0:Nat):LoopF:=fun mi keep step st =>
 match mi with
 | none=>Ps n0 keep step st
 | some mi=>H6 n0 mi keep step st
theorem ZG {α:Type} (A:List α):∀ (k:Nat) (Q:Nat→List α→Prop),(∀ n m l,n≤m→Q n l→Q m l)→(∀ l:List α,l.length=k→(∀ a,a∈l→a∈A)→∃ n,Q n l)→∃ n,∀ l:List α,l.length=k→(∀ a,a∈l→a∈A)→Q n l
 | 0,Q,_,h=>by
  obtain ⟨n,hn⟩:=h [] rfl (fun a ha=>by cases ha)
  exact ⟨n,fun l hl _=>by rw [zE hl]; exact hn⟩
 | k+1,Q,hQ,h=>by
  have one:∀ a,a∈A→∃ n,∀ l:List α,l.length=k→(∀ b,b∈l→b∈A)→Q n (a :: l):=fun a ha =>
   ZG A k (fun n l=>Q n (a :: l)) (fun n m l hn hq=>hQ n m _ hn hq) fun l hl hm=>h (a :: l) (by simp [hl]) fun b hb=>by
    rcases zP.1 hb with rfl | hb
    ·exact ha
    ·exact hm b hb
  have many:∀ B:List α,(∀ a,a∈B→a∈A)→∃ n,∀ a,a∈B→∀ l:List α,l.length=k→(∀ b,b∈l→b∈A)→Q n (a :: l):=by
   intro B
   induction B with
   | nil=>intro _; exact ⟨0,fun a ha=>by cases ha⟩
   | cons a B ih =>
    intro hB
    obtain ⟨n1,h1⟩:=one a (hB a (by simp))
    obtain ⟨n2,h2⟩:=ih fun b hb=>hB b (by simp [hb])
    refine ⟨max n1 n2,fun b hb l hl hm=>?_⟩
    rcases zP.1 hb with rfl | hb
    ·exact hQ _ _ _ (yB _ _) (h1 l hl hm)
    ·exact hQ _ _ _ (zW _ _) (h2 b hb l hl hm)
  obtain ⟨n,hn⟩:=many A fun _ h=>h
  refine ⟨n,fun l hl hm=>?_⟩
  cases l with
  | nil=>cases hl
  | cons a l=>exact hn a (hm a (by simp)) l (by simpa using hl) fun b hb=>hm b (by simp [hb])
theorem Nu {α:Type}:∀ {l A:List α},l.Nodup→(∀ a,a∈l→a∈A)→l.length≤A.length
 | [],A,_,_=>zM _
 | a :: l,A,hn,hm=>by
  classical
  obtain ⟨h1,h2⟩:=List.nodup_cons.1 hn
  have ha:=hm a (by simp)
  have:=Nu (l:=l) (A:=A.erase a) h2 fun b hb=>by
   have hb':=hm b (by simp [hb])
   exact (List.mem_erase_of_ne (fun e=>h1 (by rw [←e]; exact hb))).2 hb'
  rw [List.length_erase_of_mem ha] at this
  have hp:0<A.length:=List.length_pos_of_mem ha
  simp only [zG]; omega
theorem Enum.nodup {f:MF} {l:EL} (h:Enum f l):l.Nodup:=List.Pairwise.of_map (fun x:MK × MV=>x.1) (fun a b hab e=>hab (by rw [e])) h.nd
theorem Enum.len {f:MF} {l l':EL} (h:Enum f l) (h':Enum f l'):l.length=l'.length :=
 Nat.le_antisymm (Nu h.nodup fun a ha=>(h'.mem a.1 a.2).2 ((h.mem a.1 a.2).1 ha)) (Nu h'.nodup fun a ha=>(h.mem a.1 a.2).2 ((h'.mem a.1 a.2).1 ha))
noncomputable def ev (P:Program) (M:FuncId→FM):FEnv:=fun f xs ob =>
 match Classical.propDecidable (∃ n o,evN P M n f xs ob=some o) with
 | .isTrue h=>evN P M (Classical.choose h) f xs ob
 | .isFalse _=>none
section
variable {P:Program} {M:FuncId→FM}
theorem Qk {f:FuncId} {xs:List SV} {ob:List Ob} {o:SV × List Ob}:ev P M f xs ob=some o ↔ ∃ n,evN P M n f xs ob=some o:=by
 unfold ev
 split
 ·rename_i h _
  constructor
  ·intro e; exact ⟨_,e⟩
  ·rintro ⟨n,hn⟩
   obtain ⟨o',ho'⟩:=Classical.choose_spec h
   have h1:=EO (yB n (Classical.choose h)) _ _ _ _ hn
   have h2:=EO (zW n (Classical.choose h)) _ _ _ _ ho'
   rw [h1] at h2
   rw [ho',← h2]
 ·rename_i h _
  exact ⟨fun e=>(by cases e),fun ⟨n,hn⟩=>absurd ⟨n,o,hn⟩ h⟩
theorem XW (hm:P.follows .mixedOrders=true) (hX:M3 P M):Iz P (ev P M):=fun f xs ob r ob' h=>by
 obtain ⟨n,hn⟩:=Qk.1 h
 exact Np hm hX n f xs ob r ob' hn
theorem ZH (n:Nat):ELe (evN P M n) (ev P M):=fun f xs ob r h=>Qk.2 ⟨n,h⟩
theorem O0 {hd:List Bool} {f:FuncId} {xs:List SV} {ob:List Ob} {sel:List Nat} {r:R3} (h:Cp hd (ev P M) f xs ob sel=some r):∃ n,Cp hd (evN P M n) f xs ob sel=some r:=by
 unfold Cp at h
 split at h
 ·rename_i fob hfob
  obtain ⟨h1,h2⟩:=Ao h
  split at h2
  ·rename_i r0 fob' he
   obtain ⟨n,hn⟩:=Qk.1 he
   refine ⟨n,?_⟩
   unfold Cp
   rw [hfob]
   simp only
   rw [h1,cond_true,hn]
   exact h2
  ·cases h2
 ·cases h
theorem Nv {f:FuncId} {xs:List SV} {ob:List Ob} {r:R3} (h:Ch M (ev P M) f xs ob=some r):∃ n,Ch M (evN P M n) f xs ob=some r:=by
 unfold Ch at h ⊢
 cases hq:Cp (M f).hand (ev P M) f xs ob (reach ob 64 (Gj (M f).hand xs) []) with
 | none =>
  rw [hq] at h
  cases hm:(M f).res <;> rw [hm] at h <;> cases h
 | some q =>
  obtain ⟨n,hn⟩:=O0 hq
  exact ⟨n,by rw [hn,← hq]; exact h⟩
theorem Wi {so:SOp} {sl:List SV} {ob:List Ob} {r:R3} (hr:fOp P (Ch M (ev P M)) so sl ob=some r):∃ n,fOp P (Ch M (evN P M n)) so sl ob=some r:=by
 cases so
 case call f args=>exact Nv hr
 case callv x args =>
  simp only [fOp] at hr ⊢
  split at hr
  ·obtain ⟨h1,h2⟩:=Ao hr
   rw [h1]
   exact Nv h2
  ·cases hr
 all_goals exact ⟨0,hr⟩
theorem Nw {o:SOper} {st:St} {r:Ent × St} (hr:IQ P (Ch M (ev P M)) o st=some r):∃ n,IQ P (Ch M (evN P M n)) o st=some r:=by
 have one:∀ r,IG o.dst st (fOp P (Ch M (ev P M)) o.op st.sl st.ob)=some r→∃ n,IG o.dst st (fOp P (Ch M (evN P M n)) o.op st.sl st.ob)=some r:=fun r hr=>by
  cases he:fOp P (Ch M (ev P M)) o.op st.sl st.ob with
  | none=>rw [he] at hr; cases hr
  | some q =>
   obtain ⟨n,hn⟩:=Wi he
   exact ⟨n,by rw [hn]; rw [he] at hr; exact hr⟩
 unfold IQ at hr ⊢
 split at hr
 ·exact one _ hr
 ·split at hr
  ·cases hb:SH _ _ with
   | true=>rw [hb] at hr; exact one _ hr
   | false=>rw [hb] at hr; exact ⟨0,hr⟩
  ·exact ⟨0,hr⟩
  ·cases hr
theorem Pt:∀ {l:List SOper} {st st':St},Nd P (Ch M (ev P M)) l st=some st'→∃ n,Nd P (Ch M (evN P M n)) l st=some st'
 | [],st,st',hr=>⟨0,hr⟩
 | o :: r,st,st',hr=>by
  simp only [Nd] at hr ⊢
  split at hr
  ·rename_i e st1 h1
   obtain ⟨n1,g1⟩:=Nw h1
   obtain ⟨n2,g2⟩:=Pt hr
   refine ⟨max n1 n2,?_⟩
   rw [GF (DI (EO (yB n1 n2))) g1]
   exact Ld (DI (EO (zW n1 n2))) g2
  ·cases hr
theorem Pu:∀ {l:List SOper} {acc:List Ent} {st:St} {r:List Ent × St},Gf P (Ch M (ev P M)) l acc st=some r→∃ n,Gf P (Ch M (evN P M n)) l acc st=some r
 | [],acc,st,r,hr=>⟨0,hr⟩
 | o :: l,acc,st,r,hr=>by
  simp only [Gf] at hr ⊢
  split at hr
  ·rename_i e st1 h1
   obtain ⟨n1,g1⟩:=Nw h1
   obtain ⟨n2,g2⟩:=Pu hr
   refine ⟨max n1 n2,?_⟩
   rw [GF (DI (EO (yB n1 n2))) g1]
   exact Le (DI (EO (zW n1 n2))) g2
  ·cases hr
noncomputable abbrev frN (P:Program) (M:FuncId→FM) (n0 n:Nat):SC→St→Option (X × St):=fr P (Ch M (evN P M n)) fun mi keep step st=>H7 n0 mi keep step n st
theorem EP {n0 n m:Nat} (h:n≤m) (sc:SC) (st:St) (o:X × St) (hr:frN P M n0 n sc st=some o):frN P M n0 m sc st=some o :=
 E4 (L:=fun mi keep step st=>H7 n0 mi keep step n st) (L':=fun mi keep step st=>H7 n0 mi keep step m st) (DI (EO h)) (fun mi keep step step' st o hs h'=>LM hs h h') sc st o hr
theorem ST {r:Option (X × St)} {o:X × St} (h:SL r=some o):r=some o∧SL (some o)=some o:=by
 obtain ⟨h1,_⟩:=Pm h
 exact ⟨h1,by rw [h1] at h; exact h⟩
theorem Pv {n0:Nat} {mi:MI} {keep:List Nat} {step:St→Option (X × St)} {stepN:Nat→St→Option (X × St)} {f:MF} (hm:∀ n m st o,n≤m→stepN n st=some o→stepN m st=some o) (h:∀ st o,step st=some o→∃ n,stepN n st=some o):∀ {l:EL} {seen:List MK} {st:St} {o:X × St},EN n0 mi keep step f l seen st=some o→∃ n,EN n0 mi keep (stepN n) f l seen st=some o
 | [],seen,st,o,hr=>by
  unfold EN at hr
  split at hr
  ·rename_i g ks f' seen' he
   obtain ⟨h1,h2⟩:=Ao hr
   obtain ⟨h3,h4⟩:=ST h2
   obtain ⟨n,hn⟩:=h _ _ h3
   refine ⟨n,?_⟩
   unfold EN
   rw [he]
   simp only
   rw [h1,cond_true,hn]
   exact h4
  ·cases hr
 | (k,x) :: l,seen,st,o,hr=>by
  unfold EN at hr
  split at hr
  ·rename_i g ks f' seen' he
   obtain ⟨h1,h2⟩:=Ao hr
   unfold BR at h2
   split at h2
   ·rename_i st' hs
    obtain ⟨n1,g1⟩:=h _ _ hs
    obtain ⟨n2,g2⟩:=Pv hm h h2
    refine ⟨max n1 n2,?_⟩
    unfold EN
    rw [he]
    simp only
    rw [h1,cond_true,hm _ _ _ _ (yB n1 n2) g1]
    exact I6 (fun st o=>hm _ _ st o (zW n1 n2)) g2
   ·rename_i i st' hs
    obtain ⟨n1,g1⟩:=h _ _ hs
    refine ⟨n1,?_⟩
    unfold EN
    rw [he]
    simp only
    rw [h1,cond_true,g1]
    exact h2
   ·rename_i st' hs
    obtain ⟨n1,g1⟩:=h _ _ hs
    refine ⟨n1,?_⟩
    unfold EN
    rw [he]
    simp only
    rw [h1,cond_true,g1]
    exact h2
   ·cases h2
  ·cases hr
theorem UD {n0:Nat} {keepO:List Nat} {r:Option (X × St)} {rN:Nat→Option (X × St)} {o:X × St} (h:∀ o,r=some o→∃ n,rN n=some o) (hr:Oy n0 keepO r=some o):∃ n,Oy n0 keepO (rN n)=some o:=by
 cases r with
 | none=>cases hr
 | some q =>
  obtain ⟨n,hn⟩:=h q rfl
  exact ⟨n,by rw [hn]; exact hr⟩
theorem SU {n0:Nat} {mi:MI} {keep:List Nat} {step:St→Option (X × St)} {stepN:Nat→St→Option (X × St)} (hm:∀ n m st o,n≤m→stepN n st=some o→stepN m st=some o) (h:∀ st o,step st=some o→∃ n,stepN n st=some o) {st:St} {o:X × St} (hr:H6 n0 mi keep step st=some o):∃ n,H6 n0 mi keep (stepN n) st=some o:=by
 unfold H6 at hr
 split at hr
 ·rename_i g ks f he
  obtain ⟨⟨L0,h1⟩,h2⟩:=EM.1 hr
  obtain ⟨n,hn⟩:=ZG L0 L0.length (fun n l=>Enum f l→Oy n0 mi.keepO (EN n0 mi keep (stepN n) f l [] st)=some o) (fun n m l hn hq hl=>Pq (fun o=>I6 fun st o=>hm _ _ st o hn) (hq hl)) fun l _ _=>by
   by_cases hl:Enum f l
   ·obtain ⟨n,hn⟩:=UD (rN:=fun n=>EN n0 mi keep (stepN n) f l [] st) (fun o ho=>Pv hm h ho) (h2 l hl)
    exact ⟨n,fun _=>hn⟩
   ·exact ⟨0,fun hl'=>absurd hl' hl⟩
  refine ⟨n,?_⟩
  unfold H6
  rw [he]
  exact EM.2 ⟨⟨L0,h1⟩,fun l hl=>hn l (hl.len h1) (fun a ha=>(h1.mem a.1 a.2).2 ((hl.mem a.1 a.2).1 ha)) hl⟩
 ·cases hr
theorem CH {n0:Nat}:∀ (sc:SC) (st:St) (o:X × St),fr P (Ch M (ev P M)) (J7 n0) sc st=some o→∃ n,frN P M n0 n sc st=some o
 | .skip,st,o,hr=>⟨0,hr⟩
 | .reg ops,st,o,hr=>by
  simp only [fr] at hr
  split at hr
  ·rename_i st' hs
   obtain ⟨n,hn⟩:=Pt hs
   exact ⟨n,by simp only [frN,fr,hn]; exact hr⟩
  ·cases hr
 | .dreg anc ops,st,o,hr=>by
  simp only [fr] at hr
  split at hr
  ·rename_i es st' hs
   obtain ⟨n,hn⟩:=Pu hs
   exact ⟨n,by simp only [frN,fr,hn]; exact hr⟩
  ·cases hr
 | .seq a b,st,o,hr=>by
  simp only [fr,BR] at hr
  split at hr
  ·rename_i st' hs
   obtain ⟨n1,g1⟩:=CH a st _ hs
   obtain ⟨n2,g2⟩:=CH b st' _ hr
   refine ⟨max n1 n2,?_⟩
   have h1:=EP (yB n1 n2) _ _ _ g1
   have h2:=EP (zW n1 n2) _ _ _ g2
   simp only [frN] at h1 h2
   simp only [frN,fr,BR,h1,h2]
  ·rename_i i st' hs
   obtain ⟨n1,g1⟩:=CH a st _ hs
   simp only [frN] at g1
   exact ⟨n1,by simp only [frN,fr,BR,g1]; exact hr⟩
  ·rename_i st' hs
   obtain ⟨n1,g1⟩:=CH a st _ hs
   simp only [frN] at g1
   exact ⟨n1,by simp only [frN,fr,BR,g1]; exact hr⟩
  ·cases hr
 | .cond q a b,st,o,hr=>by
  simp only [fr] at hr
  split at hr
  ·rename_i t ht
   cases t with
   | true =>
    obtain ⟨n,hn⟩:=CH a st o hr
    exact ⟨n,by simp only [frN,fr,ht]; exact hn⟩
   | false =>
    obtain ⟨n,hn⟩:=CH b st o hr
    exact ⟨n,by simp only [frN,fr,ht]; exact hn⟩
  ·cases hr
 | .block id b,st,o,hr=>by
  simp only [fr] at hr
  cases he:fr P (Ch M (ev P M)) (J7 n0) b st with
  | none=>rw [he] at hr; cases hr
  | some q =>
   obtain ⟨n,hn⟩:=CH b st q he
   rw [he] at hr
   simp only [frN] at hn
   exact ⟨n,by simp only [frN,fr,hn]; exact hr⟩
 | .loop keep b,st,o,hr=>by
  simp only [fr] at hr
  obtain ⟨m,hm⟩:=Gp.1 hr
  clear hr
  have key:∀ (m:Nat) (st:St),Dt n0 keep (fr P (Ch M (ev P M)) (J7 n0) b) m st=some o→∃ n,Dt n0 keep (frN P M n0 n b) n st=some o:=by
   intro m
   induction m with
   | zero=>intro st h; cases h
   | succ m ih =>
    intro st h
    simp only [Dt,BR] at h
    split at h
    ·rename_i st' hs
     obtain ⟨n1,g1⟩:=CH b _ _ hs
     obtain ⟨n2,g2⟩:=ih st' h
     refine ⟨max n1 n2+1,?_⟩
     have h1:=EP (yQ (yB n1 n2) (yR _)) _ _ _ g1
     have h2:=DJ (step':=frN P M n0 (max n1 n2+1) b) (fun st o h=>EP (yQ (zW n1 n2) (yR _)) _ _ _ h) (zW n1 n2) g2
     simp only [Dt,BR,h1]
     exact h2
    ·rename_i i st' hs
     obtain ⟨n1,g1⟩:=CH b _ _ hs
     refine ⟨n1+1,?_⟩
     have h1:=EP (yR n1) _ _ _ g1
     simp only [Dt,BR,h1]; exact h
    ·rename_i st' hs
     obtain ⟨n1,g1⟩:=CH b _ _ hs
     refine ⟨n1+1,?_⟩
     have h1:=EP (yR n1) _ _ _ g1
     simp only [Dt,BR,h1]; exact h
    ·cases h
  obtain ⟨n,hn⟩:=key m st hm
  exact ⟨n,hn⟩
 | .next _ _ _,st,o,hr=>by cases hr
 | .mloop keep keepO it nx more b,st,o,hr=>by
  simp only [fr] at hr
  obtain ⟨n,hn⟩:=SU (stepN:=fun n=>frN P M n0 n b) (fun n m st o hn=>EP hn b st o) (fun st o=>CH b st o) hr
  exact ⟨n,hn⟩
 | .exit id,st,o,hr=>⟨0,hr⟩
 | .ret,st,o,hr=>⟨0,hr⟩
theorem Y9 {f:FuncId} {xs:List SV} {ob:List Ob}:ev P M f xs ob=Fn P M (ev P M) J7 f xs ob:=by
 refine Option.ext fun o=>?_
 rw [Qk]
 constructor
 ·rintro ⟨n,hn⟩
  cases n with
  | zero=>cases hn
  | succ n =>
   refine Nt (L:=fun n0 mi keep step st=>H7 n0 mi keep step n st) (L':=J7) (ZH n) (fun n0 mi keep step step' st o hs h=>?_) _ _ _ _ hn
   cases mi with
   | none=>exact Gp.2 ⟨n,DJ hs (zU n) h⟩
   | some mi=>exact Ns hs h
 ·intro h
  unfold Fn at h
  cases hg:(M f).ext with
  | some g =>
   rw [hg] at h
   refine ⟨1,?_⟩
   show Fn P M (evN P M 0) _ f xs ob=some o
   unfold Fn
   rw [hg]; exact h
  | none =>
  rw [hg] at h
  simp only at h
  cases hc:codeOf P f with
  | none=>rw [hc] at h; cases h
  | some fc =>
   rw [hc] at h
   simp only at h
   obtain ⟨h1,h2⟩:=Ao h
   obtain ⟨q,h3,h4⟩:=Pr h2
   obtain ⟨n,hn⟩:=CH _ _ _ h3
   refine ⟨n+1,?_⟩
   show Fn P M (evN P M n) _ f xs ob=some o
   unfold Fn
   rw [hg,hc]
   simp only
   rw [h1,cond_true]
   show YR (M f).res ob.length fc.rs (frN P M ob.length n (Gl (M f).res fc.sc) ⟨xs++Hz (fc.nt-xs.length),entry (M f).tree ob⟩)=some o
   rw [hn]
   exact h4
end
end Go.Proofs.YtkjpmfmjebkkiaaGreat
set_option maxRecDepth 100000
set_option linter.unusedSimpArgs false
set_option linter.unusedVariables false
set_option linter.unusedSectionVars false
namespace Go.Proofs.YtkjpmfmjebkkiaaGreat
open Go.RowKit
structure Tb where
 name:ByteArray
 arity:Int
 pred:Bool
 vals:List Int
inductive Tm where
 |mk (name:ByteArray) (args:List Tm)
def Tm.name:Tm→ByteArray
 | .mk a _=>a
def Tm.args:Tm→List Tm
 | .mk _ a=>a
mutual
def Tm.d:Tm→List D
 | .mk name args=>[.str name,.arr (Tm.ds args)]
def Tm.ds:List Tm→List (List D)
 | []=>[]
 | x :: xs=>Tm.d x :: Tm.ds xs
end
theorem Tm.ds_eq:∀ xs:List Tm,Tm.ds xs=xs.map Tm.d
 | []=>rfl
 | x :: xs=>by rw [Tm.ds,Tm.ds_eq xs]; rfl
theorem Tm.d_eq (x:Tm):Tm.d x=[.str x.name,.arr (x.args.map Tm.d)]:=by
 obtain ⟨name,args⟩:=x
 rw [Tm.d,Tm.ds_eq]; rfl
mutual
def Tm.bulk:Tm→Nat
 | .mk name args=>name.size+(args.length+Tm.sumB args)
def Tm.sumB:List Tm→Nat
 | []=>0
 | x :: xs=>Tm.bulk x+Tm.sumB xs
end
theorem Tm.bulk_eq (x:Tm):x.bulk=x.name.size+(x.args.length+Tm.sumB x.args):=by
 obtain ⟨name,args⟩:=x
 rw [Tm.bulk]; rfl
theorem Tm.lt_of_mem {x y:Tm} (h:y∈x.args):SizeOf.sizeOf y<SizeOf.sizeOf x:=by
 obtain ⟨name,args⟩:=x
 have:=List.sizeOf_lt_of_mem h
 simp only [Tm.args] at this
 simp only [Tm.mk.sizeOf_spec]
 omega
def Tm.zero:Tm:=.mk ⟨#[]⟩ []
theorem Tm.bulk_le:∀ (xs:List Tm) (k:Nat) (h:k<xs.length),xs[k].bulk≤Tm.sumB xs
 | [],k,h=>absurd h (by simp)
 | x :: xs,0,_=>by rw [Tm.sumB]; simp
 | x :: xs,k+1,h=>by
  have:=Tm.bulk_le xs k (by simpa using h)
  rw [Tm.sumB]; simp only [yE]; omega
inductive Fm where
 |mk (op:Int) (atom:Tm) (var:ByteArray) (parts:List Fm)
def Fm.op:Fm→Int
 | .mk a _ _ _=>a
def Fm.atom:Fm→Tm
 | .mk _ a _ _=>a
def Fm.var:Fm→ByteArray
 | .mk _ _ a _=>a
def Fm.parts:Fm→List Fm
 | .mk _ _ _ a=>a
mutual
def Fm.d:Fm→List D
 | .mk op atom var parts=>[.int op,.str atom.name,.arr (atom.args.map Tm.d),.str var,.arr (Fm.ds parts)]
def Fm.ds:List Fm→List (List D)
 | []=>[]
 | x :: xs=>Fm.d x :: Fm.ds xs
end
theorem Fm.ds_eq:∀ xs:List Fm,Fm.ds xs=xs.map Fm.d
 | []=>rfl
 | x :: xs=>by rw [Fm.ds,Fm.ds_eq xs]; rfl
theorem Fm.d_eq (x:Fm):Fm.d x=[.int x.op,.str x.atom.name,.arr (x.atom.args.map Tm.d),.str x.var,.arr (x.parts.map Fm.d)]:=by
 obtain ⟨op,atom,var,parts⟩:=x
 rw [Fm.d,Fm.ds_eq]; rfl
mutual
def Fm.bulk:Fm→Nat
 | .mk _ atom var parts=>Tm.bulk atom+var.size+(parts.length+Fm.sumB parts)
def Fm.sumB:List Fm→Nat
 | []=>0
 | x :: xs=>Fm.bulk x+Fm.sumB xs
end
theorem Fm.bulk_eq (x:Fm):x.bulk=x.atom.bulk+x.var.size+(x.parts.length+Fm.sumB x.parts):=by
 obtain ⟨op,atom,var,parts⟩:=x
 rw [Fm.bulk]; rfl
theorem Fm.lt_of_mem {x y:Fm} (h:y∈x.parts):SizeOf.sizeOf y<SizeOf.sizeOf x:=by
 obtain ⟨op,atom,var,parts⟩:=x
 have:=List.sizeOf_lt_of_mem h
 simp only [Fm.parts] at this
 simp only [Fm.mk.sizeOf_spec]
 omega
def Fm.zero:Fm:=.mk 0 Tm.zero ⟨#[]⟩ []
theorem Fm.bulk_le:∀ (xs:List Fm) (k:Nat) (h:k<xs.length),xs[k].bulk≤Fm.sumB xs
 | [],k,h=>absurd h (by simp)
 | x :: xs,0,_=>by rw [Fm.sumB]; simp
 | x :: xs,k+1,h=>by
  have:=Fm.bulk_le xs k (by simpa using h)
  rw [Fm.sumB]; simp only [yE]; omega
structure Lt where
 pos:Bool
 atom:Tm
def Lt.d (x:Lt):List D:=[.bool x.pos,.str x.atom.name,.arr (x.atom.args.map Tm.d)]
theorem Lt.d_eq (x:Lt):Lt.d x=[.bool x.pos,.str x.atom.name,.arr (x.atom.args.map Tm.d)]:=rfl
def Lt.bulk (x:Lt):Nat:=x.atom.bulk
theorem Lt.bulk_eq (x:Lt):x.bulk=x.atom.bulk:=rfl
def Lt.sumB:List Lt→Nat
 | []=>0
 | x :: xs=>x.bulk+Lt.sumB xs
def Lt.zero:Lt:=⟨false,Tm.zero⟩
theorem Lt.bulk_le:∀ (xs:List Lt) (k:Nat) (h:k<xs.length),xs[k].bulk≤Lt.sumB xs
 | [],k,h=>absurd h (by simp)
 | x :: xs,0,_=>by rw [Lt.sumB]; simp
 | x :: xs,k+1,h=>by
  have:=Lt.bulk_le xs k (by simpa using h)
  rw [Lt.sumB]; simp only [yE]; omega
structure Cl where
 lits:List Lt
def Cl.d (x:Cl):List D:=[.arr (x.lits.map Lt.d)]
theorem Cl.d_eq (x:Cl):Cl.d x=[.arr (x.lits.map Lt.d)]:=rfl
def Cl.bulk (x:Cl):Nat:=(x.lits.length+Lt.sumB x.lits)
theorem Cl.bulk_eq (x:Cl):x.bulk=(x.lits.length+Lt.sumB x.lits):=rfl
def Cl.zero:Cl:=⟨[]⟩
structure Ag where
 var:ByteArray
 elem:Int
def Ag.d (x:Ag):List D:=[.str x.var,.int x.elem]
structure Bd where
 var:ByteArray
 term:Tm
def Bd.d (x:Bd):List D:=[.str x.var,.str x.term.name,.arr (x.term.args.map Tm.d)]
structure Sb where
 binds:List Bd
def Sb.d (x:Sb):List D:=[.arr (x.binds.map Bd.d)]
structure Df where
 name:ByteArray
 vars:List ByteArray
 form:Fm
def Df.d (x:Df):List D:=[.str x.name,.arr (x.vars.map fun s=>[.str s]),.int x.form.op,.str x.form.atom.name,.arr (x.form.atom.args.map Tm.d),.str x.form.var,.arr (x.form.parts.map Fm.d)]
structure Tl where
 name:ByteArray
 arity:Int
 pred:Bool
 vals:List Int
def Tl.d (x:Tl):List D:=[.str x.name,.int x.arity,.bool x.pred,.arr (x.vals.map fun n=>[.int n])]
structure Ip where
 size:Int
 tables:List Tl
def Ip.d (x:Ip):List D:=[.int x.size,.arr (x.tables.map Tl.d)]
instance flagNo:Flag:=⟨False⟩
theorem Fun.SW {f:FuncId} {args:List SV} {r:SV} {rv:Value} (hr:∀ (w:World) (I:Nat→Prop) (V:Nat→Option Value),RepV w I V r rv)
  (h:∀ (w:World) (I:Nat→Prop) (V:Nat→Option Value) (vs:List Value),RepVs w I V args vs→Calls Tryz.prog f vs.toArray w (Ret w rv)):Fun Tryz.prog f args [] r []:=by
 intro w I V B vs hwf hvs
 refine (h w I V vs hvs).mono ?_
 rintro e w' ⟨rfl,hb⟩
 refine ⟨rv,I,V,B,rfl,hr _ _ _,⟨⟨hb.os,⟨hb.tape,fun h=>False.elim h⟩,hb.output,hb.size,fun b hlt _=>hb.block b hlt⟩,fun _ h=>h,fun _ h=>.inl h,VLe.refl _,?_,fun g b hl=>by simp [Am,Ob.live] at hl⟩⟩
 exact ⟨fun b hb'=>zZ (hwf.ilt b hb') hb.size,fun g hl=>by simp [Am,Ob.live] at hl,fun g b hl=>by simp [Am,Ob.live] at hl,fun g b hl=>by simp [Am,Ob.live] at hl,fun g g' b hl=>by simp [Am,Ob.live] at hl,fun g hf=>hwf.fr g rfl,hwf.gl.keep ⟨hb.size,fun b _ hlt=>hb.block b hlt⟩ fun _ h=>h⟩
theorem Fun.of_same {f:FuncId} {args:List SV} {r:SV} {rv:Value} (hr:∀ (w:World) (I:Nat→Prop) (V:Nat→Option Value),RepV w I V r rv)
  (h:∀ (w:World) (I:Nat→Prop) (V:Nat→Option Value) (vs:List Value),RepVs w I V args vs→Calls Tryz.prog f vs.toArray w (Same w rv)):Fun Tryz.prog f args [] r [] :=
 Fun.SW hr fun w I V vs hvs=>Same.ret (h w I V vs hvs)
section
variable {w:World} {I:Nat→Prop} {V:Nat→Option Value} {vs:List Value}
theorem LN (h:RepVs w I V [] vs):vs=[]:=by simpa [RepVs] using h
theorem Dp {x:SV} {xs:List SV} (h:RepVs w I V (x :: xs) vs):∃ v r,vs=v :: r∧RepV w I V x v∧RepVs w I V xs r:=by simpa only [RepVs] using h
theorem M4 {s:ByteArray} {v:Value} (h:RepV w I V (.str s) v):v=.string s∧s.size≤9223372036854775807:=by simpa only [RepV] using h
theorem XX {k:IntKind} {n:Int} {v:Value} (h:RepV w I V (.int k n) v):v=.int k n:=by simpa only [RepV] using h
end
section
variable {w:World} {I:Nat→Prop} {V:Nat→Option Value}
end
theorem M5 (xs:List ByteArray):OT.erss (xs.map fun s=>[OT.str s])=xs.map fun s=>[D.str s]:=by
 induction xs with
 | nil=>rfl
 | cons x r ih=>simp only [zB,OT.erss,OT.ers,OT.er,ih]
theorem TX (xs:List Int):OT.erss (xs.map fun s=>[OT.int s])=xs.map fun s=>[D.int s]:=by
 induction xs with
 | nil=>rfl
 | cons x r ih=>simp only [zB,OT.erss,OT.ers,OT.er,ih]
theorem TY (xs:List ByteArray):OT.AK (xs.map fun s=>[OT.str s])=true:=by
 induction xs with
 | nil=>rfl
 | cons x r ih=>simp only [zB,OT.AK,OT.BF,OT.noSh,ih,zC]
theorem TZ (xs:List Int):OT.AK (xs.map fun s=>[OT.int s])=true:=by
 induction xs with
 | nil=>rfl
 | cons x r ih=>simp only [zB,OT.AK,OT.BF,OT.noSh,ih,zC]
def szR (left:Int) (n:Nat):Int:=if (n:Int)≤left then left-n else -1
def mkT (k:Nat) (acc:List UInt8):List UInt8:=if h:k=0 then acc else mkT (k / 10) (UInt8.ofNat (48+k % 10) :: acc)
termination_by k
decreasing_by omega
def CW (k:Int):ByteArray:=⟨(109 :: mkT k.toNat []).toArray⟩
theorem Pw (a b:Array UInt8):(⟨a⟩++⟨b⟩:ByteArray)=⟨a++b⟩:=by apply ByteArray.ext; simp
theorem XY (k:Nat) (acc:List UInt8):(mkT k acc).length≤acc.length+k:=by
 induction k using Nat.strongRecOn generalizing acc with
 | _ k ih =>
  unfold mkT
  split
  ·omega
  ·have:=ih (k / 10) (by omega) (UInt8.ofNat (48+k % 10) :: acc)
   simp only [zG] at this
   omega
theorem SY {k:Int} (h:0≤k) (h1:k≤1099511627776):(CW k).size≤9223372036854775807:=by
 have:=XY k.toNat []
 show (109 :: mkT k.toNat []).toArray.size≤_
 simp only [zS,zG,zT] at *
 omega
theorem Ql (K:Nat) (w:World) (h1:1≤K) (h2:(K:Int)≤1099511627776):Calls Tryz.prog 72 #[.int .i64 (K:Int)] w (Ret w (.string (CW K))):=by
 go_enter Tryz.func72,Tryz.ntmps72
 go_wp2
 go_loopw [0,3] (fun n s wr=>∃ (k:Nat) (acc:List UInt8),n=.int .i64 k∧s=.string ⟨acc.toArray⟩∧acc.length+k≤K∧mkT k acc=mkT K []∧Below w.heap.size w wr) (fun n _ _=>(intOf n).toNat)
 case atStart=>exact ⟨K,[],rfl,rfl,by simp,rfl,Below.refl _ _⟩
 case round =>
  obtain ⟨k,acc,rfl,rfl,hle,hok,hbw⟩:=hrel
  have hzw:=hbw.size
  have Hok:=Lib.hid hok
  clear hok
  by_cases hlt:k=0
  ·subst hlt
   go_wp2_with fail
   go_ret
   refine Ret.bel ?_ hbw
   have h0:=Hok.out
   rw [mkT,dif_pos rfl] at h0
   unfold CW
   rw [Int.toNat_natCast,← h0]
   show Value.string (⟨#[109]⟩++⟨acc.toArray⟩)=_
   rw [Pw]
   simp
  ·have hk0:(0:Int)<k:=by omega
   have hr:(wr.alloc (.cells #[.int .u8 (48+(k:Int) % 10)] 5)).cell? ⟨wr.heap.size,0,none⟩=some (.int .u8 (48+(k:Int) % 10)):=by rw [World.cell?_alloc_at _ _ _ _ rfl]; rfl
   have hcv:=run_convert_bytes_back (P:=Tryz.prog) (wr.alloc (.cells #[.int .u8 (48+(k:Int) % 10)] 5)) 168 9 5 ⟨wr.heap.size,0,none⟩ 1 [UInt8.ofNat (48+k % 10)] Tryz.underlying168 Tryz.underlying5 Tryz.underlying9 (fun j hj=>by
    obtain rfl:j=0:=by simpa using hj
    rw [show (⟨wr.heap.size,0,none⟩:Addr).add 0=⟨wr.heap.size,0,none⟩ from rfl,hr]
    have:(UInt8.ofNat (48+k % 10)).toNat=48+k % 10:=by rw [UInt8.toNat_ofNat']; omega
    simp only [yK,this]
    push_cast
    rfl)
   simp only [zG,zT,yU] at hcv
   clear hr
   go_wp2_with fail
   refine ⟨⟨k / 10,UInt8.ofNat (48+k % 10) :: acc,by go_num,?_,?_,?_,(by (repeat' first | (with_reducible exact Below.refl _ _) | (with_reducible refine Below.setCell ?_ ?_ _) | (with_reducible refine Below.alloc ?_ ?_ _) | (with_reducible refine Below.YD ?_ _) | (with_reducible refine Below.via ?_ (by assumption) ?_) | (with_reducible exact zU _) | (simp; done) | (simp; omega) | omega))⟩,?_⟩
   ·rw [Pw]; simp
   ·simp only [zG]; omega
   ·rw [←Hok.out,mkT.eq_def k acc,dif_neg hlt]
   ·simp only [intOf]; omega
def R2 (b:Int):Bool:=decide (97≤b)&&decide (b≤122)
def XZ (b:Int):Bool:=decide (48≤b)&&decide (b≤57)
def Qm (b:Int):Bool:=decide (65≤b)&&decide (b≤90)
def inB (n lo hi:Int):Bool:=decide (lo≤n)&&decide (n≤hi)
theorem J8 (n lo hi:Int) (w:World) :
  Calls Tryz.prog 141 #[.int .i64 n,.int .i64 lo,.int .i64 hi] w (Same w (.bool (inB n lo hi))):=by
 by_cases h1:lo≤n <;> by_cases h2:n≤hi
 all_goals
  go_enter Tryz.func141,Tryz.ntmps141
  go_wp2
  go_ret
  exact Same.mk' _ (by simp [inB,h1,h2])
theorem H9 (n lo hi:Int) (w:World) :
  Calls Tryz.prog 76 #[.int .i64 n,.int .i64 lo,.int .i64 hi] w (Same w (.bool (inB n lo hi))):=by
 by_cases h1:lo≤n <;> by_cases h2:n≤hi
 all_goals
  go_enter Tryz.func76,Tryz.ntmps76
  go_wp2
  go_ret
  exact Same.mk' _ (by simp [inB,h1,h2])
theorem LO (n:Int) (w:World):Calls Tryz.prog 178 #[.int .u8 n] w (Same w (.bool (R2 n))):=by
 by_cases h1:97≤n <;> by_cases h2:n≤122
 all_goals
  go_enter Tryz.func178,Tryz.ntmps178
  go_wp2
  go_ret
  exact Same.mk' _ (by simp [R2,h1,h2])
theorem LP (n:Int) (w:World):Calls Tryz.prog 179 #[.int .u8 n] w (Same w (.bool (XZ n))):=by
 by_cases h1:48≤n <;> by_cases h2:n≤57
 all_goals
  go_enter Tryz.func179,Tryz.ntmps179
  go_wp2
  go_ret
  exact Same.mk' _ (by simp [XZ,h1,h2])
theorem R4 (n:Int) (w:World):Calls Tryz.prog 177 #[.int .u8 n] w (Same w (.bool (Qm n))):=by
 by_cases h1:65≤n <;> by_cases h2:n≤90
 all_goals
  go_enter Tryz.func177,Tryz.ntmps177
  go_wp2
  go_ret
  exact Same.mk' _ (by simp [Qm,h1,h2])
def GH (n:Int):Bool:=R2 n || XZ n
theorem LQ (n:Int) (w:World):Calls Tryz.prog 173 #[.int .u8 n] w (Same w (.bool (GH n))):=by
 by_cases h1:97≤n <;> by_cases h2:n≤122 <;> by_cases h3:48≤n <;> by_cases h4:n≤57 <;> first | (exfalso; omega) | skip
 all_goals
  go_enter Tryz.func173,Tryz.ntmps173
  go_wp2
  go_ret
  exact Same.mk' _ (by simp [GH,R2,XZ,h1,h2,h3,h4])
def HA (s:ByteArray) (k:Nat):Int:=((s.toList.getD k 0).toNat:Int)
theorem DK {s:ByteArray} {k:Nat} (h:k<s.size):(s[k].toNat:Int)=HA s k:=by
 have h':k<s.data.toList.length:=h
 unfold HA
 rw [ByteArray.toList_eq,zX,zK h']
 rfl
def D7 (p:Nat→Int→Bool) (s:ByteArray) (k:Nat):Bool:=(List.range k).all fun j=>p j (HA s j)
theorem EQ {p:Nat→Int→Bool} {s:ByteArray} {k:Nat}:D7 p s (k+1)=(D7 p s k&&p k (HA s k)):=by
 unfold D7
 rw [List.range_succ,List.all_append]
 simp
theorem GI {p:Nat→Int→Bool} {s:ByteArray} {k:Nat} (h:D7 p s k=true) (hk:p k (HA s k)=true):D7 p s (k+1)=true:=by
 rw [EQ,h,hk]; rfl
theorem SZ {p:Nat→Int→Bool} {s:ByteArray} {k n:Nat} (h:D7 p s k=false) (hn:k≤n):D7 p s n=false:=by
 induction n with
 | zero =>
      have:k=0:=by omega
      subst this; exact h
 | succ n ih =>
  by_cases hk:k=n+1
  ·subst hk; exact h
  ·rw [EQ,ih (by omega)]; rfl
theorem DL {p:Nat→Int→Bool} {s:ByteArray} {k:Nat} (hk:k<s.size) (h:p k (HA s k)=false):D7 p s s.size=false :=
 SZ (k:=k+1) (by rw [EQ,h]; simp) (by omega)
def IT (k:Nat) (b:Int):Bool:=(k != 0 || R2 b)&&(GH b || b == 95)
def HC (k:Nat) (b:Int):Bool:=(k != 0 || Qm b)&&(k == 0 || GH b)
def words:List (List UInt8):=[[116,114,117,101],[102,97,108,115,101],[116,114,117,116,104],[98,111,116,104],[101,105,116,104,101,114],[105,102],[97,108,108],[115,111,109,101]]
def Wj (s:ByteArray):Bool:=Vw (fun k=>s.toList == words.getD k []) 8
def DM (s:ByteArray):Bool:=D7 IT s s.size&&inB s.size 1 6&&!Wj s
def AT (s:ByteArray):Bool:=D7 HC s s.size&&inB s.size 1 4
theorem Nx (s:ByteArray) (w:World) (hs:s.size≤9223372036854775807):Calls Tryz.prog 127 #[.string s] w (Same w (.bool (AT s))):=by
  go_enter Tryz.func127,Tryz.ntmps127
  go_wp2
  go_loopw [6] (fun i wr=>Cnt w s.size (fun k=>D7 HC s k=true) i wr) (fun i _=>s.size-(intOf i).toNat)
  case atStart=>exact ⟨0,zM _,rfl,rfl,rfl⟩
  case round =>
    obtain ⟨k,hk,rfl,hok,rfl⟩:=hrel
    have Hok:=Lib.hid hok
    clear hok
    by_cases hlt:k<s.size
    · have Hb:=Lib.hid (DK hlt)
      rcases yG k with rfl | hpos
      all_goals
        go_wp2_with (first
          | (go_at_call 178; refine (LO _ _).mono ?_; rintro e w' ⟨rfl,rfl⟩)
          | (go_at_call 177; refine (R4 _ _).mono ?_; rintro e w' ⟨rfl,rfl⟩)
          | (go_at_call 179; refine (LP _ _).mono ?_; rintro e w' ⟨rfl,rfl⟩))
        all_goals first
          | (go_ret
             refine Same.mk' _ ?_
             unfold AT
             rw [DL hlt (by rw [←Hb.out]; simp_all [HC,GH] <;> omega)]
             rfl)
          | (go_roundw
             case rel=>exact ⟨_,hlt,by go_num,GI Hok.out (by rw [←Hb.out]; simp_all [HC,GH] <;> omega),rfl⟩
             case measure=>first | exact Hq hlt | (simp [intOf]; omega))
    · obtain rfl:k=s.size:=by omega
      go_wp2_with (first
        | (go_at_call 141; refine (J8 _ _ _ _).mono ?_; rintro e w' ⟨rfl,rfl⟩))
      go_ret
      exact Same.mk' _ (by unfold AT; rw [Hok.out]; rfl)
theorem Ta (b n c:Nat) (f:Nat→ByteArray) (x:ByteArray) (w:World) (hn:n≤9223372036854775807)
  (hc:∀ k,k<n→w.cell? ⟨b,k,none⟩=some (.string (f k))):Calls Tryz.prog 214 #[.slice (some ⟨b,0,none⟩) n c,.string x] w (Same w (.int .i64 (QO (fun k=>x.toList == (f k).toList) n))):=by
 go_enter Tryz.func214,Tryz.ntmps214
 go_wp2
 go_loopw [8] (fun i wr=>Cnt w n (fun k=>∀ j,j<k→(x.toList == (f j).toList)=false) i wr) (fun i _=>n-(intOf i).toNat)
 case atStart=>exact ⟨0,zM _,rfl,fun j hj=>absurd hj (by omega),rfl⟩
 case round =>
  obtain ⟨k,hk,rfl,hok,rfl⟩:=hrel
  have Hok:=Lib.hid hok
  clear hok
  by_cases hlt:k<n
  ·have hck:=hc k (by omega)
   go_wp2_with fail
   ·go_ret
    exact Same.mk' _ (by rw [QP hlt Hok.out (by assumption)]; rfl)
   ·go_roundw
    case rel=>exact ⟨_,hlt,by go_num,QR Hok.out (by assumption),rfl⟩
    case measure=>exact Hq hlt
  ·obtain rfl:k=n:=by omega
   go_wp2_with fail
   go_ret
   exact Same.mk' _ (by rw [OP Hok.out]; rfl)
theorem O1 (b n c:Nat) (f:Nat→ByteArray) (x:ByteArray) (w:World) (hn:n≤9223372036854775807)
  (hc:∀ k,k<n→w.cell? ⟨b,k,none⟩=some (.string (f k))):Calls Tryz.prog 180 #[.slice (some ⟨b,0,none⟩) n c,.string x] w (Same w (.bool (Vw (fun k=>x.toList == (f k).toList) n))):=by
 have Hc:=Lib.hid hc
 clear hc
 go_enter Tryz.func180,Tryz.ntmps180
 go_wp2_with (first
  |(go_at_call 214; refine (Ta _ _ _ f _ _ hn Hc.out).mono ?_; rintro e w' ⟨rfl,rfl⟩))
 go_ret
 exact Same.mk' _ (by rw [←Xt]; rfl)
theorem Qn (w:World):Calls Tryz.prog 181 #[] w fun e w'=>e=.returned (.slice (some ⟨w.heap.size,0,none⟩) 8 8)∧w'=w.alloc (.cells ((words.map fun l=>Value.string ⟨l.toArray⟩).toArray) 9):=by
 go_enter Tryz.func181,Tryz.ntmps181
 go_wp2
 go_ret
 exact ⟨rfl,rfl⟩
theorem R5 (w:World):∀ k,k<8→(w.alloc (.cells ((words.map fun l=>Value.string ⟨l.toArray⟩).toArray) 9)).cell? ⟨w.heap.size,k,none⟩=some (.string ⟨(words.getD k []).toArray⟩):=by
 intro k hk
 have hh:(w.alloc (.cells ((words.map fun l=>Value.string ⟨l.toArray⟩).toArray) 9)).heap[w.heap.size]?=some (.cells ((words.map fun l=>Value.string ⟨l.toArray⟩).toArray) 9):=heap_alloc_new w _
 unfold World.cell?
 rw [hh]
 match k,hk with
 | 0,_=>rfl
 | 1,_=>rfl
 | 2,_=>rfl
 | 3,_=>rfl
 | 4,_=>rfl
 | 5,_=>rfl
 | 6,_=>rfl
 | 7,_=>rfl
theorem Qo (s:ByteArray) (w:World) (hs:s.size≤9223372036854775807):Calls Tryz.prog 128 #[.string s] w (Ret w (.bool (DM s))):=by
  go_enter Tryz.func128,Tryz.ntmps128
  go_wp2
  go_loopw [6] (fun i wr=>Cnt w s.size (fun k=>D7 IT s k=true) i wr) (fun i _=>s.size-(intOf i).toNat)
  case atStart=>exact ⟨0,zM _,rfl,rfl,rfl⟩
  case round =>
    obtain ⟨k,hk,rfl,hok,rfl⟩:=hrel
    have Hok:=Lib.hid hok
    clear hok
    by_cases hlt:k<s.size
    · have Hb:=Lib.hid (DK hlt)
      rcases yG k with rfl | hpos
      all_goals
        go_wp2_with (first
          | (go_at_call 178; refine (LO _ _).mono ?_; rintro e w' ⟨rfl,rfl⟩)
          | (go_at_call 179; refine (LP _ _).mono ?_; rintro e w' ⟨rfl,rfl⟩))
        all_goals first
          | (go_ret
             refine Ret.same _ ?_
             unfold DM
             rw [DL hlt (by rw [←Hb.out]; simp_all [IT,GH] <;> omega)]
             rfl)
          | (go_roundw
             case rel=>exact ⟨_,hlt,by go_num,GI Hok.out (by rw [←Hb.out]; simp_all [IT,GH] <;> omega),rfl⟩
             case measure=>first | exact Hq hlt | (simp [intOf]; omega))
    · obtain rfl:k=s.size:=by omega
      cases hin:inB s.size 1 6
      · go_wp2_with (first
          | (go_at_call 141; refine (J8 _ _ _ _).mono ?_; rintro e w' ⟨rfl,rfl⟩))
        go_ret
        exact Ret.same _ (by unfold DM; rw [hin]; simp)
      · go_wp2_with (first
          | (go_at_call 141; refine (J8 _ _ _ _).mono ?_; rintro e w' ⟨rfl,rfl⟩)
          | (go_at_call 181; refine (Qn _).mono ?_; rintro e w' ⟨rfl,rfl⟩)
          | (go_at_call 180; refine (O1 _ _ _ (fun k=>⟨(words.getD k []).toArray⟩) _ _ (by omega) (R5 w)).mono ?_; rintro e w' ⟨rfl,rfl⟩))
        go_ret
        refine Ret.bel ?_ ((Below.refl _ _).alloc (zU _) _)
        unfold DM Wj
        rw [hin,Hok.out]
        simp
theorem UE (s:ByteArray) (w:World) (hs:s.size≤9223372036854775807):Calls Tryz.prog 118 #[.string s] w (Same w (.bool (AT s))):=by
  cases hin:inB s.size 1 4
  · go_enter Tryz.func118,Tryz.ntmps118
    go_wp2_with (first
      | (go_at_call 76; refine (H9 _ _ _ _).mono ?_; rintro e w' ⟨rfl,rfl⟩))
    go_ret
    exact Same.mk' _ (by unfold AT; rw [hin]; simp)
  · have hpos:0<s.size:=by simp [inB] at hin; omega
    have Hb:=Lib.hid (DK hpos)
    go_enter Tryz.func118,Tryz.ntmps118
    go_wp2_with (first
      | (go_at_call 76; refine (H9 _ _ _ _).mono ?_; rintro e w' ⟨rfl,rfl⟩))
    all_goals first
      | (go_ret
         refine Same.mk' _ ?_
         unfold AT
         rw [DL hpos (by rw [←Hb.out]; simp [HC,Qm]; omega)]
         rfl)
      | skip
    · go_loopw [3] (fun i wr=>Cnt w s.size (fun k=>1≤k∧D7 HC s k=true) i wr) (fun i _=>s.size-(intOf i).toNat)
      case atStart=>exact ⟨1,hpos,rfl,⟨zU _,by rw [EQ,← Hb.out]; simp [D7,HC,Qm]; omega⟩,rfl⟩
      case round =>
        obtain ⟨k,hk,rfl,⟨hk1,hok⟩,rfl⟩:=hrel
        have Hok:=Lib.hid hok
        clear hok
        by_cases hlt:k<s.size
        · have Hbk:=Lib.hid (DK hlt)
          have hk0:k≠0:=by omega
          go_wp2_with (first
            | (go_at_call 173; refine (LQ _ _).mono ?_; rintro e w' ⟨rfl,rfl⟩))
          all_goals first
            | (go_ret
               refine Same.mk' _ ?_
               unfold AT
               rw [DL hlt (by rw [←Hbk.out]; simp_all [HC] <;> omega)]
               rfl)
            | (go_roundw
               case rel=>exact ⟨_,hlt,by go_num,⟨by omega,GI Hok.out (by rw [←Hbk.out]; simp_all [HC] <;> omega)⟩,rfl⟩
               case measure=>first | exact Hq hlt | (simp [intOf]; omega))
        · obtain rfl:k=s.size:=by omega
          go_wp2_with fail
          go_ret
          exact Same.mk' _ (by unfold AT; rw [Hok.out,hin]; rfl)
theorem Ua (s:ByteArray):Wj s=(s.toList == [116,114,117,101] || s.toList == [102,97,108,115,101] || s.toList == [116,114,117,116,104] || s.toList == [98,111,116,104] || s.toList == [101,105,116,104,101,114] || s.toList == [105,102] || s.toList == [97,108,108] || s.toList == [115,111,109,101]):=by
 unfold Wj Vw words
 simp [List.range,List.range.loop,Bool.or_assoc]
theorem Qp (s:ByteArray) (w:World) (hs:s.size≤9223372036854775807):Calls Tryz.prog 119 #[.string s] w (Same w (.bool (DM s))):=by
  cases hin:inB s.size 1 6
  · go_enter Tryz.func119,Tryz.ntmps119
    go_wp2_with (first
      | (go_at_call 76; refine (H9 _ _ _ _).mono ?_; rintro e w' ⟨rfl,rfl⟩))
    go_ret
    exact Same.mk' _ (by unfold DM; rw [hin]; simp)
  · have hpos:0<s.size:=by simp [inB] at hin; omega
    have Hb:=Lib.hid (DK hpos)
    cases hres:Wj s
    case true =>
      have Hres:=Lib.hid hres
      rw [Ua] at hres
      go_enter Tryz.func119,Tryz.ntmps119
      go_wp2_with (first
        | (go_at_call 76; refine (H9 _ _ _ _).mono ?_; rintro e w' ⟨rfl,rfl⟩))
      all_goals first
        | (go_ret
           refine Same.mk' _ ?_
           unfold DM
           rw [Hres.out]; simp)
        | (exfalso; simp_all; done)
    have Hres:=Lib.hid hres
    rw [Ua] at hres
    simp only [Bool.or_eq_false_iff] at hres
    obtain ⟨⟨⟨⟨⟨⟨⟨e1,e2⟩,e3⟩,e4⟩,e5⟩,e6⟩,e7⟩,e8⟩:=hres
    go_enter Tryz.func119,Tryz.ntmps119
    go_wp2_with (first
      | (go_at_call 76; refine (H9 _ _ _ _).mono ?_; rintro e w' ⟨rfl,rfl⟩))
    all_goals first
      | (go_ret
         refine Same.mk' _ ?_
         unfold DM
         rw [DL hpos (by rw [←Hb.out]; simp [IT,R2]; omega)]; rfl)
      | skip
    go_loopw [3] (fun i wr=>Cnt w s.size (fun k=>1≤k∧D7 IT s k=true) i wr) (fun i _=>s.size-(intOf i).toNat)
    case atStart=>exact ⟨1,hpos,rfl,⟨zU _,by rw [EQ,← Hb.out]; simp [D7,IT,GH,R2]; omega⟩,rfl⟩
    case round =>
      obtain ⟨k,hk,rfl,⟨hk1,hok⟩,rfl⟩:=hrel
      have Hok:=Lib.hid hok
      clear hok
      by_cases hlt:k<s.size
      · have Hbk:=Lib.hid (DK hlt)
        have hk0:k≠0:=by omega
        go_wp2_with (first
          | (go_at_call 173; refine (LQ _ _).mono ?_; rintro e w' ⟨rfl,rfl⟩))
        all_goals first
          | (go_ret
             refine Same.mk' _ ?_
             unfold DM
             rw [DL hlt (by rw [←Hbk.out]; simp_all [IT] <;> omega)]
             rfl)
          | (go_roundw
             case rel=>exact ⟨_,hlt,by go_num,⟨by omega,GI Hok.out (by rw [←Hbk.out]; simp_all [IT] <;> omega)⟩,rfl⟩
             case measure=>first | exact Hq hlt | (simp [intOf]; omega))
      · obtain rfl:k=s.size:=by omega
        go_wp2_with fail
        go_ret
        exact Same.mk' _ (by unfold DM; rw [Hok.out,hin,Hres.out]; rfl)
end Go.Proofs.YtkjpmfmjebkkiaaGreat
set_option maxRecDepth 100000
namespace Go.Proofs.YtkjpmfmjebkkiaaGreat
open Go.Shelf
def so_CloneS_ren:Go.Shelf.Ren:=⟨fun | 16=>203 | n=>n,fun | 24=>95 | 9=>9 | 4=>4 | n=>n,fun | n=>n⟩
theorem Lf:Go.Proofs.Lays2.n16 Tryz.prog so_CloneS_ren:={
 mixed:=by kernel_rfl,
 f16:=Tryz.func203.trans (congrArg some (by kernel_rfl)),
 t4:=Tryz.underlying4,
 a4:=Tryz.isAgg4,
 z4:=Tryz.sizeOf4,
 v4:=Tryz.zeroValue4,
 t9:=Tryz.underlying9,
 a9:=Tryz.isAgg9,
 z9:=Tryz.sizeOf9,
 v9:=Tryz.zeroValue9,
 t24:=Tryz.underlying95,
 a24:=Tryz.isAgg95,
 z24:=Tryz.sizeOf95,
 v24:=Tryz.zeroValue95,
 i9:=by kernel_rfl }
end Go.Proofs.YtkjpmfmjebkkiaaGreat
set_option maxRecDepth 100000
set_option linter.unusedSimpArgs false
set_option linter.unusedVariables false
set_option linter.unusedSectionVars false
namespace Go.Proofs.YtkjpmfmjebkkiaaGreat
open Go.RowKit
theorem HD {w w':World} {I:Nat→Prop} {V:Nat→Option Value} {B:Nat→Nat→Prop} (hwf:Wf w I V B (Am [])) (hbel:Below w.heap.size w w') {v:Value} {t:TypeId} {os:List OT} {vals:List Value} (hl:vals.length=os.length)
  (hown:w'.ownsRow w.heap.size t 1 v os.length vals) (hv:∀ i (h:i<os.length),ORep w' I (fun _=>False) os[i] (vals.getD i undef)) :
  ∃ V' B',RepV w' I V' (.ref 0) v∧FunPost w I V B [] [.row t 1 (os.map fun o=>[o])] w' I V' B':=by
 have hV0:V 0=none:=hwf.fr 0 rfl
 have hn:=hbel.size
 have gS:∀ (e:List (List OT)) (g:Nat),Am [Ob.row t 1 e] (g+1)=.free:=fun _ _=>rfl
 obtain ⟨hx,hform⟩:=hown
 let B':Nat→Nat→Prop:=fun g b=>g=0∧w.heap.size≤b∧b<w'.heap.size∧∃ o n c,v=.slice (some ⟨b,o,none⟩) n c
 have hform2:∃ a n c,v=.slice a n c:=by
  rcases hform with ⟨rfl,_⟩ | ⟨g,cap,cur,rfl,_⟩
  ·exact ⟨_,_,_,rfl⟩
  ·exact ⟨_,_,_,rfl⟩
 have hrow:RowR w' I (B' 0) t 1 (os.map fun o=>[o]) v:=by
  rcases hform with ⟨rfl,h0⟩ | ⟨g,cap,cur,rfl,hg,hb,h1,h2,h3,h4⟩
  ·left
   have:os=[]:=zE h0
   subst this
   exact ⟨rfl,rfl⟩
  ·right
   have hlt:=(zL.1 hb).1
   refine ⟨g,cap,cur,fun _ _ _=>False,by rw [zQ],⟨rfl,hg,hlt,_,_,_,rfl⟩,hb,by rw [zQ]; exact h1,by unfold maxLen at h2; omega,h3,fun i hi=>by simp,fun _ _ _ h=>h.elim,fun _ _ _ _ _ h=>h.elim,fun i j hi hj=>?_⟩
   have hi':i<os.length:=by simpa using hi
   have hj0:j=0:=by simpa using hj
   subst hj0
   have e:cur.getD (i*1+0) undef=vals.getD i undef:=by
    have hc:i<cur.size:=by omega
    rw [←h4,yY,yV,yD,zX,List.getElem?_take]
    simp only [yY,hi',if_true,Array.getElem?_toList]
   rw [e]
   have:=hv i hi'
   simpa using this
 refine ⟨fun g=>if g=0 then some v else V g,B',?_,?_⟩
 ·simp only [RepV]
  exact ⟨by simp,by obtain ⟨a,n,c,e⟩:=hform2; rw [e]; rfl⟩
 ·refine ⟨⟨hbel.os,⟨hbel.tape,fun h=>False.elim h⟩,hbel.output,hn,fun x hx _=>hbel.block x hx⟩,fun x hx=>hx,fun x hx=>.inl hx,fun g u hu=>?_,⟨fun x hx=>zZ (hwf.ilt x hx) hn,fun g hl=>?_,fun g b hl hb=>hb.2.2.1,fun g b hl hb hI=>?_,fun g g' b hl hl' hb hb'=>?_,fun g hg=>?_,hwf.gl.keep ⟨hn,fun x _ hlt=>hbel.block x hlt⟩ fun _ h=>h⟩,fun g b hl hb=>.inr hb.2.1⟩
  ·by_cases h0:g=0
   ·subst h0; rw [hV0] at hu; cases hu
   ·simp only [if_neg h0]; exact hu
  ·cases g with
   | zero=>exact ⟨v,by simp,hrow⟩
   | succ g=>rw [gS] at hl; exact hl.elim
  ·have:=hwf.ilt b hI
   have:=hb.2.1
   omega
  ·rw [hb.1,hb'.1]
  ·cases g with
   | zero=>cases hg
   | succ g=>simp only [Nat.add_eq_zero_iff,Nat.succ_ne_self,and_false,if_false]; exact hwf.fr (g+1) rfl
theorem Tc {w:World} {I:Nat→Prop} {es:List (List D)} {v:Value} (h:DRep false w I (.arr es) v) (hsz:∀ e∈es,e.length=1) :
  (es=[]∧∃ a c,v=.slice a 0 c)∨∃ b off cap,v=.slice (some ⟨b,off,none⟩) es.length cap∧∀ i (hi:i<es.length),∃ u,w.cell? ⟨b,off+i,none⟩=some u∧∃ S,DRep false w S (es[i].headD (.int 0)) u:=by
 cases h with
 | arr S sz es a cap f Sub h1 h2 h3 h4 h5 h6 h7 =>
  rcases h3 with h3 | ⟨b,off,rfl,hS,hb,hc,_⟩
  ·left
   have he:es=[]:=zE h3
   subst he
   exact ⟨rfl,_,_,rfl⟩
  ·rcases yG es.length with h0 | h0
   ·left
    have he:es=[]:=zE h0
    subst he
    exact ⟨rfl,_,_,rfl⟩
   ·right
    have hs1:sz=1:=by rw [←h4 0 h0]; exact hsz _ (zH h0)
    subst hs1
    refine ⟨b,off,cap,rfl,fun i hi=>⟨f i 0,by have:=hc i 0 hi (by omega); simpa using this,Sub i 0,?_⟩⟩
    have hl:=hsz _ (zH hi)
    have:=h7 i 0 hi (by omega)
    have key:∀ (l:List D) (h:0<l.length),l.headD (.int 0)=l[0]:=fun l h=>by
     cases l with
     | nil=>cases h
     | cons d r=>rfl
    have e:=key es[i] (by omega)
    rw [e]
    exact this
def unS:List D→ByteArray
 | D.str s :: _=>s
 | _=>⟨#[]⟩
noncomputable def Lg (xs:List SV) (ob:List Ob):Option (SV × List Ob) :=
 match xs,ob with
 | [.arr es],[]=>bif dec ((∀ e∈es,∃ s,e=[D.str s])∧es.length≤1048576) then some (.ref 0,[.row 9 1 (es.map fun e=>[OT.str (unS e)])]) else none
 | _,_=>none
theorem R6 {xs:List SV} {ob:List Ob} {r:SV} {ob':List Ob} (h:Lg xs ob=some (r,ob')):Fun Tryz.prog 203 xs ob r ob':=by
 unfold Lg at h
 split at h
 ·rename_i es
  obtain ⟨h1,h2⟩:=Ao h
  obtain ⟨k1,k2⟩:=Ap.1 h1
  simp only [zI,zR] at h2
  obtain ⟨rfl,rfl⟩:=h2
  intro w I V B vs hwf hvs
  obtain ⟨v,q,rfl,hv,hvs⟩:=Dp hvs
  obtain rfl:=LN hvs
  simp only [RepV] at hv
  have hsz:∀ e∈es,e.length=1:=fun e he=>by obtain ⟨s,rfl⟩:=k1 e he; rfl
  have hmap:(es.map fun e=>[OT.str (unS e)])=((es.map fun e=>OT.str (unS e)).map fun o=>[o]):=by rw [List.map_map]; rfl
  rcases Tc hv hsz with ⟨rfl,a,c,rfl⟩ | ⟨b,off,cap,rfl,hcell⟩
  ·cases a with
   | none =>
    have hcon:=Any.slices_Clone_string_nil Lf 0 c w
    change Calls Tryz.prog 203 _ _ _ at hcon
    refine hcon.mono ?_
    rintro e w' ⟨rfl,rfl⟩
    obtain ⟨V',B',h3,h4⟩:=HD (t:=9) (os:=[]) (vals:=[]) hwf (Below.refl _ _) rfl ⟨rfl,.inl ⟨rfl,rfl⟩⟩ (fun i h=>absurd h (by simp))
    exact ⟨_,I,V',B',rfl,h3,h4⟩
   | some a =>
    have hcon:=Any.slices_Clone_string_zero Lf a c w
    change Calls Tryz.prog 203 _ _ _ at hcon
    refine hcon.mono ?_
    rintro e w' ⟨v',rfl,hown,_,hbel⟩
    obtain ⟨V',B',h3,h4⟩:=HD (t:=9) (os:=[]) (vals:=[]) hwf hbel rfl hown (fun i h=>absurd h (by simp))
    exact ⟨_,I,V',B',rfl,h3,h4⟩
  ·obtain ⟨zs,hzs⟩:∃ zs,zs=es.map unS:=⟨_,rfl⟩
   have hzl:zs.length=es.length:=by rw [hzs,zQ]
   have hcz:∀ j (hj:j<es.length),w.cell? ⟨b,off+j,none⟩=some (Value.string (unS es[j]))∧(unS es[j]).size≤9223372036854775807:=fun j hj=>by
    obtain ⟨u,hu,S,hd⟩:=hcell j hj
    obtain ⟨s,he⟩:=k1 es[j] (zH hj)
    rw [he] at hd ⊢
    simp only [List.headD_cons] at hd
    cases hd
    exact ⟨hu,by assumption⟩
   have hcon:=Any.slices_Clone_string Lf b off es.length cap zs w (by omega) (by omega) (fun j hj=>by
    have hj':j<es.length:=by omega
    rw [(hcz j hj').1]
    rw [zX,zK hj]
    simp [hzs])
   change Calls Tryz.prog 203 _ _ _ at hcon
   refine hcon.mono ?_
   rintro e w' ⟨v',rfl,hown,_,hbel⟩
   have ht:zs.take es.length=zs:=List.take_of_length_le (by omega)
   rw [ht] at hown
   have hown2:w'.ownsRow w.heap.size 9 1 v' (es.map fun e=>OT.str (unS e)).length (zs.map Value.string):=by rw [zQ]; exact hown
   obtain ⟨V',B',h3,h4⟩:=HD (t:=9) (os:=es.map fun e=>OT.str (unS e)) (vals:=zs.map Value.string) hwf hbel (by simp [hzl]) hown2 (fun i hi=>by
    have hi':i<es.length:=by simpa using hi
    have e:(zs.map Value.string).getD i undef=Value.string (unS es[i]):=by
     rw [zX,List.getElem?_map,zK (by omega)]
     simp [hzs]
    rw [e,z6]
    exact .str _ _ (hcz i hi').2)
   rw [hmap]
   exact ⟨_,I,V',B',rfl,h3,h4⟩
 ·cases h
end Go.Proofs.YtkjpmfmjebkkiaaGreat
set_option maxRecDepth 100000
set_option linter.unusedSimpArgs false
set_option linter.unusedVariables false
set_option linter.unusedSectionVars false
namespace Go.Proofs.YtkjpmfmjebkkiaaGreat
open Go.RowKit Go.Shelf Go.Lib Go.Sort
theorem Ya {w w':World} {I:Nat→Prop} {V:Nat→Option Value} {B:Nat→Nat→Prop} {t:TypeId} {sz:Nat} {es es':List (List OT)} {b cap:Nat} {cur cur':Array Value} (Sub:Nat→Nat→Nat→Prop)
  (hwf:Wf w I V B (Am [.row t sz es])) (hv:V 0=some (.slice (some ⟨b,0,none⟩) es.length cap)) (hn:es'.length=es.length) (hs:B 0 b) (hb:w.heap[b]?=some (.cells cur t (0,0)))
  (h1:es.length≤cap) (h2:cap≤9223372036854775807) (h3:cur.size=cap*sz) (h4:∀ i (h:i<es'.length),es'[i].length=sz) (h5:∀ i j x,Sub i j x→B 0 x∧x≠b)
  (h6:∀ i j i' j' x,Sub i j x→Sub i' j' x→i=i'∧j=j')
  (hos:w'.os=w.os) (htape:TapeOk w w') (hout:w'.output=w.output) (hsz:w.heap.size≤w'.heap.size) (hblk:∀ x,x<w.heap.size→x≠b→w'.heap[x]?=w.heap[x]?)
  (hb':w'.heap[b]?=some (.cells cur' t (0,0))) (hcs:cur'.size=cur.size)
  (h7:∀ i j (h:i<es'.length) (h':j<es'[i].length),ORep w' I (Sub i j) (es'[i][j]) (cur'.getD (i*sz+j) undef)) :
  FunPost w I V B [.row t sz es] [.row t sz es'] w' I V B:=by
 have g0:∀ (e:List (List OT)),Am [Ob.row t sz e] 0=.row t sz e:=fun _=>rfl
 have gS:∀ (e:List (List OT)) (g:Nat),Am [Ob.row t sz e] (g+1)=.free:=fun _ _=>rfl
 have lv:∀ (e e':List (List OT)) (g:Nat),(Am [Ob.row t sz e] g).live→(Am [Ob.row t sz e'] g).live:=fun e e' g h=>by
  cases g with
  | zero=>trivial
  | succ g=>rw [gS] at h; exact h.elim
 have hbS:∀ x,B 0 x→HB B [Ob.row t sz es] x:=fun x hx=>⟨0,trivial,hx⟩
 refine ⟨⟨hos,htape,hout,hsz,fun x hx hn=>hblk x hx fun e=>hn (hbS x (e▸hs))⟩,fun _ h=>h,fun _ h=>.inl h,VLe.refl _,?_,fun g x hl hx=>.inl ⟨g,lv _ _ g hl,hx⟩⟩
 refine ⟨fun x hx=>zZ (hwf.ilt x hx) hsz,fun g hl=>?_,fun g x hl hx=>zZ (hwf.lt g x (lv _ _ g hl) hx) hsz,fun g x hl hx=>hwf.dI g x (lv _ _ g hl) hx,fun g g' x hl hl' hx hx'=>hwf.dO g g' x (lv _ _ g hl) (lv _ _ g' hl') hx hx',fun g hf=>?_,hwf.gl.keep ⟨hsz,fun x hx hlt=>hblk x hlt fun e=>hwf.dI 0 x trivial (e▸hs) hx⟩ fun _ h=>h⟩
 ·cases g with
  | zero =>
   refine ⟨_,hv,.inr ⟨b,cap,cur',Sub,by rw [hn],hs,hb',by rw [hn]; exact h1,h2,by rw [hcs]; exact h3,h4,h5,h6,h7⟩⟩
  | succ g=>rw [gS] at hl; exact hl.elim
 ·cases g with
  | zero=>cases hf
  | succ g=>exact hwf.fr (g+1) rfl
theorem Wk {w:World} {I:Nat→Prop} {V:Nat→Option Value} {B:Nat→Nat→Prop} {ob:List Ob} (hwf:Wf w I V B (Am ob)):FunPost w I V B ob ob w I V B :=
 ⟨⟨rfl,TapeOk.mk' rfl rfl,rfl,zU _,fun _ _ _=>rfl⟩,fun _ h=>h,fun _ h=>.inl h,VLe.refl _,hwf,fun g b hl hb=>.inl ⟨g,hl,hb⟩⟩
def Td:List OT→ByteArray
 | .str s :: _=>s
 | _=>⟨#[]⟩
end Go.Proofs.YtkjpmfmjebkkiaaGreat
set_option maxRecDepth 100000
namespace Go.Proofs.YtkjpmfmjebkkiaaGreat
open Go.Shelf
def so_SortS_ren:Go.Shelf.Ren:=⟨fun | 190=>160 | 125=>205 | 258=>204 | 128=>232 | 129=>233 | 302=>223 | 303=>224 | 304=>225 | 305=>226 | 306=>227 | 307=>228 | 308=>229 | 309=>230 | 310=>231 | 333=>239 | 329=>240 | 330=>241 | 334=>242 | 335=>243 | 336=>235 | 344=>247 | n=>n,fun | 31=>95 | 9=>9 | 3=>3 | 46=>219 | 0=>0 | 51=>240 | 53=>242 | 4=>4 | 183=>233 | 182=>232 | 131=>120 | 5=>5 | 218=>246 | 222=>250 | 228=>255 | 229=>256 | n=>n,fun | n=>n⟩
theorem R7:Go.Proofs.Lays.n190 Tryz.prog so_SortS_ren:={
 mixed:=by kernel_rfl,
 f125:=Tryz.func205.trans (congrArg some (by kernel_rfl)),
 f128:=Tryz.func232.trans (congrArg some (by kernel_rfl)),
 f129:=Tryz.func233.trans (congrArg some (by kernel_rfl)),
 f190:=Tryz.func160.trans (congrArg some (by kernel_rfl)),
 f258:=Tryz.func204.trans (congrArg some (by kernel_rfl)),
 f302:=Tryz.func223.trans (congrArg some (by kernel_rfl)),
 f303:=Tryz.func224.trans (congrArg some (by kernel_rfl)),
 f304:=Tryz.func225.trans (congrArg some (by kernel_rfl)),
 f305:=Tryz.func226.trans (congrArg some (by kernel_rfl)),
 f306:=Tryz.func227.trans (congrArg some (by kernel_rfl)),
 f307:=Tryz.func228.trans (congrArg some (by kernel_rfl)),
 f308:=Tryz.func229.trans (congrArg some (by kernel_rfl)),
 f309:=Tryz.func230.trans (congrArg some (by kernel_rfl)),
 f310:=Tryz.func231.trans (congrArg some (by kernel_rfl)),
 f329:=Tryz.func240.trans (congrArg some (by kernel_rfl)),
 f330:=Tryz.func241.trans (congrArg some (by kernel_rfl)),
 f333:=Tryz.func239.trans (congrArg some (by kernel_rfl)),
 f334:=Tryz.func242.trans (congrArg some (by kernel_rfl)),
 f335:=Tryz.func243.trans (congrArg some (by kernel_rfl)),
 f336:=Tryz.func235.trans (congrArg some (by kernel_rfl)),
 f344:=Tryz.func247.trans (congrArg some (by kernel_rfl)),
 t0:=Tryz.underlying0,
 a0:=Tryz.isAgg0,
 z0:=Tryz.sizeOf0,
 v0:=Tryz.zeroValue0,
 t3:=Tryz.underlying3,
 a3:=Tryz.isAgg3,
 z3:=Tryz.sizeOf3,
 v3:=Tryz.zeroValue3,
 t4:=Tryz.underlying4,
 a4:=Tryz.isAgg4,
 z4:=Tryz.sizeOf4,
 v4:=Tryz.zeroValue4,
 t5:=Tryz.underlying5,
 a5:=Tryz.isAgg5,
 z5:=Tryz.sizeOf5,
 v5:=Tryz.zeroValue5,
 t9:=Tryz.underlying9,
 a9:=Tryz.isAgg9,
 z9:=Tryz.sizeOf9,
 v9:=Tryz.zeroValue9,
 t31:=Tryz.underlying95,
 a31:=Tryz.isAgg95,
 z31:=Tryz.sizeOf95,
 v31:=Tryz.zeroValue95,
 t46:=Tryz.underlying219,
 a46:=Tryz.isAgg219,
 z46:=Tryz.sizeOf219,
 v46:=Tryz.zeroValue219,
 t51:=Tryz.underlying240,
 a51:=Tryz.isAgg240,
 z51:=Tryz.sizeOf240,
 v51:=Tryz.zeroValue240,
 t53:=Tryz.underlying242,
 a53:=Tryz.isAgg242,
 z53:=Tryz.sizeOf242,
 v53:=Tryz.zeroValue242,
 t131:=Tryz.underlying120,
 a131:=Tryz.isAgg120,
 z131:=Tryz.sizeOf120,
 v131:=Tryz.zeroValue120,
 t182:=Tryz.underlying232,
 a182:=Tryz.isAgg232,
 z182:=Tryz.sizeOf232,
 v182:=Tryz.zeroValue232,
 t183:=Tryz.underlying233,
 a183:=Tryz.isAgg233,
 z183:=Tryz.sizeOf233,
 v183:=Tryz.zeroValue233,
 t218:=Tryz.underlying246,
 a218:=Tryz.isAgg246,
 z218:=Tryz.sizeOf246,
 v218:=Tryz.zeroValue246,
 t222:=Tryz.underlying250,
 a222:=Tryz.isAgg250,
 z222:=Tryz.sizeOf250,
 v222:=Tryz.zeroValue250,
 t228:=Tryz.underlying255,
 a228:=Tryz.isAgg255,
 z228:=Tryz.sizeOf255,
 v228:=Tryz.zeroValue255,
 t229:=Tryz.underlying256,
 a229:=Tryz.isAgg256,
 z229:=Tryz.sizeOf256,
 v229:=Tryz.zeroValue256 }
end Go.Proofs.YtkjpmfmjebkkiaaGreat
set_option maxRecDepth 100000
set_option linter.unusedSimpArgs false
set_option linter.unusedVariables false
set_option linter.unusedSectionVars false
namespace Go.Proofs.YtkjpmfmjebkkiaaGreat
open Go.RowKit Go.Shelf Go.Lib Go.Sort
theorem Px (w:World) (b m:Nat) (ss:List (List UInt8)) (os:Array Obj) (x:Nat) (hx:x<w.heap.size) :
  (Sort.grow (putRow encStr (Sort.ahead w m) b 0 ss.toArray) os).heap[x]?=if b=x then (w.heap[x]?).map (onCells (putCells encStr 0 ss.toArray)) else w.heap[x]?:=by
 unfold Sort.grow putRow mapBlock Sort.ahead
 have hx':x<(w.heap.modify b (onCells (putCells encStr 0 ss.toArray))).size:=by simpa using hx
 simp only [Array.getElem?_append,Array.size_modify,hx,if_true,Array.getElem?_modify]
def srt (ss:List (List UInt8)):List (List UInt8):=ss.mergeSort fun x y=>decide (x≤y)
def Ub (l:List UInt8):List OT:=[.str ⟨l.toArray⟩]
noncomputable def sortStr (xs:List SV) (ob:List Ob):Option (SV × List Ob) :=
 match xs,ob with
 | [.ref 0],[.row t sz es]=>bif dec (sz=1∧(∀ e∈es,∃ s,e=[.str s])∧es.length≤1099511627776) then some (.tup [],[.row t sz ((srt (es.map fun e=>(Td e).toList)).map Ub)]) else none
 | _,_=>none
theorem ORep.ZT {w:World} {I S:Nat→Prop} {s:ByteArray} {v:Value} (h:ORep w I S (.str s) v):v=.string s∧s.size≤9223372036854775807:=by
 cases h with
 | str _ _ hz=>exact ⟨rfl,hz⟩
theorem J9 (s:ByteArray):(⟨s.toList.toArray⟩:ByteArray)=s:=KX (by rw [ByteArray.toList_eq])
theorem Qq {xs:List SV} {ob:List Ob} {r:SV} {ob':List Ob} (h:sortStr xs ob=some (r,ob')):Fun Tryz.prog 160 xs ob r ob':=by
 unfold sortStr at h
 split at h
 ·rename_i t sz es
  obtain ⟨h1,h2⟩:=Ao h
  obtain ⟨rfl,hk1,hk3⟩:=Ap.1 h1
  simp only [zI,zR] at h2
  obtain ⟨rfl,rfl⟩:=h2
  intro w I V B vs hwf hvs
  obtain ⟨v,q,rfl,hv,hvs⟩:=Dp hvs
  obtain rfl:=LN hvs
  simp only [RepV] at hv
  obtain ⟨val,hval,hrow⟩:=hwf.obj 0 trivial
  rw [hv.1] at hval
  obtain rfl:=zD hval
  have hv0:=hv.1
  have hrow:RowR w I (B 0) t 1 es v:=hrow
  rcases yG es.length with h0 | h0
  ·have he:es=[]:=zE h0
   subst he
   obtain ⟨a,c,rfl,_⟩:=hrow.form
   have hcon:=Any.slices_Sort_string_none R7 a c w
   change Calls Tryz.prog 160 _ _ _ at hcon
   refine hcon.mono ?_
   rintro e w' ⟨rfl,rfl⟩
   have e0:(srt ([].map fun e:List OT=>(Td e).toList)).map Ub=[]:=by simp [srt]
   rw [e0]
   exact ⟨_,I,V,B,rfl,by simp only [RepV,RepVs]; exact ⟨[],rfl,rfl⟩,Wk hwf⟩
  ·rcases hrow with ⟨he,_⟩ | ⟨b,cap,cur,Sub,rfl,hs,hb,g1,g2,g3,g4,g5,g6,g7⟩
   ·subst he; simp at h0
   have hblt:=(zL.1 hb).1
   obtain ⟨ss,hss⟩:∃ ss,ss=es.map fun e=>(Td e).toList:=⟨_,rfl⟩
   have hsl:ss.length=es.length:=by rw [hss]; simp
   rw [←hss]
   have cellv:∀ i (hi:i<es.length),cur[i]?=some (.string (Td es[i]))∧(Td es[i]).size≤9223372036854775807:=fun i hi=>by
    obtain ⟨s,he⟩:=hk1 es[i] (zH hi)
    have hlt:i<cur.size:=by rw [g3]; omega
    have l0:=g7 i 0 hi (by rw [g4 i hi]; omega)
    simp only [he,yK,yY,yV,yD,yO hlt,yN] at l0
    rw [yO hlt,he]
    obtain ⟨z1,z2⟩:=ORep.ZT l0
    exact ⟨by rw [z1]; rfl,z2⟩
   have hH:Holds encStr w b 0 ss.toArray:=by
    intro j hj
    have hj1:j<ss.length:=by simpa using hj
    have hj':j<es.length:=by rw [←hsl]; exact hj1
    refine ⟨?_,?_⟩
    ·rw [yU,cell_of_row w b _ _ _ _ hb,(cellv j hj').1,getElem!_pos ss.toArray j hj]
     simp only [List.getElem_toArray,hss,z6,encStr,J9]
    ·unfold World.frozen?
     rw [hb]
     simp
   have hcon:=Any.slices_Sort_string R7 b 0 cap ss w hH hblt (by rw [hsl]; omega)
   change Calls Tryz.prog 160 _ _ _ at hcon
   rw [hsl] at hcon
   refine hcon.mono ?_
   rintro e w' ⟨rfl,m,os,rfl⟩
   refine ⟨_,I,V,B,rfl,by simp only [RepV,RepVs]; exact ⟨[],rfl,rfl⟩,?_⟩
   have hper:(srt ss).Perm ss:=List.mergeSort_perm _ _
   have hsl2:(srt ss).length=es.length:=by rw [hper.length_eq,hsl]
   have hgrow:∀ x,x<w.heap.size→x≠b→(Sort.grow (putRow encStr (Sort.ahead w m) b 0 (srt ss).toArray) os).heap[x]?=w.heap[x]?:=fun x hx hne=>by
    rw [Px w b m _ os x hx,if_neg (fun e=>hne e.symm)]
   have hbl:(Sort.grow (putRow encStr (Sort.ahead w m) b 0 (srt ss).toArray) os).heap[b]?=some (.cells (putCells encStr 0 (srt ss).toArray cur) t (0,0)):=by
    rw [Px w b m _ os b hblt,if_pos rfl,hb]; rfl
   have hsz:w.heap.size≤(Sort.grow (putRow encStr (Sort.ahead w m) b 0 (srt ss).toArray) os).heap.size:=by
    unfold Sort.grow
    simp [putRow,mapBlock,Sort.ahead]
   have hmem:∀ l∈ss,∃ e∈es,(Td e).toList=l:=by
    rw [hss]
    intro l h
    exact List.mem_map.1 h
   have hstr:∀ i (hi:i<(srt ss).length),(⟨(srt ss)[i].toArray⟩:ByteArray).size≤9223372036854775807:=fun i hi=>by
    obtain ⟨e,he,heq⟩:=hmem _ (hper.mem_iff.1 (zH hi))
    obtain ⟨k,hk,rfl⟩:=yP he
    have:=(cellv k hk).2
    rw [←heq,J9]
    exact this
   refine Ya (fun _ _ _=>False) hwf hv0 (by rw [zQ,hsl2]) hs hb g1 g2 g3 (fun i hi=>by rw [z6]; rfl) (fun i j x h=>h.elim) (fun i j i' j' x h h'=>h.elim) rfl ⟨rfl,fun h=>False.elim h⟩ rfl hsz hgrow hbl (by simp [putCells]) (fun i j hi hj=>?_)
   have hi':i<(srt ss).length:=by simpa using hi
   have hj':j<1:=by simpa [Ub] using hj
   obtain rfl:j=0:=by omega
   have hlt:i<cur.size:=by rw [g3]; omega
   have hc:(putCells encStr 0 (srt ss).toArray cur).getD (i*1+0) undef=.string ⟨(srt ss)[i].toArray⟩:=by
    simp only [yY,yV,putCells,yD,Array.getElem?_mapIdx,yO hlt,Option.map_some,yN,zM,true_and,yU,zS,hi',if_true,Nat.sub_zero]
    rw [getElem!_pos (srt ss).toArray i (by simpa using hi')]
    rfl
   rw [hc]
   simp only [z6,Ub,yK]
   exact .str _ _ (hstr i hi')
 ·cases h
end Go.Proofs.YtkjpmfmjebkkiaaGreat
set_option maxRecDepth 100000
set_option linter.unusedSimpArgs false
set_option linter.unusedVariables false
set_option linter.unusedSectionVars false
namespace Go.Proofs.YtkjpmfmjebkkiaaGreat
open Go.RowKit Go.Shelf
attribute [local go_sem] Oper.semAt_some
def Yb (l:List ByteArray) (k:Nat):Int × ByteArray:=(((l.length-1-k:Nat):Int),l[l.length-1-k]?.getD ⟨#[]⟩)
def JA (l:List ByteArray) (k:Nat):List (Int × ByteArray):=(List.range k).map (Yb l)
theorem Py (l:List ByteArray) (k:Nat):JA l (k+1)=JA l k++[Yb l k]:=by simp [JA,List.range_succ]
theorem Ny (l:List ByteArray) (k:Nat):(JA l k).length=k:=by simp [JA]
def Eo (s:ByteArray):ByteArray:=if s.size≤9223372036854775807 then s else ⟨#[]⟩
theorem Pz (s:ByteArray):(Eo s).size≤9223372036854775807:=by
 unfold Eo
 split
 ·assumption
 ·exact zM _
theorem Yc {s:ByteArray} (h:s.size≤9223372036854775807):Eo s=s:=if_pos h
def Yd (x:Int × ByteArray):Array Value:=#[.int .i64 x.1,.string (Eo x.2)]
def KB (p q:Nat) (A B:World):Prop:=B.heap[p]?=A.heap[p]?∧B.heap[q]?=A.heap[q]?
theorem KB.refl (p q:Nat) (A:World):KB p q A A:=⟨rfl,rfl⟩
theorem KB.trans {p q:Nat} {A B C:World} (h:KB p q A B) (k:KB p q B C):KB p q A C:=⟨k.1.trans h.1,k.2.trans h.2⟩
theorem P0 {A B:World} {x o:Nat} (h:B.heap[x]?=A.heap[x]?):B.cell? ⟨x,o,none⟩=A.cell? ⟨x,o,none⟩:=by
 unfold World.cell?
 simp only [h]
theorem Wl (F:Fence) (n:Nat) (h1:F.fn 158) (hro:F.round=none) (hn:1≤n) (lb Bs b off cap:Nat) (l:List ByteArray) (hreach:l.length*16≤140737488351232) (hls:∀ s∈l,Eo s=s) (J Jx:List (Int × ByteArray)→World→Prop)
  (hY:∀ pre x W,J pre W→pre.length<l.length→YieldAt F (n-1) Tryz.prog lb (Yd x) W fun e W' =>
   (e=.returned (.bool true)∧J (pre++[x]) W'∧KB Bs b W W')∨(e=.returned (.bool false)∧Jx (pre++[x]) W'))
  (W:World) (hBs:W.cell? ⟨Bs,0,none⟩=some (.slice (some ⟨b,off,none⟩) l.length cap)) (hc:∀ j,j<l.length→W.cell? ⟨b,off+j,none⟩=some (.string (l[j]?.getD ⟨#[]⟩))) (h0:J [] W) :
  CallsIn F n Tryz.prog 158 #[.func (.yield lb) #[] #[],.pointer (some ⟨Bs,0,none⟩)] W fun e W'=>(∃ v,e=.returned v) ∧
   ((∃ ys,ys=JA l l.length∧J ys W')∨(∃ pre,(∃ k,k≤l.length∧pre=JA l k)∧Jx pre W')):=by
 refine callsIn_of_wp Tryz.func158 rfl h1 ?_ hro
 simp only [Tryz.ntmps158,zS,zG,zT,yL,yM,z7,z8,yI,yC,yH,yF]
 gi_wp2
 gi_loopw [3] (fun i wr=>∃ k:Nat,k≤l.length∧i=.int .i64 ((l.length:Int)-1-k)∧J (JA l k) wr∧KB Bs b W wr)
  (fun i _=>(intOf i+1).toNat)
 case atStart=>exact ⟨0,zM _,by simp,h0,KB.refl _ _ _⟩
 case round =>
  obtain ⟨k,hk,rfl,hJs,hnx⟩:=hrel
  by_cases hlt:k<l.length
  ·have hj:l.length-1-k<l.length:=by omega
   have hbk:wr.cell? ⟨Bs,0,none⟩=some (.slice (some ⟨b,off,none⟩) l.length cap):=(P0 hnx.1).trans hBs
   have hcx:=(P0 (o:=off+(l.length-1-k)) hnx.2).trans (hc _ hj)
   have hji:(l.length:Int)-1-k=((l.length-1-k:Nat):Int):=by omega
   obtain ⟨fn,tmps,assign,body,hy,hR⟩:=hY _ (Yb l k) wr hJs (by rw [Ny]; exact hlt)
   dsimp only [Yb,Yd] at hy
   rw [zK hj] at hcx
   simp only [zK hj,yN] at hy hcx
   rw [hls _ (zH _)] at hy
   rw [hji]
   gi_wp2
   refine hR.mono ?_
   rintro e W3 (⟨rfl,hJ3,hk3⟩ | ⟨rfl,hJx3⟩)
   ·gi_wp2
    go_roundw
    case rel=>exact ⟨k+1,by omega,by congr 1; omega,by rw [Py]; exact hJ3,hnx.trans hk3⟩
    case measure=>simp [intOf] <;> omega
   ·gi_wp2
    refine bodyPost_ret (results_none rfl _ _ _) rfl ?_
    exact ⟨⟨_,rfl⟩,.inr ⟨_,⟨k+1,by omega,(Py _ _).symm⟩,hJx3⟩⟩
  ·obtain rfl:k=l.length:=by omega
   gi_wp2
   go_end0
   exact ⟨⟨_,rfl⟩,.inl ⟨_,rfl,hJs⟩⟩
theorem UF (F:Fence) (n:Nat) (h1:F.fn 158) (hro:F.round=none) (lb Bs:Nat) (a:Option Addr) (cap:Nat) (J:List (Int × ByteArray)→World→Prop) (W:World) (hBs:W.cell? ⟨Bs,0,none⟩=some (.slice a 0 cap)) (h0:J [] W) :
  CallsIn F n Tryz.prog 158 #[.func (.yield lb) #[] #[],.pointer (some ⟨Bs,0,none⟩)] W fun e W'=>(∃ v,e=.returned v)∧J [] W':=by
 refine callsIn_of_wp Tryz.func158 rfl h1 ?_ hro
 simp only [Tryz.ntmps158,zS,zG,zT,yL,yM,z7,z8,yI,yC,yH,yF]
 gi_wp2
 gi_loopw [3] (fun i wr=>i=.int .i64 (-1)∧J [] wr) (fun _ _=>0)
 case atStart=>exact ⟨by rfl,h0⟩
 case round =>
  obtain ⟨rfl,hJs⟩:=hrel
  gi_wp2
  go_end0
  exact ⟨⟨_,rfl⟩,hJs⟩
theorem Ye (F:Fence) (n:Nat) (h5:F.fn 100) (hro:F.round=none) (a:Option Addr) (len cap:Nat) (w:World) :
  CallsIn F n Tryz.prog 100 #[.slice a len cap] w fun e w'=>e=.returned (.func (.func 158) #[] #[.pointer (some ⟨w.heap.size,0,none⟩)])∧w'=w.alloc (.cells #[.slice a len cap] 95):=by
 refine callsIn_of_wp Tryz.func100 rfl h5 ?_ hro
 simp only [Tryz.ntmps100,zS,zG,zT,yL,yM,z7,z8,yI,yC,yH,yF]
 gi_wp2
 go_ret
 exact ⟨rfl,rfl⟩
def Qr (W:World) (sv:Value) (l:List ByteArray) (b:Nat):Prop :=
 (l=[]∧∃ a cap,sv=.slice a 0 cap)∨∃ off cap,sv=.slice (some ⟨b,off,none⟩) l.length cap∧∀ j,j<l.length→W.cell? ⟨b,off+j,none⟩=some (.string (l[j]?.getD ⟨#[]⟩))
theorem Te (F:Fence) (n:Nat) (h1:F.fn 158) (hro:F.round=none) (hn:1≤n) (Bs b:Nat) (sv:Value) (l:List ByteArray) (hreach:l.length*16≤140737488351232) (hls:∀ s∈l,Eo s=s) (w:World) (hBs:Bs<w.heap.size) (hb:b<w.heap.size)
  (hc:w.cell? ⟨Bs,0,none⟩=some sv) (hI:Qr w sv l b) :
  SeqStopsK F n Tryz.prog 158 #[.pointer (some ⟨Bs,0,none⟩)] Yd (KB Bs b) (fun ys=>ys=JA l l.length) (fun _=>True) l.length w:=fun lb J Jx W hW _ _ hY h0=>by
 have hc':=(hW.cell (p:=⟨Bs,0,none⟩) hBs).trans hc
 rcases hI with ⟨rfl,a,cap,rfl⟩ | ⟨off,cap,rfl,hcs⟩
 ·exact (UF F n h1 hro lb Bs a cap J W hc' h0).mono fun e W' ⟨he,hj⟩=>⟨he,.inl ⟨_,rfl,hj⟩⟩
 ·refine (Wl F n h1 hro hn lb Bs b off cap l hreach hls J Jx hY W hc' (fun j hj=>(hW.cell (p:=⟨b,off+j,none⟩) hb).trans (hcs j hj)) h0).mono ?_
  rintro e W' ⟨he,⟨ys,rfl,hj⟩ | ⟨pre,⟨k,hk,rfl⟩,hj⟩⟩
  ·exact ⟨he,.inl ⟨_,rfl,hj⟩⟩
  ·exact ⟨he,.inr ⟨_,trivial,hj⟩⟩
end Go.Proofs.YtkjpmfmjebkkiaaGreat
set_option maxRecDepth 100000
set_option linter.unusedSimpArgs false
set_option linter.unusedVariables false
set_option linter.unusedSectionVars false
namespace Go.Proofs.YtkjpmfmjebkkiaaGreat
open Go.RowKit Go.Shelf
attribute [local go_sem] Oper.semAt_some
noncomputable def Wm:Code→Code
 | .seq _ (.seq _ (.seq (.seq _ (.block _ (.rangeFunc _ _ _ b))) _))=>b
 | c=>c
noncomputable def Tf:Code:=Wm (Tryz.f43.body.getD .skip)
def FE (W:World) (c:Nat) (z0:Int) (z1:ByteArray) (v2:Value) (z3:ByteArray) (v4:Value):World :=
 ((((W.setCell ⟨c,0,none⟩ (.int .i64 z0)).setCell ⟨c,1,none⟩ (.string z1)).setCell ⟨c,2,none⟩ v2).setCell ⟨c,3,none⟩ (.string z3)).setCell ⟨c,4,none⟩ v4
theorem Wn (lb:Nat) (n:Nat) (hn:1≤n) (c:Nat) (s:ByteArray) (v0 v1 v2 v3 v4:Value) (t0 t1 t2 t4 t6 t7 t8 t9 t10:Value) (W:World)
  (h0:W.cell? ⟨c,0,none⟩=some v0) (h1:W.cell? ⟨c,1,none⟩=some v1) (h2:W.cell? ⟨c,2,none⟩=some v2) (h3:W.cell? ⟨c,3,none⟩=some v3) (h4:W.cell? ⟨c,4,none⟩=some v4)
  (R:World→Int→ByteArray→Option Addr→Nat→Nat→ByteArray→Option Addr→Nat→Nat→Prop)
  (hq:Calls Tryz.prog 102 #[.int .i64 8,.string s,.agg #[v0,v1,v2,v3,v4]] W fun e W'=>∃ z0 z1 a2 n2 c2 z3 a4 n4 c4,e=.returned (.agg #[.int .i64 z0,.string z1,.slice a2 n2 c2,.string z3,.slice a4 n4 c4])∧R W' z0 z1 a2 n2 c2 z3 a4 n4 c4)
  (hR:∀ W' z0 z1 a2 n2 c2 z3 a4 n4 c4,R W' z0 z1 a2 n2 c2 z3 a4 n4 c4→W'.cell? ⟨c,0,none⟩=some v0∧W'.cell? ⟨c,1,none⟩=some v1∧W'.cell? ⟨c,2,none⟩=some v2∧W'.cell? ⟨c,3,none⟩=some v3∧W'.cell? ⟨c,4,none⟩=some v4∧(∀ i,i<5→W'.frozen? ⟨c,i,none⟩=false))
  (Q:Exit→Act→World→Prop) (t11 t12:Value)
  (hfin:∀ a W' z0 z1 a2 n2 c2 z3 a4 n4 c4,R W' z0 z1 a2 n2 c2 z3 a4 n4 c4→Q .normal a (FE W' c z0 z1 (.slice a2 n2 c2) z3 (.slice a4 n4 c4))) :
  Tf.wpIn (Fence.wide.inRound lb) n Tryz.prog Q { tmps:=#[t0,t1,t2,.pointer (some ⟨c,0,none⟩),t4,.string s,t6,t7,t8,t9,t10,t11,t12,undef,undef,undef,undef],defers:=[] } W:=by
 have hmx:Tryz.prog.follows .mixedOrders=true:=by kernel_rfl
 unfold Tf Wm
 simp only [Tryz.f43,yN]
 gi_wp2
 refine ⟨trivial,(CallsIn.inRound lb (callsIn_wide.2 hq)).mono ?_⟩
 rintro e w' ⟨z0,z1,a2,n2,c2,z3,a4,n4,c4,rfl,hr⟩
 obtain ⟨k0,k1,k2,k3,k4,kf⟩:=hR _ _ _ _ _ _ _ _ _ _ hr
 have f0:=kf 0 (by omega)
 have f1:=kf 1 (by omega)
 have f2:=kf 2 (by omega)
 have f3:=kf 3 (by omega)
 have f4:=kf 4 (by omega)
 rename_i hK
 refine hK _ _ ?_
 gi_wp2
 first | exact hfin _ _ _ _ _ _ _ _ _ _ _ hr | assumption
def z5:Array Value:=#[.int .i64 0,.string ⟨#[]⟩,.slice none 0 0,.string ⟨#[]⟩,.slice none 0 0]
def wA (w:World) (v0 v1 v2 v3 v4:Value):World:=(w.alloc (.cells #[v0,v1,v2,v3,v4] 34)).alloc (.cells z5 34)
def wB (W:World) (z0:Int) (z1:ByteArray) (v2:Value) (z3:ByteArray) (v4:Value):World:=W.alloc (.cells #[.int .i64 z0,.string z1,v2,.string z3,v4] 34)
end Go.Proofs.YtkjpmfmjebkkiaaGreat
set_option maxRecDepth 100000
set_option linter.unusedSimpArgs false
set_option linter.unusedVariables false
set_option linter.unusedSectionVars false
namespace Go.Proofs.YtkjpmfmjebkkiaaGreat
open Go.RowKit Go.Shelf
attribute [local go_sem] Oper.semAt_some
theorem Lh {W:World} {c k:Nat} (z0:Int) {z1:ByteArray} {v2:Value} {z3:ByteArray} {v4:Value} (h:k≠c):(FE W c z0 z1 v2 z3 v4).heap[k]?=W.heap[k]?:=by
 unfold FE
 rw [Below.heap_setCell _ _ _ _ h,Below.heap_setCell _ _ _ _ h,Below.heap_setCell _ _ _ _ h,Below.heap_setCell _ _ _ _ h,Below.heap_setCell _ _ _ _ h]
theorem Wo {W:World} {c:Nat} {T:TypeId} {fr:Nat × Nat} {y0:Int} {y1:ByteArray} {v2:Value} {y3:ByteArray} {v4:Value} (h:W.heap[c]?=some (.cells z5 T fr)):(FE W c y0 y1 v2 y3 v4).heap[c]?=some (.cells #[.int .i64 y0,.string y1,v2,.string y3,v4] T fr):=by
 unfold FE
 have h1:=Lib.heap_setCell_same (i:=0) h (.int .i64 y0)
 have h2:=Lib.heap_setCell_same (i:=1) h1 (.string y1)
 have h3:=Lib.heap_setCell_same (i:=2) h2 v2
 have h4:=Lib.heap_setCell_same (i:=3) h3 (.string y3)
 have h5:=Lib.heap_setCell_same (i:=4) h4 v4
 exact h5
theorem R8 (w:World) (v0 v1 v2 v3 v4:Value) (Q:Ending→World→Prop)
  (PA:World→Int→ByteArray→Value→ByteArray→Value→Prop)
  (hA:Calls Tryz.prog 68 #[.agg #[v0,v1,v2,v3,v4]] (wA w v0 v1 v2 v3 v4) fun e W'=>∃ (z0:Int) (z1:ByteArray) (a2:Option Addr) (n2 c2:Nat) (z3:ByteArray) (a4:Option Addr) (n4 c4:Nat),e=.returned (.agg #[.int .i64 z0,.string z1,.slice a2 n2 c2,.string z3,.slice a4 n4 c4])∧PA W' z0 z1 (.slice a2 n2 c2) z3 (.slice a4 n4 c4))
  (hAf:∀ W z0 z1 s2 z3 s4,PA W z0 z1 s2 z3 s4→(wB W z0 z1 s2 z3 s4).cell? ⟨w.heap.size,0,none⟩=some v0∧(wB W z0 z1 s2 z3 s4).cell? ⟨w.heap.size,1,none⟩=some v1∧(wB W z0 z1 s2 z3 s4).cell? ⟨w.heap.size,2,none⟩=some v2∧(wB W z0 z1 s2 z3 s4).cell? ⟨w.heap.size,3,none⟩=some v3∧(wB W z0 z1 s2 z3 s4).cell? ⟨w.heap.size,4,none⟩=some v4)
  (PB:World→Nat→Option Addr→Nat→Nat→Prop)
  (hB:∀ W z0 z1 s2 z3 s4,PA W z0 z1 s2 z3 s4→Calls Tryz.prog 101 #[.agg #[v0,v1,v2,v3,v4]] (wB W z0 z1 s2 z3 s4) fun e W'=>∃ a n c,e=.returned (.slice a n c)∧PB W' W.heap.size a n c)
  (names:List ByteArray) (hreach:names.length*16≤140737488351232) (hls:∀ s∈names,Eo s=s) (IV:Nat→Nat→Nat→List (Int × ByteArray)→World→Prop)
  (hPB:∀ W cB a n c,PB W cB a n c→w.heap.size+2≤W.heap.size∧∃ b,b<(W.alloc (.cells #[.slice a n c] 95)).heap.size∧Qr (W.alloc (.cells #[.slice a n c] 95)) (.slice a n c) names b ∧
   OwnFrom (W.alloc (.cells #[.slice a n c] 95)).heap.size (IV cB W.heap.size b)∧IV cB W.heap.size b [] (W.alloc (.cells #[.slice a n c] 95)) ∧
   (∀ (lb:Nat) (t0 t1 t2 t4 t6 t7 t8 t9 t10 t11 t12:Value) (pre:List (Int × ByteArray)) (x:Int × ByteArray) (W':World),IV cB W.heap.size b pre W'→pre.length<names.length →
    Tf.wpIn (Fence.wide.inRound lb) 3 Tryz.prog (ownPostK (KB W.heap.size b) (IV cB W.heap.size b) (fun _ _ _=>False) (pre++[x]) W') { tmps:=#[t0,t1,t2,.pointer (some ⟨cB,0,none⟩),t4,.string (Eo x.2),t6,t7,t8,t9,t10,t11,t12,undef,undef,undef,undef],defers:=[] } W'))
  (hDone:∀ cB Bs b W,IV cB Bs b (JA names names.length) W→∃ (y0:Int) (y1:ByteArray) (p2:Option Addr) (m2 d2:Nat) (y3:ByteArray) (p4:Option Addr) (m4 d4:Nat),
   (W.cell? ⟨cB,0,none⟩=some (.int .i64 y0)∧W.cell? ⟨cB,1,none⟩=some (.string y1)∧W.cell? ⟨cB,2,none⟩=some (.slice p2 m2 d2)∧W.cell? ⟨cB,3,none⟩=some (.string y3)∧W.cell? ⟨cB,4,none⟩=some (.slice p4 m4 d4)) ∧
   W.heap[w.heap.size+1]?=some (.cells z5 34 (0,0)) ∧
   ∀ D,w.heap.size+1<D→W.heap[D]?=some (.deferred (some []))→Q (.returned (.agg #[.int .i64 y0,.string y1,.slice p2 m2 d2,.string y3,.slice p4 m4 d4])) ((FE W (w.heap.size+1) y0 y1 (.slice p2 m2 d2) y3 (.slice p4 m4 d4)).putObj D (.deferred none)))
  : Calls Tryz.prog 43 #[.agg #[v0,v1,v2,v3,v4]] w Q:=by
 have hmx:Tryz.prog.follows .mixedOrders=true:=by kernel_rfl
 refine (callsIn_wide (n:=5)).1 ?_
 refine callsIn_of_wp_marks Tryz.func43 rfl trivial ?_ rfl
 simp only [Tryz.ntmps43,zS,zG,zT,yL,yM,z7,z8,yI,yC,yH,yF]
 gi_wp2
 refine ⟨trivial,(callsIn_wide.2 hA).mono ?_⟩
 rintro e W1 ⟨z0,z1,a2,n2,c2,z3,a4,n4,c4,rfl,hP⟩
 obtain ⟨f0,f1,f2,f3,f4⟩:=hAf _ _ _ _ _ _ hP
 have hfree:=hB _ _ _ _ _ _ hP
 rename_i K1 hK1 K2 hK
 refine hK _ _ ?_
 obtain ⟨Wb,hWb⟩:∃ Wb,Wb=wB W1 z0 z1 (.slice a2 n2 c2) z3 (.slice a4 n4 c4):=⟨_,rfl⟩
 rw [←hWb] at f0 f1 f2 f3 f4 hfree
 generalize hQQ:(Exit.then _ _:Exit→Act→World→Prop)=QQ
 gi_wp2
 subst hQQ
 unfold wB at hWb
 rw [←hWb]
 refine hK1 _ _ ?_
 clear hK1 hK hWb
 gi_wp2
 refine ⟨trivial,(callsIn_wide.2 hfree).mono ?_⟩
 rintro e W2 ⟨a,n,c,rfl,hPB'⟩
 rename_i K3 hK3 K4 hK4
 refine hK4 _ _ ?_
 gi_wp2
 refine ⟨trivial,(Ye Fence.wide _ trivial rfl a n c W2).mono ?_⟩
 rintro e W3 ⟨rfl,rfl⟩
 rename_i K5 hK5
 refine hK5 _ _ ?_
 clear hK4 hK5
 gi_wp2
 obtain ⟨hge,b,hb,hN,hO,hI0,hbody⟩:=hPB _ _ _ _ _ hPB'
 refine wpIn_rangeFunc_ownF rfl (by omega) (gf:=158) (lb:=#[.pointer (some ⟨W2.heap.size,0,none⟩)]) rfl trivial (enters_of Tryz.func158 (by kernel_rfl) rfl)
  (Te Fence.wide _ trivial rfl (by omega) W2.heap.size b (.slice a n c) names hreach hls _ (by simp) hb (by simp) hN)
  (fun h k=>h.trans k) ?kb (Below.refl _ _) (fun x=>rfl) (IV W1.heap.size W2.heap.size b) (fun _ _ _=>False) hO (fun _ _ _ _ _ h _ _=>h) hI0
  (fun x=>{ tmps:=#[.agg #[v0,v1,v2,v3,v4],.pointer (some ⟨w.heap.size,0,none⟩),.pointer (some ⟨w.heap.size+1,0,none⟩),.pointer (some ⟨W1.heap.size,0,none⟩),undef,.string (Eo x.2),.agg #[v0,v1,v2,v3,v4],.agg #[.int .i64 z0,.string z1,.slice a2 n2 c2,.string z3,.slice a4 n4 c4],.agg #[v0,v1,v2,v3,v4],.slice a n c,.func (.func 158) #[] #[.pointer (some ⟨W2.heap.size,0,none⟩)],.int .i64 x.1,.string (Eo x.2),undef,undef,undef,undef],defers:=[] }) ?assign ?body ?done ?stop
 case assign =>
  intro l x W K hK
  unfold Yd
  gi_wp2
  exact hK
 case stop =>
  rintro D c pre W _ _ h _
  exact h.elim
 case body =>
  rintro l pre x W hi hlen
  exact hbody l _ _ _ _ _ _ _ _ _ _ _ pre x W hi hlen
 case kb =>
  intro W l o o' hl _ _ _
  have hs:(W2.alloc (.cells #[.slice a n c] 95)).heap.size=W2.heap.size+1:=by simp
  exact ⟨World.putObj_heap_other (by omega),World.putObj_heap_other (by omega)⟩
 case done =>
  rintro D xs W hD rfl hi hK
  obtain ⟨y0,y1,p2,m2,d2,y3,p4,m4,d4,⟨k0,k1,k2,k3,k4⟩,hz,hQ⟩:=hDone _ _ _ _ hi
  have hs:(W2.alloc (.cells #[.slice a n c] 95)).heap.size=W2.heap.size+1:=by simp
  have hDne:D≠w.heap.size+1:=by omega
  have hQ:=hQ D (by omega) hK
  have r0:W.cell? ⟨w.heap.size+1,0,none⟩=some (.int .i64 0):=by simp [World.cell?,hz,z5]
  have r1:W.cell? ⟨w.heap.size+1,1,none⟩=some (.string ⟨#[]⟩):=by simp [World.cell?,hz,z5]
  have r2:W.cell? ⟨w.heap.size+1,2,none⟩=some (.slice none 0 0):=by simp [World.cell?,hz,z5]
  have r3:W.cell? ⟨w.heap.size+1,3,none⟩=some (.string ⟨#[]⟩):=by simp [World.cell?,hz,z5]
  have r4:W.cell? ⟨w.heap.size+1,4,none⟩=some (.slice none 0 0):=by simp [World.cell?,hz,z5]
  have q0:W.frozen? ⟨w.heap.size+1,0,none⟩=false:=by simp [World.frozen?,hz]
  have q1:W.frozen? ⟨w.heap.size+1,1,none⟩=false:=by simp [World.frozen?,hz]
  have q2:W.frozen? ⟨w.heap.size+1,2,none⟩=false:=by simp [World.frozen?,hz]
  have q3:W.frozen? ⟨w.heap.size+1,3,none⟩=false:=by simp [World.frozen?,hz]
  have q4:W.frozen? ⟨w.heap.size+1,4,none⟩=false:=by simp [World.frozen?,hz]
  gi_wp2
  refine ⟨by simp,.inl ⟨_,_,rfl,run_takeDeferred (ds:=[]) ?_,?_⟩⟩
  ·exact (Lh _ hDne).trans hK
  ·have hf:((FE W (w.heap.size+1) y0 y1 (.slice p2 m2 d2) y3 (.slice p4 m4 d4)).putObj D (.deferred none)).heap[w.heap.size+1]?=some (.cells #[.int .i64 y0,.string y1,.slice p2 m2 d2,.string y3,.slice p4 m4 d4] 34 (0,0)):=by
    rw [World.putObj_heap_other (by omega)]
    exact Wo hz
   exact ⟨_,results_cell_row rfl _ _ _ _ _ _ _ rfl hf Tryz.underlying34 rfl (by kernel_rfl),hQ⟩
end Go.Proofs.YtkjpmfmjebkkiaaGreat
set_option maxRecDepth 100000
set_option linter.unusedSimpArgs false
set_option linter.unusedVariables false
set_option linter.unusedSectionVars false
namespace Go.Proofs.YtkjpmfmjebkkiaaGreat
open Go.RowKit
variable [Flag]
def CellsAt (w:World) (x:Nat):Prop:=∃ u:Obj,w.heap[x]?=some u∧u.isCells=true
theorem ORep.cells {w:World} {I S:Nat→Prop} {o:OT} {v:Value} (h:ORep w I S o v):ORep w I (fun x=>S x∧CellsAt w x) o v:=by
 induction h with
 | int S n=>exact .int _ n
 | byte S n=>exact .byte _ n
 | bool S b=>exact .bool _ b
 | str S s h=>exact .str _ s h
 | sh S es v h=>exact .sh _ es v h
 | nil S=>exact .nil _
 | hole S v h=>exact .hole _ v h
 | row S t sz es b cap cur Sub hS hb h1 h2 h3 h4 h5 h6 h7 ih =>
  exact .row _ t sz es b cap cur (fun i j x=>Sub i j x∧CellsAt w x) ⟨hS,_,hb,rfl⟩ hb h1 h2 h3 h4 (fun i j x h=>⟨⟨(h5 i j x h.1).1,h.2⟩,(h5 i j x h.1).2⟩) (fun i j i' j' x h h'=>h6 i j i' j' x h.1 h'.1) ih
theorem RowR.cells {w:World} {I S:Nat→Prop} {t:TypeId} {sz:Nat} {es:List (List OT)} {v:Value} (h:RowR w I S t sz es v):RowR w I (fun x=>S x∧CellsAt w x) t sz es v:=by
 rcases h with h | ⟨b,cap,cur,Sub,e,hS,hb,h1,h2,h3,h4,h5,h6,h7⟩
 ·exact .inl h
 ·exact .inr ⟨b,cap,cur,fun i j x=>Sub i j x∧CellsAt w x,e,⟨hS,_,hb,rfl⟩,hb,h1,h2,h3,h4,fun i j x h=>⟨⟨(h5 i j x h.1).1,h.2⟩,(h5 i j x h.1).2⟩,fun i j i' j' x h h'=>h6 i j i' j' x h.1 h'.1,fun i j hi hj=>(h7 i j hi hj).cells⟩
theorem Wf.next {w:World} {I I':Nat→Prop} {V':Nat→Option Value} {B':Nat→Nat→Prop} {t t2:TypeId} {sz sz2:Nat} {es es2:List (List OT)}
  (h:Wf w I' V' B' (Am [.gone,.gone,.row t sz es,.row t2 sz2 es2])) (hI:∀ b,I b→I' b) (hn:OT.AK es=true) (hn2:OT.AK es2=true) (hgl:GL w I) :
  Wf w I (fun g=>V' (g+2)) (fun g x=>B' (g+2) x∧CellsAt w x) (Am [.row t sz es,.row t2 sz2 es2]):=by
 have hlv:∀ g,(Am [Ob.row t sz es,.row t2 sz2 es2] g).live→g=0∨g=1:=fun g h=>by
  match g with
  | 0=>exact .inl rfl
  | 1=>exact .inr rfl
  | g+2=>exact h.elim
 have hl:∀ g,(Am [Ob.row t sz es,.row t2 sz2 es2] g).live→(Am [Ob.gone,.gone,.row t sz es,.row t2 sz2 es2] (g+2)).live:=fun g h=>h
 refine ⟨fun b hb=>h.ilt b (hI b hb),fun g hg=>?_,fun g b hg hb=>h.lt (g+2) b (hl g hg) hb.1,fun g b hg hb hi=>h.dI (g+2) b (hl g hg) hb.1 (hI b hi),fun g g' b hg hg' hb hb'=>by have:=h.dO (g+2) (g'+2) b (hl g hg) (hl g' hg') hb.1 hb'.1; omega,fun g hf=>h.fr (g+2) hf,hgl⟩
 obtain ⟨val,hv,hr⟩:=h.obj (g+2) (hl g hg)
 rcases hlv g hg with rfl | rfl
 ·have hr:RowR w I' (B' 2) t sz es val:=hr
  exact ⟨val,hv,(hr.noSh hn).cells⟩
 ·have hr:RowR w I' (B' 3) t2 sz2 es2 val:=hr
  exact ⟨val,hv,(hr.noSh hn2).cells⟩
end Go.Proofs.YtkjpmfmjebkkiaaGreat
set_option maxRecDepth 100000
set_option linter.unusedSimpArgs false
set_option linter.unusedVariables false
set_option linter.unusedSectionVars false
namespace Go.Proofs.YtkjpmfmjebkkiaaGreat
open Go.RowKit
abbrev Tm.sv (x:Tm):SV:=.agg [.str x.name,.arr (x.args.map Tm.d)]
mutual
def Tm.o:Tm→List OT
 | .mk name args=>[.str name,.ow (Tm.os args)]
def Tm.os:List Tm→List (List OT)
 | []=>[]
 | x :: xs=>Tm.o x :: Tm.os xs
end
theorem Tm.os_eq:∀ xs:List Tm,Tm.os xs=xs.map Tm.o
 | []=>rfl
 | x :: xs=>by rw [Tm.os,Tm.os_eq xs]; rfl
theorem Tm.o_eq (x:Tm):Tm.o x=[.str x.name,.ow (x.args.map Tm.o)]:=by
 obtain ⟨name,args⟩:=x
 rw [Tm.o,Tm.os_eq]; rfl
theorem Tm.ers_of:∀ xs:List Tm,(∀ x∈xs,OT.ers (Tm.o x)=Tm.d x)→OT.erss (xs.map Tm.o)=xs.map Tm.d
 | [],_=>rfl
 | x :: xs,h=>by
  simp only [zB,OT.erss]
  rw [h x (by simp),Tm.ers_of xs fun y hy=>h y (by simp [hy])]
theorem Tm.er (x:Tm):OT.ers (Tm.o x)=Tm.d x:=by
 have h:=Tm.ers_of x.args fun y hy=>Tm.er y
 rw [Tm.o_eq,Tm.d_eq]
 simp only [OT.ers,OT.er,h]
termination_by SizeOf.sizeOf x
decreasing_by exact Tm.lt_of_mem hy
theorem Tm.erss (xs:List Tm):OT.erss (xs.map Tm.o)=xs.map Tm.d:=Tm.ers_of xs fun x _=>Tm.er x
theorem Tm.nos_of:∀ xs:List Tm,(∀ x∈xs,OT.BF (Tm.o x)=true)→OT.AK (xs.map Tm.o)=true
 | [],_=>rfl
 | x :: xs,h=>by
  simp only [zB,OT.AK]
  rw [h x (by simp),Tm.nos_of xs fun y hy=>h y (by simp [hy])]; rfl
theorem Tm.no (x:Tm):OT.BF (Tm.o x)=true:=by
 have h:=Tm.nos_of x.args fun y hy=>Tm.no y
 rw [Tm.o_eq]
 simp only [OT.BF,OT.noSh,h,zC,zF]
termination_by SizeOf.sizeOf x
decreasing_by exact Tm.lt_of_mem hy
theorem Tm.noss (xs:List Tm):OT.AK (xs.map Tm.o)=true:=Tm.nos_of xs fun x _=>Tm.no x
abbrev Tm.osv (x:Tm):SV:=.agg [.str x.name,.ref 0]
abbrev Tm.obs (x:Tm):List Ob:=[.row 31 2 (x.args.map Tm.o)]
abbrev Fm.sv (x:Fm):SV:=.agg [.int .i64 x.op,.str x.atom.name,.arr (x.atom.args.map Tm.d),.str x.var,.arr (x.parts.map Fm.d)]
mutual
def Fm.o:Fm→List OT
 | .mk op atom var parts=>[.int op,.str atom.name,.ow (atom.args.map Tm.o),.str var,.ow (Fm.os parts)]
def Fm.os:List Fm→List (List OT)
 | []=>[]
 | x :: xs=>Fm.o x :: Fm.os xs
end
theorem Fm.os_eq:∀ xs:List Fm,Fm.os xs=xs.map Fm.o
 | []=>rfl
 | x :: xs=>by rw [Fm.os,Fm.os_eq xs]; rfl
theorem Fm.o_eq (x:Fm):Fm.o x=[.int x.op,.str x.atom.name,.ow (x.atom.args.map Tm.o),.str x.var,.ow (x.parts.map Fm.o)]:=by
 obtain ⟨op,atom,var,parts⟩:=x
 rw [Fm.o,Fm.os_eq]; rfl
theorem Fm.ers_of:∀ xs:List Fm,(∀ x∈xs,OT.ers (Fm.o x)=Fm.d x)→OT.erss (xs.map Fm.o)=xs.map Fm.d
 | [],_=>rfl
 | x :: xs,h=>by
  simp only [zB,OT.erss]
  rw [h x (by simp),Fm.ers_of xs fun y hy=>h y (by simp [hy])]
theorem Fm.er (x:Fm):OT.ers (Fm.o x)=Fm.d x:=by
 have h:=Fm.ers_of x.parts fun y hy=>Fm.er y
 rw [Fm.o_eq,Fm.d_eq]
 simp only [OT.ers,OT.er,h,Tm.erss]
termination_by SizeOf.sizeOf x
decreasing_by exact Fm.lt_of_mem hy
theorem Fm.erss (xs:List Fm):OT.erss (xs.map Fm.o)=xs.map Fm.d:=Fm.ers_of xs fun x _=>Fm.er x
theorem Fm.nos_of:∀ xs:List Fm,(∀ x∈xs,OT.BF (Fm.o x)=true)→OT.AK (xs.map Fm.o)=true
 | [],_=>rfl
 | x :: xs,h=>by
  simp only [zB,OT.AK]
  rw [h x (by simp),Fm.nos_of xs fun y hy=>h y (by simp [hy])]; rfl
theorem Fm.no (x:Fm):OT.BF (Fm.o x)=true:=by
 have h:=Fm.nos_of x.parts fun y hy=>Fm.no y
 rw [Fm.o_eq]
 simp only [OT.BF,OT.noSh,h,Tm.noss,zC,zF]
termination_by SizeOf.sizeOf x
decreasing_by exact Fm.lt_of_mem hy
theorem Fm.noss (xs:List Fm):OT.AK (xs.map Fm.o)=true:=Fm.nos_of xs fun x _=>Fm.no x
abbrev Fm.osv (x:Fm):SV:=.agg [.int .i64 x.op,.str x.atom.name,.ref 0,.str x.var,.ref 1]
abbrev Fm.obs (x:Fm):List Ob:=[.row 31 2 (x.atom.args.map Tm.o),.row 34 5 (x.parts.map Fm.o)]
abbrev Lt.sv (x:Lt):SV:=.agg [.bool x.pos,.str x.atom.name,.arr (x.atom.args.map Tm.d)]
def Lt.o (x:Lt):List OT:=[.bool x.pos,.str x.atom.name,.ow (x.atom.args.map Tm.o)]
theorem Lt.o_eq (x:Lt):Lt.o x=[.bool x.pos,.str x.atom.name,.ow (x.atom.args.map Tm.o)]:=rfl
theorem Lt.er (x:Lt):OT.ers (Lt.o x)=Lt.d x:=by
 simp only [Lt.o,Lt.d,OT.ers,OT.er,Tm.erss]
theorem Lt.erss:∀ xs:List Lt,OT.erss (xs.map Lt.o)=xs.map Lt.d
 | []=>rfl
 | x :: xs=>by simp only [zB,OT.erss,Lt.er,Lt.erss xs]
theorem Lt.no (x:Lt):OT.BF (Lt.o x)=true:=by
 simp only [Lt.o,OT.BF,OT.noSh,Tm.noss,zC,zF]
theorem Lt.noss:∀ xs:List Lt,OT.AK (xs.map Lt.o)=true
 | []=>rfl
 | x :: xs=>by simp only [zB,OT.AK,Lt.no,Lt.noss xs,zC]
abbrev Lt.osv (x:Lt):SV:=.agg [.bool x.pos,.str x.atom.name,.ref 0]
abbrev Lt.obs (x:Lt):List Ob:=[.row 31 2 (x.atom.args.map Tm.o)]
abbrev Cl.sv (x:Cl):SV:=.agg [.arr (x.lits.map Lt.d)]
def Cl.o (x:Cl):List OT:=[.ow (x.lits.map Lt.o)]
theorem Cl.er (x:Cl):OT.ers (Cl.o x)=Cl.d x:=by
 simp only [Cl.o,Cl.d,OT.ers,OT.er,Lt.erss]
theorem Cl.erss:∀ xs:List Cl,OT.erss (xs.map Cl.o)=xs.map Cl.d
 | []=>rfl
 | x :: xs=>by simp only [zB,OT.erss,Cl.er,Cl.erss xs]
theorem Cl.no (x:Cl):OT.BF (Cl.o x)=true:=by
 simp only [Cl.o,OT.BF,OT.noSh,Lt.noss,zC,zF]
theorem Cl.noss:∀ xs:List Cl,OT.AK (xs.map Cl.o)=true
 | []=>rfl
 | x :: xs=>by simp only [zB,OT.AK,Cl.no,Cl.noss xs,zC]
abbrev Cl.osv (x:Cl):SV:=.agg [.ref 0]
abbrev Cl.obs (x:Cl):List Ob:=[.row 89 3 (x.lits.map Lt.o)]
def Ag.o (x:Ag):List OT:=[.str x.var,.int x.elem]
theorem Ag.er (x:Ag):OT.ers (Ag.o x)=Ag.d x:=by
 simp only [Ag.o,Ag.d,OT.ers,OT.er]
theorem Ag.erss:∀ xs:List Ag,OT.erss (xs.map Ag.o)=xs.map Ag.d
 | []=>rfl
 | x :: xs=>by simp only [zB,OT.erss,Ag.er,Ag.erss xs]
theorem Ag.no (x:Ag):OT.BF (Ag.o x)=true:=by
 simp only [Ag.o,OT.BF,OT.noSh,zC,zF]
theorem Ag.noss:∀ xs:List Ag,OT.AK (xs.map Ag.o)=true
 | []=>rfl
 | x :: xs=>by simp only [zB,OT.AK,Ag.no,Ag.noss xs,zC]
def Bd.o (x:Bd):List OT:=[.str x.var,.str x.term.name,.ow (x.term.args.map Tm.o)]
theorem Bd.er (x:Bd):OT.ers (Bd.o x)=Bd.d x:=by
 simp only [Bd.o,Bd.d,OT.ers,OT.er,Tm.erss]
theorem Bd.erss:∀ xs:List Bd,OT.erss (xs.map Bd.o)=xs.map Bd.d
 | []=>rfl
 | x :: xs=>by simp only [zB,OT.erss,Bd.er,Bd.erss xs]
theorem Bd.no (x:Bd):OT.BF (Bd.o x)=true:=by
 simp only [Bd.o,OT.BF,OT.noSh,Tm.noss,zC,zF]
theorem Bd.noss:∀ xs:List Bd,OT.AK (xs.map Bd.o)=true
 | []=>rfl
 | x :: xs=>by simp only [zB,OT.AK,Bd.no,Bd.noss xs,zC]
def Sb.o (x:Sb):List OT:=[.ow (x.binds.map Bd.o)]
theorem Sb.er (x:Sb):OT.ers (Sb.o x)=Sb.d x:=by
 simp only [Sb.o,Sb.d,OT.ers,OT.er,Bd.erss]
theorem Sb.erss:∀ xs:List Sb,OT.erss (xs.map Sb.o)=xs.map Sb.d
 | []=>rfl
 | x :: xs=>by simp only [zB,OT.erss,Sb.er,Sb.erss xs]
theorem Sb.no (x:Sb):OT.BF (Sb.o x)=true:=by
 simp only [Sb.o,OT.BF,OT.noSh,Bd.noss,zC,zF]
theorem Sb.noss:∀ xs:List Sb,OT.AK (xs.map Sb.o)=true
 | []=>rfl
 | x :: xs=>by simp only [zB,OT.AK,Sb.no,Sb.noss xs,zC]
def Df.o (x:Df):List OT:=[.str x.name,.ow (x.vars.map fun s=>[OT.str s]),.int x.form.op,.str x.form.atom.name,.ow (x.form.atom.args.map Tm.o),.str x.form.var,.ow (x.form.parts.map Fm.o)]
theorem Df.er (x:Df):OT.ers (Df.o x)=Df.d x:=by
 simp only [Df.o,Df.d,OT.ers,OT.er,M5,Tm.erss,Fm.erss]
theorem Df.erss:∀ xs:List Df,OT.erss (xs.map Df.o)=xs.map Df.d
 | []=>rfl
 | x :: xs=>by simp only [zB,OT.erss,Df.er,Df.erss xs]
theorem Df.no (x:Df):OT.BF (Df.o x)=true:=by
 simp only [Df.o,OT.BF,OT.noSh,TY,Tm.noss,Fm.noss,zC,zF]
theorem Df.noss:∀ xs:List Df,OT.AK (xs.map Df.o)=true
 | []=>rfl
 | x :: xs=>by simp only [zB,OT.AK,Df.no,Df.noss xs,zC]
def Tl.o (x:Tl):List OT:=[.str x.name,.int x.arity,.bool x.pred,.ow (x.vals.map fun n=>[OT.int n])]
theorem Tl.er (x:Tl):OT.ers (Tl.o x)=Tl.d x:=by
 simp only [Tl.o,Tl.d,OT.ers,OT.er,TX]
theorem Tl.erss:∀ xs:List Tl,OT.erss (xs.map Tl.o)=xs.map Tl.d
 | []=>rfl
 | x :: xs=>by simp only [zB,OT.erss,Tl.er,Tl.erss xs]
theorem Tl.no (x:Tl):OT.BF (Tl.o x)=true:=by
 simp only [Tl.o,OT.BF,OT.noSh,TZ,zC,zF]
theorem Tl.noss:∀ xs:List Tl,OT.AK (xs.map Tl.o)=true
 | []=>rfl
 | x :: xs=>by simp only [zB,OT.AK,Tl.no,Tl.noss xs,zC]
def Ip.o (x:Ip):List OT:=[.int x.size,.ow (x.tables.map Tl.o)]
theorem Ip.er (x:Ip):OT.ers (Ip.o x)=Ip.d x:=by
 simp only [Ip.o,Ip.d,OT.ers,OT.er,Tl.erss]
theorem Ip.erss:∀ xs:List Ip,OT.erss (xs.map Ip.o)=xs.map Ip.d
 | []=>rfl
 | x :: xs=>by simp only [zB,OT.erss,Ip.er,Ip.erss xs]
theorem Ip.no (x:Ip):OT.BF (Ip.o x)=true:=by
 simp only [Ip.o,OT.BF,OT.noSh,Tl.noss,zC,zF]
theorem Ip.noss:∀ xs:List Ip,OT.AK (xs.map Ip.o)=true
 | []=>rfl
 | x :: xs=>by simp only [zB,OT.AK,Ip.no,Ip.noss xs,zC]
noncomputable def D4:List ByteArray→ByteArray→List ByteArray
 | [],n=>[n]
 | x :: xs,n=>bif strLt x n then x :: D4 xs n else bif dec (x=n) then x :: xs else n :: x :: xs
noncomputable def Cd:List ByteArray→ByteArray→Nat
 | [],_=>0
 | x :: xs,n=>bif strLt x n then Cd xs n+1 else 0
mutual
noncomputable def Tm.vs:Tm→List ByteArray
 | .mk name args=>bif AT name then [name] else Tm.vsL args
noncomputable def Tm.vsL:List Tm→List ByteArray
 | []=>[]
 | x :: xs=>Tm.vs x++Tm.vsL xs
end
noncomputable def Ce (l ns:List ByteArray):List ByteArray:=ns.foldl D4 l
noncomputable def qB (op:Int):Bool:=dec (op=8) || dec (op=9)
mutual
noncomputable def Fm.fv:Fm→List ByteArray→List ByteArray
 | .mk op atom var parts,b=>bif dec (op=3) then (Ce [] atom.vs).filter (fun n=>!dec (n∈b)) else Fm.fvL parts (bif qB op then b++[var] else b)
noncomputable def Fm.fvL:List Fm→List ByteArray→List ByteArray
 | [],_=>[]
 | x :: xs,b=>Fm.fv x b++Fm.fvL xs b
end
noncomputable def Fm.free (x:Fm):List ByteArray:=Ce [] (x.fv [])
def Fm.all (n:ByteArray) (y:Fm):Fm:=.mk 8 (.mk ⟨#[]⟩ []) n [y]
def Fm.cls (ns:List ByteArray) (x:Fm):Fm:=ns.foldr Fm.all x
end Go.Proofs.YtkjpmfmjebkkiaaGreat
set_option maxRecDepth 100000
set_option linter.unusedSimpArgs false
set_option linter.unusedVariables false
set_option linter.unusedSectionVars false
namespace Go.Proofs.YtkjpmfmjebkkiaaGreat
open Go.RowKit Go.Shelf
def IH (pre:List (Int × ByteArray)) (x:Fm):Fm:=pre.foldl (fun y p=>Fm.all (Eo p.2) y) x
theorem UG (pre:List (Int × ByteArray)) (p:Int × ByteArray) (x:Fm):IH (pre++[p]) x=Fm.all (Eo p.2) (IH pre x):=by unfold IH; rw [List.foldl_append]; rfl
theorem Tg (l:List ByteArray):(JA l l.length).map (·.2)=l.reverse:=by
 apply List.ext_getElem
 ·rw [zQ,Ny,List.length_reverse]
 ·intro i h1 h2
  rw [zQ,Ny] at h1
  rw [z6,List.getElem_reverse]
  unfold JA
  rw [z6,List.getElem_range]
  show l[l.length-1-i]?.getD ⟨#[]⟩=_
  rw [zK (by omega)]; rfl
theorem Wp (l:List ByteArray) (hl:∀ s∈l,Eo s=s) (x:Fm):IH (JA l l.length) x=Fm.cls l x:=by
 have h:IH (JA l l.length) x=((JA l l.length).map (·.2)).foldl (fun y n=>Fm.all (Eo n) y) x:=by
  unfold IH
  rw [List.foldl_map]
 rw [h,Tg,List.foldl_reverse]
 unfold Fm.cls
 clear h
 induction l with
 | nil=>rfl
 | cons a r ih=>rw [List.foldr_cons,List.foldr_cons,ih fun s hs=>hl s (by simp [hs]),hl a (by simp)]
theorem Wf.bare {w w':World} {I:Nat→Prop} {V:Nat→Option Value} {B:Nat→Nat→Prop} (h:Wf w I V B (Am [])) (hk:KeepS I w w'):Wf w' I V B (Am []):=by
 have hn:∀ g,Am ([]:List Ob) g=.free:=fun g=>by cases g <;> rfl
 have hl:∀ g,¬ (Am ([]:List Ob) g).live:=fun g h=>by rw [hn] at h; exact h
 exact ⟨fun b hb=>zZ (h.ilt b hb) hk.size,fun g k=>(hl g k).elim,fun g b k=>(hl g k).elim,fun g b k=>(hl g k).elim,fun g g' b k=>(hl g k).elim,h.fr,h.gl.keep hk fun _ k=>k⟩
theorem Nz {B:Nat→Nat→Prop} {b:Nat}:¬ HB B ([]:List Ob) b:=fun ⟨g,hl,_⟩=>by
 have hn:Am ([]:List Ob) g=.free:=by cases g <;> rfl
 rw [hn] at hl; exact hl
structure IVc (w:World) (I:Nat→Prop) (x:Fm) (cB Bs b:Nat) (pre:List (Int × ByteArray)) (W:World):Prop where
 fr:Fr w (fun _=>False) W
 z:W.heap[w.heap.size+1]?=some (.cells z5 34 (0,0))
 lt:w.heap.size+2≤cB∧cB<Bs∧Bs<W.heap.size∧b<W.heap.size∧b≠cB∧b≠Bs
 ob:∃ (V':Nat→Option Value) (B':Nat→Nat→Prop) (a2:Option Addr) (n2 c2:Nat) (a4:Option Addr) (n4 c4:Nat),
  W.heap[cB]?=some (.cells #[.int .i64 (IH pre x).op,.string (IH pre x).atom.name,.slice a2 n2 c2,.string (IH pre x).var,.slice a4 n4 c4] 34 (0,0)) ∧
  RepV W I V' (IH pre x).osv (.agg #[.int .i64 (IH pre x).op,.string (IH pre x).atom.name,.slice a2 n2 c2,.string (IH pre x).var,.slice a4 n4 c4]) ∧
  Wf W I V' B' (Am (IH pre x).obs)∧∀ g u,(Am (IH pre x).obs g).live→B' g u→(w.heap.size+2≤u∧u≠cB∧u≠Bs∧u≠b)∧CellsAt W u
theorem AG {w:World} {b:Nat} {cs:Array Value} {t:TypeId} {f:Nat × Nat} (h:w.heap[b]?=some (.cells cs t f)) (i:Nat):w.cell? ⟨b,i,none⟩=cs[i]?:=by
 simp [World.cell?,h]
theorem P1 {w:World} {I:Nat→Prop} {V:Nat→Option Value} {y:Fm} {v:Value} (h:RepV w I V y.osv v):∃ s2 s4,v=.agg #[.int .i64 y.op,.string y.atom.name,s2,.string y.var,s4]∧V 0=some s2∧V 1=some s4∧y.atom.name.size≤9223372036854775807∧y.var.size≤9223372036854775807:=by
 simp only [RepV,RepVs] at h
 obtain ⟨vs,rfl,v0,q0,rfl,rfl,v1,q1,rfl,⟨rfl,h1⟩,v2,q2,rfl,⟨h2,_⟩,v3,q3,rfl,⟨rfl,h3⟩,v4,q4,rfl,⟨h4,_⟩,rfl⟩:=h
 exact ⟨v2,v4,rfl,h2,h4,h1,h3⟩
theorem Th {w:World} {I:Nat→Prop} {V:Nat→Option Value} {B:Nat→Nat→Prop} {y:Fm} {v:Value} (h:RepV w I V y.osv v) (hw:Wf w I V B (Am y.obs)):∃ a2 n2 c2 a4 n4 c4,v=.agg #[.int .i64 y.op,.string y.atom.name,.slice a2 n2 c2,.string y.var,.slice a4 n4 c4]:=by
 obtain ⟨s2,s4,rfl,e2,e4,_⟩:=P1 h
 obtain ⟨u2,k2,r2⟩:=hw.obj 0 trivial
 obtain ⟨u4,k4,r4⟩:=hw.obj 1 trivial
 rw [e2] at k2
 rw [e4] at k4
 obtain rfl:=zD k2
 obtain rfl:=zD k4
 have r2:RowR w I (B 0) 31 2 (y.atom.args.map Tm.o) s2:=r2
 have r4:RowR w I (B 1) 34 5 (y.parts.map Fm.o) s4:=r4
 obtain ⟨a2,c2,rfl,_⟩:=r2.form
 obtain ⟨a4,c4,rfl,_⟩:=r4.form
 exact ⟨_,_,_,_,_,_,rfl⟩
theorem Wf.kept {w w':World} {I:Nat→Prop} {V:Nat→Option Value} {B:Nat→Nat→Prop} {ob:Nat→Ob} (h:Wf w I V B ob) (hk:KeepS I w w') (hB:∀ g b,(ob g).live→B g b→w'.heap[b]?=w.heap[b]?):Wf w' I V B ob :=
 ⟨fun b hb=>zZ (h.ilt b hb) hk.size,fun g hl=>let ⟨val,hv,hr⟩:=h.obj g hl; ⟨val,hv,hr.keep hk (fun _ h=>h) (fun _ _ h=>h) fun b hb _=>hB g b hl hb⟩,fun g b hl hb=>zZ (h.lt g b hl hb) hk.size,h.dI,h.dO,h.fr,h.gl.keep hk fun _ h=>h⟩
theorem Wf.own {w:World} {I I':Nat→Prop} {V':Nat→Option Value} {B':Nat→Nat→Prop} {y:Fm} (h:Wf w I' V' B' (Am y.obs)) (hI:∀ b,I b→I' b) (hgl:GL w I) :
  Wf w I V' (fun g x=>B' g x∧CellsAt w x) (Am y.obs):=by
 have hlv:∀ g,(Am y.obs g).live→g=0∨g=1:=fun g h=>by
  match g with
  | 0=>exact .inl rfl
  | 1=>exact .inr rfl
  | g+2=>exact h.elim
 refine ⟨fun b hb=>h.ilt b (hI b hb),fun g hg=>?_,fun g b hg hb=>h.lt g b hg hb.1,fun g b hg hb hi=>h.dI g b hg hb.1 (hI b hi),fun g g' b hg hg' hb hb'=>h.dO g g' b hg hg' hb.1 hb'.1,fun g hf=>h.fr g hf,hgl⟩
 obtain ⟨val,hv,hr⟩:=h.obj g hg
 rcases hlv g hg with rfl | rfl
 ·have hr:RowR w I' (B' 0) 31 2 (y.atom.args.map Tm.o) val:=hr
  exact ⟨val,hv,(hr.noSh (Tm.noss _)).cells⟩
 ·have hr:RowR w I' (B' 1) 34 5 (y.parts.map Fm.o) val:=hr
  exact ⟨val,hv,(hr.noSh (Fm.noss _)).cells⟩
theorem DRep.strs {w:World} {I:Nat→Prop} {ns:List ByteArray} {a:Option Addr} {n c:Nat} (h:DRep false w I (.arr (ns.map fun s=>[D.str s])) (.slice a n c)) :
  n=ns.length∧(0<ns.length→∃ b off,a=some ⟨b,off,none⟩∧I b∧b<w.heap.size∧∀ j (h:j<ns.length),w.cell? ⟨b,off+j,none⟩=some (.string ns[j])):=by
 have hI:∀ b off,a=some ⟨b,off,none⟩→0<ns.length→I b:=fun b off ha hp=>by
  cases h with
  | arr S sz es a cap f Sub h1 h2 h3 h4 h5 h6 h7 =>
   rcases h3 with h3 | ⟨b',off',e,hS,_⟩
   ·rw [zQ] at h3; omega
   ·rw [e] at ha
    injection ha with ha; injection ha with e1 e2
    rw [←e1]; exact hS
 obtain ⟨a',c',e,_,_,h0⟩:=h.slice_form
 injection e with e1 e2 e3
 subst e1 e2 e3
 rw [zQ] at *
 refine ⟨rfl,fun hp=>?_⟩
 obtain ⟨b,off,rfl⟩:=h0 hp
 have hc:∀ j (hj:j<ns.length),w.cell? ⟨b,off+j,none⟩=some (.string ns[j]):=fun j hj=>by
  obtain ⟨v,h1,h2⟩:=h.leaf (k:=j) (j:=0) (by rw [zQ]; exact hj) (by rw [z6]; exact Nat.zero_lt_one)
  simp only [z6,zG,zT,yK] at h1 h2
  have hz:off+j*(0+1)+0=off+j:=by omega
  rw [hz] at h1
  cases h2
  exact h1
 refine ⟨b,off,rfl,hI b off rfl hp,?_,hc⟩
 ·obtain ⟨o,ho,_⟩:=cells_of_cell (hc 0 hp)
  exact (zL.1 ho).1
theorem RepVs.Qs {w:World} {I:Nat→Prop} {V:Nat→Option Value} {x:SV} {xs:List SV} {v:Value} {vs:List Value} (h:RepV w I V x v) (h2:RepVs w I V xs vs):RepVs w I V (x :: xs) (v :: vs):=by
 simp only [RepVs]
 exact ⟨v,vs,rfl,h,h2⟩
theorem RepVs.YV {w:World} {I:Nat→Prop} {V:Nat→Option Value}:RepVs w I V [] []:=by simp only [RepVs]
theorem UH {W:World} {c:Nat} {T:TypeId} {fr:Nat × Nat} {u0 u1 u2 u3 u4:Value} {y0:Int} {y1:ByteArray} {v2:Value} {y3:ByteArray} {v4:Value} (h:W.heap[c]?=some (.cells #[u0,u1,u2,u3,u4] T fr)):(FE W c y0 y1 v2 y3 v4).heap[c]?=some (.cells #[.int .i64 y0,.string y1,v2,.string y3,v4] T fr):=by
 unfold FE
 have h1:=Lib.heap_setCell_same (i:=0) h (.int .i64 y0)
 have h2:=Lib.heap_setCell_same (i:=1) h1 (.string y1)
 have h3:=Lib.heap_setCell_same (i:=2) h2 v2
 have h4:=Lib.heap_setCell_same (i:=3) h3 (.string y3)
 have h5:=Lib.heap_setCell_same (i:=4) h4 v4
 exact h5
theorem P2 (W:World) (c:Nat) (y0:Int) (y1:ByteArray) (v2:Value) (y3:ByteArray) (v4:Value):(FE W c y0 y1 v2 y3 v4).heap.size=W.heap.size:=by unfold FE; simp
theorem Uc (W:World) (c:Nat) (y0:Int) (y1:ByteArray) (v2:Value) (y3:ByteArray) (v4:Value):(FE W c y0 y1 v2 y3 v4).os=W.os:=by unfold FE; rfl
theorem P3 (W:World) (c:Nat) (y0:Int) (y1:ByteArray) (v2:Value) (y3:ByteArray) (v4:Value):(FE W c y0 y1 v2 y3 v4).tape=W.tape:=by unfold FE; rfl
theorem R9 (W:World) (c:Nat) (y0:Int) (y1:ByteArray) (v2:Value) (y3:ByteArray) (v4:Value):(FE W c y0 y1 v2 y3 v4).output=W.output:=by unfold FE; rfl
theorem HE (W:World) (l:Nat) (o:Obj):(W.putObj l o).os=W.os∧(W.putObj l o).tape=W.tape∧(W.putObj l o).output=W.output:=⟨rfl,rfl,rfl⟩
theorem CellsAt.keep {w w':World} {x:Nat} (h:CellsAt w x) (hk:w'.heap[x]?=w.heap[x]?):CellsAt w' x:=by
 obtain ⟨u,h1,h2⟩:=h
 exact ⟨u,by rw [hk]; exact h1,h2⟩
def PAc (w:World) (I:Nat→Prop) (V:Nat→Option Value) (B:Nat→Nat→Prop) (x:Fm) (v0 v1 v2 v3 v4:Value) (W:World) (z0:Int) (z1:ByteArray) (s2:Value) (z3:ByteArray) (s4:Value):Prop :=
 z0=x.op∧z1=x.atom.name∧z3=x.var∧(∃ a n c,s2=.slice a n c)∧(∃ a n c,s4=.slice a n c)∧∃ I' V' B',RepV W I' V' x.osv (.agg #[.int .i64 z0,.string z1,s2,.string z3,s4])∧FunPost (wA w v0 v1 v2 v3 v4) I V B [] x.obs W I' V' B'
def PBc (w:World) (I:Nat→Prop) (V:Nat→Option Value) (B:Nat→Nat→Prop) (x:Fm) (ns:List ByteArray) (v0 v1 v2 v3 v4:Value) (W:World) (cB:Nat) (a:Option Addr) (n c:Nat):Prop :=
 ∃ W1 z0 z1 s2 z3 s4,PAc w I V B x v0 v1 v2 v3 v4 W1 z0 z1 s2 z3 s4∧cB=W1.heap.size∧∃ I2:Nat→Prop,(∀ b,I2 b→I b∨W1.heap.size+1≤b)∧(∀ b,I2 b→b<W.heap.size)∧DRep false W I2 (.arr (ns.map fun s=>[D.str s])) (.slice a n c)∧Fr (wB W1 z0 z1 s2 z3 s4) (fun _=>False) W
theorem IVc.own {w:World} {I:Nat→Prop} (hI:∀ b,I b→b<w.heap.size) {x:Fm} {cB Bs b B0:Nat} (h1:Bs<B0) (h2:b<B0) (h3:w.heap.size+2≤B0):OwnFrom B0 (IVc w I x cB Bs b):=by
 intro pre W W' row hs hg hrow
 obtain ⟨fr,z,lt,V',B',a2,n2,c2,a4,n4,c4,hbx,hrp,hwf,hB'⟩:=hs
 have kl:∀ k,k<B0→k<W.heap.size→W'.heap[k]?=W.heap[k]?:=fun k hk hl=>hg.block k hl fun e=>by have:=(hrow k e.symm).1; omega
 have kc:∀ u,CellsAt W u→W'.heap[u]?=W.heap[u]?:=fun u ⟨o,ho,hc⟩=>grownBy_keeps_cells hg (fun r e=>(hrow r e).2) ho hc
 have hsz:=fr.size
 have hkI:KeepS I W W':=⟨hg.size,fun k hk hl=>kl k (by have:=hI k hk; omega) hl⟩
 have hzl:=(zL.1 z).1
 refine ⟨⟨hg.os.trans fr.os,TapeOk.trans ⟨hg.tape,fun d=>d.elim⟩ fr.tape,hg.output.trans fr.output,yQ hsz hg.size,fun k hk hn=>(kl k (by omega) (by omega)).trans (fr.block k hk hn)⟩,by rw [kl _ (by omega) hzl]; exact z,?_,V',B',a2,n2,c2,a4,n4,c4,?_,RepV.mono hkI (fun _ h=>h) (fun _ _ h=>h) _ _ hrp,hwf.kept hkI fun g u hl hu=>kc u (hB' g u hl hu).2,fun g u hl hu=>⟨(hB' g u hl hu).1,(hB' g u hl hu).2.keep (kc u (hB' g u hl hu).2)⟩⟩
 ·have:=hg.size; omega
 ·rw [kl _ (by omega) (by omega)]; exact hbx
theorem Ti (x:Fm) (ns:List ByteArray) (hns:ns.length≤1048576) (hls:∀ s∈ns,Eo s=s)
  (hC:Fun Tryz.prog 68 [x.sv] [] x.osv x.obs)
  (hF:Fun Tryz.prog 101 [x.sv] [] (.arr (ns.map fun s=>[D.str s])) [])
  (hQ:∀ (n:ByteArray) (y:Fm),Fun Tryz.prog 102 [.int .i64 8,.str n,y.osv] y.obs (.agg [.int .i64 8,.str ⟨#[]⟩,.ref 2,.str n,.ref 3]) [.gone,.gone,.row 31 2 [],.row 34 5 [y.o]]) :
  Fun Tryz.prog 43 [x.sv] [] (Fm.cls ns x).osv (Fm.cls ns x).obs:=by
 intro w I V B vs hwf hvs
 have hvs0:=hvs
 obtain ⟨v,q,rfl,hv,hq⟩:=Dp hvs
 obtain rfl:=LN hq
 simp only [RepV,RepVs] at hv
 obtain ⟨us,rfl,v0,q0,rfl,e0,v1,q1,rfl,e1,v2,q2,rfl,e2,v3,q3,rfl,e3,v4,q4,rfl,e4,rfl⟩:=hv
 clear e0 e1 e2 e3 e4 hq hvs
 have hIlt:=hwf.ilt
 have sA:(wA w v0 v1 v2 v3 v4).heap.size=w.heap.size+2:=by unfold wA; simp
 have kA:∀ b,b<w.heap.size→(wA w v0 v1 v2 v3 v4).heap[b]?=w.heap[b]?:=fun b hb=>by
  unfold wA
  rw [Below.heap_alloc _ _ _ (by simp; omega),Below.heap_alloc _ _ _ hb]
 have hkA:KeepS I w (wA w v0 v1 v2 v3 v4):=⟨by omega,fun b _ hl=>kA b hl⟩
 have pA:(wA w v0 v1 v2 v3 v4).heap[w.heap.size]?=some (.cells #[v0,v1,v2,v3,v4] 34 (0,0)):=by
  unfold wA
  rw [Below.heap_alloc _ _ _ (by simp)]
  exact World.alloc_heap_new w _
 have zA:(wA w v0 v1 v2 v3 v4).heap[w.heap.size+1]?=some (.cells z5 34 (0,0)):=by
  unfold wA
  have:=World.alloc_heap_new (w.alloc (.cells #[v0,v1,v2,v3,v4] 34)) (.cells z5 34)
  rwa [World.size_alloc] at this
 have frA:Fr w (fun _=>False) (wA w v0 v1 v2 v3 v4):=⟨rfl,TapeOk.mk' rfl rfl,rfl,by omega,fun b hb _=>kA b hb⟩
 have aF:∀ W z0 z1 s2 z3 s4,PAc w I V B x v0 v1 v2 v3 v4 W z0 z1 s2 z3 s4→w.heap.size+2≤W.heap.size∧(∀ b,b<w.heap.size+2→W.heap[b]?=(wA w v0 v1 v2 v3 v4).heap[b]?)∧Fr w (fun _=>False) W:=by
  rintro W z0 z1 s2 z3 s4 ⟨_,_,_,_,_,I',V',B',hr,hp⟩
  have h1:=hp.fr.size
  refine ⟨by omega,fun b hb=>hp.fr.block b (by omega) Nz,⟨hp.fr.os.trans frA.os,TapeOk.trans hp.fr.tape frA.tape,hp.fr.output.trans frA.output,by omega,fun b hb _=>(hp.fr.block b (by omega) Nz).trans (kA b hb)⟩⟩
 have bS:∀ (W:World) z0 z1 s2 z3 s4,(wB W z0 z1 s2 z3 s4).heap.size=W.heap.size+1:=fun W z0 z1 s2 z3 s4=>by unfold wB; simp
 have bK:∀ (W:World) z0 z1 s2 z3 s4 b,b<W.heap.size→(wB W z0 z1 s2 z3 s4).heap[b]?=W.heap[b]?:=fun W z0 z1 s2 z3 s4 b hb=>by unfold wB; exact Below.heap_alloc _ _ _ hb
 have bN:∀ (W:World) z0 z1 s2 z3 s4,(wB W z0 z1 s2 z3 s4).heap[W.heap.size]?=some (.cells #[.int .i64 z0,.string z1,s2,.string z3,s4] 34 (0,0)):=fun W z0 z1 s2 z3 s4=>by unfold wB; exact World.alloc_heap_new W _
 refine R8 w v0 v1 v2 v3 v4 _ (PAc w I V B x v0 v1 v2 v3 v4) ?hA ?hAf (PBc w I V B x ns v0 v1 v2 v3 v4) ?hB ns (by omega) hls (IVc w I x) ?hPB ?hDone
 case hA =>
  refine (hC _ I V B _ (hwf.bare hkA) (RepVs.mono hkA (fun _ h=>h) (fun _ _ h=>h) _ _ hvs0)).mono ?_
  rintro e W' ⟨rv,I',V',B',rfl,hr,hp⟩
  obtain ⟨a2,n2,c2,a4,n4,c4,rfl⟩:=Th hr hp.wf
  exact ⟨_,_,_,_,_,_,_,_,_,rfl,rfl,rfl,rfl,⟨_,_,_,rfl⟩,⟨_,_,_,rfl⟩,I',V',B',hr,hp⟩
 case hAf =>
  intro W z0 z1 s2 z3 s4 hP
  obtain ⟨h1,h2,_⟩:=aF _ _ _ _ _ _ hP
  have hb:(wB W z0 z1 s2 z3 s4).heap[w.heap.size]?=some (.cells #[v0,v1,v2,v3,v4] 34 (0,0)):=by
   rw [bK _ _ _ _ _ _ _ (by omega),h2 _ (by omega)]; exact pA
  exact ⟨AG hb 0,AG hb 1,AG hb 2,AG hb 3,AG hb 4⟩
 case hB =>
  intro W z0 z1 s2 z3 s4 hP
  obtain ⟨h1,h2,h3⟩:=aF _ _ _ _ _ _ hP
  have hs:=bS W z0 z1 s2 z3 s4
  have hk:KeepS I w (wB W z0 z1 s2 z3 s4):=⟨by omega,fun b _ hl=>by rw [bK _ _ _ _ _ _ _ (by omega)]; exact h3.block b hl id⟩
  refine (hF _ I V B _ (hwf.bare hk) (RepVs.mono hk (fun _ h=>h) (fun _ _ h=>h) _ _ hvs0)).mono ?_
  rintro e W' ⟨rv,I2,V2,B2,rfl,hr,hp⟩
  simp only [RepV] at hr
  obtain ⟨a,c,rfl,_⟩:=hr.slice_form
  refine ⟨a,_,c,rfl,W,z0,z1,s2,z3,s4,hP,rfl,I2,fun b hb=>?_,hp.wf.ilt,hr,⟨hp.fr.os,hp.fr.tape,hp.fr.output,hp.fr.size,fun b hb _=>hp.fr.block b hb Nz⟩⟩
  rcases hp.i1 b hb with h | h | h
  ·exact .inl h
  ·exact .inr (by omega)
  ·exact (Nz h).elim
 case hPB =>
  rintro W cB a n c ⟨W1,z0,z1,s2,z3,s4,hP,rfl,I2,hI2,hI2l,hD,hfr⟩
  obtain ⟨h1,h2,h3⟩:=aF _ _ _ _ _ _ hP
  have hs:=bS W1 z0 z1 s2 z3 s4
  have hs2:=hfr.size
  obtain ⟨W3,hW3⟩:∃ W3,W3=W.alloc (.cells #[.slice a n c] 95):=⟨_,rfl⟩
  have s3:W3.heap.size=W.heap.size+1:=by rw [hW3]; simp
  have k3:∀ b,b<W.heap.size→W3.heap[b]?=W.heap[b]?:=fun b hb=>by rw [hW3]; exact Below.heap_alloc _ _ _ hb
  rw [←hW3]
  obtain ⟨hn,hD2⟩:=hD.strs
  have hbb:∃ b,(b<w.heap.size+2∨W1.heap.size<b)∧b<W.heap.size∧Qr W3 (.slice a n c) ns b:=by
   rcases yG ns.length with h0 | h0
   ·exact ⟨w.heap.size,.inl (by omega),by omega,.inl ⟨zE h0,a,c,by rw [hn,h0]⟩⟩
   ·obtain ⟨b,off,rfl,hb1,hb2,hb3⟩:=hD2 h0
    refine ⟨b,?_,hb2,.inr ⟨off,c,by rw [hn],fun j hj=>?_⟩⟩
    ·rcases hI2 b hb1 with h | h
     ·have:=hIlt b h; exact .inl (by omega)
     ·exact .inr (by omega)
    ·rw [World.cell?_of_block (w:=W) (w':=W3) (a:=⟨b,off+j,none⟩) (k3 b hb2),zK hj]
     exact hb3 j hj
  obtain ⟨b,hb1,hb2,hN⟩:=hbb
  refine ⟨by omega,b,by omega,hN,IVc.own hIlt (by omega) (by omega) (by omega),?_,?_⟩
  ·
   obtain ⟨rfl,rfl,rfl,⟨a2,n2,c2,rfl⟩,⟨a4,n4,c4,rfl⟩,I',V',B',hr,hp⟩:=hP
   have kW:∀ k,k<W1.heap.size→W3.heap[k]?=W1.heap[k]?:=fun k hk=>by
    rw [k3 k (by omega),hfr.block k (by omega) id,bK _ _ _ _ _ _ _ hk]
   have hkI:KeepS I W1 W3:=⟨by omega,fun k hk hl=>kW k hl⟩
   have hgl:GL W1 I:=hwf.gl.keep ⟨h3.size,fun k _ hl=>h3.block k hl id⟩ fun _ h=>h
   have hown:=Wf.own hp.wf hp.i0 hgl
   have hbx:W3.heap[W1.heap.size]?=some (.cells #[.int .i64 x.op,.string x.atom.name,.slice a2 n2 c2,.string x.var,.slice a4 n4 c4] 34 (0,0)):=by
    rw [k3 _ (by omega),hfr.block _ (by omega) id]
    exact bN _ _ _ _ _ _
   obtain ⟨s2,s4,he,e2,e4,g1,g3⟩:=P1 hr
   injection he with he
   injection he with he
   simp only [zY,and_true,true_and] at he
   obtain ⟨rfl,rfl⟩:=he
   refine ⟨⟨?_,?_,?_,?_,?_⟩,?_,by omega,V',fun g u=>B' g u∧CellsAt W1 u,a2,n2,c2,a4,n4,c4,hbx,?_,hown.kept hkI fun g u hl hu=>kW u (hp.wf.lt g u hl hu.1),fun g u hl hu=>?_⟩
   ·rw [hW3]; exact hfr.os.trans h3.os
   ·rw [hW3]; exact TapeOk.trans (b:=wB W1 _ _ _ _ _) ⟨hfr.tape.1,fun d=>d.elim⟩ ⟨h3.tape.1,fun d=>d.elim⟩
   ·rw [hW3]; exact hfr.output.trans h3.output
   ·omega
   ·intro k hk hn'
    rw [kW k (by omega)]
    exact h3.block k hk id
   ·rw [kW _ (by omega),h2 _ (by omega)]; exact zA
   ·show RepV W3 I V' (.agg [.int .i64 x.op,.str x.atom.name,.ref 0,.str x.var,.ref 1]) _
    simp only [RepV,RepVs]
    exact ⟨_,rfl,_,_,rfl,rfl,_,_,rfl,⟨rfl,g1⟩,_,_,rfl,⟨e2,rfl⟩,_,_,rfl,⟨rfl,g3⟩,_,_,rfl,⟨e4,rfl⟩,rfl⟩
   ·have hlt:=hp.wf.lt g u hl hu.1
    have hge:w.heap.size+2≤u:=by
     rcases hp.bh g u hl hu.1 with h | h
     ·exact (Nz h).elim
     ·omega
    exact ⟨by omega,hu.2.keep (kW u hlt)⟩
  ·
   intro lb t0 t1 t2 t4 t6 t7 t8 t9 t10 t11 t12 pre xx W' hIV hlen
   obtain ⟨fr,z,lt,V',B',a2,n2,c2,a4,n4,c4,hbx,hrp,hwf',hB'⟩:=hIV
   have hcl:=UG pre xx x
   obtain ⟨y,hy⟩:∃ y,y=IH pre x:=⟨_,rfl⟩
   rw [←hy] at hbx hrp hwf' hB' hcl
   have nHB:∀ k,HB B' y.obs k→(w.heap.size+2≤k∧k≠W1.heap.size∧k≠W.heap.size∧k≠b)∧CellsAt W' k:=fun k ⟨g,hl,hu⟩=>hB' g k hl hu
   refine Wn lb 3 (by omega) W1.heap.size (Eo xx.2) _ _ _ _ _ t0 t1 t2 t4 t6 t7 t8 t9 t10 W' (AG hbx 0) (AG hbx 1) (AG hbx 2) (AG hbx 3) (AG hbx 4)
    (fun W'' y0 y1 p2 m2 d2 y3 p4 m4 d4=>y0=8∧y1=⟨#[]⟩∧y3=Eo xx.2∧∃ I'' V'' B'',V'' 2=some (.slice p2 m2 d2)∧V'' 3=some (.slice p4 m4 d4)∧FunPost W' I V' B' y.obs [.gone,.gone,.row 31 2 [],.row 34 5 [y.o]] W'' I'' V'' B'') ?_ ?_ _ t11 t12 ?_
   ·refine (hQ (Eo xx.2) y W' I V' B' [.int .i64 8,.string (Eo xx.2),_] hwf' (RepVs.Qs (by simp only [RepV]) (RepVs.Qs (by simp only [RepV,true_and]; exact Pz _) (RepVs.Qs hrp RepVs.YV)))).mono ?_
    rintro e W'' ⟨rv,I'',V'',B'',rfl,hr,hp⟩
    simp only [RepV,RepVs] at hr
    obtain ⟨us,rfl,_,_,rfl,rfl,_,_,rfl,⟨rfl,_⟩,s2',_,rfl,⟨k2,_⟩,_,_,rfl,⟨rfl,_⟩,s4',_,rfl,⟨k4,_⟩,rfl⟩:=hr
    obtain ⟨u2,e2,r2⟩:=hp.wf.obj 2 trivial
    obtain ⟨u4,e4,r4⟩:=hp.wf.obj 3 trivial
    rw [k2] at e2
    rw [k4] at e4
    obtain rfl:=zD e2
    obtain rfl:=zD e4
    have r2:RowR W'' I'' (B'' 2) 31 2 [] s2':=r2
    have r4:RowR W'' I'' (B'' 3) 34 5 [y.o] s4':=r4
    obtain ⟨p2,d2,rfl,_⟩:=r2.form
    obtain ⟨p4,d4,rfl,_⟩:=r4.form
    exact ⟨_,_,_,_,_,_,_,_,_,rfl,rfl,rfl,rfl,I'',V'',B'',k2,k4,hp⟩
   ·rintro W'' y0 y1 p2 m2 d2 y3 p4 m4 d4 ⟨_,_,_,I'',V'',B'',_,_,hp⟩
    have hb:W''.heap[W1.heap.size]?=W'.heap[W1.heap.size]?:=hp.fr.block _ (by omega) fun h=>(nHB _ h).1.2.1 rfl
    rw [hbx] at hb
    exact ⟨AG hb 0,AG hb 1,AG hb 2,AG hb 3,AG hb 4,fun i _=>by simp [World.frozen?,hb]⟩
   ·rintro act W'' y0 y1 p2 m2 d2 y3 p4 m4 d4 ⟨rfl,rfl,rfl,I'',V'',B'',k2,k4,hp⟩
    have hb:W''.heap[W1.heap.size]?=W'.heap[W1.heap.size]?:=hp.fr.block _ (by omega) fun h=>(nHB _ h).1.2.1 rfl
    rw [hbx] at hb
    have sz5:=P2 W'' W1.heap.size 8 ⟨#[]⟩ (.slice p2 m2 d2) (Eo xx.2) (.slice p4 m4 d4)
    have hsz:=hp.fr.size
    have k5:∀ k,k≠W1.heap.size→(FE W'' W1.heap.size 8 ⟨#[]⟩ (.slice p2 m2 d2) (Eo xx.2) (.slice p4 m4 d4)).heap[k]?=W''.heap[k]?:=fun k hk=>Lh _ hk
    have kk:∀ k,k<W'.heap.size→¬ HB B' y.obs k→k≠W1.heap.size→(FE W'' W1.heap.size 8 ⟨#[]⟩ (.slice p2 m2 d2) (Eo xx.2) (.slice p4 m4 d4)).heap[k]?=W'.heap[k]?:=fun k hk hn hc=>(k5 k hc).trans (hp.fr.block k hk hn)
    have hgl:GL W'' I:=hwf'.gl.keep ⟨hsz,fun k hk hl=>hp.fr.block k hl fun h=>by have:=(nHB k h).1.1; have:=hIlt k hk; omega⟩ fun _ h=>h
    have hnx:=Wf.next hp.wf hp.i0 rfl (by simp only [OT.AK,Fm.no,zC]) hgl
    have hbh:∀ g u,(Am [Ob.row 31 2 [],.row 34 5 [y.o]] g).live→B'' (g+2) u→w.heap.size+2≤u∧u≠W1.heap.size∧u≠W.heap.size∧u≠b:=fun g u hl hu=>by
     rcases hp.bh (g+2) u hl hu with h | h
     ·exact (nHB u h).1
     ·have:=lt; omega
    have hkI:KeepS I W'' (FE W'' W1.heap.size 8 ⟨#[]⟩ (.slice p2 m2 d2) (Eo xx.2) (.slice p4 m4 d4)):=⟨by omega,fun k hk hl=>k5 k (by have:=hIlt k hk; omega)⟩
    refine ⟨⟨by omega,fun k o hk ho=>?_⟩,⟨?_,?_⟩,?_⟩
    ·rw [kk k (zL.1 hk).1 (fun h=>?_) (fun h=>?_)]
     ·exact hk
     ·obtain ⟨u,hu1,hu2⟩:=(nHB k h).2
      rw [hk] at hu1
      obtain rfl:=zD hu1
      rw [ho] at hu2; cases hu2
     ·rw [h,hbx] at hk
      obtain rfl:=zD hk
      cases ho
    ·exact kk _ (by omega) (fun h=>(nHB _ h).1.2.2.1 rfl) (by omega)
    ·exact kk _ (by omega) (fun h=>(nHB _ h).1.2.2.2 rfl) (by omega)
    ·refine ⟨⟨?_,?_,?_,?_,?_⟩,?_,by omega,fun g=>V'' (g+2),fun g u=>B'' (g+2) u∧CellsAt W'' u,p2,m2,d2,p4,m4,d4,?_,?_,?_,?_⟩
     ·exact (Uc W'' _ _ _ _ _ _).trans (hp.fr.os.trans fr.os)
     ·exact ⟨(P3 W'' _ _ _ _ _ _).trans (hp.fr.tape.1.trans fr.tape.1),fun d=>d.elim⟩
     ·exact (R9 W'' _ _ _ _ _ _).trans (hp.fr.output.trans fr.output)
     ·have:=fr.size; omega
     ·intro k hk hn'
      have:=fr.size
      rw [kk k (by omega) (fun h=>by have:=(nHB k h).1.1; omega) (by omega)]
      exact fr.block k hk hn'
     ·rw [kk _ (by omega) (fun h=>by have:=(nHB _ h).1.1; omega) (by omega)]; exact z
     ·rw [hcl]
      exact UH hb
     ·rw [hcl]
      show RepV _ I _ (.agg [.int .i64 8,.str ⟨#[]⟩,.ref 0,.str (Eo xx.2),.ref 1]) _
      simp only [RepV,RepVs]
      exact ⟨_,rfl,_,_,rfl,rfl,_,_,rfl,⟨rfl,zM _⟩,_,_,rfl,⟨k2,rfl⟩,_,_,rfl,⟨rfl,Pz _⟩,_,_,rfl,⟨k4,rfl⟩,rfl⟩
     ·rw [hcl]
      exact hnx.kept hkI fun g u hl hu=>k5 u (hbh g u hl hu.1).2.1
     ·rw [hcl]
      intro g u hl hu
      exact ⟨hbh g u hl hu.1,hu.2.keep (k5 u (hbh g u hl hu.1).2.1)⟩
 case hDone =>
  rintro cB Bs b W ⟨fr,z,lt,V',B',a2,n2,c2,a4,n4,c4,hbx,hrp,hwf',hB'⟩
  rw [Wp ns hls x] at hbx hrp hwf' hB'
  refine ⟨_,_,a2,n2,c2,_,a4,n4,c4,⟨AG hbx 0,AG hbx 1,AG hbx 2,AG hbx 3,AG hbx 4⟩,z,fun D hD hK=>?_⟩
  have sz5:=P2 W (w.heap.size+1) (Fm.cls ns x).op (Fm.cls ns x).atom.name (.slice a2 n2 c2) (Fm.cls ns x).var (.slice a4 n4 c4)
  obtain ⟨W5,hW5⟩:∃ W5,W5=(FE W (w.heap.size+1) (Fm.cls ns x).op (Fm.cls ns x).atom.name (.slice a2 n2 c2) (Fm.cls ns x).var (.slice a4 n4 c4)).putObj D (.deferred none):=⟨_,rfl⟩
  rw [←hW5]
  have s5:W5.heap.size=W.heap.size:=by rw [hW5,← sz5]; simp
  have k5:∀ k,k≠w.heap.size+1→k≠D→W5.heap[k]?=W.heap[k]?:=fun k h1 h2=>by
   rw [hW5,World.putObj_heap_other (by omega)]
   exact Lh _ h1
  have o5:W5.os=W.os:=by rw [hW5,(HE _ _ _).1,Uc]
  have t5:W5.tape=W.tape:=by rw [hW5,(HE _ _ _).2.1,P3]
  have u5:W5.output=W.output:=by rw [hW5,(HE _ _ _).2.2,R9]
  clear hW5
  have hsz:=fr.size
  have hkI:KeepS I W W5:=⟨by omega,fun k hk hl=>k5 k (by have:=hIlt k hk; omega) (by have:=hIlt k hk; omega)⟩
  have hVn:∀ g,V g=none:=fun g=>hwf.fr g (by cases g <;> rfl)
  refine ⟨_,I,V',B',rfl,RepV.mono hkI (fun _ h=>h) (fun _ _ h=>h) _ _ hrp,⟨⟨?_,?_,?_,by omega,fun k hk _=>?_⟩,fun _ h=>h,fun _ h=>.inl h,fun g u hu=>?_,hwf'.kept hkI fun g u hl hu=>k5 u ?_ ?_,fun g u hl hu=>?_⟩⟩
  ·exact o5.trans fr.os
  ·exact ⟨t5.trans fr.tape.1,fun d=>d.elim⟩
  ·exact u5.trans fr.output
  ·rw [k5 k (by omega) (by omega)]; exact fr.block k hk id
  ·rw [hVn] at hu; cases hu
  ·have:=(hB' g u hl hu).1.1; omega
  ·intro e
   obtain ⟨o,ho,hc⟩:=(hB' g u hl hu).2
   rw [e,hK] at ho
   obtain rfl:=zD ho
   cases hc
  ·have:=(hB' g u hl hu).1.1
   exact .inr (by omega)
mutual
theorem Tm.d_inj:∀ x y:Tm,Tm.d x=Tm.d y→x=y
 | .mk n xs,.mk m ys,h=>by
  rw [Tm.d_eq,Tm.d_eq] at h
  simp only [zY,D.str.injEq,D.arr.injEq,and_true] at h
  have h1:n=m:=h.1
  rw [h1,Tm.ds_inj xs ys h.2]
theorem Tm.ds_inj:∀ xs ys:List Tm,xs.map Tm.d=ys.map Tm.d→xs=ys
 | [],[],_=>rfl
 | [],y :: ys,h=>by simp at h
 | x :: xs,[],h=>by simp at h
 | x :: xs,y :: ys,h=>by
  simp only [zB,zY] at h
  rw [Tm.d_inj x y h.1,Tm.ds_inj xs ys h.2]
end
mutual
theorem Fm.d_inj:∀ x y:Fm,Fm.d x=Fm.d y→x=y
 | .mk op at_ var xs,.mk op' at' var' ys,h=>by
  rw [Fm.d_eq,Fm.d_eq] at h
  simp only [zY,D.int.injEq,D.str.injEq,D.arr.injEq,and_true] at h
  obtain ⟨h1,h2,h3,h4,h5⟩:=h
  have h1:op=op':=h1
  have h4:var=var':=h4
  have ha:at_=at':=Tm.d_inj at_ at' (by
   have h2:at_.name=at'.name:=h2
   have h3:at_.args.map Tm.d=at'.args.map Tm.d:=h3
   rw [Tm.d_eq,Tm.d_eq,h2,h3])
  rw [h1,h4,ha,Fm.ds_inj xs ys h5]
theorem Fm.ds_inj:∀ xs ys:List Fm,xs.map Fm.d=ys.map Fm.d→xs=ys
 | [],[],_=>rfl
 | [],y :: ys,h=>by simp at h
 | x :: xs,[],h=>by simp at h
 | x :: xs,y :: ys,h=>by
  simp only [zB,zY] at h
  rw [Fm.d_inj x y h.1,Fm.ds_inj xs ys h.2]
end
theorem Fm.YW {x y:Fm} (h:x.sv=y.sv):x=y:=by
 refine Fm.d_inj x y ?_
 rw [Fm.d_eq,Fm.d_eq]
 have h:SV.agg [.int .i64 x.op,.str x.atom.name,.arr (x.atom.args.map Tm.d),.str x.var,.arr (x.parts.map Fm.d)]=SV.agg [.int .i64 y.op,.str y.atom.name,.arr (y.atom.args.map Tm.d),.str y.var,.arr (y.parts.map Fm.d)]:=h
 simp only [SV.agg.injEq,zY,SV.int.injEq,SV.str.injEq,SV.arr.injEq,true_and,and_true] at h
 obtain ⟨h1,h2,h3,h4,h5⟩:=h
 rw [h1,h2,h3,h4,h5]
def N0 (x:Fm):Prop :=
 x.free.length≤1048576∧(∀ s∈x.free,Eo s=s)∧Fun Tryz.prog 68 [x.sv] [] x.osv x.obs∧Fun Tryz.prog 101 [x.sv] [] (.arr (x.free.map fun s=>[D.str s])) [] ∧
   ∀ (n:ByteArray) (y:Fm),Fun Tryz.prog 102 [.int .i64 8,.str n,y.osv] y.obs (.agg [.int .i64 8,.str ⟨#[]⟩,.ref 2,.str n,.ref 3]) [.gone,.gone,.row 31 2 [],.row 34 5 [y.o]]
noncomputable def GJ (xs:List SV) (ob:List Ob):Option (SV × List Ob) :=
 match ob with
 | []=>open Classical in if h:∃ x:Fm,xs=[x.sv]∧N0 x then some ((Fm.cls h.choose.free h.choose).osv,(Fm.cls h.choose.free h.choose).obs) else none
 | _=>none
theorem Tj (x:Fm) (h:N0 x):GJ [x.sv] []=some ((Fm.cls x.free x).osv,(Fm.cls x.free x).obs):=by
 have h0:∃ y:Fm,[x.sv]=[y.sv]∧N0 y:=⟨x,rfl,h⟩
 have e:x=h0.choose:=Fm.YW (List.cons.inj h0.choose_spec.1).1
 unfold GJ
 simp only
 rw [dif_pos h0,← e]
theorem Qt {xs:List SV} {ob:List Ob} {r:SV} {ob':List Ob} (h:GJ xs ob=some (r,ob')):Fun Tryz.prog 43 xs ob r ob':=by
 unfold GJ at h
 split at h
 ·split at h
  ·rename_i h0
   have hs:=h0.choose_spec
   generalize h0.choose=y at hs h
   obtain ⟨h1,h2,h3,h4,h5,h6⟩:=hs
   simp only [zI,zR] at h
   obtain ⟨rfl,rfl⟩:=h
   rw [h1]
   exact Ti _ _ h2 h3 h4 h5 h6
  ·cases h
 ·cases h
end Go.Proofs.YtkjpmfmjebkkiaaGreat
set_option maxRecDepth 100000
set_option linter.unusedSimpArgs false
set_option linter.unusedVariables false
set_option linter.unusedSectionVars false
namespace Go.Proofs.YtkjpmfmjebkkiaaGreat
open Go.RowKit
def Fm.at (a:Tm):Fm:=.mk 3 a ⟨#[]⟩ []
def Fm.neg (y:Fm):Fm:=.mk 4 (.mk ⟨#[]⟩ []) ⟨#[]⟩ [y]
def Fm.or (y z:Fm):Fm:=.mk 6 (.mk ⟨#[]⟩ []) ⟨#[]⟩ [y,z]
def ER (l:Lt):Fm:=bif l.pos then Fm.at l.atom else Fm.neg (Fm.at l.atom)
def Ay:List Lt→Fm
 | []=>.mk 2 (.mk ⟨#[]⟩ []) ⟨#[]⟩ []
 | [l]=>ER l
 | l :: m :: r=>Fm.or (ER l) (Ay (m :: r))
theorem Lt.d_inj (x y:Lt) (h:Lt.d x=Lt.d y):x=y:=by
 obtain ⟨p,a⟩:=x
 obtain ⟨q,b⟩:=y
 simp only [Lt.d,zY,D.bool.injEq,D.str.injEq,D.arr.injEq,and_true] at h
 obtain ⟨h1,h2,h3⟩:=h
 have ha:a=b:=Tm.d_inj a b (by rw [Tm.d_eq,Tm.d_eq,h2,h3])
 rw [h1,ha]
theorem Lt.ds_inj:∀ xs ys:List Lt,xs.map Lt.d=ys.map Lt.d→xs=ys
 | [],[],_=>rfl
 | [],y :: ys,h=>by simp at h
 | x :: xs,[],h=>by simp at h
 | x :: xs,y :: ys,h=>by
  simp only [zB,zY] at h
  rw [Lt.d_inj x y h.1,Lt.ds_inj xs ys h.2]
noncomputable def N1 (xs:List SV) (ob:List Ob):Option (SV × List Ob) :=
 match ob with
 | []=>open Classical in if h:∃ ls:List Lt,xs=[.arr (ls.map Lt.d)]∧Fun Tryz.prog 55 [.arr (ls.map Lt.d)] [] (Ay ls).osv (Ay ls).obs then some ((Ay h.choose).osv,(Ay h.choose).obs) else none
 | _=>none
theorem Wq (ls:List Lt) (h:Fun Tryz.prog 55 [.arr (ls.map Lt.d)] [] (Ay ls).osv (Ay ls).obs):N1 [.arr (ls.map Lt.d)] []=some ((Ay ls).osv,(Ay ls).obs):=by
 have h0:∃ ms:List Lt,[SV.arr (ls.map Lt.d)]=[.arr (ms.map Lt.d)]∧Fun Tryz.prog 55 [.arr (ms.map Lt.d)] [] (Ay ms).osv (Ay ms).obs:=⟨ls,rfl,h⟩
 have e:ls=h0.choose:=by
  have h1:=(List.cons.inj h0.choose_spec.1).1
  rw [SV.arr.injEq] at h1
  exact Lt.ds_inj _ _ h1
 unfold N1
 simp only
 rw [dif_pos h0,← e]
theorem Tk {xs:List SV} {ob:List Ob} {r:SV} {ob':List Ob} (h:N1 xs ob=some (r,ob')):Fun Tryz.prog 55 xs ob r ob':=by
 unfold N1 at h
 split at h
 ·split at h
  ·rename_i h0
   have hs:=h0.choose_spec
   generalize h0.choose=y at hs h
   obtain ⟨h1,h2⟩:=hs
   simp only [zI,zR] at h
   obtain ⟨rfl,rfl⟩:=h
   rw [h1]
   exact h2
  ·cases h
 ·cases h
def Ud:List (Nat × FM)→Nat→FM
 | [],_=>⟨[],.asis,none,false⟩
 | (f,m) :: r,g=>bif f == g then m else Ud r g
theorem UI {l:List (Nat × FM)} {f:Nat} {g:List SV→List Ob→Option (SV × List Ob)} (h:(Ud l f).ext=some g):∃ m,(f,m)∈l∧m.ext=some g:=by
 induction l with
 | nil=>cases h
 | cons x r ih =>
  obtain ⟨f',m⟩:=x
  simp only [Ud] at h
  cases e:f' == f with
  | true =>
   rw [e] at h
   obtain rfl:f'=f:=by simpa using e
   exact ⟨m,by simp,h⟩
  | false =>
   rw [e] at h
   obtain ⟨m',h1,h2⟩:=ih h
   exact ⟨m',by simp [h1],h2⟩
noncomputable def P4:List SV→Option SV
 | [.int .i64 k]=>bif dec (1≤k)&&dec (k≤1099511627776) then some (.str (CW k)) else none
 | _=>none
theorem Tn {xs:List SV} {r:SV} (h:P4 xs=some r):Fun Tryz.prog 72 xs [] r []:=by
 unfold P4 at h
 split at h
 ·rename_i k
  obtain ⟨h1,h2⟩:=Ao h
  rw [zV,Ap,Ap] at h1
  obtain rfl:=zD h2
  obtain ⟨n,rfl⟩:∃ n:Nat,k=n:=⟨k.toNat,by omega⟩
  refine Fun.SW (rv:=.string (CW n)) (fun w I V=>by simp only [RepV,true_and]; exact SY (by omega) (by omega)) fun w I V vs h=>?_
  obtain ⟨v,r,rfl,h3,h⟩:=Dp h
  obtain rfl:=LN h
  obtain rfl:=XX h3
  exact Ql n w (by omega) (by omega)
 ·cases h
def Wr:List SV→Option SV
 | [.str s]=>some (.bool (AT s))
 | _=>none
theorem UJ {xs:List SV} {r:SV} (h:Wr xs=some r):Fun Tryz.prog 127 xs [] r []:=by
 unfold Wr at h
 split at h
 ·rename_i s
  obtain rfl:=zD h
  refine Fun.of_same (rv:=.bool (AT s)) (fun w I V=>by simp only [RepV]) fun w I V vs h=>?_
  obtain ⟨v,r,rfl,h3,h⟩:=Dp h
  obtain rfl:=LN h
  obtain ⟨rfl,h4⟩:=M4 h3
  exact Nx s w h4
 ·cases h
def Ws:List SV→Option SV
 | [.str s]=>some (.bool (AT s))
 | _=>none
theorem UK {xs:List SV} {r:SV} (h:Ws xs=some r):Fun Tryz.prog 118 xs [] r []:=by
 unfold Ws at h
 split at h
 ·rename_i s
  obtain rfl:=zD h
  refine Fun.of_same (rv:=.bool (AT s)) (fun w I V=>by simp only [RepV]) fun w I V vs h=>?_
  obtain ⟨v,r,rfl,h3,h⟩:=Dp h
  obtain rfl:=LN h
  obtain ⟨rfl,h4⟩:=M4 h3
  exact UE s w h4
 ·cases h
def Wt:List SV→Option SV
 | [.str s]=>some (.bool (DM s))
 | _=>none
theorem UL {xs:List SV} {r:SV} (h:Wt xs=some r):Fun Tryz.prog 128 xs [] r []:=by
 unfold Wt at h
 split at h
 ·rename_i s
  obtain rfl:=zD h
  refine Fun.SW (rv:=.bool (DM s)) (fun w I V=>by simp only [RepV]) fun w I V vs h=>?_
  obtain ⟨v,r,rfl,h3,h⟩:=Dp h
  obtain rfl:=LN h
  obtain ⟨rfl,h4⟩:=M4 h3
  exact Qo s w h4
 ·cases h
def Wu:List SV→Option SV
 | [.str s]=>some (.bool (DM s))
 | _=>none
theorem UM {xs:List SV} {r:SV} (h:Wu xs=some r):Fun Tryz.prog 119 xs [] r []:=by
 unfold Wu at h
 split at h
 ·rename_i s
  obtain rfl:=zD h
  refine Fun.of_same (rv:=.bool (DM s)) (fun w I V=>by simp only [RepV]) fun w I V vs h=>?_
  obtain ⟨v,r,rfl,h3,h⟩:=Dp h
  obtain rfl:=LN h
  obtain ⟨rfl,h4⟩:=M4 h3
  exact Qp s w h4
 ·cases h
noncomputable def modes:FuncId→FM:=Ud [(72,⟨[],.asis,some (Kh P4),false⟩),(127,⟨[],.asis,some (Kh Wr),false⟩),(118,⟨[],.asis,some (Kh Ws),false⟩),(128,⟨[],.asis,some (Kh Wt),false⟩),(119,⟨[],.asis,some (Kh Wu),false⟩),(160,⟨[true],.asis,some sortStr,false⟩),(43,⟨[],.asis,some GJ,false⟩),(203,⟨[],.asis,some Lg,false⟩),(55,⟨[],.asis,some N1,false⟩),(74,⟨[true],.asis,none,true⟩),(46,⟨[true],.asis,none,false⟩),(47,⟨[true],.asis,none,true⟩),(12,⟨[true],.asis,none,false⟩),(57,⟨[true],.asis,none,true⟩),(19,⟨[true],.asis,none,false⟩),(212,⟨[],.own [some (31,2)],none,false⟩),(108,⟨[],.frz,none,false⟩),(198,⟨[],.frz,none,false⟩),(196,⟨[],.frz,none,false⟩),(191,⟨[true],.asis,none,false⟩),(129,⟨[],.own [none,none,some (31,2),none,some (34,5)],none,false⟩),(68,⟨[],.own [none,none,some (31,2),none,some (34,5)],none,false⟩),(102,⟨[false,false,true],.own [none,none,some (31,2),none,some (34,5)],none,false⟩),(171,⟨[true],.own [none,none,some (31,2),none,some (34,5)],none,false⟩),(169,⟨[true],.own [none,none,some (31,2),none,some (34,5)],none,false⟩),(114,⟨[false,true,true],.own [none,none,some (31,2),none,some (34,5)],none,false⟩),(42,⟨[true],.own [none,none,some (31,2),none,some (34,5),none],none,false⟩),(17,⟨[],.own [none,none,some (31,2),none,some (34,5),none],none,false⟩),(61,⟨[],.frz,none,false⟩),(38,⟨[],.frz,none,false⟩),(15,⟨[],.frz,none,false⟩),(159,⟨[true],.asis,none,false⟩),(52,⟨[],.frz,none,false⟩),(112,⟨[],.own [none,none,some (31,2),none,some (34,5)],none,false⟩),(101,⟨[],.frz,none,false⟩)]
theorem noExt {l:List (Nat × FM)} (h:(l.all fun p=>p.2.ext.isNone)=true) {f:Nat} {m:FM} {g:List SV→List Ob→Option (SV × List Ob)} (h1:(f,m)∈l) (h2:m.ext=some g):False:=by
 have h3:=List.all_eq_true.1 h _ h1
 rw [h2] at h3
 cases h3
theorem N2:M3 Tryz.prog modes:=by
 intro f g xs ob r ob' hg hx
 obtain ⟨m,h1,h2⟩:=UI hg
 rcases zP.1 h1 with h1 | h1
 ·obtain ⟨rfl,rfl⟩:=yJ h1
  obtain rfl:=zD h2
  exact Gm Tn hx
 rcases zP.1 h1 with h1 | h1
 ·obtain ⟨rfl,rfl⟩:=yJ h1
  obtain rfl:=zD h2
  exact Gm UJ hx
 rcases zP.1 h1 with h1 | h1
 ·obtain ⟨rfl,rfl⟩:=yJ h1
  obtain rfl:=zD h2
  exact Gm UK hx
 rcases zP.1 h1 with h1 | h1
 ·obtain ⟨rfl,rfl⟩:=yJ h1
  obtain rfl:=zD h2
  exact Gm UL hx
 rcases zP.1 h1 with h1 | h1
 ·obtain ⟨rfl,rfl⟩:=yJ h1
  obtain rfl:=zD h2
  exact Gm UM hx
 rcases zP.1 h1 with h1 | h1
 ·obtain ⟨rfl,rfl⟩:=yJ h1
  obtain rfl:=zD h2
  exact Qq hx
 rcases zP.1 h1 with h1 | h1
 ·obtain ⟨rfl,rfl⟩:=yJ h1
  obtain rfl:=zD h2
  exact Qt hx
 rcases zP.1 h1 with h1 | h1
 ·obtain ⟨rfl,rfl⟩:=yJ h1
  obtain rfl:=zD h2
  exact R6 hx
 rcases zP.1 h1 with h1 | h1
 ·obtain ⟨rfl,rfl⟩:=yJ h1
  obtain rfl:=zD h2
  exact Tk hx
 exact (noExt rfl h1 h2).elim
noncomputable def E:FEnv:=ev Tryz.prog modes
noncomputable def calls:CallF:=Ch modes E
theorem Qu {f:FuncId} {xs:List SV} {ob:List Ob} {r:SV} {ob':List Ob} (h:E f xs ob=some (r,ob')):Fun Tryz.prog f xs ob r ob':=XW Nb N2 f xs ob r ob' h
noncomputable def run (n0:Nat):SC→St→Option (X × St):=fr Tryz.prog calls (J7 n0)
def go (n0:Nat) (sc:SC) (st:St) (K:X→St→Prop):Prop:=∃ x st',run n0 sc st=some (x,st')∧K x st'
def Yf (n0:Nat) (b:SC) (K:X→St→Prop):X→St→Prop
 | .normal,st=>go n0 b st K
 | .exit i,st=>K (.exit i) st
 | .ret,st=>K .ret st
def blk (id:Nat) (K:X→St→Prop):X→St→Prop
 | .normal,st=>K .normal st
 | .exit i,st=>if i=id then K .normal st else K (.exit i) st
 | .ret,st=>K .ret st
def Wv (r:Option St) (k:X→St→Prop):Prop :=
 match r with
 | some st=>k .normal st
 | none=>False
def Ww (anc:List (List Nat)) (r:Option (List Ent × St)) (k:X→St→Prop):Prop :=
 match r with
 | some (es,st)=>obB anc [] (IE es) 0=true∧k .normal st
 | none=>False
def N3 (v:SV) (a b:Unit→Prop):Prop :=
 match v with
 | .bool true=>a ()
 | .bool false=>b ()
 | _=>False
noncomputable def To (ops:List SOper) (st:St):Option St:=Nd Tryz.prog calls ops st
noncomputable def Tp (ops:List SOper) (acc:List Ent) (st:St):Option (List Ent × St):=Gf Tryz.prog calls ops acc st
section
variable {n0:Nat} {st:St} {K:X→St→Prop}
theorem go_skip:go n0 .skip st K=K .normal st:=by
 refine propext ⟨fun ⟨x,st',h,k⟩=>?_,fun k=>⟨_,_,rfl,k⟩⟩
 obtain ⟨rfl,rfl⟩:X.normal=x∧st=st':=by simpa [run,fr] using h
 exact k
theorem Yg {i:Nat}:go n0 (.exit i) st K=K (.exit i) st:=by
 refine propext ⟨fun ⟨x,st',h,k⟩=>?_,fun k=>⟨_,_,rfl,k⟩⟩
 obtain ⟨rfl,rfl⟩:X.exit i=x∧st=st':=by simpa [run,fr] using h
 exact k
theorem go_ret:go n0 .ret st K=K .ret st:=by
 refine propext ⟨fun ⟨x,st',h,k⟩=>?_,fun k=>⟨_,_,rfl,k⟩⟩
 obtain ⟨rfl,rfl⟩:X.ret=x∧st=st':=by simpa [run,fr] using h
 exact k
theorem YX {ops:List SOper}:go n0 (.reg ops) st K=Wv (To ops st) K:=by
 unfold Wv To
 refine propext ⟨fun ⟨x,st',h,k⟩=>?_,fun k=>?_⟩
 ·simp only [run,fr] at h
  split at h
  ·rename_i s hs
   simp only [zI,zR] at h
   obtain ⟨rfl,rfl⟩:=h
   first | exact k | (simp only [hs]; exact k)
  ·cases h
 ·split at k
  ·rename_i s hs
   exact ⟨.normal,s,by simp only [run,fr,hs],k⟩
  ·exact k.elim
theorem Yh {anc:List (List Nat)} {ops:List SOper}:go n0 (.dreg anc ops) st K=Ww anc (Tp ops [] st) K:=by
 unfold Ww Tp
 refine propext ⟨fun ⟨x,st',h,k⟩=>?_,fun k=>?_⟩
 ·simp only [run,fr] at h
  split at h
  ·rename_i es s hs
   obtain ⟨h1,h2⟩:=Ao h
   simp only [zI,zR] at h2
   obtain ⟨rfl,rfl⟩:=h2
   first | exact ⟨h1,k⟩ | (simp only [hs]; exact ⟨h1,k⟩)
  ·cases h
 ·split at k
  ·rename_i es s hs
   exact ⟨.normal,s,by simp only [run,fr,hs,k.1,cond_true],k.2⟩
  ·exact k.elim
theorem YY {a b:SC}:go n0 (.seq a b) st K=go n0 a st (Yf n0 b K):=by
 refine propext ⟨fun ⟨x,st',h,k⟩=>?_,fun ⟨x,st',h,k⟩=>?_⟩
 ·simp only [run,fr,BR] at h
  split at h
  ·rename_i s hs
   exact ⟨.normal,s,hs,x,st',h,k⟩
  ·rename_i i s hs
   simp only [zI,zR] at h
   obtain ⟨rfl,rfl⟩:=h
   exact ⟨_,_,hs,k⟩
  ·rename_i s hs
   simp only [zI,zR] at h
   obtain ⟨rfl,rfl⟩:=h
   exact ⟨_,_,hs,k⟩
  ·cases h
 ·simp only [run] at h
  cases x with
  | normal =>
   obtain ⟨x2,st2,h2,k2⟩:=k
   exact ⟨x2,st2,by simp only [run,fr,BR,h]; exact h2,k2⟩
  | exit i=>exact ⟨_,st',by simp only [run,fr,BR,h],k⟩
  | ret=>exact ⟨_,st',by simp only [run,fr,BR,h],k⟩
theorem Wx {id:Nat} {b:SC}:go n0 (.block id b) st K=go n0 b st (blk id K):=by
 refine propext ⟨fun ⟨x,st',h,k⟩=>?_,fun ⟨x,st',h,k⟩=>?_⟩
 ·simp only [run,fr,GE] at h
  split at h
  ·rename_i s hs
   simp only [zI,zR] at h
   obtain ⟨rfl,rfl⟩:=h
   exact ⟨.normal,s,hs,k⟩
  ·rename_i i s hs
   refine ⟨.exit i,s,hs,?_⟩
   simp only [blk]
   by_cases hi:i=id
   ·simp only [if_pos hi,zI,zR] at h ⊢
    obtain ⟨rfl,rfl⟩:=h
    exact k
   ·simp only [if_neg hi,zI,zR] at h ⊢
    obtain ⟨rfl,rfl⟩:=h
    exact k
  ·rename_i s hs
   simp only [zI,zR] at h
   obtain ⟨rfl,rfl⟩:=h
   exact ⟨_,s,hs,k⟩
  ·cases h
 ·simp only [run] at h
  cases x with
  | normal=>exact ⟨_,st',by simp only [run,fr,GE,h],k⟩
  | exit i =>
   simp only [blk] at k
   by_cases hi:i=id
   ·simp only [if_pos hi] at k
    exact ⟨.normal,st',by simp only [run,fr,GE,h,if_pos hi],k⟩
   ·simp only [if_neg hi] at k
    exact ⟨.exit i,st',by simp only [run,fr,GE,h,if_neg hi],k⟩
  | ret=>exact ⟨_,st',by simp only [run,fr,GE,h],k⟩
theorem Ab {q:SX} {a b:SC}:go n0 (.cond q a b) st K=N3 (Ar (gets st.sl) q) (fun _=>go n0 a st K) (fun _=>go n0 b st K):=by
 unfold N3
 refine propext ⟨fun ⟨x,st',h,k⟩=>?_,fun k=>?_⟩
 ·simp only [run,fr] at h
  split at h
  ·rename_i t ht
   simp only [ht]
   cases t with
   | true=>exact ⟨x,st',h,k⟩
   | false=>exact ⟨x,st',h,k⟩
  ·cases h
 ·split at k
  ·rename_i ht
   obtain ⟨x,st',h,k⟩:=k
   exact ⟨x,st',by simp only [run,fr,ht,cond_true]; exact h,k⟩
  ·rename_i ht
   obtain ⟨x,st',h,k⟩:=k
   exact ⟨x,st',by simp only [run,fr,ht,cond_false]; exact h,k⟩
  ·exact k.elim
theorem Yi {a b:Unit→Prop}:N3 (.bool true) a b=a ():=rfl
theorem Yj {a b:Unit→Prop}:N3 (.bool false) a b=b ():=rfl
theorem Yk {t:Bool} {a b:Unit→Prop}:N3 (.bool (!t)) a b=N3 (.bool t) b a:=by cases t <;> rfl
theorem Az {q:SX} {a b:SC} (h:Ar (gets st.sl) q=.bool true) (k:go n0 a st K):go n0 (.cond q a b) st K:=by rw [Ab,h]; exact k
theorem A1 {q:SX} {a b:SC} (h:Ar (gets st.sl) q=.bool false) (k:go n0 b st K):go n0 (.cond q a b) st K:=by rw [Ab,h]; exact k
theorem Ck {t:Bool} {a b:Unit→Prop} (h1:t=true→a ()) (h2:t=false→b ()):N3 (.bool t) a b:=by
 cases t with
 | true=>exact h1 rfl
 | false=>exact h2 rfl
theorem YZ {b:SC}:Yf n0 b K .normal st=go n0 b st K:=rfl
theorem Za {b:SC} {i:Nat}:Yf n0 b K (.exit i) st=K (.exit i) st:=rfl
theorem Zb {b:SC}:Yf n0 b K .ret st=K .ret st:=rfl
theorem ZI {id:Nat}:blk id K .normal st=K .normal st:=rfl
theorem ZJ {id i:Nat}:blk id K (.exit i) st=if i=id then K .normal st else K (.exit i) st:=rfl
theorem ZK {id:Nat}:blk id K .ret st=K .ret st:=rfl
theorem Yl:Wv (some st) K=K .normal st:=rfl
def quiet:List Ent→Bool
 | []=>true
 | ⟨_,_,[],_⟩ :: r=>quiet r
 | ⟨_,_,_ :: _,_⟩ :: _=>false
theorem N4 {anc:List (List Nat)} {rd:List Nat} {j:Nat}:∀ {l:List Ent} {i:Nat},quiet l=true→S3 anc rd [] j (IE l) i=true
 | [],i,_=>rfl
 | ⟨_,_,[],rdi⟩ :: r,i,h=>by
  have:=N4 (anc:=anc) (rd:=rd) (j:=j) (l:=r) (i:=i+1) h
  simp only [IE,zB,yT] at this ⊢
  simp only [S3,this,zF]
  have e1:meets [] (rd++[])=false:=rfl
  have e2:meets rdi []=false:=by cases rdi <;> simp [meets]
  rw [e1,e2]; rfl
theorem UN {l l':List Ent} (h:quiet l=true) (h':quiet l'=true):quiet (l++l')=true:=by
 induction l with
 | nil=>exact h'
 | cons x r ih =>
  obtain ⟨a,b,c,d⟩:=x
  cases c with
  | nil=>exact ih h
  | cons _ _=>cases h
theorem P5 {anc:List (List Nat)}:∀ {l pre:List Ent} {j:Nat},quiet pre=true→quiet l=true→obB anc (IE pre) (IE l) j=true
 | [],pre,j,_,_=>rfl
 | ⟨a,b,[],rd⟩ :: r,pre,j,hp,h=>by
  have e:=P5 (anc:=anc) (l:=r) (pre:=pre++[⟨a,b,[],rd⟩]) (j:=j+1) (UN hp rfl) h
  have e2:=N4 (anc:=anc) (rd:=rd) (j:=j) (i:=0) hp
  simp only [IE,yX,zB,yT] at e e2 ⊢
  simp only [obB,e2,e,zC]
theorem Ym {anc:List (List Nat)} {es:List Ent}:Ww anc (some (es,st)) K=match quiet es with
  | true=>K .normal st
  | false=>obB anc [] (IE es) 0=true∧K .normal st:=by
 show (obB anc [] (IE es) 0=true∧K .normal st)=_
 cases h:quiet es with
 | true=>exact propext ⟨fun h=>h.2,fun h'=>⟨P5 (pre:=[]) rfl h,h'⟩⟩
 | false=>rfl
noncomputable def Zc (r:List SOper) (e:Option (Ent × St)):Option St :=
 match e with
 | some (_,st)=>To r st
 | none=>none
noncomputable def Zd (r:List SOper) (acc:List Ent) (e:Option (Ent × St)):Option (List Ent × St) :=
 match e with
 | some (x,st)=>Tp r (acc++[x]) st
 | none=>none
noncomputable def opF (so:SOp) (sl:List SV) (ob:List Ob):Option R3:=fOp Tryz.prog calls so sl ob
theorem Wy:To [] st=some st:=rfl
theorem UO {d:Option Tmp} {so:SOp} {r:List SOper} {sl:List SV} {ob:List Ob}:To (⟨d,none,so⟩ :: r) ⟨sl,ob⟩=Zc r (IG d ⟨sl,ob⟩ (opF so sl ob)):=rfl
noncomputable def gdF (d:Option Tmp) (so:SOp) (want:Bool) (sl:List SV) (ob:List Ob) (v:SV):Option (Ent × St) :=
 match v with
 | .bool b=>bif SH b want then IG d ⟨sl,ob⟩ (opF so sl ob) else some (⟨false,.tup [],[],[]⟩,⟨EF sl d (.tup []),ob⟩)
 | .tup []=>some (⟨false,.tup [],[],[]⟩,⟨EF sl d (.tup []),ob⟩)
 | _=>none
theorem Yn {d:Option Tmp} {k:Nat} {want:Bool} {so:SOp} {r:List SOper} {sl:List SV} {ob:List Ob}:To (⟨d,some (k,want),so⟩ :: r) ⟨sl,ob⟩=Zc r (gdF d so want sl ob (gets sl k)):=rfl
theorem Wz {acc:List Ent}:Tp [] acc st=some (acc,st):=rfl
theorem UP {d:Option Tmp} {so:SOp} {r:List SOper} {acc:List Ent} {sl:List SV} {ob:List Ob}:Tp (⟨d,none,so⟩ :: r) acc ⟨sl,ob⟩=Zd r acc (IG d ⟨sl,ob⟩ (opF so sl ob)):=rfl
theorem Yo {d:Option Tmp} {k:Nat} {want:Bool} {so:SOp} {r:List SOper} {acc:List Ent} {sl:List SV} {ob:List Ob}:Tp (⟨d,some (k,want),so⟩ :: r) acc ⟨sl,ob⟩=Zd r acc (gdF d so want sl ob (gets sl k)):=rfl
theorem Ze {r:List SOper} {e:Ent}:Zc r (some (e,st))=To r st:=rfl
theorem Zf {r:List SOper} {acc:List Ent} {e:Ent}:Zd r acc (some (e,st))=Tp r (acc++[e]) st:=rfl
theorem ZL {d:Option Tmp} {so:SOp} {sl:List SV} {ob:List Ob}:gdF d so true sl ob (.bool true)=IG d ⟨sl,ob⟩ (opF so sl ob):=rfl
theorem Zg {d:Option Tmp} {so:SOp} {sl:List SV} {ob:List Ob}:gdF d so false sl ob (.bool false)=IG d ⟨sl,ob⟩ (opF so sl ob):=rfl
theorem Zh {d:Option Tmp} {so:SOp} {sl:List SV} {ob:List Ob}:gdF d so true sl ob (.bool false)=some (⟨false,.tup [],[],[]⟩,⟨EF sl d (.tup []),ob⟩):=rfl
theorem Zi {d:Option Tmp} {so:SOp} {sl:List SV} {ob:List Ob}:gdF d so false sl ob (.bool true)=some (⟨false,.tup [],[],[]⟩,⟨EF sl d (.tup []),ob⟩):=rfl
theorem ZM {d:Option Tmp} {so:SOp} {want:Bool} {sl:List SV} {ob:List Ob}:gdF d so want sl ob (.tup [])=some (⟨false,.tup [],[],[]⟩,⟨EF sl d (.tup []),ob⟩):=rfl
theorem Zj {d:Option Tmp} {x:SV} {rd:List Nat}:IG d st (some (x,[],rd))=some (⟨true,x,[],rd⟩,⟨EF st.sl d x,st.ob⟩):=rfl
theorem Zk {d:Option Tmp} {x:SV} {q:Nat × Ob} {u:List (Nat × Ob)} {rd:List Nat}:IG d st (some (x,q :: u,rd))=bif U5 (C8 st.ob (q :: u)).length (q :: u) then some (⟨true,x,q :: u,rd⟩,⟨EF st.sl d x,C8 st.ob (q :: u)⟩) else none:=rfl
def RA (ob:List Ob) (xs:List SV) (sel:List Nat) (r:Option (SV × List Ob)) (n:Nat):Option R3 :=
 match r with
 | some (r,fob')=>bif decide (n≤fob'.length) then some (Fk sel (AM sel xs) ob.length r fob') else none
 | none=>none
def Zl (hd:List Bool) (f:FuncId) (xs:List SV) (ob:List Ob) (sel:List Nat) (e:List SV→List Ob→Option (SV × List Ob)) (b:Option (List Ob)):Option R3 :=
 match b with
 | some fob=>bif nodupB sel&&J2 ob.length sel&&GB fob.length fob then RA ob xs sel (e (Fj hd (Am ob) sel xs) fob) fob.length else none
 | none=>none
def W0 (hd:List Bool) (f:FuncId) (xs:List SV) (ob:List Ob) (sel:List Nat) (e:List SV→List Ob→Option (SV × List Ob)):Option R3:=Zl hd f xs ob sel e (E3 sel ob sel)
theorem W4 {f:FuncId} {xs:List SV} {ob:List Ob}:calls f xs ob=Fl (modes f).res (W0 (modes f).hand f xs ob (reach ob 64 (Gj (modes f).hand xs) []) (E f)):=rfl
theorem Zm {r:Option R3}:Fl .asis r=r:=rfl
theorem Zn {r:Option R3}:Fl .frz r=r:=rfl
theorem Zo {l:List (Option (Nat × Nat))} {r:Option R3}:Fl (.own l) r=r:=rfl
theorem Zp {l:List (Option (Nat × Nat))} {r:Option R3}:Fl (.half l) r=r:=rfl
theorem Zq {l:List (Option (Nat × Nat))} {r:Option R3}:Fl (.tr l) r=r:=rfl
theorem Zr {l:List Nat} {r:Option R3}:Fl (.frl l) r=r:=rfl
theorem Zs {r:R3}:Fl .late (some r)=Rr r:=rfl
theorem JB:∀ u:List (Nat × Ob),CO [] u=u
 | []=>rfl
 | (g,o) :: u=>by rw [CO,JB u]; rfl
theorem Zt {m:RM} {b:Bool} {u:List (Nat × Ob)} {rd:List Nat}:Fl m (some (.bool b,u,rd))=some (.bool b,u,rd):=by
 cases m <;> first | rfl | (show some (SV.bool b,CO [] u,rd)=_; rw [JB])
theorem Zu {m:RM} {k:IntKind} {n:Int} {u:List (Nat × Ob)} {rd:List Nat}:Fl m (some (.int k n,u,rd))=some (.int k n,u,rd):=by
 cases m <;> first | rfl | (show some (SV.int k n,CO [] u,rd)=_; rw [JB])
theorem UQ {hd:List Bool} {f:FuncId} {xs:List SV} {ob:List Ob} {e:List SV→List Ob→Option (SV × List Ob)}:W0 hd f xs ob [] e=RA ob xs [] (e (Fj hd (Am ob) [] xs) []) 0:=rfl
theorem Tq {hd:List Bool} {f:FuncId} {xs:List SV} {ob:List Ob} {g:Nat} {r:List Nat} {e:List SV→List Ob→Option (SV × List Ob)}:W0 hd f xs ob (g :: r) e=Zl hd f xs ob (g :: r) e (E3 (g :: r) ob (g :: r)):=rfl
theorem Yp {ob:List Ob} {xs:List SV} {r:SV} {fob':List Ob}:RA ob xs [] (some (r,fob')) 0=some (Fk [] (AM [] xs) ob.length r fob'):=rfl
theorem Yq {ob:List Ob} {xs:List SV} {sel:List Nat} {r:SV} {fob':List Ob} {n:Nat}:RA ob xs sel (some (r,fob')) n=bif decide (n≤fob'.length) then some (Fk sel (AM sel xs) ob.length r fob') else none:=rfl
theorem Zv {hd:List Bool} {f:FuncId} {xs:List SV} {ob:List Ob} {sel:List Nat} {fob:List Ob} {e:List SV→List Ob→Option (SV × List Ob)}:Zl hd f xs ob sel e (some fob)=bif nodupB sel&&J2 ob.length sel&&GB fob.length fob then RA ob xs sel (e (Fj hd (Am ob) sel xs) fob) fob.length else none:=rfl
theorem UR {p:Nat} {r:SV}:Fk [] [] p r []=(r.ren (sgp [] p),[],[]):=rfl
def Qv {α:Type} (n0:Nat) (keep:List Nat) (H:α→St) (R:α→Prop) (μ:α→Nat) (a:α) (K:X→St→Prop):X→St→Prop
 | .normal,st'=>∃ y,R y∧μ y < μ a∧canon n0 keep st'=H y
 | .exit i,st'=>K (.exit i) st'
 | .ret,st'=>K .ret st'
theorem W6 {α:Type} {keep:List Nat} {H:α→St} {R:α→Prop} {μ:α→Nat} {a:α} {st':St}:Qv n0 keep H R μ a K .normal st'=∃ y,R y∧μ y < μ a∧canon n0 keep st'=H y:=rfl
theorem W7 {α:Type} {keep:List Nat} {H:α→St} {R:α→Prop} {μ:α→Nat} {a:α} {i:Nat} {st':St}:Qv n0 keep H R μ a K (.exit i) st'=K (.exit i) st':=rfl
theorem W8 {α:Type} {keep:List Nat} {H:α→St} {R:α→Prop} {μ:α→Nat} {a:α} {st':St}:Qv n0 keep H R μ a K .ret st'=K .ret st':=rfl
theorem go_loop {α:Type} {keep:List Nat} {b:SC} (H:α→St) (R:α→Prop) (μ:α→Nat) (a0:α) (hR:R a0) (h0:canon n0 keep st=H a0) (round:∀ a,R a→go n0 b (H a) (Qv n0 keep H R μ a K)):go n0 (.loop keep b) st K:=by
 have key:∀ (n:Nat) (a:α) (st:St),μ a≤n→R a→canon n0 keep st=H a→∃ x st',Ps n0 keep (run n0 b) st=some (x,st')∧K x st':=by
  intro n
  induction n with
  | zero =>
   intro a st hn hR hc
   obtain ⟨x,st',h,k⟩:=round a hR
   cases x with
   | normal =>
    obtain ⟨y,_,h2,_⟩:=k
    omega
   | exit i=>exact ⟨_,st',by rw [H8,hc,h]; rfl,k⟩
   | ret=>exact ⟨_,st',by rw [H8,hc,h]; rfl,k⟩
  | succ n ih =>
   intro a st hn hR hc
   obtain ⟨x,st',h,k⟩:=round a hR
   cases x with
   | normal =>
    obtain ⟨y,h1,h2,h3⟩:=k
    obtain ⟨x2,st2,h4,k2⟩:=ih y st' (by omega) h1 h3
    exact ⟨x2,st2,by rw [H8,hc,h]; exact h4,k2⟩
   | exit i=>exact ⟨_,st',by rw [H8,hc,h]; rfl,k⟩
   | ret=>exact ⟨_,st',by rw [H8,hc,h]; rfl,k⟩
 exact key (μ a0) a0 st (zU _) hR h0
def Qw (n0:Nat) (keep keepO:List Nat) (H:EL→St) (F:X × St) (p:EL):X→St→Prop
 | .normal,st'=>canon n0 keep st'=H p
 | .exit i,st'=>F=(.exit i,canon n0 keepO st')
 | .ret,st'=>F=(.ret,canon n0 keepO st')
def YA (n0:Nat) (keepO:List Nat) (F:X × St):X→St→Prop
 | .normal,_=>False
 | .exit i,st'=>F=(.exit i,canon n0 keepO st')
 | .ret,st'=>F=(.ret,canon n0 keepO st')
theorem US {keep keepO:List Nat} {H:EL→St} {F:X × St} {p:EL} {st':St}:Qw n0 keep keepO H F p .normal st'=(canon n0 keep st'=H p):=rfl
theorem UT {keep keepO:List Nat} {H:EL→St} {F:X × St} {p:EL} {i:Nat} {st':St}:Qw n0 keep keepO H F p (.exit i) st'=(F=(.exit i,canon n0 keepO st')):=rfl
theorem UU {keep keepO:List Nat} {H:EL→St} {F:X × St} {p:EL} {st':St}:Qw n0 keep keepO H F p .ret st'=(F=(.ret,canon n0 keepO st')):=rfl
theorem Yr {keepO:List Nat} {F:X × St} {i:Nat} {st':St}:YA n0 keepO F (.exit i) st'=(F=(.exit i,canon n0 keepO st')):=rfl
theorem Ys {keepO:List Nat} {F:X × St} {st':St}:YA n0 keepO F .ret st'=(F=(.ret,canon n0 keepO st')):=rfl
end
def slots:Nat→Nat→List (Nat × SV)→List SV
 | 0,_,_=>[]
 | n+1,k,[]=>.any :: slots n (k+1) []
 | n+1,k,(j,x) :: r=>bif j == k then x :: slots n (k+1) r else .any :: slots n (k+1) ((j,x) :: r)
def Yt (res:RM) (n0:Nat) (rs:List RX) (out:SV × List Ob) (x:X) (st:St):Prop:=fin res n0 rs x st=some out
def Zw (res:RM) (n0:Nat) (r:Option (SV × List Ob)):Option (SV × List Ob) :=
 match r with
 | some (r,ob)=>order res n0 r ob
 | none=>none
def RB (res:RM) (n0:Nat) (ob:List Ob) (r:Option SV):Option (SV × List Ob) :=
 match r with
 | some r0=>Zw res n0 (gc n0 r0 ob)
 | none=>none
theorem Zx {res:RM} {n0:Nat} {rs:List RX} {out:SV × List Ob} {sl:List SV} {ob:List Ob}:Yt res n0 rs out .ret ⟨sl,ob⟩=(RB res n0 ob (Ox ⟨sl,ob⟩ rs)=some out):=rfl
theorem Zy {res:RM} {n0:Nat} {rs:List RX} {out:SV × List Ob} {sl:List SV} {ob:List Ob}:Yt res n0 rs out .normal ⟨sl,ob⟩=(RB res n0 ob (Ox ⟨sl,ob⟩ rs)=some out):=rfl
theorem Yu {res:RM} {n0:Nat} {ob:List Ob} {r:SV}:RB res n0 ob (some r)=Zw res n0 (gc n0 r ob):=rfl
theorem Zz {n0:Nat} {r:SV} {ob:List Ob} {res:RM}:Zw res n0 (some (r,ob))=order res n0 r ob:=rfl
theorem Ai {f:FuncId} {fc:FC} {hand:List Bool} {res:RM} {tr:Bool} {xs:List SV} {ob:List Ob} {out:SV × List Ob} (hc:codeOf Tryz.prog f=some fc) (hr:modes f=⟨hand,res,none,tr⟩) (hn:xs.length≤fc.nt) (h:go ob.length (Gl res fc.sc) ⟨xs++Hz (fc.nt-xs.length),entry tr ob⟩ (Yt res ob.length fc.rs out)):E f xs ob=some out:=by
 obtain ⟨x,st',h1,h2⟩:=h
 unfold E
 rw [Y9]
 unfold Fn
 rw [hc,hr]
 simp only
 rw [decide_eq_true hn,cond_true]
 have h1:fr Tryz.prog (Ch modes (ev Tryz.prog modes)) (J7 ob.length) (Gl res fc.sc) ⟨xs++Hz (fc.nt-xs.length),entry tr ob⟩=some (x,st'):=h1
 rw [h1]
 exact h2
theorem N5 {f:FuncId} {g:List SV→List Ob→Option (SV × List Ob)} {xs:List SV} {ob:List Ob} (hg:(modes f).ext=some g):E f xs ob=g xs ob:=by
 unfold E
 rw [Y9]
 unfold Fn
 rw [hg]
theorem RC {f:FuncId} {g:List SV→Option SV} {xs:List SV} {r:SV} (hg:(modes f).ext=some (Kh g)) (h:g xs=some r):E f xs []=some (r,[]):=by
 rw [N5 hg]
 simp only [Kh,h]
theorem Cq:modes 72=⟨[],.asis,some (Kh P4),false⟩:=by unfold modes; rfl
theorem Dk {k:Int} (h1:1≤k) (h2:k≤1099511627776):E 72 [.int .i64 k] []=some (.str (CW k),[]):=by
 refine RC (g:=P4) (by unfold modes; rfl) ?_
 simp only [P4,A4 h1,A4 h2,zC,cond_true]
theorem Ae:modes 127=⟨[],.asis,some (Kh Wr),false⟩:=by unfold modes; rfl
theorem Cn (s:ByteArray):E 127 [.str s] []=some (.bool (AT s),[]):=RC (g:=Wr) (congrArg FM.ext Ae) rfl
theorem Ak:modes 118=⟨[],.asis,some (Kh Ws),false⟩:=by unfold modes; rfl
theorem DZ (s:ByteArray):E 118 [.str s] []=some (.bool (AT s),[]):=RC (g:=Ws) (congrArg FM.ext Ak) rfl
theorem AP:modes 128=⟨[],.asis,some (Kh Wt),false⟩:=by unfold modes; rfl
theorem N6 (s:ByteArray):E 128 [.str s] []=some (.bool (DM s),[]):=RC (g:=Wt) (congrArg FM.ext AP) rfl
theorem AQ:modes 119=⟨[],.asis,some (Kh Wu),false⟩:=by unfold modes; rfl
theorem N7 (s:ByteArray):E 119 [.str s] []=some (.bool (DM s),[]):=RC (g:=Wu) (congrArg FM.ext AQ) rfl
theorem DN:∀ sc:SC,Cg sc=true→By sc sc
 | .skip,_=>by simp [By]
 | .exit _,_=>by simp [By]
 | .ret,_=>by simp [By]
 | .reg _,_=>by simp [By]
 | .dreg _ _,_=>by simp [By]
 | .seq a b,h=>by
  simp only [Cg,zV] at h
  simp only [By]
  exact ⟨DN a h.1,DN b h.2⟩
 | .cond _ a b,h=>by
  simp only [Cg,zV] at h
  simp only [By]
  exact ⟨trivial,DN a h.1,DN b h.2⟩
 | .block _ b,h=>by
  simp only [Cg] at h
  simp only [By]
  exact ⟨trivial,DN b h⟩
 | .loop _ _,h=>by cases h
 | .next _ _ _,h=>by cases h
 | .mloop _ _ _ _ _ _,h=>by cases h
theorem RD {c:Ctx} {sc:SC} {st:St} {K:X→St→Prop} (hf:Cg sc=true) (h:go c.m sc st K):sw Tryz.prog c sc K st:=by
 obtain ⟨x,st',h1,hk⟩:=h
 obtain ⟨n,h2⟩:=CH sc st (x,st') h1
 exact Gk (Nf (Np Nb N2 n)) (LL Nb n) sc sc st (x,st') (DN sc hf) h2 K hk
theorem Yv {n:Int} (h1:-9223372036854775808≤n) (h2:n≤9223372036854775807):dec (inK .i64 n)=true:=A4 (XF.2 ⟨h1,h2⟩)
theorem get_at {α β:Type} (f:α→β) {xs:List α} {k:Nat} (h:k<xs.length):(xs.map f)[k]?=some (f xs[k]):=by rw [List.getElem?_map,zK h]; rfl
theorem Bf (left:Int) (n:Nat):((n:Int)≤left∧szR left n=left-n)∨(left<n∧szR left n=-1):=by
 unfold szR; split <;> omega
mutual
def D.fit:D→Prop
 | .int _=>True
 | .byte _=>True
 | .bool _=>True
 | .str s=>s.size≤9223372036854775807
 | .arr es=>es.length≤9223372036854775807∧D.RE es
def D.fits:List D→Prop
 | []=>True
 | x :: r=>D.fit x∧D.fits r
def D.RE:List (List D)→Prop
 | []=>True
 | x :: r=>D.fits x∧D.RE r
end
theorem D.Ue:∀ {l:List D},(∀ (j:Nat) (h:j<l.length),D.fit l[j])→D.fits l
 | [],_=>trivial
 | x :: r,h=>⟨h 0 (by simp),D.Ue fun j hj=>h (j+1) (by simpa using hj)⟩
theorem D.RF:∀ {es:List (List D)},(∀ (i:Nat) (h:i<es.length),D.fits es[i])→D.RE es
 | [],_=>trivial
 | x :: r,h=>⟨h 0 (by simp),D.RF fun j hj=>h (j+1) (by simpa using hj)⟩
theorem D.Li {α:Type} {f:α→List D}:∀ {xs:List α},D.RE (xs.map f)→∀ x∈xs,D.fits (f x)
 | [],_,x,h=>by cases h
 | y :: r,h,x,hx=>by
  simp only [zB,D.RE] at h
  rcases zP.1 hx with rfl | hx
  ·exact h.1
  ·exact D.Li h.2 x hx
theorem DRep.fit {own:Bool} {w:World} {S:Nat→Prop} {d:D} {v:Value} (h:DRep own w S d v):D.fit d:=by
 induction h with
 | int=>trivial
 | byte=>trivial
 | bool=>trivial
 | str S s h=>exact h
 | arr S sz es a cap f Sub h1 h2 h3 h4 h5 h6 h7 ih=>exact ⟨yQ h1 h2,D.RF fun i hi=>D.Ue fun j hj=>ih i j hi hj⟩
theorem ZN:dec True=true:=A4 trivial
theorem ZO:dec False=false:=An fun h=>h
attribute [go_sem] pfx Es IS OT.GD OT.Rv OT.half Zp XQ Fj Rj SV.isNil Ob.idsB SV.idsB SV.Gb List.getElem?_cons_zero List.getElem?_cons_succ OT.A2 OT.Be OT.full entry toTree TT Rw TS Di Gi DD VO OU VX OT.erss OT.ers OT.er OT.AK OT.BF OT.noSh quiet obB S3 IE meets Hr go_skip Yg go_ret YX Yh YY Wx Yi Yj Yk YZ Za Zb ZI ZJ ZK Yl Ym Wy UO Yn Wz UP Yo Ze Zf ZL Zg Zh Zi ZM Zj Zk W4 Zm Zn Zo Zq Zr Zs Zt Zu Rr Rq CO seen UQ Tq Yp Yq Zv UR Fk W6 W7 W8 Zx Zy Yu Zz order opF fOp Ej TO XG TM TN VN H1 eqK Ar gets Am Fh EF C8 JZ MS A7 U5 SV.cellsN SV.one IN splice CT QU IM JX CF AY Bt AI FV GO S5 eOp.mkEs eOp.addS D.sv OT.sv D.ot Gd nodupB reach SV.refs SV.Pf SV.ptrs SV.Pg Ob.refs Ob.liveB Gj E3 SV.back SV.LG Ob.back FZ GP BI AM AN J2 GB SV.ren SV.Hg Ob.ren mkU sgp gc LK names Kf XJ XK XL Nl VY XM XN XO XP XR XS SC.mark Pl EK slots Ox SE rxV Hz Rp SV.noSh SV.LC Ob.noSh SV.own SV.Qh EI cond_true cond_false zG zT zB yT List.drop_succ_cons yA List.drop_nil List.take_succ_cons List.take_zero List.take_nil List.append_nil yH yF y2 List.all_nil List.getD_cons_zero List.getD_cons_succ yS List.any_nil List.contains_cons List.contains_nil List.isEmpty_nil List.isEmpty_cons List.flatten_cons List.flatten_nil List.replicate_succ List.replicate_zero List.set_cons_zero List.set_cons_succ yV yU zU zM zF y4 zC Bool.or_false Bool.false_or Bool.true_or Bool.or_true Bool.not_true Bool.not_false yZ Bool.and_false decide_true decide_false beq_self_eq_true if_true if_false Option.map_some Option.map_none zI yN Option.getD_none Int.toNat_natCast true_and and_true and_self eq_self_iff_true zQ Bool.false_eq_true Bool.true_eq_false zR SV.int.injEq SV.bool.injEq SV.str.injEq SV.agg.injEq SV.tup.injEq SV.arr.injEq zY St.mk.injEq Int.zero_add ZN ZO Yv A4 An ZB svK svD Vz svM MV.sv TC VP VQ VR FB St.app Ry MK.sv US UT UU Yr Ys
attribute [go_sem_proc] yL yM Nat.reduceLT Nat.reduceLeDiff Nat.reduceEqDiff Nat.reduceBEq Nat.reduceBneDiff Nat.reduceMul Int.reduceToNat Int.reduceNeg Int.reduceAdd reduceCtorEq
attribute [go_sem_proc ↓] reduceIte
theorem Kj:∀ xs:List ByteArray,OT.A2 (xs.map fun s=>[OT.str s])=true
 | []=>rfl
 | x :: xs=>by simp only [zB,OT.A2,OT.Be,OT.full,Kj xs,zC]
theorem Qx:∀ xs:List Int,OT.A2 (xs.map fun n=>[OT.int n])=true
 | []=>rfl
 | x :: xs=>by simp only [zB,OT.A2,OT.Be,OT.full,Qx xs,zC]
theorem Tm.fu_of:∀ xs:List Tm,(∀ x∈xs,OT.Be (Tm.o x)=true)→OT.A2 (xs.map Tm.o)=true
 | [],_=>rfl
 | x :: xs,h=>by
  simp only [zB,OT.A2]
  rw [h x (by simp),Tm.fu_of xs fun y hy=>h y (by simp [hy])]; rfl
theorem Tm.fu (x:Tm):OT.Be (Tm.o x)=true:=by
 have h:=Tm.fu_of x.args fun y hy=>Tm.fu y
 rw [Tm.o_eq]
 simp only [OT.Be,OT.full,h,zC,zF]
termination_by SizeOf.sizeOf x
decreasing_by exact Tm.lt_of_mem hy
theorem Tm.fus (xs:List Tm):OT.A2 (xs.map Tm.o)=true:=Tm.fu_of xs fun x _=>Tm.fu x
theorem Fm.fu_of:∀ xs:List Fm,(∀ x∈xs,OT.Be (Fm.o x)=true)→OT.A2 (xs.map Fm.o)=true
 | [],_=>rfl
 | x :: xs,h=>by
  simp only [zB,OT.A2]
  rw [h x (by simp),Fm.fu_of xs fun y hy=>h y (by simp [hy])]; rfl
theorem Fm.fu (x:Fm):OT.Be (Fm.o x)=true:=by
 have h:=Fm.fu_of x.parts fun y hy=>Fm.fu y
 rw [Fm.o_eq]
 simp only [OT.Be,OT.full,h,Tm.fus,zC,zF]
termination_by SizeOf.sizeOf x
decreasing_by exact Fm.lt_of_mem hy
theorem Fm.fus (xs:List Fm):OT.A2 (xs.map Fm.o)=true:=Fm.fu_of xs fun x _=>Fm.fu x
theorem Lt.fu (x:Lt):OT.Be (Lt.o x)=true:=by
 simp only [Lt.o,OT.Be,OT.full,Tm.fus,zC,zF]
theorem Lt.fus:∀ xs:List Lt,OT.A2 (xs.map Lt.o)=true
 | []=>rfl
 | x :: xs=>by simp only [zB,OT.A2,Lt.fu,Lt.fus xs,zC]
theorem Cl.fu (x:Cl):OT.Be (Cl.o x)=true:=by
 simp only [Cl.o,OT.Be,OT.full,Lt.fus,zC,zF]
theorem Cl.fus:∀ xs:List Cl,OT.A2 (xs.map Cl.o)=true
 | []=>rfl
 | x :: xs=>by simp only [zB,OT.A2,Cl.fu,Cl.fus xs,zC]
theorem Ag.fu (x:Ag):OT.Be (Ag.o x)=true:=by
 simp only [Ag.o,OT.Be,OT.full,zC,zF]
theorem Ag.fus:∀ xs:List Ag,OT.A2 (xs.map Ag.o)=true
 | []=>rfl
 | x :: xs=>by simp only [zB,OT.A2,Ag.fu,Ag.fus xs,zC]
theorem Bd.fu (x:Bd):OT.Be (Bd.o x)=true:=by
 simp only [Bd.o,OT.Be,OT.full,Tm.fus,zC,zF]
theorem Bd.fus:∀ xs:List Bd,OT.A2 (xs.map Bd.o)=true
 | []=>rfl
 | x :: xs=>by simp only [zB,OT.A2,Bd.fu,Bd.fus xs,zC]
theorem Sb.fu (x:Sb):OT.Be (Sb.o x)=true:=by
 simp only [Sb.o,OT.Be,OT.full,Bd.fus,zC,zF]
theorem Sb.fus:∀ xs:List Sb,OT.A2 (xs.map Sb.o)=true
 | []=>rfl
 | x :: xs=>by simp only [zB,OT.A2,Sb.fu,Sb.fus xs,zC]
theorem Df.fu (x:Df):OT.Be (Df.o x)=true:=by
 simp only [Df.o,OT.Be,OT.full,Fm.fus,Tm.fus,Kj,zC,zF]
theorem Df.fus:∀ xs:List Df,OT.A2 (xs.map Df.o)=true
 | []=>rfl
 | x :: xs=>by simp only [zB,OT.A2,Df.fu,Df.fus xs,zC]
theorem Tl.fu (x:Tl):OT.Be (Tl.o x)=true:=by
 simp only [Tl.o,OT.Be,OT.full,Qx,zC,zF]
theorem Tl.fus:∀ xs:List Tl,OT.A2 (xs.map Tl.o)=true
 | []=>rfl
 | x :: xs=>by simp only [zB,OT.A2,Tl.fu,Tl.fus xs,zC]
theorem Ip.fu (x:Ip):OT.Be (Ip.o x)=true:=by
 simp only [Ip.o,OT.Be,OT.full,Tl.fus,zC,zF]
theorem Ip.fus:∀ xs:List Ip,OT.A2 (xs.map Ip.o)=true
 | []=>rfl
 | x :: xs=>by simp only [zB,OT.A2,Ip.fu,Ip.fus xs,zC]
attribute [go_sem] Kj Qx M5 TX TY TZ Tm.fus Tm.erss Tm.noss Fm.fus Fm.erss Fm.noss Lt.fus Lt.erss Lt.noss Cl.fus Cl.erss Cl.noss Ag.fus Ag.erss Ag.noss Bd.fus Bd.erss Bd.noss Sb.fus Sb.erss Sb.noss Df.fus Df.erss Df.noss Tl.fus Tl.erss Tl.noss Ip.fus Ip.erss Ip.noss
theorem HF {α β:Type} (f:α→β) (dn rest:List α) (x y:α) {k:Nat} (h:dn.length=k):((dn++x :: rest).map f).set k (f y)=((dn++[y])++rest).map f:=by
 subst h
 rw [yX,List.set_append_right _ _ (by simp)]
 simp
theorem C9 {α:Type} (a:α):dec (a=a)=true:=A4 rfl
def Fp {α β:Type} (f:α→β) (z:β) (xs:List α) (k:Nat):List β:=(xs.take k).map f++List.replicate (xs.length-k) z
section
variable {α β:Type} (f:α→β) (z:β) {xs:List α} {k:Nat}
theorem JC:Fp f z xs 0=List.replicate xs.length z:=by simp [Fp]
theorem Lj:(Fp f z xs k).length=xs.length:=by simp [Fp]; omega
theorem Lk:Fp f z xs xs.length=xs.map f:=by simp [Fp]
theorem Ll (h:k<xs.length):(Fp f z xs k)[k]?=some z:=by
 have hl:((xs.take k).map f).length=k:=by simp; omega
 unfold Fp
 rw [List.getElem?_append_right (by omega),hl,Nat.sub_self,List.getElem?_replicate]
 simp; omega
theorem Lm (h:k<xs.length):(Fp f z xs k).set k (f xs[k])=Fp f z xs (k+1):=by
 have hl:((xs.take k).map f).length=k:=by simp; omega
 have e:List.take (k+1) xs=List.take k xs++[xs[k]]:=List.take_succ_eq_append_getElem h
 unfold Fp
 rw [List.set_append_right _ _ (by omega),hl,Nat.sub_self,e,yX,List.append_assoc]
 congr 1
 rw [show xs.length-k=(xs.length-(k+1))+1 by omega,List.replicate_succ,List.set_cons_zero]
 rfl
end
theorem Yw (a b:Int):(bif dec (a<b) then b else a)=max a b:=by
 by_cases h:a<b
 ·rw [A4 h,cond_true,Int.max_eq_right (by omega)]
 ·rw [An h,cond_false,Int.max_eq_left (by omega)]
def FF {α:Type} (p:α→Bool):List α→Int→Int
 | [],_=>-1
 | x :: xs,i=>if p x then i else FF p xs (i+1)
theorem N8 {α:Type} (p:α→Bool):∀ (xs:List α),dec (0≤FF p xs 0)=xs.any p:=by
 have key:∀ (xs:List α) (i:Int),0≤i→(0≤FF p xs i ↔ xs.any p=true):=by
  intro xs
  induction xs with
  | nil=>intro i h; simp [FF]
  | cons x xs ih =>
   intro i h
   simp only [FF,yS,Bool.or_eq_true]
   by_cases hp:p x=true
   ·simp [hp,h]
   ·rw [if_neg hp,ih (i+1) (by omega)]; simp [hp]
 intro xs
 cases h:xs.any p with
 | true=>exact A4 ((key xs 0 (by omega)).2 h)
 | false=>exact An fun h'=>by rw [(key xs 0 (by omega)).1 h'] at h; cases h
theorem Z0 {p q:Prop} (h:p ↔ q):dec p=dec q:=by rw [propext h]
mutual
def Tm.nodes:Tm→Nat
 | .mk _ args=>1+Tm.nodeS args
def Tm.nodeS:List Tm→Nat
 | []=>0
 | x :: xs=>Tm.nodes x+Tm.nodeS xs
end
theorem Tm.nodes_eq (x:Tm):x.nodes=1+Tm.nodeS x.args:=by
 obtain ⟨name,args⟩:=x
 rw [Tm.nodes]; rfl
theorem Tm.nodes_pos (x:Tm):1≤x.nodes:=by rw [Tm.nodes_eq]; omega
theorem Tm.nodes_le:∀ (xs:List Tm) (k:Nat) (h:k<xs.length),xs[k].nodes≤Tm.nodeS xs
 | [],k,h=>absurd h (by simp)
 | x :: xs,0,_=>by rw [Tm.nodeS]; simp
 | x :: xs,k+1,h=>by
  have:=Tm.nodes_le xs k (by simpa using h)
  rw [Tm.nodeS]; simp only [yE]; omega
mutual
def Tm.deep:Tm→Nat
 | .mk _ args=>Tm.Fq args+1
def Tm.Fq:List Tm→Nat
 | []=>0
 | x :: xs=>max (Tm.deep x) (Tm.Fq xs)
end
theorem Tm.Qy (x:Tm):x.deep=Tm.Fq x.args+1:=by
 obtain ⟨name,args⟩:=x
 rw [Tm.deep]; rfl
theorem Tm.HG:∀ xs:List Tm,(∀ y∈xs,y.deep≤y.nodes)→Tm.Fq xs≤Tm.nodeS xs
 | [],_=>by simp [Tm.Fq]
 | x :: xs,h=>by
  have h1:=h x (by simp)
  have h2:=Tm.HG xs fun y hy=>h y (by simp [hy])
  rw [Tm.Fq,Tm.nodeS]; omega
theorem Tm.FG (x:Tm):x.deep≤x.nodes:=by
 rw [Tm.Qy,Tm.nodes_eq]
 have:=Tm.HG x.args fun y hy=>Tm.FG y
 omega
termination_by SizeOf.sizeOf x
decreasing_by exact Tm.lt_of_mem hy
mutual
def Tm.names:Tm→Bool
 | .mk name args=>if AT name then args.length == 0 else DM name&&decide (args.length≤4)&&Tm.ES args
def Tm.ES:List Tm→Bool
 | []=>true
 | x :: xs=>Tm.names x&&Tm.ES xs
end
theorem Tm.HH (x:Tm):x.names=if AT x.name then x.args.length == 0 else DM x.name&&decide (x.args.length≤4)&&Tm.ES x.args:=by
 obtain ⟨name,args⟩:=x
 rw [Tm.names]; rfl
theorem Tm.I7:∀ xs:List Tm,Tm.ES xs=xs.all Tm.names
 | []=>rfl
 | x :: xs=>by rw [Tm.ES,Tm.I7 xs]; rfl
theorem Tm.length_le:∀ xs:List Tm,xs.length≤Tm.nodeS xs
 | []=>zU _
 | x :: xs=>by
  have:=Tm.length_le xs
  have:=Tm.nodes_pos x
  rw [Tm.nodeS]; simp only [zG]; omega
theorem Tm.nodes_mem {xs:List Tm} {y:Tm} (h:y∈xs):y.nodes≤Tm.nodeS xs:=by
 obtain ⟨k,hk,rfl⟩:=yP h
 exact Tm.nodes_le xs k hk
def Tm.small (x:Tm):Bool:=decide (x.nodes≤30)&&decide (x.deep≤8)
def Tm.valid (x:Tm):Bool:=x.small&&x.names
noncomputable def Tm.eqn (x:Tm):Bool:=dec (x.name=⟨#[61]⟩)
noncomputable def Tm.atom (x:Tm):Bool:=if x.eqn then x.args.length == 2&&x.small&&Tm.ES x.args else DM x.name&&x.valid
theorem P6 {xs:List Tm} (h:xs.length=2):Tm.ES xs=((xs[0]'(by omega)).names&&(xs[1]'(by omega)).names):=by
 match xs,h with
 | [a,b],_=>simp [Tm.ES]
mutual
def Tm.cap:Tm→Int
 | .mk _ xs=>Tm.capL xs 1
def Tm.capL:List Tm→Int→Int
 | [],n=>n
 | x :: xs,n=>if 30 < n then n else Tm.capL xs (n+Tm.cap x)
end
theorem Tm.cap_eq (x:Tm):x.cap=Tm.capL x.args 1:=by
 obtain ⟨n,xs⟩:=x
 rw [Tm.cap]; rfl
theorem Tm.capL_spec:∀ (xs:List Tm) (n:Int),(∀ x∈xs,1≤x.cap∧x.cap≤x.nodes∧(x.cap≤30→x.cap=x.nodes))→1≤n→n≤Tm.capL xs n∧Tm.capL xs n≤n+Tm.nodeS xs∧(Tm.capL xs n≤30→Tm.capL xs n=n+Tm.nodeS xs)
 | [],n,_,h=>by simp [Tm.capL,Tm.nodeS]
 | x :: xs,n,hx,h=>by
  rw [Tm.capL,Tm.nodeS]
  have h1:=hx x (by simp)
  split
  ·omega
  ·have:=Tm.capL_spec xs (n+x.cap) (fun y hy=>hx y (by simp [hy])) (by omega)
   omega
theorem Tm.cap_spec (x:Tm):1≤x.cap∧x.cap≤x.nodes∧(x.cap≤30→x.cap=x.nodes):=by
 rw [Tm.cap_eq,Tm.nodes_eq]
 have:=Tm.capL_spec x.args 1 (fun y hy=>Tm.cap_spec y) (by omega)
 omega
termination_by SizeOf.sizeOf x
decreasing_by exact Tm.lt_of_mem hy
mutual
def Tm.many:Tm→Int→Int
 | .mk _ xs,m=>Tm.manyL xs m 1
def Tm.manyL:List Tm→Int→Int→Int
 | [],_,n=>n
 | x :: xs,m,n=>if n≤m then Tm.manyL xs m (n+Tm.many x (m-n)) else n
end
theorem Tm.many_eq (x:Tm) (m:Int):x.many m=Tm.manyL x.args m 1:=by
 obtain ⟨n,xs⟩:=x
 rw [Tm.many]; rfl
theorem Tm.manyL_spec (m:Int):∀ (xs:List Tm) (n:Int),(∀ x∈xs,∀ m,0≤m→1≤x.many m∧x.many m≤x.nodes∧(x.many m≤m→x.many m=x.nodes))→1≤n→n≤Tm.manyL xs m n∧Tm.manyL xs m n≤n+Tm.nodeS xs∧(Tm.manyL xs m n≤m→Tm.manyL xs m n=n+Tm.nodeS xs)
 | [],n,_,h=>by simp [Tm.manyL,Tm.nodeS]
 | x :: xs,n,hx,h=>by
  rw [Tm.manyL,Tm.nodeS]
  split
  ·have h1:=hx x (by simp) (m-n) (by omega)
   have:=Tm.manyL_spec m xs (n+x.many (m-n)) (fun y hy=>hx y (by simp [hy])) (by omega)
   omega
  ·omega
theorem Tm.many_spec (x:Tm) (m:Int):1≤x.many m∧x.many m≤x.nodes∧(x.many m≤m→x.many m=x.nodes):=by
 rw [Tm.many_eq,Tm.nodes_eq]
 have:=Tm.manyL_spec m x.args 1 (fun y hy m _=>Tm.many_spec y m) (by omega)
 omega
termination_by SizeOf.sizeOf x
decreasing_by exact Tm.lt_of_mem hy
theorem Tm.P7 {x:Tm} (h:x.names=true) (hv:AT x.name=true):x.args=[]:=by
 rw [Tm.HH,if_pos hv] at h
 exact zE (by simpa using h)
theorem Tm.Ln {x:Tm} (h:x.names=true) {y:Tm} (hy:y∈x.args):y.names=true:=by
 rw [Tm.HH] at h
 split at h
 ·have:x.args=[]:=zE (by simpa using h)
  rw [this] at hy; cases hy
 ·rw [zV,Tm.I7,List.all_eq_true] at h
  exact h.2 y hy
def LR:SC:=(.seq (.reg [⟨some 1,none,.boxv 31 2 (.t 0)⟩,⟨some 2,none,.mv (.c (.int .i64 0))⟩]) (.seq (.reg [⟨some 3,none,.mv (.c (.int .i64 1))⟩]) (.seq (.seq (.reg [⟨some 6,none,.faddr 1 (.t 1)⟩,⟨some 7,none,.load false 1 (.t 6)⟩,⟨some 8,none,.len false (.t 7)⟩,⟨some 9,none,.mv (.c (.int .i64 0))⟩]) (.block 0 (.loop [0,0,0,1,0,0,0,1,1,1,0,0,0,0,0,0,0,0,0,0,0,0] (.seq (.reg [⟨some 10,none,.bin .lss false (.t 9) (.t 8)⟩]) (.seq (.cond (.t 10) .skip (.exit 0)) (.seq (.block 1 (.seq (.reg [⟨some 11,none,.iaddr 2 (.t 7) (.t 9)⟩,⟨some 12,none,.load true 2 (.t 11)⟩,⟨(some 5),none,(.alloc 31 [(.str ⟨#[]⟩),.nil])⟩,⟨none,none,(.store 2 (.t 5) (.t 12))⟩]) (.seq (.seq (.reg [⟨some 13,none,.mv (.t 3)⟩,⟨some 14,none,.bin .gtr false (.t 13) (.c (.int .i64 30))⟩]) (.cond (.t 14) (.seq (.reg [⟨some 15,none,.mv (.t 3)⟩,⟨some 2,none,.mv (.t 15)⟩]) .ret) .skip)) (.reg [⟨some 16,none,.mv (.t 3)⟩,⟨some 17,none,.load true 2 (.t 5)⟩,⟨some 18,none,.call 219 [(.t 17)]⟩,⟨some 19,none,.bin .add false (.t 16) (.t 18)⟩,⟨some 3,none,.mv (.t 19)⟩])))) (.reg [⟨some 20,none,.bin .add false (.t 9) (.c (.int .i64 1))⟩,⟨some 9,none,.mv (.t 20)⟩]))))))) (.seq (.reg [⟨some 21,none,.mv (.t 3)⟩,⟨some 2,none,.mv (.t 21)⟩]) .ret))))
theorem RG:codeOf Tryz.prog 219=some ⟨22,LR,[(.tmp 2)]⟩:=by kernel_rfl
theorem Ek:modes 219=⟨[],.asis,none,false⟩:=by unfold modes; rfl
theorem Yx (x:Tm) (hn:x.nodes≤1099511627776) (ih:∀ y∈x.args,E 219 [y.sv] []=some (.int .i64 y.cap,[])):E 219 [x.sv] []=some (.int .i64 x.cap,[]):=by
 have hl:=Tm.length_le x.args
 have hx:=Tm.nodes_eq x
 rw [Tm.cap_eq]
 refine Ai RG Ek (of_decide_eq_true rfl) ?_
 simp (disch:=omega) only [LR,go_sem,Ab]
 refine go_loop (α:=Int × Int) (fun a=>⟨slots 22 0 [(3,.int .i64 a.2),(7,.arr (x.args.map Tm.d)),(8,.int .i64 x.args.length),(9,.int .i64 a.1)],[]⟩) (fun a=>∃ k:Nat,a.1=k∧k≤x.args.length∧1≤a.2∧a.2+Tm.nodeS (x.args.drop k)≤x.nodes∧Tm.capL (x.args.drop k) a.2=Tm.capL x.args 1) (fun a=>x.args.length-a.1.toNat) (0,1) ⟨0,rfl,zM _,by dsimp only; omega,by rw [yA]; dsimp only; omega,rfl⟩ (by simp (disch:=omega) only [go_sem,Ab]) ?_
 rintro ⟨i,n⟩ ⟨k,hi,hk,hn0,hn1,hs⟩
 dsimp only at hi hn0 hn1 hs
 have hni:i.toNat=k:=by omega
 rcases zN k x.args.length with hlt | hge
 ·have hg:=get_at Tm.d hlt
  rw [Tm.d_eq] at hg
  have hd:x.args.drop k=x.args[k] :: x.args.drop (k+1):=zJ hlt
  have hc:=ih x.args[k] (zH hlt)
  have hp:=Tm.cap_spec x.args[k]
  rw [hd,Tm.capL] at hs
  rw [hd,Tm.nodeS] at hn1
  rcases yW 30 n with h30 | h30
  ·rw [if_pos h30] at hs
   simp (disch:=omega) only [go_sem,Ab,hni,hg,hc,Ek]
   exact hs
  ·rw [if_neg (by omega)] at hs
   simp (disch:=omega) only [go_sem,Ab,hni,hg,hc,Ek]
   refine ⟨(i+1,n+x.args[k].cap),⟨k+1,by dsimp only; omega,hlt,by dsimp only; omega,by dsimp only; omega,hs⟩,by dsimp only; omega,?_⟩
   simp only [and_self]
 ·have hd:x.args.drop k=[]:=zO hge
  rw [hd,Tm.capL] at hs
  simp (disch:=omega) only [go_sem,Ab,hni]
  exact hs
theorem W9 (x:Tm) (hn:x.nodes≤1099511627776):E 219 [x.sv] []=some (.int .i64 x.cap,[]) :=
 Yx x hn fun y hy=>W9 y (by have:=Tm.nodes_mem hy; have:=Tm.nodes_eq x; omega)
termination_by SizeOf.sizeOf x
decreasing_by exact Tm.lt_of_mem hy
def IU:SC:=(.seq (.reg [⟨some 2,none,.boxv 31 2 (.t 0)⟩,⟨some 4,none,.mv (.c (.int .i64 0))⟩]) (.seq (.reg [⟨some 5,none,.mv (.c (.int .i64 1))⟩]) (.seq (.seq (.reg [⟨some 6,none,.mv (.c (.int .i64 0))⟩]) (.block 0 (.loop [0,1,1,0,0,1,1,0,0,0,0,0,0,0,0,0,0,0,0,0,0,0,0,0,0,0,0,0,0,0,0] (.seq (.seq (.reg [⟨some 7,none,.mv (.t 6)⟩,⟨some 8,none,.faddr 1 (.t 2)⟩,⟨some 9,none,.load false 1 (.t 8)⟩,⟨some 10,none,.len false (.t 9)⟩,⟨some 11,none,.bin .lss false (.t 7) (.t 10)⟩,⟨some 12,none,.mv (.t 11)⟩,⟨(some 13),(some (12,true)),(.mv (.t 5))⟩,⟨(some 14),(some (12,true)),(.mv (.t 1))⟩,⟨(some 15),(some (12,true)),(.bin .leq false (.t 13) (.t 14))⟩,⟨some 16,none,.pick (.t 12) (.t 15) (.c (.bool false))⟩]) (.cond (.t 16) .skip (.exit 0))) (.seq (.block 1 (.reg [⟨some 19,none,.mv (.t 5)⟩,⟨some 20,none,.faddr 1 (.t 2)⟩,⟨some 21,none,.load false 1 (.t 20)⟩,⟨some 22,none,.mv (.t 6)⟩,⟨some 23,none,.iaddr 2 (.t 21) (.t 22)⟩,⟨some 24,none,.load true 2 (.t 23)⟩,⟨some 25,none,.mv (.t 1)⟩,⟨some 26,none,.mv (.t 5)⟩,⟨some 27,none,.bin .sub false (.t 25) (.t 26)⟩,⟨some 28,none,.call 206 [(.t 24),(.t 27)]⟩,⟨some 29,none,.bin .add false (.t 19) (.t 28)⟩,⟨some 5,none,.mv (.t 29)⟩])) (.reg [⟨some 17,none,.mv (.t 6)⟩,⟨some 18,none,.bin .add false (.t 17) (.c (.int .i64 1))⟩,⟨some 6,none,.mv (.t 18)⟩])))))) (.seq (.reg [⟨some 30,none,.mv (.t 5)⟩,⟨some 4,none,.mv (.t 30)⟩]) .ret))))
theorem O2:codeOf Tryz.prog 206=some ⟨31,IU,[(.tmp 4)]⟩:=by kernel_rfl
theorem CX:modes 206=⟨[],.asis,none,false⟩:=by unfold modes; rfl
theorem Yy (x:Tm) (m:Int) (hm:0≤m) (hm1:m≤1099511627776) (hn:x.nodes≤1099511627776) (ih:∀ y∈x.args,∀ m:Int,0≤m→m≤1099511627776→E 206 [y.sv,.int .i64 m] []=some (.int .i64 (y.many m),[])):E 206 [x.sv,.int .i64 m] []=some (.int .i64 (x.many m),[]):=by
 have hl:=Tm.length_le x.args
 have hx:=Tm.nodes_eq x
 rw [Tm.many_eq]
 refine Ai O2 CX (of_decide_eq_true rfl) ?_
 simp (disch:=omega) only [IU,go_sem,Ab]
 refine go_loop (α:=Int × Int) (fun a=>⟨slots 31 0 [(1,.int .i64 m),(2,.ptr 0 0),(5,.int .i64 a.2),(6,.int .i64 a.1)],[.box 31 [.str x.name,.arr (x.args.map Tm.d)]]⟩) (fun a=>∃ k:Nat,a.1=k∧k≤x.args.length∧1≤a.2∧a.2+Tm.nodeS (x.args.drop k)≤x.nodes∧Tm.manyL (x.args.drop k) m a.2=Tm.manyL x.args m 1) (fun a=>x.args.length-a.1.toNat) (0,1) ⟨0,rfl,zM _,by dsimp only; omega,by rw [yA]; dsimp only; omega,rfl⟩ (by simp (disch:=omega) only [go_sem,Ab]) ?_
 rintro ⟨i,n⟩ ⟨k,hi,hk,hn0,hn1,hs⟩
 dsimp only at hi hn0 hn1 hs
 have hni:i.toNat=k:=by omega
 rcases zN k x.args.length with hlt | hge
 ·have hg:=get_at Tm.d hlt
  rw [Tm.d_eq] at hg
  have hd:x.args.drop k=x.args[k] :: x.args.drop (k+1):=zJ hlt
  rw [hd,Tm.manyL] at hs
  rw [hd,Tm.nodeS] at hn1
  rcases yW m n with h30 | h30
  ·rw [if_neg (by omega)] at hs
   simp (disch:=omega) only [go_sem,Ab,hni,hg,CX]
   exact hs
  ·rw [if_pos h30] at hs
   have hc:=ih x.args[k] (zH hlt) (m-n) (by omega) (by omega)
   have hp:=Tm.many_spec x.args[k] (m-n)
   simp (disch:=omega) only [go_sem,Ab,hni,hg,hc,CX]
   refine ⟨(i+1,n+x.args[k].many (m-n)),⟨k+1,by dsimp only; omega,hlt,by dsimp only; omega,by dsimp only; omega,hs⟩,by dsimp only; omega,?_⟩
   simp only [and_self]
 ·have hd:x.args.drop k=[]:=zO hge
  rw [hd,Tm.manyL] at hs
  simp (disch:=omega) only [go_sem,Ab,hni]
  exact hs
theorem WA (x:Tm) (m:Int) (hm:0≤m) (hm1:m≤1099511627776) (hn:x.nodes≤1099511627776):E 206 [x.sv,.int .i64 m] []=some (.int .i64 (x.many m),[]) :=
 Yy x m hm hm1 hn fun y hy m hm hm1=>WA y m hm hm1 (by have:=Tm.nodes_mem hy; have:=Tm.nodes_eq x; omega)
termination_by SizeOf.sizeOf x
decreasing_by exact Tm.lt_of_mem hy
def Kk:SC:=(.seq (.reg [⟨some 1,none,.boxv 31 2 (.t 0)⟩,⟨some 2,none,.mv (.c (.int .i64 0))⟩]) (.seq (.reg [⟨some 3,none,.mv (.c (.int .i64 0))⟩]) (.seq (.seq (.reg [⟨some 6,none,.faddr 1 (.t 1)⟩,⟨some 7,none,.load false 1 (.t 6)⟩,⟨some 8,none,.len false (.t 7)⟩,⟨some 9,none,.mv (.c (.int .i64 0))⟩]) (.block 0 (.loop [0,0,0,1,0,0,0,1,1,1,0,0,0,0,0,0,0,0,0,0] (.seq (.reg [⟨some 10,none,.bin .lss false (.t 9) (.t 8)⟩]) (.seq (.cond (.t 10) .skip (.exit 0)) (.seq (.block 1 (.seq (.reg [⟨some 11,none,.iaddr 2 (.t 7) (.t 9)⟩,⟨some 12,none,.load true 2 (.t 11)⟩,⟨(some 5),none,(.alloc 31 [(.str ⟨#[]⟩),.nil])⟩,⟨none,none,(.store 2 (.t 5) (.t 12))⟩]) (.reg [⟨some 13,none,.mv (.t 3)⟩,⟨some 14,none,.load true 2 (.t 5)⟩,⟨some 15,none,.call 220 [(.t 14)]⟩,⟨some 16,none,.minmax true (.t 13) (.t 15)⟩,⟨some 3,none,.mv (.t 16)⟩]))) (.reg [⟨some 17,none,.bin .add false (.t 9) (.c (.int .i64 1))⟩,⟨some 9,none,.mv (.t 17)⟩]))))))) (.seq (.reg [⟨some 18,none,.mv (.t 3)⟩,⟨some 19,none,.bin .add false (.t 18) (.c (.int .i64 1))⟩,⟨some 2,none,.mv (.t 19)⟩]) .ret))))
theorem Qz:codeOf Tryz.prog 220=some ⟨20,Kk,[(.tmp 2)]⟩:=by kernel_rfl
theorem E5:modes 220=⟨[],.asis,none,false⟩:=by unfold modes; rfl
def IW:SC:=(.seq (.reg [⟨some 4,none,.mv (.c (.int .i64 0))⟩]) (.seq (.seq (.reg [⟨some 5,none,.mv (.t 0)⟩,⟨some 6,none,.mv (.t 1)⟩,⟨some 7,none,.bin .gtr false (.t 5) (.t 6)⟩]) (.cond (.t 7) (.seq (.reg [⟨some 8,none,.mv (.t 0)⟩,⟨some 4,none,.mv (.t 8)⟩]) .ret) .skip)) (.seq (.reg [⟨some 9,none,.mv (.t 1)⟩,⟨some 4,none,.mv (.t 9)⟩]) .ret)))
theorem O3:codeOf Tryz.prog 234=some ⟨10,IW,[(.tmp 4)]⟩:=by kernel_rfl
theorem IX:modes 234=⟨[],.asis,none,false⟩:=by unfold modes; rfl
def HI:SC:=(.seq (.reg [⟨some 1,none,.boxv 31 2 (.t 0)⟩,⟨some 2,none,.mv (.c (.int .i64 0))⟩]) (.seq (.reg [⟨some 3,none,.mv (.c (.int .i64 0))⟩]) (.seq (.seq (.reg [⟨some 4,none,.mv (.c (.int .i64 0))⟩]) (.block 0 (.loop [0,1,0,1,1,0,0,0,0,0,0,0,0,0,0,0,0,0,0,0,0,0] (.seq (.seq (.reg [⟨some 5,none,.mv (.t 4)⟩,⟨some 6,none,.faddr 1 (.t 1)⟩,⟨some 7,none,.load false 1 (.t 6)⟩,⟨some 8,none,.len false (.t 7)⟩,⟨some 9,none,.bin .lss false (.t 5) (.t 8)⟩]) (.cond (.t 9) .skip (.exit 0))) (.seq (.block 1 (.reg [⟨some 12,none,.mv (.t 3)⟩,⟨some 13,none,.faddr 1 (.t 1)⟩,⟨some 14,none,.load false 1 (.t 13)⟩,⟨some 15,none,.mv (.t 4)⟩,⟨some 16,none,.iaddr 2 (.t 14) (.t 15)⟩,⟨some 17,none,.load true 2 (.t 16)⟩,⟨some 18,none,.call 207 [(.t 17)]⟩,⟨some 19,none,.call 234 [(.t 12),(.t 18)]⟩,⟨some 3,none,.mv (.t 19)⟩])) (.reg [⟨some 10,none,.mv (.t 4)⟩,⟨some 11,none,.bin .add false (.t 10) (.c (.int .i64 1))⟩,⟨some 4,none,.mv (.t 11)⟩])))))) (.seq (.reg [⟨some 20,none,.mv (.t 3)⟩,⟨some 21,none,.bin .add false (.t 20) (.c (.int .i64 1))⟩,⟨some 2,none,.mv (.t 21)⟩]) .ret))))
theorem N9:codeOf Tryz.prog 207=some ⟨22,HI,[(.tmp 2)]⟩:=by kernel_rfl
theorem Du:modes 207=⟨[],.asis,none,false⟩:=by unfold modes; rfl
theorem WB (a b:Int):E 234 [.int .i64 a,.int .i64 b] []=some (.int .i64 (max a b),[]):=by
 refine Ai O3 IX (of_decide_eq_true rfl) ?_
 simp (disch:=omega) only [IW,go_sem,Ab]
 repeat' (refine Ck (fun hq=>?_) (fun hq=>?_) <;> (first | replace hq:=Ap.1 hq | replace hq:=BJ.1 hq) <;> (try simp (disch:=omega) only [go_sem,Ab]))
 all_goals omega
theorem WC (x:Tm) (hn:x.nodes≤1099511627776) (ih:∀ y∈x.args,E 220 [y.sv] []=some (.int .i64 y.deep,[])):E 220 [x.sv] []=some (.int .i64 x.deep,[]):=by
 have hl:=Tm.length_le x.args
 have hx:=Tm.nodes_eq x
 have hd1:=Tm.Qy x
 have hd2:=Tm.FG x
 refine Ai Qz E5 (of_decide_eq_true rfl) ?_
 simp (disch:=omega) only [Kk,go_sem,Ab]
 refine go_loop (α:=Int × (Int)) (fun a=>⟨slots 20 0 [(3,.int .i64 (a.2)),(7,.arr (x.args.map Tm.d)),(8,.int .i64 x.args.length),(9,.int .i64 (a.1))],[]⟩) (fun a=>∃ k:Nat,a.1=k∧k≤(x.args).length∧0≤(a.2)∧max (a.2) (Tm.Fq (x.args.drop k):Nat)=(Tm.Fq x.args:Nat)) (fun a=>(x.args).length-(a.1).toNat) (0,0) ⟨0,rfl,zM _,by dsimp only; omega,by rw [yA]; dsimp only; omega⟩ (by simp (disch:=omega) only [go_sem,Ab]) ?_
 rintro ⟨i,n⟩ ⟨k,hi,hk,hR⟩
 dsimp only at hi hR
 have hni:i.toNat=k:=by omega
 have hni1:(i+1).toNat=k+1:=by omega
 rcases zN k (x.args).length with hlt | hge
 ·have hg:=get_at Tm.d hlt
  rw [Tm.d_eq] at hg
  have hc:=ih x.args[k] (zH hlt)
  rw [zJ hlt,Tm.Fq] at hR
  simp (disch:=omega) only [go_sem,Ab,hni,hg,hc,E5,Yw]
  refine ⟨(i+1,max n (x.args[k].deep:Int)),⟨k+1,by dsimp only; omega,hlt,by dsimp only; omega⟩,by dsimp only; omega,?_⟩
  simp only [and_self]
 ·rw [zO hge,Tm.Fq] at hR
  simp (disch:=omega) only [go_sem,Ab,hni]
  omega
theorem Uf (x:Tm) (hn:x.nodes≤1099511627776):E 220 [x.sv] []=some (.int .i64 x.deep,[]) :=
 WC x hn fun y hy=>Uf y (by have:=Tm.nodes_mem hy; have:=Tm.nodes_eq x; omega)
termination_by SizeOf.sizeOf x
decreasing_by exact Tm.lt_of_mem hy
theorem Tr (x:Tm) (hn:x.nodes≤1099511627776) (ih:∀ y∈x.args,E 207 [y.sv] []=some (.int .i64 y.deep,[])):E 207 [x.sv] []=some (.int .i64 x.deep,[]):=by
 have hl:=Tm.length_le x.args
 have hx:=Tm.nodes_eq x
 have hd1:=Tm.Qy x
 have hd2:=Tm.FG x
 refine Ai N9 Du (of_decide_eq_true rfl) ?_
 simp (disch:=omega) only [HI,go_sem,Ab]
 refine go_loop (α:=Int × (Int)) (fun a=>⟨slots 22 0 [(1,.ptr 0 0),(3,.int .i64 (a.2)),(4,.int .i64 (a.1))],[.box 31 [.str x.name,.arr (x.args.map Tm.d)]]⟩) (fun a=>∃ k:Nat,a.1=k∧k≤(x.args).length∧0≤(a.2)∧max (a.2) (Tm.Fq (x.args.drop k):Nat)=(Tm.Fq x.args:Nat)) (fun a=>(x.args).length-(a.1).toNat) (0,0) ⟨0,rfl,zM _,by dsimp only; omega,by rw [yA]; dsimp only; omega⟩ (by simp (disch:=omega) only [go_sem,Ab]) ?_
 rintro ⟨i,n⟩ ⟨k,hi,hk,hR⟩
 dsimp only at hi hR
 have hni:i.toNat=k:=by omega
 have hni1:(i+1).toNat=k+1:=by omega
 rcases zN k (x.args).length with hlt | hge
 ·have hg:=get_at Tm.d hlt
  rw [Tm.d_eq] at hg
  have hc:=ih x.args[k] (zH hlt)
  rw [zJ hlt,Tm.Fq] at hR
  simp (disch:=omega) only [go_sem,Ab,hni,hg,hc,Du,WB,IX]
  refine ⟨(i+1,max n (x.args[k].deep:Int)),⟨k+1,by dsimp only; omega,hlt,by dsimp only; omega⟩,by dsimp only; omega,?_⟩
  simp only [and_self]
 ·rw [zO hge,Tm.Fq] at hR
  simp (disch:=omega) only [go_sem,Ab,hni]
  omega
theorem P8 (x:Tm) (hn:x.nodes≤1099511627776):E 207 [x.sv] []=some (.int .i64 x.deep,[]) :=
 Tr x hn fun y hy=>P8 y (by have:=Tm.nodes_mem hy; have:=Tm.nodes_eq x; omega)
termination_by SizeOf.sizeOf x
decreasing_by exact Tm.lt_of_mem hy
def Bu:SC:=(.seq (.reg [⟨some 4,none,.mv (.c (.int .i64 0))⟩]) (.seq (.seq (.reg [⟨some 6,none,.mv (.t 0)⟩,⟨some 7,none,.len false (.t 6)⟩,⟨some 8,none,.mv (.c (.int .i64 0))⟩]) (.block 0 (.loop [1,1,0,0,0,0,0,1,1,0,0,0,0,0,0,0,0,0,0] (.seq (.reg [⟨some 9,none,.bin .lss false (.t 8) (.t 7)⟩]) (.seq (.cond (.t 9) .skip (.exit 0)) (.seq (.block 1 (.seq (.reg [⟨some 10,none,.mv (.t 8)⟩,⟨some 5,none,.mv (.t 10)⟩]) (.seq (.reg [⟨some 11,none,.mv (.t 1)⟩,⟨some 12,none,.mv (.t 0)⟩,⟨some 13,none,.mv (.t 5)⟩,⟨some 14,none,.iaddr 2 (.t 12) (.t 13)⟩,⟨some 15,none,.load true 2 (.t 14)⟩,⟨some 16,none,.callv (.t 11) [(.t 15)]⟩]) (.cond (.t 16) (.seq (.reg [⟨some 17,none,.mv (.t 5)⟩,⟨some 4,none,.mv (.t 17)⟩]) .ret) .skip)))) (.reg [⟨some 18,none,.bin .add false (.t 8) (.c (.int .i64 1))⟩,⟨some 8,none,.mv (.t 18)⟩]))))))) (.seq (.reg [⟨some 4,none,.mv (.c (.int .i64 (-(0+1))))⟩]) .ret)))
theorem CA:codeOf Tryz.prog 238=some ⟨19,Bu,[(.tmp 4)]⟩:=by kernel_rfl
theorem Bv:modes 238=⟨[],.asis,none,false⟩:=by unfold modes; rfl
def Bi:SC:=(.seq (.reg [⟨some 4,none,.mv (.c (.bool false))⟩]) (.seq (.reg [⟨some 5,none,.mv (.t 0)⟩,⟨some 6,none,.mv (.t 1)⟩,⟨some 7,none,.call 238 [(.t 5),(.t 6)]⟩,⟨some 8,none,.bin .geq false (.t 7) (.c (.int .i64 0))⟩,⟨some 4,none,.mv (.t 8)⟩]) .ret))
theorem Cr:codeOf Tryz.prog 221=some ⟨9,Bi,[(.tmp 4)]⟩:=by kernel_rfl
theorem Bj:modes 221=⟨[],.asis,none,false⟩:=by unfold modes; rfl
theorem Mh (fid:Nat) (p:Tm→Bool) (xs:List Tm) (hl:xs.length≤1099511627776) (hg:IF Tryz.prog fid=true) (hm:(modes fid).hand=[]) (hE:∀ x∈xs,E fid [x.sv] []=some (.bool (p x),[])):E 238 [.arr (xs.map Tm.d),.fn fid []] []=some (.int .i64 (FF p xs 0),[]):=by
 refine Ai CA Bv (of_decide_eq_true rfl) ?_
 simp (disch:=omega) only [Bu,go_sem,Ab]
 refine go_loop (α:=Int) (fun a=>⟨slots 19 0 [(0,.arr (xs.map Tm.d)),(1,.fn fid []),(7,.int .i64 xs.length),(8,.int .i64 a)],[]⟩) (fun a=>∃ k:Nat,a=k∧k≤(xs).length∧FF p (xs.drop k) a=FF p xs 0) (fun a=>(xs).length-(a).toNat) 0 ⟨0,rfl,zM _,by rw [yA]⟩ (by simp (disch:=omega) only [go_sem,Ab]) ?_
 rintro i ⟨k,hi,hk,hR⟩
 have hni:i.toNat=k:=by omega
 have hni1:(i+1).toNat=k+1:=by omega
 rcases zN k (xs).length with hlt | hge
 ·have hg':=get_at Tm.d hlt
  rw [Tm.d_eq] at hg'
  have hc:=hE xs[k] (zH hlt)
  rw [zJ hlt,FF] at hR
  cases hp:p xs[k] with
  | true =>
   rw [hp] at hc hR
   simp (disch:=omega) only [go_sem,Ab,hni,hg',hc,hg,hm]
   simpa using hR
  | false =>
   rw [hp] at hc hR
   simp (disch:=omega) only [go_sem,Ab,hni,hg',hc,hg,hm]
   exact ⟨i+1,⟨k+1,by omega,hlt,by simpa using hR⟩,by omega,by first | trivial | rfl⟩
 ·rw [zO hge,FF] at hR
  simp (disch:=omega) only [go_sem,Ab,hni]
  exact hR
theorem JD (fid:Nat) (p:Tm→Bool) (xs:List Tm) (hl:xs.length≤1099511627776) (hg:IF Tryz.prog fid=true) (hm:(modes fid).hand=[]) (hE:∀ x∈xs,E fid [x.sv] []=some (.bool (p x),[])):E 221 [.arr (xs.map Tm.d),.fn fid []] []=some (.bool (xs.any p),[]):=by
 have h:=Mh fid p xs hl hg hm hE
 refine Ai Cr Bj (of_decide_eq_true rfl) ?_
 simp (disch:=omega) only [Bi,go_sem,Ab,h,Bv]
 rw [N8]
def Cs:SC:=(.seq (.reg [⟨some 1,none,.boxv 31 2 (.t 0)⟩,⟨some 2,none,.mv (.c (.bool false))⟩]) (.seq (.seq (.reg [⟨some 3,none,.faddr 0 (.t 1)⟩,⟨some 4,none,.load false 1 (.t 3)⟩,⟨some 5,none,.call 127 [(.t 4)]⟩]) (.cond (.t 5) (.seq (.reg [⟨some 6,none,.faddr 1 (.t 1)⟩,⟨some 7,none,.load false 1 (.t 6)⟩,⟨some 8,none,.len false (.t 7)⟩,⟨some 9,none,.bin .eql false (.t 8) (.c (.int .i64 0))⟩,⟨some 2,none,.mv (.t 9)⟩]) .ret) .skip)) (.seq (.reg [⟨some 10,none,.faddr 0 (.t 1)⟩,⟨some 11,none,.load false 1 (.t 10)⟩,⟨some 12,none,.call 128 [(.t 11)]⟩,⟨some 13,none,.mv (.t 12)⟩,⟨(some 14),(some (13,true)),(.faddr 1 (.t 1))⟩,⟨(some 15),(some (13,true)),(.load false 1 (.t 14))⟩,⟨(some 16),(some (13,true)),(.len false (.t 15))⟩,⟨(some 17),(some (13,true)),(.bin .leq false (.t 16) (.c (.int .i64 4)))⟩,⟨some 18,none,.pick (.t 13) (.t 17) (.c (.bool false))⟩,⟨some 19,none,.mv (.t 18)⟩,⟨(some 20),(some (19,true)),(.faddr 1 (.t 1))⟩,⟨(some 21),(some (19,true)),(.load false 1 (.t 20))⟩,⟨(some 22),(some (19,true)),(.call 221 [(.t 21),(.c (.fn 222 []))])⟩,⟨(some 23),(some (19,true)),(.un .not (.t 22))⟩,⟨some 24,none,.pick (.t 19) (.t 23) (.c (.bool false))⟩,⟨some 2,none,.mv (.t 24)⟩]) .ret)))
theorem Dg:codeOf Tryz.prog 200=some ⟨25,Cs,[(.tmp 2)]⟩:=by kernel_rfl
theorem AC:modes 200=⟨[],.asis,none,false⟩:=by unfold modes; rfl
def Fs:SC:=(.seq (.reg [⟨some 1,none,.boxv 31 2 (.t 0)⟩,⟨some 2,none,.mv (.c (.bool false))⟩]) (.seq (.reg [⟨some 3,none,.load true 2 (.t 1)⟩,⟨some 4,none,.call 200 [(.t 3)]⟩,⟨some 5,none,.un .not (.t 4)⟩,⟨some 2,none,.mv (.t 5)⟩]) .ret))
theorem Kl:codeOf Tryz.prog 222=some ⟨6,Fs,[(.tmp 2)]⟩:=by kernel_rfl
theorem Ft:modes 222=⟨[],.asis,none,false⟩:=by unfold modes; rfl
theorem Km:IF Tryz.prog 222=true:=by kernel_rfl
theorem Tm.any_not (xs:List Tm):(!xs.any fun y=>!y.names)=Tm.ES xs:=by
 rw [Tm.I7]
 induction xs with
 | nil=>rfl
 | cons x xs ih=>simp only [yS,y2,Bool.not_or,Bool.not_not,ih]
theorem RH (x:Tm) (hn:x.nodes≤1099511627776) (ih:∀ y∈x.args,E 200 [y.sv] []=some (.bool y.names,[])):E 200 [x.sv] []=some (.bool x.names,[]):=by
 have hl:=Tm.length_le x.args
 have hx:=Tm.nodes_eq x
 have h1:∀ y∈x.args,E 222 [y.sv] []=some (.bool (!y.names),[]):=fun y hy=>by
  have h:=ih y hy
  refine Ai Kl Ft (of_decide_eq_true rfl) ?_
  simp (disch:=omega) only [Fs,go_sem,Ab,h,AC]
 have h2:=JD 222 (fun y=>!y.names) x.args (by omega) Km (by rw [Ft]) h1
 rw [Tm.HH,← Tm.any_not]
 cases hv:AT x.name with
 | true =>
  have h3:=Cn x.name
  rw [hv] at h3
  refine Ai Dg AC (of_decide_eq_true rfl) ?_
  simp (disch:=omega) only [Cs,go_sem,Ab,h3,Ae]
  rw [H0]; cases x.args <;> simp <;> omega
 | false =>
  have h3:=Cn x.name
  rw [hv] at h3
  have h4:=N6 x.name
  cases hs:DM x.name with
  | false =>
   rw [hs] at h4
   refine Ai Dg AC (of_decide_eq_true rfl) ?_
   simp (disch:=omega) only [Cs,go_sem,Ab,h2,h3,h4,Ae,AP]
  | true =>
   rw [hs] at h4
   rcases zN 4 x.args.length with h5 | h5
   ·refine Ai Dg AC (of_decide_eq_true rfl) ?_
    simp (disch:=omega) only [Cs,go_sem,Ab,h2,h3,h4,Ae,AP]
    simp; omega
   ·refine Ai Dg AC (of_decide_eq_true rfl) ?_
    simp (disch:=omega) only [Cs,go_sem,Ab,h2,h3,h4,Ae,AP,Bj]
    simp [h5]
theorem GK (x:Tm) (hn:x.nodes≤1099511627776):E 200 [x.sv] []=some (.bool x.names,[]) :=
 RH x hn fun y hy=>GK y (by have:=Tm.nodes_mem hy; have:=Tm.nodes_eq x; omega)
termination_by SizeOf.sizeOf x
decreasing_by exact Tm.lt_of_mem hy
def CB:SC:=(.seq (.reg [⟨some 1,none,.boxv 31 2 (.t 0)⟩,⟨some 2,none,.mv (.c (.bool false))⟩]) (.seq (.seq (.reg [⟨some 4,none,.faddr 0 (.t 1)⟩,⟨some 5,none,.load false 1 (.t 4)⟩,⟨some 6,none,.call 118 [(.t 5)]⟩]) (.cond (.t 6) (.seq (.reg [⟨some 7,none,.faddr 1 (.t 1)⟩,⟨some 8,none,.load false 1 (.t 7)⟩,⟨some 9,none,.len false (.t 8)⟩,⟨some 10,none,.bin .eql false (.t 9) (.c (.int .i64 0))⟩,⟨some 2,none,.mv (.t 10)⟩]) .ret) .skip)) (.seq (.seq (.reg [⟨some 11,none,.faddr 0 (.t 1)⟩,⟨some 12,none,.load false 1 (.t 11)⟩,⟨some 13,none,.call 119 [(.t 12)]⟩,⟨some 14,none,.un .not (.t 13)⟩,⟨some 15,none,.mv (.t 14)⟩,⟨(some 16),(some (15,false)),(.faddr 1 (.t 1))⟩,⟨(some 17),(some (15,false)),(.load false 1 (.t 16))⟩,⟨(some 18),(some (15,false)),(.len false (.t 17))⟩,⟨(some 19),(some (15,false)),(.bin .gtr false (.t 18) (.c (.int .i64 4)))⟩,⟨some 20,none,.pick (.t 15) (.c (.bool true)) (.t 19)⟩]) (.cond (.t 20) (.seq (.reg [⟨some 2,none,.mv (.c (.bool false))⟩]) .ret) .skip)) (.seq (.seq (.reg [⟨some 3,none,.mv (.c (.int .i64 0))⟩]) (.block 0 (.loop [0,1,0,1,0,0,0,0,0,0,0,0,0,0,0,0,0,0,0,0,0,0,0,0,0,0,0,0,0,0,0,0,0,0,0] (.seq (.seq (.reg [⟨some 21,none,.mv (.t 3)⟩,⟨some 22,none,.faddr 1 (.t 1)⟩,⟨some 23,none,.load false 1 (.t 22)⟩,⟨some 24,none,.len false (.t 23)⟩,⟨some 25,none,.bin .lss false (.t 21) (.t 24)⟩]) (.cond (.t 25) .skip (.exit 0))) (.seq (.block 1 (.seq (.reg [⟨some 28,none,.faddr 1 (.t 1)⟩,⟨some 29,none,.load false 1 (.t 28)⟩,⟨some 30,none,.mv (.t 3)⟩,⟨some 31,none,.iaddr 2 (.t 29) (.t 30)⟩,⟨some 32,none,.load true 2 (.t 31)⟩,⟨some 33,none,.call 162 [(.t 32)]⟩,⟨some 34,none,.un .not (.t 33)⟩]) (.cond (.t 34) (.seq (.reg [⟨some 2,none,.mv (.c (.bool false))⟩]) .ret) .skip))) (.reg [⟨some 26,none,.mv (.t 3)⟩,⟨some 27,none,.bin .add false (.t 26) (.c (.int .i64 1))⟩,⟨some 3,none,.mv (.t 27)⟩])))))) (.seq (.reg [⟨some 2,none,.mv (.c (.bool true))⟩]) .ret)))))
theorem Dv:codeOf Tryz.prog 162=some ⟨35,CB,[(.tmp 2)]⟩:=by kernel_rfl
theorem AD:modes 162=⟨[],.asis,none,false⟩:=by unfold modes; rfl
theorem Ts (x:Tm) (hn:x.nodes≤1099511627776) (ih:∀ y∈x.args,E 162 [y.sv] []=some (.bool y.names,[])):E 162 [x.sv] []=some (.bool x.names,[]):=by
 have hl:=Tm.length_le x.args
 have hx:=Tm.nodes_eq x
 have h3:=DZ x.name
 have h4:=N7 x.name
 rw [Tm.HH]
 cases hv:AT x.name with
 | true =>
  rw [hv] at h3
  refine Ai Dv AD (of_decide_eq_true rfl) ?_
  simp (disch:=omega) only [CB,go_sem,Ab,h3,Ak]
  rw [H0]; cases x.args <;> simp <;> omega
 | false =>
  rw [hv] at h3
  cases hs:DM x.name with
  | false =>
   rw [hs] at h4
   refine Ai Dv AD (of_decide_eq_true rfl) ?_
   simp (disch:=omega) only [CB,go_sem,Ab,h3,h4,Ak,AQ]
  | true =>
   rw [hs] at h4
   rcases zN 4 x.args.length with h5 | h5
   ·refine Ai Dv AD (of_decide_eq_true rfl) ?_
    simp (disch:=omega) only [CB,go_sem,Ab,h3,h4,Ak,AQ]
    simp; omega
   ·refine Ai Dv AD (of_decide_eq_true rfl) ?_
    simp (disch:=omega) only [CB,go_sem,Ab,h3,h4,Ak,AQ]
    refine go_loop (α:=Int) (fun a=>⟨slots 35 0 [(1,.ptr 0 0),(3,.int .i64 a)],[.box 31 [.str x.name,.arr (x.args.map Tm.d)]]⟩) (fun a=>∃ k:Nat,a=k∧k≤(x.args).length∧Tm.ES (x.args.drop k)=Tm.ES x.args) (fun a=>(x.args).length-(a).toNat) 0 ⟨0,rfl,zM _,by rw [yA]⟩ (by simp (disch:=omega) only [go_sem,Ab]) ?_
    rintro i ⟨k,hi,hk,hR⟩
    have hni:i.toNat=k:=by omega
    have hni1:(i+1).toNat=k+1:=by omega
    rcases zN k (x.args).length with hlt | hge
    ·have hg:=get_at Tm.d hlt
     rw [Tm.d_eq] at hg
     have hc:=ih x.args[k] (zH hlt)
     rw [zJ hlt,Tm.ES] at hR
     cases hp:x.args[k].names with
     | true =>
      rw [hp] at hc hR
      simp (disch:=omega) only [go_sem,Ab,hni,hg,hc,AD]
      exact ⟨i+1,⟨k+1,by omega,hlt,by simpa using hR⟩,by omega,by first | trivial | rfl⟩
     | false =>
      rw [hp] at hc hR
      simp (disch:=omega) only [go_sem,Ab,hni,hg,hc,AD]
      simp at hR ⊢; exact fun _=>hR
    ·rw [zO hge,Tm.ES] at hR
     simp (disch:=omega) only [go_sem,Ab,hni]
     simp [h5,← hR]
theorem I8 (x:Tm) (hn:x.nodes≤1099511627776):E 162 [x.sv] []=some (.bool x.names,[]) :=
 Ts x hn fun y hy=>I8 y (by have:=Tm.nodes_mem hy; have:=Tm.nodes_eq x; omega)
termination_by SizeOf.sizeOf x
decreasing_by exact Tm.lt_of_mem hy
def ET:SC:=(.seq (.reg [⟨some 1,none,.boxv 31 2 (.t 0)⟩,⟨some 2,none,.mv (.c (.bool false))⟩]) (.seq (.reg [⟨some 3,none,.load true 2 (.t 1)⟩,⟨some 4,none,.call 219 [(.t 3)]⟩,⟨some 5,none,.bin .leq false (.t 4) (.c (.int .i64 30))⟩,⟨some 6,none,.mv (.t 5)⟩,⟨(some 7),(some (6,true)),(.load true 2 (.t 1))⟩,⟨(some 8),(some (6,true)),(.call 220 [(.t 7)])⟩,⟨(some 9),(some (6,true)),(.bin .leq false (.t 8) (.c (.int .i64 8)))⟩,⟨some 10,none,.pick (.t 6) (.t 9) (.c (.bool false))⟩,⟨some 2,none,.mv (.t 10)⟩]) .ret))
theorem HJ:codeOf Tryz.prog 199=some ⟨11,ET,[(.tmp 2)]⟩:=by kernel_rfl
theorem AS:modes 199=⟨[],.asis,none,false⟩:=by unfold modes; rfl
def FH:SC:=(.seq (.reg [⟨some 1,none,.boxv 31 2 (.t 0)⟩,⟨some 2,none,.mv (.c (.bool false))⟩]) (.seq (.reg [⟨some 3,none,.load true 2 (.t 1)⟩,⟨some 4,none,.call 206 [(.t 3),(.c (.int .i64 30))]⟩,⟨some 5,none,.bin .leq false (.t 4) (.c (.int .i64 30))⟩,⟨some 6,none,.mv (.t 5)⟩,⟨(some 7),(some (6,true)),(.load true 2 (.t 1))⟩,⟨(some 8),(some (6,true)),(.call 207 [(.t 7)])⟩,⟨(some 9),(some (6,true)),(.bin .leq false (.t 8) (.c (.int .i64 8)))⟩,⟨some 10,none,.pick (.t 6) (.t 9) (.c (.bool false))⟩,⟨some 2,none,.mv (.t 10)⟩]) .ret))
theorem IY:codeOf Tryz.prog 161=some ⟨11,FH,[(.tmp 2)]⟩:=by kernel_rfl
theorem Bb:modes 161=⟨[],.asis,none,false⟩:=by unfold modes; rfl
def Dl:SC:=(.seq (.reg [⟨some 1,none,.boxv 31 2 (.t 0)⟩,⟨some 2,none,.mv (.c (.bool false))⟩]) (.seq (.reg [⟨some 3,none,.load true 2 (.t 1)⟩,⟨some 4,none,.call 199 [(.t 3)]⟩,⟨some 5,none,.mv (.t 4)⟩,⟨(some 6),(some (5,true)),(.load true 2 (.t 1))⟩,⟨(some 7),(some (5,true)),(.call 200 [(.t 6)])⟩,⟨some 8,none,.pick (.t 5) (.t 7) (.c (.bool false))⟩,⟨some 2,none,.mv (.t 8)⟩]) .ret))
theorem EU:codeOf Tryz.prog 201=some ⟨9,Dl,[(.tmp 2)]⟩:=by kernel_rfl
theorem AO:modes 201=⟨[],.asis,none,false⟩:=by unfold modes; rfl
def FI:SC:=(.seq (.reg [⟨some 1,none,.boxv 31 2 (.t 0)⟩,⟨some 2,none,.mv (.c (.bool false))⟩]) (.seq (.reg [⟨some 3,none,.load true 2 (.t 1)⟩,⟨some 4,none,.call 161 [(.t 3)]⟩,⟨some 5,none,.mv (.t 4)⟩,⟨(some 6),(some (5,true)),(.load true 2 (.t 1))⟩,⟨(some 7),(some (5,true)),(.call 162 [(.t 6)])⟩,⟨some 8,none,.pick (.t 5) (.t 7) (.c (.bool false))⟩,⟨some 2,none,.mv (.t 8)⟩]) .ret))
theorem IZ:codeOf Tryz.prog 163=some ⟨9,FI,[(.tmp 2)]⟩:=by kernel_rfl
theorem B6:modes 163=⟨[],.asis,none,false⟩:=by unfold modes; rfl
def Fu:SC:=(.seq (.reg [⟨some 1,none,.boxv 31 2 (.t 0)⟩,⟨some 2,none,.mv (.c (.bool false))⟩]) (.seq (.reg [⟨some 3,none,.faddr 0 (.t 1)⟩,⟨some 4,none,.load false 1 (.t 3)⟩,⟨(some 5),none,(.bin .eql false (.t 4) (.c (.str ⟨#[61]⟩)))⟩,⟨some 2,none,.mv (.t 5)⟩]) .ret))
theorem Kn:codeOf Tryz.prog 186=some ⟨6,Fu,[(.tmp 2)]⟩:=by kernel_rfl
theorem Bg:modes 186=⟨[],.asis,none,false⟩:=by unfold modes; rfl
def AU:SC:=(.seq (.reg [⟨some 1,none,.boxv 31 2 (.t 0)⟩,⟨some 2,none,.mv (.c (.bool false))⟩]) (.seq (.seq (.reg [⟨some 3,none,.load true 2 (.t 1)⟩,⟨some 4,none,.call 186 [(.t 3)]⟩]) (.cond (.t 4) (.seq (.reg [⟨some 5,none,.faddr 1 (.t 1)⟩,⟨some 6,none,.load false 1 (.t 5)⟩,⟨some 7,none,.len false (.t 6)⟩,⟨some 8,none,.bin .eql false (.t 7) (.c (.int .i64 2))⟩,⟨some 9,none,.mv (.t 8)⟩,⟨(some 10),(some (9,true)),(.load true 2 (.t 1))⟩,⟨(some 11),(some (9,true)),(.call 199 [(.t 10)])⟩,⟨some 12,none,.pick (.t 9) (.t 11) (.c (.bool false))⟩,⟨some 13,none,.mv (.t 12)⟩,⟨(some 14),(some (13,true)),(.faddr 1 (.t 1))⟩,⟨(some 15),(some (13,true)),(.load false 1 (.t 14))⟩,⟨(some 16),(some (13,true)),(.iaddr 2 (.t 15) (.c (.int .i64 0)))⟩,⟨(some 17),(some (13,true)),(.load true 2 (.t 16))⟩,⟨(some 18),(some (13,true)),(.call 200 [(.t 17)])⟩,⟨some 19,none,.pick (.t 13) (.t 18) (.c (.bool false))⟩,⟨some 20,none,.mv (.t 19)⟩,⟨(some 21),(some (20,true)),(.faddr 1 (.t 1))⟩,⟨(some 22),(some (20,true)),(.load false 1 (.t 21))⟩,⟨(some 23),(some (20,true)),(.iaddr 2 (.t 22) (.c (.int .i64 1)))⟩,⟨(some 24),(some (20,true)),(.load true 2 (.t 23))⟩,⟨(some 25),(some (20,true)),(.call 200 [(.t 24)])⟩,⟨some 26,none,.pick (.t 20) (.t 25) (.c (.bool false))⟩,⟨some 2,none,.mv (.t 26)⟩]) .ret) .skip)) (.seq (.reg [⟨some 27,none,.faddr 0 (.t 1)⟩,⟨some 28,none,.load false 1 (.t 27)⟩,⟨some 29,none,.call 128 [(.t 28)]⟩,⟨some 30,none,.mv (.t 29)⟩,⟨(some 31),(some (30,true)),(.load true 2 (.t 1))⟩,⟨(some 32),(some (30,true)),(.call 201 [(.t 31)])⟩,⟨some 33,none,.pick (.t 30) (.t 32) (.c (.bool false))⟩,⟨some 2,none,.mv (.t 33)⟩]) .ret)))
theorem Bm:codeOf Tryz.prog 155=some ⟨34,AU,[(.tmp 2)]⟩:=by kernel_rfl
theorem Ad:modes 155=⟨[],.asis,none,false⟩:=by unfold modes; rfl
def BP:SC:=(.seq (.reg [⟨some 1,none,.boxv 31 2 (.t 0)⟩,⟨some 2,none,.mv (.c (.bool false))⟩]) (.seq (.seq (.reg [⟨some 3,none,.faddr 0 (.t 1)⟩,⟨some 4,none,.load false 1 (.t 3)⟩,⟨(some 5),none,(.bin .eql false (.t 4) (.c (.str ⟨#[61]⟩)))⟩]) (.cond (.t 5) (.seq (.reg [⟨some 6,none,.faddr 1 (.t 1)⟩,⟨some 7,none,.load false 1 (.t 6)⟩,⟨some 8,none,.len false (.t 7)⟩,⟨some 9,none,.bin .eql false (.t 8) (.c (.int .i64 2))⟩,⟨some 10,none,.mv (.t 9)⟩,⟨(some 11),(some (10,true)),(.load true 2 (.t 1))⟩,⟨(some 12),(some (10,true)),(.call 161 [(.t 11)])⟩,⟨some 13,none,.pick (.t 10) (.t 12) (.c (.bool false))⟩,⟨some 14,none,.mv (.t 13)⟩,⟨(some 15),(some (14,true)),(.faddr 1 (.t 1))⟩,⟨(some 16),(some (14,true)),(.load false 1 (.t 15))⟩,⟨(some 17),(some (14,true)),(.iaddr 2 (.t 16) (.c (.int .i64 0)))⟩,⟨(some 18),(some (14,true)),(.load true 2 (.t 17))⟩,⟨(some 19),(some (14,true)),(.call 162 [(.t 18)])⟩,⟨some 20,none,.pick (.t 14) (.t 19) (.c (.bool false))⟩,⟨some 21,none,.mv (.t 20)⟩,⟨(some 22),(some (21,true)),(.faddr 1 (.t 1))⟩,⟨(some 23),(some (21,true)),(.load false 1 (.t 22))⟩,⟨(some 24),(some (21,true)),(.iaddr 2 (.t 23) (.c (.int .i64 1)))⟩,⟨(some 25),(some (21,true)),(.load true 2 (.t 24))⟩,⟨(some 26),(some (21,true)),(.call 162 [(.t 25)])⟩,⟨some 27,none,.pick (.t 21) (.t 26) (.c (.bool false))⟩,⟨some 2,none,.mv (.t 27)⟩]) .ret) .skip)) (.seq (.reg [⟨some 28,none,.faddr 0 (.t 1)⟩,⟨some 29,none,.load false 1 (.t 28)⟩,⟨some 30,none,.call 119 [(.t 29)]⟩,⟨some 31,none,.mv (.t 30)⟩,⟨(some 32),(some (31,true)),(.load true 2 (.t 1))⟩,⟨(some 33),(some (31,true)),(.call 163 [(.t 32)])⟩,⟨some 34,none,.pick (.t 31) (.t 33) (.c (.bool false))⟩,⟨some 2,none,.mv (.t 34)⟩]) .ret)))
theorem Cy:codeOf Tryz.prog 106=some ⟨35,BP,[(.tmp 2)]⟩:=by kernel_rfl
theorem Aj:modes 106=⟨[],.asis,none,false⟩:=by unfold modes; rfl
theorem P9 (x:Tm) (hn:x.nodes≤1099511627776):E 199 [x.sv] []=some (.bool x.small,[]):=by
 have h1:=W9 x hn
 have h2:=Uf x hn
 have h3:=Tm.cap_spec x
 have h4:=Tm.many_spec x 30
 unfold Tm.small
 rcases zN 30 x.nodes with h5 | h5
 ·rw [decide_eq_false (by omega),yZ]
  refine Ai HJ AS (of_decide_eq_true rfl) ?_
  simp (disch:=omega) only [ET,go_sem,Ab,h1,h2,Ek,E5]
 ·rw [decide_eq_true h5,y4]
  refine Ai HJ AS (of_decide_eq_true rfl) ?_
  simp (disch:=omega) only [ET,go_sem,Ab,h1,h2,Ek,E5]
  rcases zN 8 x.deep with h6 | h6
  ·rw [decide_eq_false (by omega),An (by omega)]
  ·rw [decide_eq_true h6,A4 (by omega)]
theorem RI (x:Tm) (hn:x.nodes≤1099511627776):E 161 [x.sv] []=some (.bool x.small,[]):=by
 have h1:=WA x 30 (by omega) (by omega) hn
 have h2:=P8 x hn
 have h3:=Tm.cap_spec x
 have h4:=Tm.many_spec x 30
 unfold Tm.small
 rcases zN 30 x.nodes with h5 | h5
 ·rw [decide_eq_false (by omega),yZ]
  refine Ai IY Bb (of_decide_eq_true rfl) ?_
  simp (disch:=omega) only [FH,go_sem,Ab,h1,h2,CX,Du]
 ·rw [decide_eq_true h5,y4]
  refine Ai IY Bb (of_decide_eq_true rfl) ?_
  simp (disch:=omega) only [FH,go_sem,Ab,h1,h2,CX,Du]
  rcases zN 8 x.deep with h6 | h6
  ·rw [decide_eq_false (by omega),An (by omega)]
  ·rw [decide_eq_true h6,A4 (by omega)]
theorem O4 (x:Tm) (hn:x.nodes≤1099511627776):E 201 [x.sv] []=some (.bool x.valid,[]):=by
 have h1:=P9 x hn
 have h2:=GK x hn
 unfold Tm.valid
 cases h3:x.small <;> rw [h3] at h1
 ·refine Ai EU AO (of_decide_eq_true rfl) ?_
  simp (disch:=omega) only [Dl,go_sem,Ab,h1,h2,AS,AC]
 ·refine Ai EU AO (of_decide_eq_true rfl) ?_
  simp (disch:=omega) only [Dl,go_sem,Ab,h1,h2,AS,AC]
theorem WD (x:Tm) (hn:x.nodes≤1099511627776):E 163 [x.sv] []=some (.bool x.valid,[]):=by
 have h1:=RI x hn
 have h2:=I8 x hn
 unfold Tm.valid
 cases h3:x.small <;> rw [h3] at h1
 ·refine Ai IZ B6 (of_decide_eq_true rfl) ?_
  simp (disch:=omega) only [FI,go_sem,Ab,h1,h2,Bb,AD]
 ·refine Ai IZ B6 (of_decide_eq_true rfl) ?_
  simp (disch:=omega) only [FI,go_sem,Ab,h1,h2,Bb,AD]
theorem Ko (x:Tm):E 186 [x.sv] []=some (.bool x.eqn,[]):=by
 unfold Tm.eqn
 refine Ai Kn Bg (of_decide_eq_true rfl) ?_
 simp (disch:=omega) only [Fu,go_sem,Ab]
theorem Ja (x:Tm) (hn:x.nodes≤1099511627776):E 155 [x.sv] []=some (.bool x.atom,[]):=by
 have hl:=Tm.length_le x.args
 have hx:=Tm.nodes_eq x
 have h0:=Ko x
 have h1:=P9 x hn
 have h2:=N6 x.name
 have h3:=O4 x hn
 have hE:dec (x.name=⟨#[61]⟩)=x.eqn:=rfl
 unfold Tm.atom
 cases he:x.eqn <;> rw [he] at h0 hE
 ·rw [if_neg (by simp)]
  cases hs:DM x.name <;> rw [hs] at h2
  ·refine Ai Bm Ad (of_decide_eq_true rfl) ?_
   simp (disch:=omega) only [AU,go_sem,Ab,h0,h1,h2,h3,hE,AS,AC,AP,AO,Bg]
  ·refine Ai Bm Ad (of_decide_eq_true rfl) ?_
   simp (disch:=omega) only [AU,go_sem,Ab,h0,h1,h2,h3,hE,AS,AC,AP,AO,Bg]
 ·rw [if_pos rfl]
  by_cases hc:x.args.length=2
  ·have hlt0:0<x.args.length:=by omega
   have hlt1:1<x.args.length:=by omega
   have hg0:=get_at Tm.d hlt0
   have hg1:=get_at Tm.d hlt1
   rw [Tm.d_eq] at hg0 hg1
   have hb0:=Tm.nodes_le x.args 0 hlt0
   have hb1:=Tm.nodes_le x.args 1 hlt1
   have hn0:=GK x.args[0] (by omega)
   have hn1:=GK x.args[1] (by omega)
   rw [P6 hc,show (x.args.length == 2)=true by simpa using hc]
   cases hs:x.small <;> rw [hs] at h1
   ·refine Ai Bm Ad (of_decide_eq_true rfl) ?_
    simp (disch:=omega) only [AU,go_sem,Ab,h0,h1,h2,h3,hE,hg0,hg1,hn0,hn1,hc,AS,AC,AP,AO,Bg]
    try simp
   ·cases hq:(x.args[0]'hlt0).names <;> rw [hq] at hn0
    ·refine Ai Bm Ad (of_decide_eq_true rfl) ?_
     simp (disch:=omega) only [AU,go_sem,Ab,h0,h1,h2,h3,hE,hg0,hg1,hn0,hn1,hc,AS,AC,AP,AO,Bg]
     try simp
    ·refine Ai Bm Ad (of_decide_eq_true rfl) ?_
     simp (disch:=omega) only [AU,go_sem,Ab,h0,h1,h2,h3,hE,hg0,hg1,hn0,hn1,hc,AS,AC,AP,AO,Bg]
     try simp
  ·refine Ai Bm Ad (of_decide_eq_true rfl) ?_
   simp (disch:=omega) only [AU,go_sem,Ab,h0,h1,h2,h3,hE,AS,AC,AP,AO,Bg]
   rw [show (x.args.length == 2)=false by simpa using hc]
   try simp
theorem RJ (x:Tm) (hn:x.nodes≤1099511627776):E 106 [x.sv] []=some (.bool x.atom,[]):=by
 have hl:=Tm.length_le x.args
 have hx:=Tm.nodes_eq x
 have h0:=Ko x
 have h1:=RI x hn
 have h2:=N7 x.name
 have h3:=WD x hn
 have hE:dec (x.name=⟨#[61]⟩)=x.eqn:=rfl
 unfold Tm.atom
 cases he:x.eqn <;> rw [he] at h0 hE
 ·rw [if_neg (by simp)]
  cases hs:DM x.name <;> rw [hs] at h2
  ·refine Ai Cy Aj (of_decide_eq_true rfl) ?_
   simp (disch:=omega) only [BP,go_sem,Ab,h0,h1,h2,h3,hE,Bb,AD,AQ,B6]
  ·refine Ai Cy Aj (of_decide_eq_true rfl) ?_
   simp (disch:=omega) only [BP,go_sem,Ab,h0,h1,h2,h3,hE,Bb,AD,AQ,B6]
 ·rw [if_pos rfl]
  by_cases hc:x.args.length=2
  ·have hlt0:0<x.args.length:=by omega
   have hlt1:1<x.args.length:=by omega
   have hg0:=get_at Tm.d hlt0
   have hg1:=get_at Tm.d hlt1
   rw [Tm.d_eq] at hg0 hg1
   have hb0:=Tm.nodes_le x.args 0 hlt0
   have hb1:=Tm.nodes_le x.args 1 hlt1
   have hn0:=I8 x.args[0] (by omega)
   have hn1:=I8 x.args[1] (by omega)
   rw [P6 hc,show (x.args.length == 2)=true by simpa using hc]
   cases hs:x.small <;> rw [hs] at h1
   ·refine Ai Cy Aj (of_decide_eq_true rfl) ?_
    simp (disch:=omega) only [BP,go_sem,Ab,h0,h1,h2,h3,hE,hg0,hg1,hn0,hn1,hc,Bb,AD,AQ,B6]
    try simp
   ·cases hq:(x.args[0]'hlt0).names <;> rw [hq] at hn0
    ·refine Ai Cy Aj (of_decide_eq_true rfl) ?_
     simp (disch:=omega) only [BP,go_sem,Ab,h0,h1,h2,h3,hE,hg0,hg1,hn0,hn1,hc,Bb,AD,AQ,B6]
     try simp
    ·refine Ai Cy Aj (of_decide_eq_true rfl) ?_
     simp (disch:=omega) only [BP,go_sem,Ab,h0,h1,h2,h3,hE,hg0,hg1,hn0,hn1,hc,Bb,AD,AQ,B6]
     try simp
  ·refine Ai Cy Aj (of_decide_eq_true rfl) ?_
   simp (disch:=omega) only [BP,go_sem,Ab,h0,h1,h2,h3,hE,Bb,AD,AQ,B6]
   rw [show (x.args.length == 2)=false by simpa using hc]
   try simp
noncomputable def Tm.expr (x:Tm):Bool:=x.valid || x.atom
theorem Tm.Tt {x:Tm} (h:x.expr=true):x.small=true:=by
 unfold Tm.expr Tm.atom Tm.valid at h
 cases hs:x.small with
 | true=>rfl
 | false =>
  rw [hs] at h
  split at h <;> simp at h
theorem Tm.Tu {x:Tm} (h:x.expr=true):x.nodes≤30:=by
 have:=Tm.Tt h
 unfold Tm.small at this
 rw [zV,decide_eq_true_eq] at this
 exact this.1
theorem Tm.NA:∀ xs:List Tm,(∀ x∈xs,x.nodes≤1+x.bulk)→Tm.nodeS xs≤xs.length+Tm.sumB xs
 | [],_=>by simp [Tm.nodeS]
 | x :: xs,h=>by
  have h1:=h x (by simp)
  have h2:=Tm.NA xs fun y hy=>h y (by simp [hy])
  rw [Tm.nodeS,Tm.sumB]; simp only [zG]; omega
theorem Tm.NB (x:Tm):x.nodes≤1+x.bulk:=by
 rw [Tm.nodes_eq,Tm.bulk_eq]
 have:=Tm.NA x.args fun y hy=>Tm.NB y
 omega
termination_by SizeOf.sizeOf x
decreasing_by exact Tm.lt_of_mem hy
theorem PC {s:ByteArray} (h:AT s=true):s.size≤6:=by
 unfold AT inB at h
 simp at h
 omega
theorem PD {s:ByteArray} (h:DM s=true):s.size≤6:=by
 unfold DM inB at h
 simp at h
 omega
theorem Tm.JE:∀ xs:List Tm,(∀ x∈xs,x.bulk+1≤8*x.nodes)→xs.length+Tm.sumB xs≤8*Tm.nodeS xs
 | [],_=>by simp [Tm.nodeS,Tm.sumB]
 | x :: xs,h=>by
  have h1:=h x (by simp)
  have h2:=Tm.JE xs fun y hy=>h y (by simp [hy])
  rw [Tm.nodeS,Tm.sumB]; simp only [zG]; omega
theorem Tm.NC (x:Tm) (h:x.names=true):x.bulk+1≤8*x.nodes:=by
 have h1:=Tm.JE x.args fun y hy=>Tm.NC y (Tm.Ln h hy)
 have h2:x.name.size≤6:=by
  rw [Tm.HH] at h
  split at h
  ·rename_i hv; exact PC hv
  ·rw [zV,zV] at h; exact PD h.1.1
 rw [Tm.nodes_eq,Tm.bulk_eq]
 omega
termination_by SizeOf.sizeOf x
decreasing_by exact Tm.lt_of_mem hy
mutual
def Fm.nodes:Fm→Nat
 | .mk _ _ _ args=>1+Fm.nodeS args
def Fm.nodeS:List Fm→Nat
 | []=>0
 | x :: xs=>Fm.nodes x+Fm.nodeS xs
end
theorem Fm.nodes_eq (x:Fm):x.nodes=1+Fm.nodeS x.parts:=by
 obtain ⟨op,atom,var,parts⟩:=x
 rw [Fm.nodes]; rfl
theorem Fm.nodes_pos (x:Fm):1≤x.nodes:=by rw [Fm.nodes_eq]; omega
theorem Fm.nodes_le:∀ (xs:List Fm) (k:Nat) (h:k<xs.length),xs[k].nodes≤Fm.nodeS xs
 | [],k,h=>absurd h (by simp)
 | x :: xs,0,_=>by rw [Fm.nodeS]; simp
 | x :: xs,k+1,h=>by
  have:=Fm.nodes_le xs k (by simpa using h)
  rw [Fm.nodeS]; simp only [yE]; omega
theorem Fm.nodes_mem {xs:List Fm} {y:Fm} (h:y∈xs):y.nodes≤Fm.nodeS xs:=by
 obtain ⟨k,hk,rfl⟩:=yP h
 exact Fm.nodes_le xs k hk
mutual
def Fm.cap:Fm→Int
 | .mk _ _ _ xs=>Fm.capL xs 1
def Fm.capL:List Fm→Int→Int
 | [],n=>n
 | x :: xs,n=>if 40 < n then n else Fm.capL xs (n+Fm.cap x)
end
theorem Fm.cap_eq (x:Fm):x.cap=Fm.capL x.parts 1:=by
 obtain ⟨op,atom,var,xs⟩:=x
 rw [Fm.cap]; rfl
theorem Fm.capL_spec:∀ (xs:List Fm) (n:Int),(∀ x∈xs,1≤x.cap∧x.cap≤x.nodes∧(x.cap≤40→x.cap=x.nodes))→1≤n→n≤Fm.capL xs n∧Fm.capL xs n≤n+Fm.nodeS xs∧(Fm.capL xs n≤40→Fm.capL xs n=n+Fm.nodeS xs)
 | [],n,_,h=>by simp [Fm.capL,Fm.nodeS]
 | x :: xs,n,hx,h=>by
  rw [Fm.capL,Fm.nodeS]
  have h1:=hx x (by simp)
  split
  ·omega
  ·have:=Fm.capL_spec xs (n+x.cap) (fun y hy=>hx y (by simp [hy])) (by omega)
   omega
theorem Fm.cap_spec (x:Fm):1≤x.cap∧x.cap≤x.nodes∧(x.cap≤40→x.cap=x.nodes):=by
 rw [Fm.cap_eq,Fm.nodes_eq]
 have:=Fm.capL_spec x.parts 1 (fun y hy=>Fm.cap_spec y) (by omega)
 omega
termination_by SizeOf.sizeOf x
decreasing_by exact Fm.lt_of_mem hy
mutual
def Fm.many:Fm→Int→Int
 | .mk _ _ _ xs,m=>Fm.manyL xs m 1
def Fm.manyL:List Fm→Int→Int→Int
 | [],_,n=>n
 | x :: xs,m,n=>if n≤m then Fm.manyL xs m (n+Fm.many x (m-n)) else n
end
theorem Fm.many_eq (x:Fm) (m:Int):x.many m=Fm.manyL x.parts m 1:=by
 obtain ⟨op,atom,var,xs⟩:=x
 rw [Fm.many]; rfl
theorem Fm.manyL_spec (m:Int):∀ (xs:List Fm) (n:Int),(∀ x∈xs,∀ m,0≤m→1≤x.many m∧x.many m≤x.nodes∧(x.many m≤m→x.many m=x.nodes))→1≤n→n≤Fm.manyL xs m n∧Fm.manyL xs m n≤n+Fm.nodeS xs∧(Fm.manyL xs m n≤m→Fm.manyL xs m n=n+Fm.nodeS xs)
 | [],n,_,h=>by simp [Fm.manyL,Fm.nodeS]
 | x :: xs,n,hx,h=>by
  rw [Fm.manyL,Fm.nodeS]
  split
  ·have h1:=hx x (by simp) (m-n) (by omega)
   have:=Fm.manyL_spec m xs (n+x.many (m-n)) (fun y hy=>hx y (by simp [hy])) (by omega)
   omega
  ·omega
theorem Fm.many_spec (x:Fm) (m:Int):1≤x.many m∧x.many m≤x.nodes∧(x.many m≤m→x.many m=x.nodes):=by
 rw [Fm.many_eq,Fm.nodes_eq]
 have:=Fm.manyL_spec m x.parts 1 (fun y hy m _=>Fm.many_spec y m) (by omega)
 omega
termination_by SizeOf.sizeOf x
decreasing_by exact Fm.lt_of_mem hy
noncomputable def Tm.isZ (x:Tm):Bool:=dec (x.name=⟨#[]⟩)&&x.args.length == 0
noncomputable def Fm.form (x:Fm):Bool :=
 if x.op=1∨x.op=2 then x.parts.length == 0&&x.atom.isZ&&dec (x.var=⟨#[]⟩)
 else if x.op=3 then x.parts.length == 0&&x.atom.atom&&dec (x.var=⟨#[]⟩)
 else if x.op=4 then x.parts.length == 1&&x.atom.isZ&&dec (x.var=⟨#[]⟩)
 else if x.op=5∨x.op=6∨x.op=7 then x.parts.length == 2&&x.atom.isZ&&dec (x.var=⟨#[]⟩)
 else if x.op=8∨x.op=9 then x.parts.length == 1&&x.atom.isZ&&AT x.var
 else false
theorem RK (n:Int):n=1∨n=2∨n=3∨n=4∨n=5∨n=6∨n=7∨n=8∨n=9∨(n≠1∧n≠2∧n≠3∧n≠4∧n≠5∧n≠6∧n≠7∧n≠8∧n≠9):=by omega
mutual
noncomputable def Fm.forms:Fm→Bool
 | .mk op atom var parts=>Fm.form (.mk op atom var parts)&&Fm.CY parts
noncomputable def Fm.CY:List Fm→Bool
 | []=>true
 | x :: xs=>Fm.forms x&&Fm.CY xs
end
theorem Fm.BV (x:Fm):x.forms=(x.form&&Fm.CY x.parts):=by
 obtain ⟨op,atom,var,parts⟩:=x
 rw [Fm.forms]; rfl
theorem Fm.Lo:∀ xs:List Fm,Fm.CY xs=xs.all Fm.forms
 | []=>rfl
 | x :: xs=>by rw [Fm.CY,Fm.Lo xs]; rfl
theorem Fm.any_not (xs:List Fm):(!xs.any fun y=>!y.forms)=Fm.CY xs:=by
 rw [Fm.Lo]
 induction xs with
 | nil=>rfl
 | cons x xs ih=>simp only [yS,y2,Bool.not_or,Bool.not_not,ih]
noncomputable def Fm.valid (x:Fm):Bool:=decide (x.nodes≤40)&&x.forms
theorem Fm.length_le:∀ xs:List Fm,xs.length≤Fm.nodeS xs
 | []=>by simp
 | x :: xs=>by
  have h:=Fm.length_le xs
  have h1:=Fm.nodes_pos x
  rw [Fm.nodeS,zG]; omega
mutual
def Fm.tame:Fm→Prop
 | .mk _ atom _ parts=>atom.nodes≤1099511627776∧Fm.HK parts
def Fm.HK:List Fm→Prop
 | []=>True
 | x :: xs=>Fm.tame x∧Fm.HK xs
end
theorem Fm.M6 (x:Fm):x.tame=(x.atom.nodes≤1099511627776∧Fm.HK x.parts):=by
 obtain ⟨op,atom,var,parts⟩:=x
 rw [Fm.tame]; rfl
theorem Fm.PE:∀ {xs:List Fm},Fm.HK xs→∀ y∈xs,y.tame
 | [],_,y,hy=>by cases hy
 | x :: xs,h,y,hy=>by
  rw [Fm.HK] at h
  rcases zP.1 hy with rfl | hy
  ·exact h.1
  ·exact Fm.PE h.2 y hy
theorem Fm.tame_at {x:Fm} (h:x.tame):x.atom.nodes≤1099511627776:=by rw [Fm.M6] at h; exact h.1
theorem Fm.I9 {x y:Fm} (h:x.tame) (hy:y∈x.parts):y.tame:=by rw [Fm.M6] at h; exact Fm.PE h.2 y hy
mutual
def Fm.vn:Fm→Nat
 | .mk _ atom _ parts=>atom.nodes+Fm.vnS parts
def Fm.vnS:List Fm→Nat
 | []=>0
 | x :: xs=>Fm.vn x+Fm.vnS xs
end
theorem Fm.Ug (x:Fm):x.vn=x.atom.nodes+Fm.vnS x.parts:=by
 obtain ⟨op,atom,var,parts⟩:=x
 rw [Fm.vn]; rfl
def Jb:SC:=(.seq (.reg [⟨some 1,none,.boxv 34 5 (.t 0)⟩,⟨some 2,none,.mv (.c (.int .i64 0))⟩]) (.seq (.reg [⟨some 3,none,.mv (.c (.int .i64 1))⟩]) (.seq (.seq (.reg [⟨some 6,none,.faddr 4 (.t 1)⟩,⟨some 7,none,.load false 1 (.t 6)⟩,⟨some 8,none,.len false (.t 7)⟩,⟨some 9,none,.mv (.c (.int .i64 0))⟩]) (.block 0 (.loop [0,0,0,1,0,0,0,1,1,1,0,0,0,0,0,0,0,0,0,0,0,0] (.seq (.reg [⟨some 10,none,.bin .lss false (.t 9) (.t 8)⟩]) (.seq (.cond (.t 10) .skip (.exit 0)) (.seq (.block 1 (.seq (.reg [⟨some 11,none,.iaddr 5 (.t 7) (.t 9)⟩,⟨some 12,none,.load true 5 (.t 11)⟩,⟨(some 5),none,(.alloc 34 [(.int .i64 0),(.str ⟨#[]⟩),.nil,(.str ⟨#[]⟩),.nil])⟩,⟨none,none,(.store 5 (.t 5) (.t 12))⟩]) (.seq (.seq (.reg [⟨some 13,none,.mv (.t 3)⟩,⟨some 14,none,.bin .gtr false (.t 13) (.c (.int .i64 40))⟩]) (.cond (.t 14) (.seq (.reg [⟨some 15,none,.mv (.t 3)⟩,⟨some 2,none,.mv (.t 15)⟩]) .ret) .skip)) (.reg [⟨some 16,none,.mv (.t 3)⟩,⟨some 17,none,.load true 5 (.t 5)⟩,⟨some 18,none,.call 98 [(.t 17)]⟩,⟨some 19,none,.bin .add false (.t 16) (.t 18)⟩,⟨some 3,none,.mv (.t 19)⟩])))) (.reg [⟨some 20,none,.bin .add false (.t 9) (.c (.int .i64 1))⟩,⟨some 9,none,.mv (.t 20)⟩]))))))) (.seq (.reg [⟨some 21,none,.mv (.t 3)⟩,⟨some 2,none,.mv (.t 21)⟩]) .ret))))
theorem O5:codeOf Tryz.prog 98=some ⟨22,Jb,[(.tmp 2)]⟩:=by kernel_rfl
theorem CZ:modes 98=⟨[],.asis,none,false⟩:=by unfold modes; rfl
theorem WE (x:Fm) (hn:x.nodes≤1099511627776) (ih:∀ y∈x.parts,E 98 [y.sv] []=some (.int .i64 y.cap,[])):E 98 [x.sv] []=some (.int .i64 x.cap,[]):=by
 have hl:=Fm.length_le x.parts
 have hx:=Fm.nodes_eq x
 rw [Fm.cap_eq]
 refine Ai O5 CZ (of_decide_eq_true rfl) ?_
 simp (disch:=omega) only [Jb,go_sem,Ab]
 refine go_loop (α:=Int × Int) (fun a=>⟨slots 22 0 [(3,.int .i64 a.2),(7,.arr (x.parts.map Fm.d)),(8,.int .i64 x.parts.length),(9,.int .i64 a.1)],[]⟩) (fun a=>∃ k:Nat,a.1=k∧k≤x.parts.length∧1≤a.2∧a.2+Fm.nodeS (x.parts.drop k)≤x.nodes∧Fm.capL (x.parts.drop k) a.2=Fm.capL x.parts 1) (fun a=>x.parts.length-a.1.toNat) (0,1) ⟨0,rfl,zM _,by dsimp only; omega,by rw [yA]; dsimp only; omega,rfl⟩ (by simp (disch:=omega) only [go_sem,Ab]) ?_
 rintro ⟨i,n⟩ ⟨k,hi,hk,hn0,hn1,hs⟩
 dsimp only at hi hn0 hn1 hs
 have hni:i.toNat=k:=by omega
 rcases zN k x.parts.length with hlt | hge
 ·have hg:=get_at Fm.d hlt
  rw [Fm.d_eq] at hg
  have hd:x.parts.drop k=x.parts[k] :: x.parts.drop (k+1):=zJ hlt
  have hc:=ih x.parts[k] (zH hlt)
  have hp:=Fm.cap_spec x.parts[k]
  rw [hd,Fm.capL] at hs
  rw [hd,Fm.nodeS] at hn1
  rcases yW 40 n with h30 | h30
  ·rw [if_pos h30] at hs
   simp (disch:=omega) only [go_sem,Ab,hni,hg,hc,CZ]
   exact hs
  ·rw [if_neg (by omega)] at hs
   simp (disch:=omega) only [go_sem,Ab,hni,hg,hc,CZ]
   refine ⟨(i+1,n+x.parts[k].cap),⟨k+1,by dsimp only; omega,hlt,by dsimp only; omega,by dsimp only; omega,hs⟩,by dsimp only; omega,?_⟩
   simp only [and_self]
 ·have hd:x.parts.drop k=[]:=zO hge
  rw [hd,Fm.capL] at hs
  simp (disch:=omega) only [go_sem,Ab,hni]
  exact hs
theorem Uh (x:Fm) (hn:x.nodes≤1099511627776):E 98 [x.sv] []=some (.int .i64 x.cap,[]) :=
 WE x hn fun y hy=>Uh y (by have:=Fm.nodes_mem hy; have:=Fm.nodes_eq x; omega)
termination_by SizeOf.sizeOf x
decreasing_by exact Fm.lt_of_mem hy
def Jc:SC:=(.seq (.reg [⟨some 2,none,.boxv 34 5 (.t 0)⟩,⟨some 4,none,.mv (.c (.int .i64 0))⟩]) (.seq (.reg [⟨some 5,none,.mv (.c (.int .i64 1))⟩]) (.seq (.seq (.reg [⟨some 6,none,.mv (.c (.int .i64 0))⟩]) (.block 0 (.loop [0,1,1,0,0,1,1,0,0,0,0,0,0,0,0,0,0,0,0,0,0,0,0,0,0,0,0,0,0,0,0] (.seq (.seq (.reg [⟨some 7,none,.mv (.t 6)⟩,⟨some 8,none,.faddr 4 (.t 2)⟩,⟨some 9,none,.load false 1 (.t 8)⟩,⟨some 10,none,.len false (.t 9)⟩,⟨some 11,none,.bin .lss false (.t 7) (.t 10)⟩,⟨some 12,none,.mv (.t 11)⟩,⟨(some 13),(some (12,true)),(.mv (.t 5))⟩,⟨(some 14),(some (12,true)),(.mv (.t 1))⟩,⟨(some 15),(some (12,true)),(.bin .leq false (.t 13) (.t 14))⟩,⟨some 16,none,.pick (.t 12) (.t 15) (.c (.bool false))⟩]) (.cond (.t 16) .skip (.exit 0))) (.seq (.block 1 (.reg [⟨some 19,none,.mv (.t 5)⟩,⟨some 20,none,.faddr 4 (.t 2)⟩,⟨some 21,none,.load false 1 (.t 20)⟩,⟨some 22,none,.mv (.t 6)⟩,⟨some 23,none,.iaddr 5 (.t 21) (.t 22)⟩,⟨some 24,none,.load true 5 (.t 23)⟩,⟨some 25,none,.mv (.t 1)⟩,⟨some 26,none,.mv (.t 5)⟩,⟨some 27,none,.bin .sub false (.t 25) (.t 26)⟩,⟨some 28,none,.call 94 [(.t 24),(.t 27)]⟩,⟨some 29,none,.bin .add false (.t 19) (.t 28)⟩,⟨some 5,none,.mv (.t 29)⟩])) (.reg [⟨some 17,none,.mv (.t 6)⟩,⟨some 18,none,.bin .add false (.t 17) (.c (.int .i64 1))⟩,⟨some 6,none,.mv (.t 18)⟩])))))) (.seq (.reg [⟨some 30,none,.mv (.t 5)⟩,⟨some 4,none,.mv (.t 30)⟩]) .ret))))
theorem O6:codeOf Tryz.prog 94=some ⟨31,Jc,[(.tmp 4)]⟩:=by kernel_rfl
theorem Da:modes 94=⟨[],.asis,none,false⟩:=by unfold modes; rfl
theorem WF (x:Fm) (m:Int) (hm:0≤m) (hm1:m≤1099511627776) (hn:x.nodes≤1099511627776) (ih:∀ y∈x.parts,∀ m:Int,0≤m→m≤1099511627776→E 94 [y.sv,.int .i64 m] []=some (.int .i64 (y.many m),[])):E 94 [x.sv,.int .i64 m] []=some (.int .i64 (x.many m),[]):=by
 have hl:=Fm.length_le x.parts
 have hx:=Fm.nodes_eq x
 rw [Fm.many_eq]
 refine Ai O6 Da (of_decide_eq_true rfl) ?_
 simp (disch:=omega) only [Jc,go_sem,Ab]
 refine go_loop (α:=Int × Int) (fun a=>⟨slots 31 0 [(1,.int .i64 m),(2,.ptr 0 0),(5,.int .i64 a.2),(6,.int .i64 a.1)],[.box 34 [.int .i64 x.op,.str x.atom.name,.arr (x.atom.args.map Tm.d),.str x.var,.arr (x.parts.map Fm.d)]]⟩) (fun a=>∃ k:Nat,a.1=k∧k≤x.parts.length∧1≤a.2∧a.2+Fm.nodeS (x.parts.drop k)≤x.nodes∧Fm.manyL (x.parts.drop k) m a.2=Fm.manyL x.parts m 1) (fun a=>x.parts.length-a.1.toNat) (0,1) ⟨0,rfl,zM _,by dsimp only; omega,by rw [yA]; dsimp only; omega,rfl⟩ (by simp (disch:=omega) only [go_sem,Ab]) ?_
 rintro ⟨i,n⟩ ⟨k,hi,hk,hn0,hn1,hs⟩
 dsimp only at hi hn0 hn1 hs
 have hni:i.toNat=k:=by omega
 rcases zN k x.parts.length with hlt | hge
 ·have hg:=get_at Fm.d hlt
  rw [Fm.d_eq] at hg
  have hd:x.parts.drop k=x.parts[k] :: x.parts.drop (k+1):=zJ hlt
  rw [hd,Fm.manyL] at hs
  rw [hd,Fm.nodeS] at hn1
  rcases yW m n with h30 | h30
  ·rw [if_neg (by omega)] at hs
   simp (disch:=omega) only [go_sem,Ab,hni,hg,Da]
   exact hs
  ·rw [if_pos h30] at hs
   have hc:=ih x.parts[k] (zH hlt) (m-n) (by omega) (by omega)
   have hp:=Fm.many_spec x.parts[k] (m-n)
   simp (disch:=omega) only [go_sem,Ab,hni,hg,hc,Da]
   refine ⟨(i+1,n+x.parts[k].many (m-n)),⟨k+1,by dsimp only; omega,hlt,by dsimp only; omega,by dsimp only; omega,hs⟩,by dsimp only; omega,?_⟩
   simp only [and_self]
 ·have hd:x.parts.drop k=[]:=zO hge
  rw [hd,Fm.manyL] at hs
  simp (disch:=omega) only [go_sem,Ab,hni]
  exact hs
theorem Ui (x:Fm) (m:Int) (hm:0≤m) (hm1:m≤1099511627776) (hn:x.nodes≤1099511627776):E 94 [x.sv,.int .i64 m] []=some (.int .i64 (x.many m),[]) :=
 WF x m hm hm1 hn fun y hy m hm hm1=>Ui y m hm hm1 (by have:=Fm.nodes_mem hy; have:=Fm.nodes_eq x; omega)
termination_by SizeOf.sizeOf x
decreasing_by exact Fm.lt_of_mem hy
end Go.Proofs.YtkjpmfmjebkkiaaGreat
