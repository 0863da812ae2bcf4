/-
  Texts of this claim, one behind the other, each built on those ahead of it. No condition.
-/
import Derived.Test.YtjkpbnbkofnajaaGreatK44b
import Derived.Test.YtjkpbnbkofnajaaGreatK44c
import Derived.Test.YtjkpbnbkofnajaaGreatK44d
import Derived.ProofKit
import Derived.Deep.Slices
import Derived.Deep.Fields
import Derived.ChangeSame
import Derived.OpenShut
import Derived.ShutString
import Derived.ChangeOld
set_option maxHeartbeats 16000000
open List renaming drop_eq_getElem_cons → zA, getElem_mem → zB, drop_eq_nil_of_le → zF, drop_zero → zG, length_map → zI, length_cons → zJ, map_nil → zK, getElem?_append_right → zL, getElem?_eq_getElem → zM, getElem_cons_succ → zP, getElem?_set_self → zR, append_nil → zS, eq_nil_of_length_eq_zero → zT, getElem?_map → zV, getElem_cons_zero → zW, length_set → zY, map_cons → zZ, drop_length → z7, all_eq_true → yA, getElem_of_mem → yB, take_succ_eq_append_getElem → yD, map → yE, range → yF, length_nil → yH, nil_append → yI, set_set → yJ, getElem_map → yR, length_take → yS, mem_append → yV, replicate → yX
open Nat renaming lt_or_ge → zC, zero_le → zD, sub_self → zQ, eq_zero_or_pos → zX, sub_zero → yC, le_refl → yG, le_trans → yT
open Option renaming isSome_none → zE, isSome_some → zH, getD_none → zN, getD_some → zO
open Int renaming toNat_zero → zU, tmod_eq_emod_of_nonneg → yL, tdiv_eq_ediv_of_nonneg → yM, toNat_natCast → yO
open Array renaming getElem?_eq_some_iff → z6, getElem?_eq_getElem → yN
open Bool renaming and_eq_true → z8, false_eq_true → yK, true_and → yP, false_and → yW, not_false → yY
open List.cons renaming inj → yQ
open Option.some renaming inj → yU
set_option maxRecDepth 100000
set_option linter.unusedSimpArgs false
set_option linter.unusedVariables false
set_option linter.unusedSectionVars false
namespace Go.Proofs.YtjkpbnbkofnajaaGreat
open Go.RowKit Go.Shelf
attribute [local go_sem] Oper.semAt_some
theorem Vv {ts:List Tl} {j:Nat} (h:j<(ts.map Tl.o).length) (h':j<ts.length):(ts.map Tl.o)[j]=[.str ts[j].name,.int ts[j].arity,.bool ts[j].pred,.ow (DO ts[j].vals)]:=by
 rw [yR,Tl.o_eq]
theorem WA {w:World} {I S:Nat→Prop} {x:ByteArray} {v:Value} (h:ORep w I S (.str x) v):v=.string x∧x.size≤9223372036854775807:=by
 cases h; exact ⟨rfl,‹_›⟩
theorem Qby {w:World} {I S:Nat→Prop} {x:Int} {v:Value} (h:ORep w I S (.int x) v):v=.int .i64 x:=by
 cases h; rfl
theorem ZG {w:World} {I S:Nat→Prop} {x:Bool} {v:Value} (h:ORep w I S (.bool x) v):v=.bool x:=by
 cases h; rfl
theorem ZH {w:World} {I S:Nat→Prop} {ts:List Tl} {rv:Value} (h:RowR w I S 58 4 (ts.map Tl.o) rv) (hl:ts.length≤1048576) :
  ∃ (a:Option Addr) (cap:Nat) (cv:Nat→Nat→Value) (Sub:Nat→Nat→Prop) (b:Nat),rv=.slice a ts.length cap∧(0<ts.length→b<w.heap.size) ∧
   (∀ (W:World) (Bs:Nat),W.cell? ⟨Bs,0,none⟩=some rv→(b<w.heap.size→W.heap[b]?=w.heap[b]?)→Qbu Tryz.prog 77 ts.length (fun j=>.agg #[cv j 0,cv j 1,cv j 2,cv j 3]) W Bs (if ts.length=0 then Bs else b)) ∧
   (∀ j (h:j<ts.length),cv j 0=.string ts[j].name∧ts[j].name.size≤9223372036854775807∧cv j 1=.int .i64 ts[j].arity∧cv j 2=.bool ts[j].pred∧ORep w I (Sub j) (.ow (DO ts[j].vals)) (cv j 3)) ∧
   (∀ j x,Sub j x→S x∧x≠b)∧(∀ j j' x,Sub j x→Sub j' x→j=j') ∧
   (∀ (W:World) (ts':List Tl),ts'.length=ts.length→(b<w.heap.size→W.heap[b]?=w.heap[b]?)→(∀ j (h:j<ts.length) (h':j<ts'.length),ts'[j].name=ts[j].name∧ts'[j].arity=ts[j].arity∧ts'[j].pred=ts[j].pred∧ORep W I (Sub j) (.ow (DO ts'[j].vals)) (cv j 3))→RowR W I S 58 4 (ts'.map Tl.o) rv):=by
 have hml:(ts.map Tl.o).length=ts.length:=zI ..
 rcases h with ⟨hz,rfl⟩ | ⟨b,cap,cur,Sub,rfl,hs,hb,h1,h2,h3,h4,h5,h6,h7⟩
 ·obtain rfl:ts=[]:=List.map_eq_nil_iff.1 hz
  refine ⟨none,0,fun _ _=>undef,fun _ _=>False,0,rfl,fun h=>absurd h (by simp),fun W Bs hc _=>?_,fun j h=>absurd h (by simp),fun _ _ h=>h.elim,fun _ _ _ h _=>h.elim,fun W ts' hl' _ _=>?_⟩
  ·have:=Kg (enc:=fun j=>.agg #[undef,undef,undef,undef]) Bs Bs none 0 W (by simpa using hc)
   simpa using this
  ·obtain rfl:ts'=[]:=zT hl'
   exact .inl ⟨rfl,rfl⟩
 ·have hblt:=(z6.1 hb).1
  rw [hml] at h1
  have hcell:∀ j (hj:j<ts.length) i,i<4→∀ W:World,W.heap[b]?=w.heap[b]?→W.cell? ⟨b,0+j*4+i,none⟩=some (cur.getD (j*4+i) undef):=fun j hj i hi W hW=>by
   rw [hb] at hW
   have hq:j*4+i<cur.size:=by omega
   have e:cur.getD (j*4+i) undef=cur[j*4+i]:=by rw [Array.getD_eq_getD_getElem?,yN hq]; rfl
   rw [e,Nat.zero_add]
   simp [World.cell?,hW,yN hq]
  refine ⟨some ⟨b,0,none⟩,cap,fun j i=>cur.getD (j*4+i) undef,fun j x=>Sub j 3 x,b,by rw [hml],fun _=>hblt,fun W Bs hc hW=>?_,fun j hj=>?_,fun j x hx=>⟨(h5 _ _ _ hx).1,(h5 _ _ _ hx).2⟩,fun j j' x hx hx'=>(h6 _ _ _ _ _ hx hx').1,fun W ts' hl' hW hts=>?_⟩
  ·rw [hml] at hc
   rcases zX ts.length with hz | hz
   ·rw [if_pos hz,hz]
    rw [hz] at hc
    exact Kg _ Bs Bs (some ⟨b,0,none⟩) cap W hc
   ·rw [if_neg (by omega)]
    have hW:=hW hblt
    exact Sg ts.length (fun j i=>cur.getD (j*4+i) undef) Bs b 0 cap (by omega) W hc (fun j hj=>hcell j hj 0 (by omega) W hW) (fun j hj=>hcell j hj 1 (by omega) W hW) (fun j hj=>hcell j hj 2 (by omega) W hW) (fun j hj=>hcell j hj 3 (by omega) W hW)
  ·have hj':j<(ts.map Tl.o).length:=by rw [hml]; exact hj
   have hrow:=Vv hj' hj
   have g:∀ i (hi:i<4),ORep w I (Sub j i) ([OT.str ts[j].name,.int ts[j].arity,.bool ts[j].pred,.ow (DO ts[j].vals)][i]'(by simpa using hi)) (cur.getD (j*4+i) undef):=fun i hi=>by
    have hi':i<((ts.map Tl.o)[j]).length:=by rw [h4 j hj']; exact hi
    have:=h7 j i hj' hi'
    simp only [hrow] at this
    exact this
   have g0:=g 0 (by omega)
   have g1:=g 1 (by omega)
   have g2:=g 2 (by omega)
   have g3:=g 3 (by omega)
   simp only [zW,zP] at g0 g1 g2 g3
   exact ⟨(WA g0).1,(WA g0).2,Qby g1,ZG g2,g3⟩
  ·have hml':(ts'.map Tl.o).length=ts.length:=by rw [zI,hl']
   refine .inr ⟨b,cap,cur,Sub,by rw [hml,hml'],hs,by rw [hW hblt]; exact hb,by rw [hml']; exact h1,h2,h3,fun i hi=>?_,h5,h6,fun i j hi hj=>?_⟩
   ·rw [yR,Tl.o_eq]; rfl
   ·have hi1:i<ts'.length:=by rw [zI] at hi; exact hi
    have hi2:i<ts.length:=by omega
    have hi3:i<(ts.map Tl.o).length:=by rw [hml]; exact hi2
    obtain ⟨e1,e2,e3,e4⟩:=hts i hi2 hi1
    have hrow':(ts'.map Tl.o)[i]=[.str ts'[i].name,.int ts'[i].arity,.bool ts'[i].pred,.ow (DO ts'[i].vals)]:=Vv hi hi1
    have hrow:=Vv hi3 hi2
    have hj4:j<4:=by
     have:=hj
     simp only [hrow',zJ,yH] at this
     omega
    have g:ORep w I (Sub i j) ([OT.str ts[i].name,.int ts[i].arity,.bool ts[i].pred,.ow (DO ts[i].vals)][j]'(by simpa using hj4)) (cur.getD (i*4+j) undef):=by
     have hj':j<((ts.map Tl.o)[i]).length:=by rw [h4 i hi3]; exact hj4
     have:=h7 i j hi3 hj'
     simp only [hrow] at this
     exact this
    simp only [hrow']
    match j,hj4,g with
    | 0,_,g =>
     simp only [zW] at g ⊢
     rw [e1]
     revert g
     generalize cur.getD (i*4+0) undef=u
     intro g; cases g; exact .str _ _ ‹_›
    | 1,_,g =>
     simp only [zW,zP] at g ⊢
     rw [e2]
     revert g
     generalize cur.getD (i*4+1) undef=u
     intro g; cases g; exact .int _ _
    | 2,_,g =>
     simp only [zW,zP] at g ⊢
     rw [e3]
     revert g
     generalize cur.getD (i*4+2) undef=u
     intro g; cases g; exact .bool _ _
    | 3,_,g =>
     simp only [zW,zP]
     exact e4
end Go.Proofs.YtjkpbnbkofnajaaGreat
set_option maxRecDepth 100000
set_option linter.unusedSimpArgs false
set_option linter.unusedVariables false
set_option linter.unusedSectionVars false
namespace Go.Proofs.YtjkpbnbkofnajaaGreat
open Go.RowKit Go.Shelf
attribute [local go_sem] Oper.semAt_some
noncomputable def tkA (sz:Int) (ts:List Tl) (k:Nat):List Tl:=ts.take (ts.length-k)++(C1 sz (ts.drop (ts.length-k))).1
theorem Qbz (sz:Int) (ts:List Tl) (k:Nat):(tkA sz ts k).length=ts.length:=by
 unfold tkA; rw [List.length_append,IM,yS,List.length_drop]; omega
theorem ZI (sz:Int) (ts:List Tl):tkA sz ts 0=ts:=by
 unfold tkA
 rw [yC,List.take_length,z7,C1,zS]
theorem Qb0 (sz:Int) (ts:List Tl):tkA sz ts ts.length=(C1 sz ts).1:=by
 unfold tkA
 rw [zQ,List.take_zero,zG,yI]
noncomputable def ZJ (sz:Int) (t:Tl):Tl:=⟨t.name,t.arity,t.pred,(DZ (if t.pred=true then 2 else sz) t.vals).1⟩
theorem WB {sz:Int} {ts:List Tl} {j:Nat} (hj:j<ts.length) (hc:(C1 sz (ts.drop (j+1))).2=true):C1 sz (ts.drop j)=(ZJ sz ts[j] :: (C1 sz (ts.drop (j+1))).1,(DZ (if ts[j].pred=true then 2 else sz) ts[j].vals).2):=by
 rw [zA hj,C1,hc,cond_true]; rfl
theorem ZK {sz:Int} {ts:List Tl} {j k:Nat} (hjk:j+1+k=ts.length) (hc:(C1 sz (ts.drop (ts.length-k))).2=true):tkA sz ts (k+1)=(tkA sz ts k).set j (ZJ sz (ts[j]'(by omega))):=by
 have hj:j<ts.length:=by omega
 unfold tkA
 rw [show ts.length-k=j+1 by omega] at hc ⊢
 rw [show ts.length-(k+1)=j by omega,WB hj hc,yD hj,List.append_assoc,List.set_append_right _ _ (by simp; omega)]
 have e:j-(ts.take j).length=0:=by simp; omega
 rw [e]
 rfl
theorem QcG {sz:Int} {ts:List Tl} {j k:Nat} (hjk:j+1+k=ts.length):(tkA sz ts k)[j]?=some (ts[j]'(by omega)):=by
 unfold tkA
 rw [List.getElem?_append_left (by simp; omega),List.getElem?_take,if_pos (by omega),zM]
theorem Ub (sz:Int):∀ (ts:List Tl) (j:Nat) (h:j<ts.length) (h':j<(C1 sz ts).1.length),(C1 sz ts).1[j].name=ts[j].name∧(C1 sz ts).1[j].arity=ts[j].arity∧(C1 sz ts).1[j].pred=ts[j].pred
 | [],j,h,_=>absurd h (by simp)
 | t :: ts,j,h,h'=>by
  have ih:=Ub sz ts
  revert h'
  rw [C1]
  cases hc:(C1 sz ts).2 with
  | true =>
   rw [cond_true]
   intro h'
   match j with
   | 0=>exact ⟨rfl,rfl,rfl⟩
   | j+1 =>
    simp only [zP]
    exact ih j (by simpa using h) (by rw [IM]; simpa using h)
  | false =>
   rw [cond_false]
   intro h'
   match j with
   | 0=>exact ⟨rfl,rfl,rfl⟩
   | j+1 =>
    simp only [zP]
    exact ih j (by simpa using h) (by rw [IM]; simpa using h)
structure AvI (w wb:World) (I:Nat→Prop) (Sub:Nat→Nat→Prop) (n:Nat) (cv:Nat→Nat→Value) (sz:Int) (p Bs:Nat) (T:List Tl) (W:World):Prop where
 os:W.os=w.os
 tape:TapeOk w W
 output:W.output=w.output
 size:wb.heap.size≤W.heap.size
 block:∀ x,x<w.heap.size→(∀ j,j<n→¬ Sub j x)→W.heap[x]?=w.heap[x]?
 box:∃ s,W.heap[p]?=some (.cells #[.int .i64 sz,s] 26 (0,0))
 slb:W.heap[Bs]?=wb.heap[Bs]?
 tab:∀ j t,T[j]?=some t→ORep W I (Sub j) (.ow (DO t.vals)) (cv j 3)
theorem ZL (F:Fence) (n:Nat) (h5:F.fn 52) (hro:F.round=none) (a:Option Addr) (len cap:Nat) (w:World) :
  CallsIn F n Tryz.prog 52 #[.slice a len cap] w fun e w'=>e=.returned (.func (.func 77) #[] #[.pointer (some ⟨w.heap.size,0,none⟩)])∧w'=w.alloc (.cells #[.slice a len cap] 24):=by
 refine callsIn_of_wp Tryz.func52 rfl h5 ?_ hro
 simp only [Tryz.ntmps52,List.size_toArray,zJ,yH,Nat.reduceAdd,Nat.reduceSub,Array.replicate_succ,Array.replicate_zero,List.push_toArray,List.append_toArray,yI,List.cons_append]
 gi_wp2
 go_ret
 exact ⟨rfl,rfl⟩
theorem Qb1 (sz:Int) (hs1:1≤sz) (hs3:sz≤3) (ts:List Tl) (hts:ts.length≤1048576) (hpos:∀ t∈ts,0<t.vals.length∧t.vals.length≤1048576∧∀ v∈t.vals,0≤v∧v≤1000):QaE sz ts:=by
  have hmx:Tryz.prog.follows .mixedOrders=true:=by kernel_rfl
  intro w I V B vs hwf hvs
  obtain ⟨v,q,rfl,hv,hvs⟩:=Ck hvs
  obtain rfl:=Ln hvs
  simp only [RepV,RepVs] at hv
  obtain ⟨_,rfl,_,_,rfl,rfl,rv,_,rfl,⟨hV0,h1c⟩,rfl⟩:=hv
  obtain ⟨val,hval,hrow⟩:=hwf.obj 0 trivial
  rw [hV0] at hval
  obtain rfl:=yU hval
  have hrow:RowR w I (B 0) 58 4 (ts.map Tl.o) rv:=hrow
  have hBl:∀ x,B 0 x→x<w.heap.size:=fun x hx=>hwf.lt 0 x trivial hx
  have hBI:∀ x,B 0 x→¬ I x:=fun x hx=>hwf.dI 0 x trivial hx
  obtain ⟨a,cap,cv,Sub,b,rfl,hb,hback,hel,hS1,hS2,hclose⟩:=ZH hrow hts
  obtain ⟨n,hn⟩:∃ n,n=ts.length:=⟨_,rfl⟩
  refine (callsIn_wide (n:=5)).1 ?_
  refine callsIn_of_wp_marks Tryz.func29 rfl trivial ?_ rfl
  simp only [Tryz.ntmps29,List.size_toArray,zJ,yH,Nat.reduceAdd,Nat.reduceSub,Array.replicate_succ,Array.replicate_zero,List.push_toArray,List.append_toArray,yI,List.cons_append]
  gi_wp2
  obtain ⟨wa,hwa⟩:∃ wa,wa=w.alloc (.cells #[.int .i64 sz,.slice a ts.length cap] 26):=⟨_,rfl⟩
  rw [←hwa]
  refine ⟨trivial,(ZL Fence.wide _ trivial rfl a ts.length cap wa).mono ?_⟩
  rintro e W3 ⟨rfl,rfl⟩
  rename_i K1 hK1 K2 hK2
  refine hK2 _ _ ?_
  clear hK2
  gi_wp2
  obtain ⟨wb,hwb⟩:∃ wb,wb=wa.alloc (.cells #[.slice a ts.length cap] 24):=⟨_,rfl⟩
  rw [←hwb]
  have hsa:wa.heap.size=w.heap.size+1:=by rw [hwa]; simp
  have hsb:wb.heap.size=w.heap.size+2:=by rw [hwb]; simp [hsa]
  have hbx:wb.heap[w.heap.size]?=some (.cells #[.int .i64 sz,.slice a ts.length cap] 26 (0,0)):=by
    rw [hwb,Below.heap_alloc _ _ _ (by omega),hwa]; exact World.alloc_heap_new w _
  have hsl:wb.heap[wa.heap.size]?=some (.cells #[.slice a ts.length cap] 24 (0,0)):=by rw [hwb]; exact World.alloc_heap_new wa _
  have hlow:∀ x,x<w.heap.size→wb.heap[x]?=w.heap[x]?:=fun x hx=>by
    rw [hwb,Below.heap_alloc _ _ _ (by omega),hwa]; exact Below.heap_alloc _ _ _ hx
  have hslc:wb.cell? ⟨wa.heap.size,0,none⟩=some (.slice a ts.length cap):=by simp [World.cell?,hsl]
  have hbk:=hback wb wa.heap.size hslc (fun h=>hlow b h)
  have htape:TapeOk w wb:=by rw [hwb,hwa]; exact TapeOk.mk' rfl rfl
  have hSl:∀ j x,Sub j x→x<w.heap.size:=fun j x h=>hBl x (hS1 j x h).1
  have hlo:∀ T W W',AvI w wb I Sub ts.length cv sz w.heap.size wa.heap.size T W→Lo wb.heap.size W W'→AvI w wb I Sub ts.length cv sz w.heap.size wa.heap.size T W':=fun T W W' h k =>
    ⟨k.os.trans h.os,TapeOk.trans (TapeOk.le k.tape k.drawn) h.tape,k.output.trans h.output,yT h.size k.size,fun x hx hn=>(k.block x (by omega)).trans (h.block x hx hn),
      let ⟨s,hs⟩:=h.box; ⟨s,(k.block _ (by omega)).trans hs⟩,(k.block _ (by omega)).trans h.slb,fun j t ht=>(h.tab j t ht).keep ⟨k.size,fun x hx _=>k.block x (by have:=hwf.ilt x hx; omega)⟩ (fun _ h=>h) fun x hx _=>k.block x (by have:=hSl j x hx; omega)⟩
  have hfin:∀ (x:Exit) (W:World) (T:List Tl),(x=.normal∨x=.ret)→T=(C1 sz ts).1→AvI w wb I Sub ts.length cv sz w.heap.size wa.heap.size T W→wb.heap.size<W.heap.size→W.heap[wb.heap.size]?=some (.deferred (some []))→∀ tm:Array Value,tm.size=39 →
      Qdb Tryz.prog Tryz.f29 w I V B [.row 58 4 (ts.map Tl.o)] (.tup []) [.row 58 4 ((C1 sz ts).1.map Tl.o)] x { tmps:=tm,defers:=[W7 wb.heap.size] } W:=fun x W T hx hT hI hlt hD tm htm=>by
    subst hT
    have hsz:=hI.size
    have hks:KeepS I w W:=⟨by omega,fun x hx hlt=>hI.block x hlt fun j _ hj=>hBI x (hS1 j x hj).1 hx⟩
    have hrow':RowR W I (B 0) 58 4 ((C1 sz ts).1.map Tl.o) (.slice a ts.length cap):=by
      refine hclose W _ (IM sz ts) (fun h=>hI.block b h fun j _ hj=>(hS1 j b hj).2 rfl) fun j hj hj'=>?_
      obtain ⟨e1,e2,e3⟩:=Ub sz ts j hj hj'
      exact ⟨e1,e2,e3,hI.tab j _ (zM hj')⟩
    have hwf':Wf W I V B (Ae [.row 58 4 ((C1 sz ts).1.map Tl.o)]):=by
      refine ⟨fun x hx=>by have:=hwf.ilt x hx; omega,fun g hg=>?_,fun g x hg hx=>?_,fun g x hg hx=>?_,fun g g' x hg hg' hx hx'=>?_,fun g hg=>?_,hwf.gl.keep hks fun _ h=>h⟩
      · match g,hg with
        | 0,_=>exact ⟨_,hV0,hrow'⟩
        | g+1,h=>exact h.elim
      · match g,hg,hx with
        | 0,_,hx=>have:=hBl x hx; omega
        | g+1,h,_=>exact h.elim
      · match g,hg,hx with
        | 0,_,hx=>exact hBI x hx
        | g+1,h,_=>exact h.elim
      · match g,g',hg,hg' with
        | 0,0,_,_=>rfl
        | g+1,_,h,_=>exact h.elim
        | _,g+1,_,h=>exact h.elim
      · match g,hg with
        | 0,h=>cases h
        | g+1,_=>exact hwf.fr (g+1) rfl
    have hP:FunPost w I V B [.row 58 4 (ts.map Tl.o)] [.row 58 4 ((C1 sz ts).1.map Tl.o)] W I V B :=
      ⟨⟨hI.os,hI.tape,hI.output,by omega,fun x hx hn=>hI.block x hx fun j _ hj=>hn ⟨0,trivial,(hS1 j x hj).1⟩⟩,fun _ h=>h,fun _ h=>.inl h,VLe.refl _,hwf',fun g x hg hx=>by
        match g,hg,hx with
        | 0,_,hx=>exact .inl ⟨0,trivial,hx⟩
        | g+1,h,_=>exact h.elim⟩
    have hA:At 39 W I V B ⟨Iy 39,[.row 58 4 ((C1 sz ts).1.map Tl.o)]⟩ tm:=⟨hwf',rfl,htm,fun i=>by
      show RepV W I V (gets (Iy 39) i) _
      rw [Ml]; simp only [RepV]⟩
    have hoff:Off I B [.row 58 4 ((C1 sz ts).1.map Tl.o)] wb.heap.size:=⟨fun h=>by have:=hwf.ilt _ h; omega,fun ⟨g,hg,hx⟩=>by
      match g,hg,hx with
      | 0,_,hx=>have:=hBl _ hx; omega
      | g+1,h,_=>exact h.elim⟩
    have hfe:∀ e:X,(e=.ret∨e=.normal)→Fin [] 1 (.tup []) [.row 58 4 ((C1 sz ts).1.map Tl.o)] e ⟨Iy 39,[.row 58 4 ((C1 sz ts).1.map Tl.o)]⟩:=fun e he=>by
      refine ⟨he,.tup [],[0],rfl,?_⟩
      simp only [WeakC,leL,leV,leO,Yo,Yp,Ae,sgp,SV.ren,SV.Kt,Ob.ren,QbU,R0,Yq,Lc,VL,VL.setO1,zJ,yH,Nat.reduceAdd,List.nodup_cons,List.nodup_nil,List.mem_cons,List.not_mem_nil,or_false,false_or,not_false_eq_true,not_true_eq_false,true_and,and_true,and_self,Nat.reduceEqDiff,reduceCtorEq,yI,zS,Nat.add_zero,Nat.zero_add]
    rcases hx with rfl | rfl
    · exact Rg (st:=⟨Iy 39,[.row 58 4 ((C1 sz ts).1.map Tl.o)]⟩) (e:=.normal) (rs:=[]) rfl hwf hA hP (hfe _ (.inr rfl)) (.inr ⟨_,rfl,by omega,hD,hoff⟩)
    · exact Rg (st:=⟨Iy 39,[.row 58 4 ((C1 sz ts).1.map Tl.o)]⟩) (e:=.ret) (rs:=[]) rfl hwf hA hP (hfe _ (.inl rfl)) (.inr ⟨_,rfl,by omega,hD,hoff⟩)
  refine TZ (n:=5) (by omega) rfl (Bs:=wa.heap.size) (N:=ts.length) rfl (enters_of Tryz.func77 (by kernel_rfl) rfl) (by omega) ?hb hbk
    (fun k W=>(C1 sz (ts.drop (ts.length-k))).2=true∧AvI w wb I Sub ts.length cv sz w.heap.size wa.heap.size (tkA sz ts k) W)
    (fun k W=>(C1 sz (ts.drop (ts.length-(k+1)))).2=false∧AvI w wb I Sub ts.length cv sz w.heap.size wa.heap.size (tkA sz ts (k+1)) W)
    (fun k W W' h l=>⟨h.1,hlo _ _ _ h.2 l⟩) (fun k W W' h l=>⟨h.1,hlo _ _ _ h.2 l⟩) ?h0 ?hKB ?round ?done
  case hb =>
    split
    · omega
    · have:=hb (by omega); omega
  case h0 =>
    refine ⟨by rw [yC,z7]; rfl,?_⟩
    rw [ZI]
    refine ⟨by rw [hwb,hwa]; rfl,htape,by rw [hwb,hwa]; rfl,yG _,fun x hx _=>hlow x hx,⟨_,hbx⟩,rfl,fun j t ht=>?_⟩
    obtain ⟨hj,rfl⟩:=List.getElem?_eq_some_iff.1 ht
    exact (hel j hj).2.2.2.2.keep ⟨by omega,fun x hx hlt=>hlow x hlt⟩ (fun _ h=>h) fun x hx hlt=>hlow x hlt
  case hKB =>
    rintro k W ⟨_,hI⟩
    refine ⟨hI.slb,?_⟩
    by_cases hz:ts.length=0
    · rw [if_pos hz]; exact hI.slb
    · rw [if_neg hz]
      have:=hb (by omega)
      exact (hI.block b this fun j _ hj=>(hS1 j b hj).2 rfl).trans (hlow b this).symm
  case done =>
    rintro x W h hlt hD
    rcases h with ⟨rfl,hc,hI⟩ | ⟨rfl,k,hk,hc,hI⟩
    · exact hfin .normal W _ (.inl rfl) (Qb0 sz ts) hI hlt hD _ rfl
    · refine hfin .ret W (tkA sz ts (k+1)) (.inr rfl) ?_ hI hlt hD _ rfl
      have h:=Ua sz (ts.take (ts.length-(k+1))) (ts.drop (ts.length-(k+1))) hc
      rw [List.take_append_drop] at h
      rw [h]; rfl
  case round =>
    rintro lb n' k W hk ⟨hc,hI⟩ hsz
    obtain ⟨j,hjk⟩:∃ j,j+1+k=ts.length:=⟨ts.length-1-k,by omega⟩
    have hj:j<ts.length:=by omega
    have ej:ts.length-1-k=j:=by omega
    rw [ej]
    obtain ⟨c0,hnm,c1,c2,_⟩:=hel j hj
    obtain ⟨p1,p2,p3⟩:=hpos _ (zB hj)
    have hor:=hI.tab j _ (QcG hjk)
    obtain ⟨t,bl,cc,c3,hSb,hblt,hR⟩:=QcD hor p1
    rw [c3] at hR hor
    simp only [c0,c1,c2,c3,List.setIfInBounds_toArray,List.set_cons_succ,List.set_cons_zero]
    rw [show wf (some lb)=Fence.wide.inRound lb from rfl]
    gi_wp2
    refine ⟨by simp,fun x h1 h2=>Below.heap_alloc _ _ _ (by omega),fun o=>?_⟩
    obtain ⟨W1,hW1⟩:∃ W1,W1=W.alloc (.cells #[.string ts[j].name,.int .i64 ts[j].arity,.bool ts[j].pred,.slice (some ⟨bl,0,none⟩) ts[j].vals.length cc] 58):=⟨_,rfl⟩
    rw [←hW1]
    obtain ⟨W2,hW2⟩:∃ W2,W2=W1.putObj (wb.heap.size+1) o:=⟨_,rfl⟩
    rw [←hW2]
    have hz1:W1.heap.size=W.heap.size+1:=by rw [hW1]; simp
    have hz2:W2.heap.size=W.heap.size+1:=by rw [hW2]; simp [hz1]
    have hbw:bl<w.heap.size:=hSl j bl hSb
    have hlow2:∀ x,x<wb.heap.size→W2.heap[x]?=W.heap[x]?:=fun x hx=>by
      rw [hW2,World.putObj_heap_other (by omega),hW1]; exact Below.heap_alloc _ _ _ (by omega)
    have hT2:W2.heap[W.heap.size]?=some (.cells #[.string ts[j].name,.int .i64 ts[j].arity,.bool ts[j].pred,.slice (some ⟨bl,0,none⟩) ts[j].vals.length cc] 58 (0,0)):=by
      rw [hW2,World.putObj_heap_other (by omega),hW1]; exact World.alloc_heap_new W _
    have hk2:KeepS I W W2:=⟨by omega,fun x hx hlt=>hlow2 x (by have:=hwf.ilt x hx; omega)⟩
    have hIbl:¬ I bl:=hBI bl (hS1 j bl hSb).1
    obtain ⟨s,hbox⟩:=hI.box
    refine ZF hs1 hs3 hnm p2 p3 (p:=w.heap.size) (tb:=W.heap.size) (b:=bl) (c:=cc) (t:=t) (s:=s) (I:=I) rfl rfl rfl ((hlow2 _ (by omega)).trans hbox) hT2
      (hR.keep hk2 (fun _ h=>h) fun x hx hlt=>by subst hx; exact hlow2 _ (by omega)) (fun x hx=>by have:=hwf.ilt x hx; omega) (fun h=>by have:=hwf.ilt _ h; omega) (fun h=>by have:=hwf.ilt _ h; omega) hIbl (by omega) (by omega) (by omega) (hwf.gl.keep ⟨by omega,fun x hx hlt=>(hlow2 x (by omega)).trans (hI.block x hlt fun j' _ hj'=>hBI x (hS1 j' x hj').1 hx)⟩ fun _ h=>h) _ ?_
    rintro e a' W' s' hfr hbox' hR' he
    have hsz':=hfr.size
    refine ⟨⟨by omega,fun x h1 h2=>hfr.block x (by omega) (by omega)⟩,?_⟩
    have hAv:AvI w wb I Sub ts.length cv sz w.heap.size wa.heap.size (tkA sz ts (k+1)) W':=by
      refine ⟨hfr.os.trans ?_,TapeOk.trans hfr.tape ?_,hfr.output.trans ?_,by omega,fun x hx hn=>?_,⟨s',hbox'⟩,?_,fun j' t' ht'=>?_⟩
      · rw [hW2,hW1]; exact hI.os
      · rw [hW2,hW1]; exact hI.tape
      · rw [hW2,hW1]; exact hI.output
      · have:x≠bl:=fun e=>hn j hj (e▸hSb)
        rw [hfr.block x (by omega) (by omega),hlow2 x (by omega)]
        exact hI.block x hx hn
      · rw [hfr.block _ (by omega) (by omega),hlow2 _ (by omega)]
        exact hI.slb
      · rw [ZK hjk hc] at ht'
        by_cases hjj:j'=j
        · subst hjj
          rw [zR (by rw [Qbz]; exact hj)] at ht'
          obtain rfl:=yU ht'
          rw [c3]
          exact (ZE (S:=Sub j') hR' hSb).1
        · rw [List.getElem?_set_ne (fun e=>hjj e.symm)] at ht'
          refine (hI.tab j' t' ht').keep ⟨by omega,fun x hx hlt=>?_⟩ (fun _ h=>h) fun x hx hlt=>?_
          · have h1:=hwf.ilt x hx
            have h2:x≠bl:=fun e=>hIbl (e▸hx)
            rw [hfr.block x (by omega) (by omega),hlow2 x (by omega)]
          · have h1:=hSl j' x hx
            have h2:x≠bl:=fun e=>hjj (hS2 j' j x hx (e▸hSb))
            rw [hfr.block x (by omega) (by omega),hlow2 x (by omega)]
    have hcj:(C1 sz (ts.drop (ts.length-(k+1)))).2=(DZ (if ts[j].pred=true then 2 else sz) ts[j].vals).2:=by
      rw [show ts.length-k=j+1 by omega] at hc
      rw [show ts.length-(k+1)=j by omega,WB hj hc]
    rcases he with ⟨rfl,he⟩ | ⟨rfl,he⟩
    · exact .inl ⟨rfl,by rw [hcj]; exact he,hAv⟩
    · exact .inr ⟨rfl,by rw [hcj]; exact he,hAv⟩
end Go.Proofs.YtjkpbnbkofnajaaGreat
set_option maxRecDepth 100000
set_option linter.unusedSimpArgs false
set_option linter.unusedVariables false
set_option linter.unusedSectionVars false
namespace Go.Proofs.YtjkpbnbkofnajaaGreat
open Go.RowKit
theorem Ri {r m:Int} {P u:Nat} (h:u<P):KF r (P-u) m=bif dec (5000<m*r) then none else KF r (P-(u+1)) (m*r):=by
 obtain ⟨j,hj⟩:∃ j,P-u=j+1:=⟨P-u-1,by omega⟩
 rw [hj,show P-(u+1)=j by omega,KF]
noncomputable def Uc (sz:Int) (ts:List Tl):Option Int:=bif Dj ts&&inI sz 1 3 then Ho sz ts 1 else none
def Hz:Option Int→SV
 | some n=>.tup [.int .i64 n,.bool true]
 | none=>.tup [.int .i64 0,.bool false]
def ZM:Option Int→Int
 | some n=>n
 | none=>0
theorem ZN {m r:Int} (h1:1≤m) (h2:m≤5000) (r1:1≤r) (r3:r≤3):1≤m*r∧m*r≤15000:=by
 have a:1*1≤m*r:=Int.mul_le_mul h1 r1 (by omega) (by omega)
 have b:m*r≤5000*3:=Int.mul_le_mul h2 r3 (by omega) (by omega)
 omega
def B5:SC:=(.seq (.reg [⟨some 4,none,.mv (.c (.int .i64 0))⟩,⟨some 5,none,.mv (.c (.bool false))⟩]) (.seq (.seq (.reg [⟨some 9,none,.mv (.t 0)⟩,⟨some 10,none,.call 45 [(.t 9)]⟩,⟨some 11,none,.un .not (.t 10)⟩,⟨some 12,none,.mv (.t 11)⟩,⟨(some 13),(some (12,false)),(.mv (.t 1))⟩,⟨(some 14),(some (12,false)),(.call 46 [(.t 13),(.c (.int .i64 1)),(.c (.int .i64 3))])⟩,⟨(some 15),(some (12,false)),(.un .not (.t 14))⟩,⟨some 16,none,.pick (.t 12) (.c (.bool true)) (.t 15)⟩]) (.cond (.t 16) (.seq (.reg [⟨some 4,none,.mv (.c (.int .i64 0))⟩,⟨some 5,none,.mv (.c (.bool false))⟩]) .ret) .skip)) (.seq (.reg [⟨some 6,none,.mv (.c (.int .i64 1))⟩]) (.seq (.seq (.reg [⟨some 17,none,.mv (.t 0)⟩,⟨some 18,none,.len false (.t 17)⟩,⟨some 19,none,.mv (.c (.int .i64 0))⟩]) (.block 0 (.loop [0,1,0,0,0,0,1,0,0,0,0,0,0,0,0,0,0,1,1,1,0,0,0,0,0,0,0,0,0,0,0,0,0,0,0,0,0,0,0] (.seq (.reg [⟨some 20,none,.bin .lss false (.t 19) (.t 18)⟩]) (.seq (.cond (.t 20) .skip (.exit 0)) (.seq (.block 1 (.seq (.reg [⟨some 21,none,.iaddr 4 (.t 17) (.t 19)⟩,⟨some 22,none,.load true 4 (.t 21)⟩,⟨(some 8),none,(.alloc 58 [(.str ⟨#[]⟩),(.int .i64 0),(.bool false),.nil])⟩,⟨none,none,(.store 4 (.t 8) (.t 22))⟩]) (.seq (.reg [⟨some 23,none,.mv (.t 1)⟩,⟨some 24,none,.faddr 1 (.t 8)⟩,⟨some 25,none,.load false 1 (.t 24)⟩,⟨some 26,none,.call 26 [(.t 23),(.t 25)]⟩,⟨some 27,none,.mv (.c (.int .i64 0))⟩]) (.block 2 (.loop [0,1,0,0,0,0,1,0,1,0,0,0,0,0,0,0,0,1,1,1,0,0,0,0,0,0,1,1,0,0,0,0,0,0,0,0,0,0,0] (.seq (.reg [⟨some 28,none,.bin .lss false (.t 27) (.t 26)⟩]) (.seq (.cond (.t 28) .skip (.exit 2)) (.seq (.block 3 (.seq (.reg [⟨some 29,none,.mv (.t 6)⟩,⟨some 30,none,.load true 4 (.t 8)⟩,⟨some 31,none,.mv (.t 1)⟩,⟨some 32,none,.call 47 [(.t 30),(.t 31)]⟩,⟨some 33,none,.bin .mul false (.t 29) (.t 32)⟩,⟨some 6,none,.mv (.t 33)⟩]) (.seq (.reg [⟨some 34,none,.mv (.t 6)⟩,⟨some 35,none,.bin .gtr false (.t 34) (.c (.int .i64 5000))⟩]) (.cond (.t 35) (.seq (.reg [⟨some 4,none,.mv (.c (.int .i64 0))⟩,⟨some 5,none,.mv (.c (.bool false))⟩]) .ret) .skip)))) (.reg [⟨some 36,none,.bin .add false (.t 27) (.c (.int .i64 1))⟩,⟨some 27,none,.mv (.t 36)⟩]))))))))) (.reg [⟨some 37,none,.bin .add false (.t 19) (.c (.int .i64 1))⟩,⟨some 19,none,.mv (.t 37)⟩]))))))) (.seq (.reg [⟨some 38,none,.mv (.t 6)⟩,⟨some 4,none,.mv (.t 38)⟩,⟨some 5,none,.mv (.c (.bool true))⟩]) .ret)))))
theorem Ch:Ad Tryz.prog 22=some ⟨39,B5,[(.tmp 4),(.tmp 5)]⟩:=by kernel_rfl
theorem Au:modes 22=⟨[],.asis,none,false⟩:=by unfold modes; rfl
def Ij:SC:=(.seq (.reg [⟨some 4,none,.mv (.c (.int .i64 0))⟩]) (.seq (.reg [⟨some 5,none,.mv (.c (.int .i64 1))⟩]) (.seq (.seq (.reg [⟨some 6,none,.mv (.c (.int .i64 0))⟩]) (.block 0 (.loop [1,1,0,0,0,1,1,0,0,0,0,0,0,0,0,0,0,0,0,0,0,0,0,0,0,0,0,0,0,0,0,0,0,0,0,0,0,0] (.seq (.seq (.reg [⟨some 9,none,.mv (.t 6)⟩,⟨some 10,none,.mv (.t 0)⟩,⟨some 11,none,.len false (.t 10)⟩,⟨some 12,none,.bin .lss false (.t 9) (.t 11)⟩]) (.cond (.t 12) .skip (.exit 0))) (.seq (.block 1 (.seq (.reg [⟨some 15,none,.mv (.t 1)⟩,⟨some 7,none,.mv (.t 15)⟩]) (.seq (.seq (.reg [⟨some 16,none,.mv (.t 0)⟩,⟨some 17,none,.mv (.t 6)⟩,⟨some 18,none,.iaddr 4 (.t 16) (.t 17)⟩,⟨some 19,none,.faddr 2 (.t 18)⟩,⟨some 20,none,.load false 1 (.t 19)⟩]) (.cond (.t 20) (.reg [⟨some 7,none,.mv (.c (.int .i64 2))⟩]) .skip)) (.seq (.reg [⟨some 8,none,.mv (.c (.int .i64 0))⟩]) (.block 2 (.loop [1,1,0,0,0,1,1,1,1,0,0,0,0,0,0,0,0,0,0,0,0,0,0,0,0,0,0,0,0,0,0,0,0,0,0,0,0,0] (.seq (.seq (.reg [⟨some 21,none,.mv (.t 8)⟩,⟨some 22,none,.mv (.t 1)⟩,⟨some 23,none,.mv (.t 0)⟩,⟨some 24,none,.mv (.t 6)⟩,⟨some 25,none,.iaddr 4 (.t 23) (.t 24)⟩,⟨some 26,none,.faddr 1 (.t 25)⟩,⟨some 27,none,.load false 1 (.t 26)⟩,⟨some 28,none,.call 38 [(.t 22),(.t 27)]⟩,⟨some 29,none,.bin .lss false (.t 21) (.t 28)⟩]) (.cond (.t 29) .skip (.exit 2))) (.seq (.block 3 (.seq (.reg [⟨some 32,none,.mv (.t 5)⟩,⟨some 33,none,.mv (.t 7)⟩,⟨some 34,none,.bin .mul false (.t 32) (.t 33)⟩,⟨some 5,none,.mv (.t 34)⟩]) (.seq (.reg [⟨some 35,none,.mv (.t 5)⟩,⟨some 36,none,.bin .gtr false (.t 35) (.c (.int .i64 5000))⟩]) (.cond (.t 36) (.seq (.reg [⟨some 4,none,.mv (.c (.int .i64 0))⟩]) .ret) .skip)))) (.reg [⟨some 30,none,.mv (.t 8)⟩,⟨some 31,none,.bin .add false (.t 30) (.c (.int .i64 1))⟩,⟨some 8,none,.mv (.t 31)⟩]))))))))) (.reg [⟨some 13,none,.mv (.t 6)⟩,⟨some 14,none,.bin .add false (.t 13) (.c (.int .i64 1))⟩,⟨some 6,none,.mv (.t 14)⟩])))))) (.seq (.reg [⟨some 37,none,.mv (.t 5)⟩,⟨some 4,none,.mv (.t 37)⟩]) .ret))))
theorem N9:Ad Tryz.prog 16=some ⟨38,Ij,[(.tmp 4)]⟩:=by kernel_rfl
theorem DU:modes 16=⟨[],.asis,none,false⟩:=by unfold modes; rfl
theorem E2 (ts:List Tl) (sz:Int) (hl:ts.length≤1099511627776):E 22 [.arr (ts.map Tl.d),.int .i64 sz] []=some (Hz (Uc sz ts),[]):=by
 have h1:=TE ts hl
 have h2:=TD sz 1 3
 unfold Uc
 cases ht:Dj ts with
 | false =>
  rw [ht] at h1
  rw [yW,cond_false]
  refine Ab Ch Au (of_decide_eq_true rfl) ?_
  simp (disch:=omega) only [B5,go_sem,Aa,h1,h2,D6,BB,Hz]
 | true =>
  rw [ht] at h1
  rw [yP]
  cases hs:inI sz 1 3 with
  | false =>
   rw [hs] at h2
   rw [cond_false]
   refine Ab Ch Au (of_decide_eq_true rfl) ?_
   simp (disch:=omega) only [B5,go_sem,Aa,h1,h2,D6,BB,Hz]
  | true =>
   rw [hs] at h2
   rw [cond_true]
   obtain ⟨s1,s3⟩:=Eu.1 hs
   refine Ab Ch Au (of_decide_eq_true rfl) ?_
   simp (disch:=omega) only [B5,go_sem,Aa,h1,h2,D6,BB,Hz]
   refine go_loop (α:=Int × (Int)) (fun a=>⟨slots 39 0 [(1,.int .i64 sz),(6,.int .i64 (a.2)),(17,.arr (ts.map Tl.d)),(18,.int .i64 ts.length),(19,.int .i64 (a.1))],[]⟩) (fun a=>∃ k:Nat,a.1=k∧k≤(ts).length∧Ho sz (ts.drop k) (a.2)=Ho sz ts 1∧1≤(a.2)∧(a.2)≤5000) (fun a=>(ts).length-(a.1).toNat) (0,1) ⟨0,rfl,zD _,by rw [zG],by dsimp only; omega,by dsimp only; omega⟩ (by simp (disch:=omega) only [go_sem,Aa]) ?_
   rintro ⟨i,n⟩ ⟨k,hi,hk,hR⟩
   dsimp only at hi hR
   have hni:i.toNat=k:=by omega
   have hni1:(i+1).toNat=k+1:=by omega
   rcases zC k (ts).length with hlt | hge
   ·have hg:=get_at Tl.d hlt
    rw [Tl.d_eq] at hg
    obtain ⟨hR1,hR2,hR3⟩:=hR
    obtain ⟨a0,a3⟩:=Dt ht (zB hlt)
    have hp:=RU sz ts[k].arity s1 s3 a0 (by omega)
    have hps:=DJ s1 s3 (k:=ts[k].arity.toNat) (by omega)
    obtain ⟨P,hP⟩:∃ P:Nat,P=(pw sz ts[k].arity.toNat).toNat:=⟨_,rfl⟩
    have hPi:pw sz ts[k].arity.toNat=(P:Int):=by omega
    rw [hPi] at hp
    obtain ⟨r,hr⟩:∃ r,r=kinds sz ts[k]:=⟨_,rfl⟩
    have hr1:1≤r:=by rw [hr]; exact D4 s1 _
    have hr3:r≤3:=by rw [hr]; unfold kinds; split <;> omega
    have hc:=QW ts[k] sz
    have hsv:ts[k].sv=.agg [.str ts[k].name,.int .i64 ts[k].arity,.bool ts[k].pred,.arr (ts[k].vals.map fun n=>[D.int n])]:=rfl
    rw [←hr,hsv] at hc
    rw [zA hlt,Ho,← hr,← hP] at hR1
    simp (disch:=omega) only [go_sem,Aa,hni,hg,hp,F1]
    refine go_loop (α:=Int × Int) (fun a=>let q:=a.1; let m:=a.2; ⟨slots 39 0 [(1,.int .i64 sz),(6,.int .i64 m),(8,.ptr 0 0),(17,.arr (ts.map Tl.d)),(18,.int .i64 ts.length),(19,.int .i64 i),(26,.int .i64 (P:Int)),(27,.int .i64 q)],[.box 58 [.str ts[k].name,.int .i64 ts[k].arity,.bool ts[k].pred,.arr (ts[k].vals.map fun n=>[D.int n])]]⟩) (fun a=>∃ u:Nat,a.1=u∧u≤P∧KF r (P-u) a.2=KF r P n∧1≤a.2∧a.2≤5000) (fun a=>P-a.1.toNat) (0,n) ⟨0,rfl,zD _,by rw [yC],hR2,hR3⟩ (by simp (disch:=omega) only [go_sem,Aa]) ?_
    rintro ⟨q,m⟩ ⟨u,hq,hu,hQ,hm1,hm5⟩
    dsimp only at hq hQ hm1 hm5
    have hqn:q.toNat=u:=by omega
    have hpm:=ZN hm1 hm5 hr1 hr3
    rcases zC u P with hlt2 | hge2
    ·rw [Ri hlt2] at hQ
     cases hd:dec (5000<m*r) with
     | true =>
      rw [hd,cond_true] at hQ
      rw [←hQ] at hR1
      rw [←hR1]
      simp (disch:=omega) only [go_sem,Aa,hqn,hc,hd,BW,Hz]
      first | done | rfl | exact ⟨rfl,rfl⟩
     | false =>
      rw [hd,cond_false] at hQ
      have h5:=Be.1 hd
      simp (disch:=omega) only [go_sem,Aa,hqn,hc,hd,BW,Hz]
      exact ⟨(q+1,m*r),⟨u+1,by dsimp only; omega,by omega,hQ,by dsimp only; omega,by dsimp only; omega⟩,by dsimp only; omega,by first | trivial | rfl | simp⟩
    ·obtain rfl:u=P:=by omega
     rw [zQ,KF] at hQ
     rw [←hQ] at hR1
     dsimp only at hR1
     simp (disch:=omega) only [go_sem,Aa,hqn]
     exact ⟨(i+1,m),⟨k+1,by dsimp only; omega,hlt,hR1,hm1,hm5⟩,by dsimp only; omega,by first | trivial | rfl | simp⟩
   ·obtain ⟨hR1,hR2,hR3⟩:=hR
    rw [zF hge,Ho] at hR1
    rw [←hR1]
    simp (disch:=omega) only [go_sem,Aa,hni,Hz]
    first | done | rfl
theorem Vw (ts:List Tl) (sz:Int) (hl:ts.length≤1099511627776) (s1:1≤sz) (s3:sz≤3) (hta:∀ t∈ts,0≤t.arity∧t.arity≤3):E 16 [.arr (ts.map Tl.d),.int .i64 sz] []=some (.int .i64 (ZM (Ho sz ts 1)),[]):=by
 refine Ab N9 DU (of_decide_eq_true rfl) ?_
 simp (disch:=omega) only [Ij,go_sem,Aa]
 refine go_loop (α:=Int × (Int)) (fun a=>⟨slots 38 0 [(0,.arr (ts.map Tl.d)),(1,.int .i64 sz),(5,.int .i64 (a.2)),(6,.int .i64 (a.1))],[]⟩) (fun a=>∃ k:Nat,a.1=k∧k≤(ts).length∧Ho sz (ts.drop k) (a.2)=Ho sz ts 1∧1≤(a.2)∧(a.2)≤5000) (fun a=>(ts).length-(a.1).toNat) (0,1) ⟨0,rfl,zD _,by rw [zG],by dsimp only; omega,by dsimp only; omega⟩ (by simp (disch:=omega) only [go_sem,Aa]) ?_
 rintro ⟨i,n⟩ ⟨k,hi,hk,hR⟩
 dsimp only at hi hR
 have hni:i.toNat=k:=by omega
 have hni1:(i+1).toNat=k+1:=by omega
 rcases zC k (ts).length with hlt | hge
 ·have hg:=get_at Tl.d hlt
  rw [Tl.d_eq] at hg
  obtain ⟨hR1,hR2,hR3⟩:=hR
  obtain ⟨a0,a3⟩:=hta _ (zB hlt)
  have hp:=KH sz ts[k].arity s1 s3 a0 (by omega)
  have hps:=DJ s1 s3 (k:=ts[k].arity.toNat) (by omega)
  obtain ⟨P,hP⟩:∃ P:Nat,P=(pw sz ts[k].arity.toNat).toNat:=⟨_,rfl⟩
  have hPi:pw sz ts[k].arity.toNat=(P:Int):=by omega
  rw [hPi] at hp
  obtain ⟨r,hr⟩:∃ r,r=kinds sz ts[k]:=⟨_,rfl⟩
  have hr1:1≤r:=by rw [hr]; exact D4 s1 _
  have hr3:r≤3:=by rw [hr]; unfold kinds; split <;> omega
  rw [zA hlt,Ho,← hr,← hP] at hR1
  have hkr:r=(if ts[k].pred=true then 2 else sz):=hr
  cases hb:ts[k].pred
  all_goals
   rw [hb] at hkr
   simp only [if_true,if_false,yK] at hkr
   have hkk:=hkr.symm
   simp (disch:=omega) only [go_sem,Aa,hni,hg,hb]
   refine go_loop (α:=Int × Int) (fun a=>let q:=a.1; let m:=a.2; ⟨slots 38 0 [(0,.arr (ts.map Tl.d)),(1,.int .i64 sz),(5,.int .i64 m),(6,.int .i64 i),(7,.int .i64 r),(8,.int .i64 q)],[]⟩) (fun a=>∃ u:Nat,a.1=u∧u≤P∧KF r (P-u) a.2=KF r P n∧1≤a.2∧a.2≤5000) (fun a=>P-a.1.toNat) (0,n) ⟨0,rfl,zD _,by rw [yC],hR2,hR3⟩ (by simp (disch:=omega) only [go_sem,Aa,← hkk]) ?_
   rintro ⟨q,m⟩ ⟨u,hq,hu,hQ,hm1,hm5⟩
   dsimp only at hq hQ hm1 hm5
   have hqn:q.toNat=u:=by omega
   have hpm:=ZN hm1 hm5 hr1 hr3
   rcases zC u P with hlt2 | hge2
   ·rw [Ri hlt2] at hQ
    cases hd:dec (5000<m*r) with
    | true =>
     rw [hd,cond_true] at hQ
     rw [←hQ] at hR1
     rw [←hR1]
     simp (disch:=omega) only [go_sem,Aa,hni,hg,hqn,hp,hd,AL,ZM]
     first | done | rfl | exact ⟨rfl,rfl⟩
    | false =>
     rw [hd,cond_false] at hQ
     have h5:=Be.1 hd
     simp (disch:=omega) only [go_sem,Aa,hni,hg,hqn,hp,hd,AL,ZM]
     exact ⟨(q+1,m*r),⟨u+1,by dsimp only; omega,by omega,hQ,by dsimp only; omega,by dsimp only; omega⟩,by dsimp only; omega,by first | trivial | rfl | simp⟩
   ·obtain rfl:u=P:=by omega
    rw [zQ,KF] at hQ
    rw [←hQ] at hR1
    dsimp only at hR1
    simp (disch:=omega) only [go_sem,Aa,hni,hg,hp,AL,hqn]
    exact ⟨(i+1,m),⟨k+1,by dsimp only; omega,hlt,hR1,hm1,hm5⟩,by dsimp only; omega,by first | trivial | rfl | simp⟩
 ·obtain ⟨hR1,hR2,hR3⟩:=hR
  rw [zF hge,Ho] at hR1
  rw [←hR1]
  simp (disch:=omega) only [go_sem,Aa,hni,ZM]
  first | done | rfl
theorem ME {sz:Int} (h1:1≤sz) (h3:sz≤3) {ts:List Tl} (h:Dj ts=true) (n:Int):(BE sz ts n).1.length≤12∧∀ t∈(BE sz ts n).1,0<t.vals.length∧t.vals.length≤1048576∧∀ v∈t.vals,0≤v∧v≤1000:=by
 obtain ⟨_,htb,hvb⟩:=Ip.DK (Se h1 h3 h n)
 refine ⟨?_,fun t ht=>?_⟩
 ·have h2:=htb
  unfold Dj at h2
  rw [z8,decide_eq_true_eq] at h2
  exact h2.2
 ·obtain ⟨a0,a3⟩:=Dt htb ht
  have hP:=DJ h1 h3 (k:=t.arity.toNat) (by omega)
  have hvl:=yA.1 hvb _ ht
  unfold tlB at hvl
  rw [z8,Af,yA] at hvl
  obtain ⟨hl,hv⟩:=hvl
  have hl':(t.vals.length:Int)=pw sz t.arity.toNat:=hl
  refine ⟨by omega,by omega,fun v hv'=>?_⟩
  have hr:=Eu.1 (hv v hv')
  have hk:kinds sz t≤3:=by unfold kinds; split <;> omega
  have hr2:v≤kinds sz t-1:=hr.2
  exact ⟨hr.1,by omega⟩
theorem Ud {sz:Int} (h1:1≤sz) (h3:sz≤3) {ts:List Tl} (h:Dj ts=true) (n:Int):(ipN sz ts n).tame:=by
 obtain ⟨ha,hb⟩:=ME h1 h3 h n
 exact ⟨yT ha (by omega),fun t ht=>yT (hb t ht).2.1 (by omega)⟩
def NA (sz:Int) (ts:List Tl) (k:Nat):List Tl:=(ts.take k).map (Tl.zrs sz)++ts.drop k
theorem XK (sz:Int) (ts:List Tl):NA sz ts 0=ts:=by unfold NA; rw [List.take_zero,zG]; rfl
theorem ZO (sz:Int) (ts:List Tl):NA sz ts ts.length=ts.map (Tl.zrs sz):=by unfold NA; rw [List.take_length,z7,zS]
theorem ZP (sz:Int) (ts:List Tl) (k:Nat):(NA sz ts k).length=ts.length:=by unfold NA; simp; omega
theorem Qb2 (sz:Int) {ts:List Tl} {k:Nat} (h:k<ts.length) (hv:ts[k].vals=[]):((NA sz ts k).map Tl.o)[k]?=some [OT.str ts[k].name,OT.int ts[k].arity,OT.bool ts[k].pred,OT.ow []]:=by
 have hl:((ts.take k).map (Tl.zrs sz)).length=k:=by rw [zI,yS]; omega
 unfold NA
 rw [zV,zL (by omega),hl,zQ,zA h,List.getElem?_cons_zero,Option.map_some,Tl.o_eq,hv,zK]
theorem ZQ (sz:Int) {ts:List Tl} {k:Nat} (h:k<ts.length):((NA sz ts k).map Tl.o).set k [OT.str ts[k].name,OT.int ts[k].arity,OT.bool ts[k].pred,OT.ow (yX (pw sz ts[k].arity.toNat).toNat [OT.int 0])]=(NA sz ts (k+1)).map Tl.o:=by
 have hl:((ts.take k).map (Tl.zrs sz)).length=k:=by rw [zI,yS]; omega
 unfold NA
 have e:=Ef Tl.o ((ts.take k).map (Tl.zrs sz)) (ts.drop (k+1)) ts[k] (Tl.zrs sz ts[k]) hl
 have e2:(Tl.zrs sz ts[k]).o=[OT.str ts[k].name,OT.int ts[k].arity,OT.bool ts[k].pred,OT.ow (yX (pw sz ts[k].arity.toNat).toNat [OT.int 0])]:=by
  rw [Tl.o_eq]
  show [OT.str ts[k].name,OT.int ts[k].arity,OT.bool ts[k].pred,OT.ow ((yX _ (0:Int)).map fun n=>[OT.int n])]=_
  rw [List.map_replicate]
 rw [e2,← zA h] at e
 rw [e,yD h,List.map_append (l₁:=List.take k ts)]
 rfl
theorem Px {sz:Int} {ts:List Tl} {cs:List Cl} {P k:Nat} (h:k<P):Fu sz ts cs (P-k) k=bif XF (ipN sz ts k) cs then Fu sz ts cs (P-(k+1)) ((k:Int)+1) else some (ipN sz ts k):=by
 obtain ⟨j,hj⟩:∃ j,P-k=j+1:=⟨P-k-1,by omega⟩
 rw [hj,show P-(k+1)=j by omega,Fu]
def Ga:SC:=(.seq (.reg [⟨some 1,none,.boxv 47 1 (.t 0)⟩,⟨some 2,none,.mv (.c (.bool false))⟩]) (.seq (.reg [⟨some 3,none,.load true 1 (.t 1)⟩,⟨some 4,none,.call 25 [(.t 3)]⟩,⟨some 5,none,.un .not (.t 4)⟩,⟨some 2,none,.mv (.t 5)⟩]) .ret))
theorem KN:Ad Tryz.prog 24=some ⟨6,Ga,[(.tmp 2)]⟩:=by kernel_rfl
theorem Gb:modes 24=⟨[],.asis,none,false⟩:=by unfold modes; rfl
theorem KO:GQ Tryz.prog 24=true:=by kernel_rfl
def Gc:SC:=(.seq (.reg [⟨some 2,none,.boxv 47 1 (.t 0)⟩,⟨some 3,none,.mv (.c (.bool false))⟩]) (.seq (.reg [⟨some 8,none,.load true 2 (.t 1)⟩,⟨some 9,none,.load true 1 (.t 2)⟩,⟨some 10,none,.call 28 [(.t 8),(.t 9)]⟩,⟨some 7,none,.mv (.t 10)⟩,⟨some 11,none,.ext (.t 7) 0⟩,⟨some 12,none,.ext (.t 7) 1⟩,⟨some 13,none,.ext (.t 7) 2⟩,⟨some 4,none,.mv (.t 11)⟩,⟨some 5,none,.mv (.t 12)⟩,⟨some 6,none,.mv (.t 13)⟩]) (.seq (.reg [⟨some 14,none,.mv (.t 5)⟩,⟨some 3,none,.mv (.t 14)⟩]) .ret)))
theorem KP:Ad Tryz.prog 27=some ⟨15,Gc,[(.tmp 3)]⟩:=by kernel_rfl
theorem Gd:modes 27=⟨[],.asis,none,false⟩:=by unfold modes; rfl
theorem KQ:GQ Tryz.prog 27=true:=by kernel_rfl
def BP:SC:=(.seq (.reg [⟨some 4,none,.alloc 26 [(.int .i64 0),.nil]⟩,⟨some 5,none,.mv (.c (.bool false))⟩,⟨some 6,none,.mv (.c (.bool false))⟩]) (.seq (.reg [⟨some 15,none,.mv (.t 0)⟩,⟨some 16,none,.call 21 [(.t 15)]⟩,⟨some 14,none,.mv (.t 16)⟩,⟨some 17,none,.ext (.t 14) 0⟩,⟨some 18,none,.ext (.t 14) 1⟩,⟨some 7,none,.mv (.t 17)⟩,⟨some 8,none,.mv (.t 18)⟩]) (.seq (.reg [⟨some 20,none,.mv (.t 7)⟩,⟨some 21,none,.mv (.t 1)⟩,⟨some 22,none,.call 22 [(.t 20),(.t 21)]⟩,⟨some 19,none,.mv (.t 22)⟩,⟨some 23,none,.ext (.t 19) 0⟩,⟨some 24,none,.ext (.t 19) 1⟩,⟨some 9,none,.mv (.t 23)⟩,⟨some 10,none,.mv (.t 24)⟩]) (.seq (.seq (.reg [⟨some 25,none,.mv (.t 8)⟩,⟨some 26,none,.un .not (.t 25)⟩,⟨some 27,none,.mv (.t 26)⟩,⟨(some 28),(some (27,false)),(.mv (.t 10))⟩,⟨(some 29),(some (27,false)),(.un .not (.t 28))⟩,⟨some 30,none,.pick (.t 27) (.c (.bool true)) (.t 29)⟩,⟨some 31,none,.mv (.t 30)⟩,⟨(some 32),(some (31,false)),(.mv (.t 0))⟩,⟨(some 33),(some (31,false)),(.call 23 [(.t 32),(.c (.fn 24 []))])⟩,⟨some 34,none,.pick (.t 31) (.c (.bool true)) (.t 33)⟩]) (.cond (.t 34) (.seq (.reg [⟨some 35,none,.build [(.int .i64 0),.nil] []⟩,⟨none,none,(.store 2 (.t 4) (.t 35))⟩,⟨some 5,none,.mv (.c (.bool false))⟩,⟨some 6,none,.mv (.c (.bool false))⟩]) .ret) .skip)) (.seq (.reg [⟨some 36,none,.mv (.t 1)⟩,⟨some 37,none,.mv (.t 7)⟩,⟨some 38,none,.build [(.int .i64 0),.nil] [(0,(1,(.t 36))),(1,(1,(.t 37)))]⟩,⟨some 11,none,.alloc 26 [(.int .i64 0),.nil]⟩,⟨none,none,(.store 2 (.t 11) (.t 38))⟩]) (.seq (.seq (.reg [⟨some 39,none,.mv (.t 7)⟩,⟨some 40,none,.len false (.t 39)⟩,⟨some 41,none,.mv (.c (.int .i64 0))⟩]) (.block 0 (.loop [1,1,0,0,1,0,0,0,0,1,0,1,0,0,0,0,0,0,0,0,0,0,0,0,0,0,0,0,0,0,0,0,0,0,0,0,0,0,0,1,1,1,0,0,0,0,0,0,0,0,0,0,0,0,0,0,0,0,0,0,0,0,0,0,0,0,0,0,0] (.seq (.reg [⟨some 42,none,.bin .lss false (.t 41) (.t 40)⟩]) (.seq (.cond (.t 42) .skip (.exit 0)) (.seq (.block 1 (.seq (.reg [⟨some 43,none,.mv (.t 41)⟩,⟨some 44,none,.iaddr 4 (.t 39) (.t 41)⟩,⟨some 45,none,.load true 4 (.t 44)⟩,⟨(some 13),none,(.alloc 58 [(.str ⟨#[]⟩),(.int .i64 0),(.bool false),.nil])⟩,⟨some 12,none,.mv (.t 43)⟩,⟨none,none,(.store 4 (.t 13) (.t 45))⟩]) (.dreg [[],[0],[],[],[],[4],[3,5,4],[6,3,5,4],[1,0,2,3,4,5,6,7],[8,1,0,2,3,4,5,6,7],[9,8,1,0,2,3,4,5,6,7]] [⟨some 46,none,.faddr 1 (.t 11)⟩,⟨some 47,none,.load false 1 (.t 46)⟩,⟨some 48,none,.mv (.t 12)⟩,⟨some 49,none,.mv (.t 1)⟩,⟨some 50,none,.faddr 1 (.t 13)⟩,⟨some 51,none,.load false 1 (.t 50)⟩,⟨some 52,none,.call 26 [(.t 49),(.t 51)]⟩,⟨some 53,none,.mkslice 3 1 8 [(.int .i64 0)] (.t 52)⟩,⟨some 54,none,.iaddr 4 (.t 47) (.t 48)⟩,⟨some 55,none,.faddr 3 (.t 54)⟩,⟨none,none,(.store 1 (.t 55) (.t 53))⟩]))) (.reg [⟨some 56,none,.bin .add false (.t 41) (.c (.int .i64 1))⟩,⟨some 41,none,.mv (.t 56)⟩]))))))) (.seq (.seq (.reg [⟨some 57,none,.mv (.t 9)⟩,⟨some 58,none,.mv (.c (.int .i64 0))⟩]) (.block 2 (.loop [1,0,0,0,1,0,0,0,0,0,0,1,0,0,0,0,0,0,0,0,0,0,0,0,0,0,0,0,0,0,0,0,0,0,0,0,0,0,0,0,0,0,0,0,0,0,0,0,0,0,0,0,0,0,0,0,0,1,1,0,0,0,0,0,0,0,0,0,0] (.seq (.reg [⟨some 59,none,.bin .lss false (.t 58) (.t 57)⟩]) (.seq (.cond (.t 59) .skip (.exit 2)) (.seq (.block 3 (.seq (.seq (.reg [⟨some 60,none,.mv (.t 0)⟩,⟨some 61,none,.mkfn 27 [(.t 11)]⟩,⟨some 62,none,.call 23 [(.t 60),(.t 61)]⟩,⟨some 63,none,.un .not (.t 62)⟩]) (.cond (.t 63) (.seq (.reg [⟨some 64,none,.load true 2 (.t 11)⟩,⟨none,none,(.store 2 (.t 4) (.t 64))⟩,⟨some 5,none,.mv (.c (.bool true))⟩,⟨some 6,none,.mv (.c (.bool true))⟩]) .ret) .skip)) (.reg [⟨some 65,none,.load true 2 (.t 11)⟩,⟨some 66,none,.call 29 [(.t 65)]⟩]))) (.reg [⟨some 67,none,.bin .add false (.t 58) (.c (.int .i64 1))⟩,⟨some 58,none,.mv (.t 67)⟩]))))))) (.seq (.reg [⟨some 68,none,.build [(.int .i64 0),.nil] []⟩,⟨none,none,(.store 2 (.t 4) (.t 68))⟩,⟨some 5,none,.mv (.c (.bool false))⟩,⟨some 6,none,.mv (.c (.bool true))⟩]) .ret))))))))
theorem Cn:Ad Tryz.prog 7=some ⟨69,BP,[(.cell 4 true 2),(.tmp 5),(.tmp 6)]⟩:=by kernel_rfl
theorem AW:modes 7=⟨[],.tr [none,some (58,4),none,none],none,false⟩:=by unfold modes; rfl
theorem Qde (c:Cl) (hc:c.ok=true):E 24 [c.sv] []=some (.bool (!c.narrow),[]):=by
 have h1:=Vo c hc
 have hsv:c.sv=.agg [.arr (c.lits.map Lt.d)]:=rfl
 rw [hsv] at h1
 rw [hsv]
 refine Ab KN Gb (of_decide_eq_true rfl) ?_
 simp (disch:=omega) only [Ga,go_sem,Aa,h1,If]
theorem Qdf (m:Ip) (hm:m.ok=true) (ht:m.tame) (c:Cl) (hc:c.ok=true) (hn:c.narrow=true):E 27 [c.sv,.ptr 0 0] [.box 26 [.int .i64 m.size,.ref 1],.row 58 4 (m.tables.map Tl.o)]=some (.bool (N6 (C3 m c)),[.box 26 [.int .i64 m.size,.ref 1],.row 58 4 (m.tables.map Tl.o)]):=by
 have h1:=MC m hm ht c hc hn
 have hsv:c.sv=.agg [.arr (c.lits.map Lt.d)]:=rfl
 have hmv:m.sv=.agg [.int .i64 m.size,.arr (m.tables.map Tl.d)]:=rfl
 rw [hsv,hmv] at h1
 rw [hsv]
 refine Ab KP Gd (of_decide_eq_true rfl) ?_
 simp (disch:=omega) only [Gc,go_sem,Aa,h1,Tl.ful,Tl.ers,Ce]
theorem Vx (m:Ip) (p:Cl→Bool) (xs:List Cl) (hl:xs.length≤1099511627776) (hg:GQ Tryz.prog 27=true) (hm:modes 27=⟨[],.asis,none,false⟩) (hE:∀ x∈xs,E 27 [x.sv,.ptr 0 0] [.box 26 [.int .i64 m.size,.ref 1],.row 58 4 (m.tables.map Tl.o)]=some (.bool (p x),[.box 26 [.int .i64 m.size,.ref 1],.row 58 4 (m.tables.map Tl.o)])):E 48 [.arr (xs.map Cl.d),.fn 27 [.ptr 0 0]] [.box 26 [.int .i64 m.size,.ref 1],.row 58 4 (m.tables.map Tl.o)]=some (.int .i64 (Cy p xs 0),[.box 26 [.int .i64 m.size,.ref 1],.row 58 4 (m.tables.map Tl.o)]):=by
 refine Ab BD A8 (of_decide_eq_true rfl) ?_
 simp (disch:=omega) only [AR,go_sem,Aa]
 refine go_loop (α:=Int) (fun a=>⟨slots 19 0 [(0,.arr (xs.map Cl.d)),(1,.fn 27 [.ptr 0 0]),(7,.int .i64 xs.length),(8,.int .i64 a)],[.box 26 [.int .i64 m.size,.ref 1],.row 58 4 (m.tables.map Tl.o)]⟩) (fun a=>∃ k:Nat,a=k∧k≤(xs).length∧Cy p (xs.drop k) a=Cy p xs 0) (fun a=>(xs).length-(a).toNat) 0 ⟨0,rfl,zD _,by rw [zG]⟩ (by simp (disch:=omega) only [go_sem,Aa]) ?_
 rintro i ⟨k,hi,hk,hR⟩
 have hni:i.toNat=k:=by omega
 have hni1:(i+1).toNat=k+1:=by omega
 rcases zC k (xs).length with hlt | hge
 ·have hg':=get_at Cl.d hlt
  rw [Cl.d_eq] at hg'
  have hc:=hE xs[k] (zB hlt)
  rw [zA hlt,Cy] at hR
  cases hp:p xs[k] with
  | true =>
   rw [hp] at hc hR
   simp (disch:=omega) only [go_sem,Aa,hni,hg',hc,hg,hm]
   simpa using hR
  | false =>
   rw [hp] at hc hR
   simp (disch:=omega) only [go_sem,Aa,hni,hg',hc,hg,hm]
   exact ⟨i+1,⟨k+1,by omega,hlt,by simpa using hR⟩,by omega,by first | trivial | rfl⟩
 ·rw [zF hge,Cy] at hR
  simp (disch:=omega) only [go_sem,Aa,hni]
  exact hR
theorem PR (m:Ip) (p:Cl→Bool) (xs:List Cl) (hl:xs.length≤1099511627776) (hg:GQ Tryz.prog 27=true) (hm:modes 27=⟨[],.asis,none,false⟩) (hE:∀ x∈xs,E 27 [x.sv,.ptr 0 0] [.box 26 [.int .i64 m.size,.ref 1],.row 58 4 (m.tables.map Tl.o)]=some (.bool (p x),[.box 26 [.int .i64 m.size,.ref 1],.row 58 4 (m.tables.map Tl.o)])):E 23 [.arr (xs.map Cl.d),.fn 27 [.ptr 0 0]] [.box 26 [.int .i64 m.size,.ref 1],.row 58 4 (m.tables.map Tl.o)]=some (.bool (xs.any p),[.box 26 [.int .i64 m.size,.ref 1],.row 58 4 (m.tables.map Tl.o)]):=by
 have h:=Vx m p xs hl hg hm hE
 refine Ab Bx Ac (of_decide_eq_true rfl) ?_
 simp (disch:=omega) only [AJ,go_sem,Aa,h,A8]
 rw [Lq]
theorem XL {sz:Int} {ts:List Tl} (h:inI sz 1 3=false):Uc sz ts=none:=by unfold Uc; rw [h,Bool.and_false]; rfl
theorem Qb3 {sz:Int} {ts:List Tl} (ht:Dj ts=true) (h:inI sz 1 3=true):Uc sz ts=Ho sz ts 1:=by unfold Uc; rw [ht,h]; rfl
theorem BY:modes 29=⟨[true],.asis,some UW,false⟩:=by unfold modes; rfl
theorem XM (sz:Int) (h1:1≤sz) (h3:sz≤3) {ts:List Tl} (h:Dj ts=true) (n:Int) (hn:0≤n):E 29 [.agg [.int .i64 sz,.ref 0]] [.row 58 4 ((BE sz ts n).1.map Tl.o)]=some (.tup [],[.row 58 4 ((BE sz ts (n+1)).1.map Tl.o)]):=by
 obtain ⟨ha,hb⟩:=ME h1 h3 h n
 rw [OI (g:=UW) (congrArg FM.ext BY),QaF sz _ (Qb1 sz h1 h3 _ (yT ha (by omega)) hb)]
 obtain ⟨c,h4,_⟩:=Wj h1 ts hn
 rw [h4]
theorem Ue (cs:List Cl) (hl:cs.length≤1048576) (hx:∀ x∈cs,x.tame) (sz:Int):E 7 [.arr (cs.map Cl.d),.int .i64 sz] []=some (.tup [.agg [.int .i64 (fmI (fmT cs sz)).size,.ref 0],.bool (fmF (fmT cs sz)),.bool (fmT cs sz).isSome],[.tree ((fmI (fmT cs sz)).tables.map Tl.o) []]):=by
 have h1:=LD cs hl hx
 cases hs:Ii cs with
 | none =>
  rw [hs] at h1
  have h2:E 22 [.arr [],.int .i64 sz] []=some (Hz (Uc sz []),[]):=E2 [] sz (by simp)
  have ef:fmT cs sz=none:=by unfold fmT; rw [hs]
  rw [ef]
  show E _ _ _=some (SV.tup [.agg [.int .i64 0,.ref 0],.bool false,.bool false],[Ob.tree [] []])
  cases hc:Uc sz [] with
  | none =>
   rw [hc] at h2
   unfold Hz at h2
   dsimp only at h2
   refine Ab Cn AW (of_decide_eq_true rfl) ?_
   simp (disch:=omega) only [BP,go_sem,Aa,order,toTree,Tl.ful,Tl.ers,zN,zO,zE,zH,zK,AS,Au,Ac,h1,h2]
   try first | rfl | exact ⟨rfl,rfl⟩
  | some k =>
   rw [hc] at h2
   unfold Hz at h2
   dsimp only at h2
   refine Ab Cn AW (of_decide_eq_true rfl) ?_
   simp (disch:=omega) only [BP,go_sem,Aa,order,toTree,Tl.ful,Tl.ers,zN,zO,zE,zH,zK,AS,Au,Ac,h1,h2]
   try first | rfl | exact ⟨rfl,rfl⟩
 | some ts =>
  rw [hs] at h1
  obtain ⟨htb,hts0,hsy⟩:=Pu hs
  obtain ⟨hcl,hok,htl,_,_⟩:=Gy hs
  have h2:=E2 ts sz (by omega)
  cases hz:inI sz 1 3 with
  | false =>
   have ef:fmT cs sz=none:=by unfold fmT; rw [hs]; dsimp only; rw [hz]; rfl
   rw [ef]
   show E _ _ _=some (SV.tup [.agg [.int .i64 0,.ref 0],.bool false,.bool false],[Ob.tree [] []])
   rw [XL hz] at h2
   unfold Hz at h2
   dsimp only at h2
   refine Ab Cn AW (of_decide_eq_true rfl) ?_
   simp (disch:=omega) only [BP,go_sem,Aa,order,toTree,Tl.ful,Tl.ers,zN,zO,zE,zH,zK,AS,Au,Ac,h1,h2]
   try first | rfl | exact ⟨rfl,rfl⟩
  | true =>
  rw [Qb3 htb hz] at h2
  obtain ⟨s1,s3⟩:=Eu.1 hz
  cases hc:Ho sz ts 1 with
  | none =>
   have ef:fmT cs sz=none:=by unfold fmT; rw [hs]; dsimp only; rw [hz,hc]; rfl
   rw [ef]
   show E _ _ _=some (SV.tup [.agg [.int .i64 0,.ref 0],.bool false,.bool false],[Ob.tree [] []])
   rw [hc] at h2
   unfold Hz at h2
   dsimp only at h2
   refine Ab Cn AW (of_decide_eq_true rfl) ?_
   simp (disch:=omega) only [BP,go_sem,Aa,order,toTree,Tl.ful,Tl.ers,zN,zO,zE,zH,zK,AS,Au,Ac,h1,h2]
   try first | rfl | exact ⟨rfl,rfl⟩
  | some K =>
  rw [hc] at h2
  unfold Hz at h2
  dsimp only at h2
  obtain ⟨K1,K5⟩:=RJ s1 ts (by omega) hc
  have h3:=Hx 24 (fun c=>!c.narrow) cs (by omega) KO (by rw [Gb]) fun x h=>Qde x (hok x h)
  cases hna:cs.any (fun c=>!c.narrow) with
  | true =>
   have ef:fmT cs sz=none:=by unfold fmT; rw [hs]; dsimp only; rw [hz,hc,hna]; rfl
   rw [ef]
   show E _ _ _=some (SV.tup [.agg [.int .i64 0,.ref 0],.bool false,.bool false],[Ob.tree [] []])
   rw [hna] at h3
   refine Ab Cn AW (of_decide_eq_true rfl) ?_
   simp (disch:=omega) only [BP,go_sem,Aa,order,toTree,Tl.ful,Tl.ers,zN,zO,zE,zH,zK,AS,Au,Ac,h1,h2,h3]
   try first | rfl | exact ⟨rfl,rfl⟩
  | false =>
  rw [hna] at h3
  have hnar:∀ c∈cs,c.narrow=true:=fun c hc=>by
   have:=List.any_eq_false.1 hna c hc
   simpa using this
  have ef:fmT cs sz=some (Fu sz ts cs K.toNat 0):=by unfold fmT; rw [hs]; dsimp only; rw [hz,hc,hna]; rfl
  rw [ef]
  refine Ab Cn AW (of_decide_eq_true rfl) ?_
  simp (disch:=omega) only [BP,go_sem,Aa,order,toTree,Tl.ful,Tl.ers,zN,zO,zE,zH,zK,AS,Au,Ac,h1,h2,h3]
  refine go_loop (α:=Int) (fun i=>⟨slots 69 0 [(0,.arr (cs.map Cl.d)),(1,.int .i64 sz),(4,.ptr 0 0),(9,.int .i64 K),(11,.ptr 1 0),(39,.ref 2),(40,.int .i64 ts.length),(41,.int .i64 i)],[.box 26 [.int .i64 0,.nil],.box 26 [.int .i64 sz,.ref 2],.row 58 4 ((NA sz ts i.toNat).map Tl.o)]⟩) (fun i=>∃ k:Nat,i=k∧k≤ts.length) (fun i=>ts.length-i.toNat) 0 ⟨0,rfl,zD _⟩ (by simp (disch:=omega) only [go_sem,Aa,zU,XK]) ?_
  rintro i ⟨k,hi,hk⟩
  have hni:i.toNat=k:=by omega
  have hni1:(i+1).toNat=k+1:=by omega
  rcases zC k ts.length with hlt | hge
  ·have hg:=Qb2 sz hlt (hts0 _ (zB hlt))
   have hset:=ZQ sz hlt
   have hel:=ZP sz ts k
   obtain ⟨a0,a3⟩:=Dt htb (zB hlt)
   have hp:=RU sz ts[k].arity s1 s3 a0 (by omega)
   have hps:=DJ s1 s3 (k:=ts[k].arity.toNat) (by omega)
   obtain ⟨P,hP⟩:∃ P:Nat,P=(pw sz ts[k].arity.toNat).toNat:=⟨_,rfl⟩
   have hPi:pw sz ts[k].arity.toNat=(P:Int):=by omega
   rw [←hP] at hset
   rw [hPi] at hp
   have hP5:P≤531441:=by omega
   obtain ⟨nm,hnm⟩:∃ nm,nm=(ts[k]).name:=⟨_,rfl⟩
   obtain ⟨ar,har⟩:∃ ar,ar=(ts[k]).arity:=⟨_,rfl⟩
   obtain ⟨pr,hpr⟩:∃ pr,pr=(ts[k]).pred:=⟨_,rfl⟩
   rw [←hnm,← har,← hpr] at hg hset
   rw [←har] at hp
   clear hP hPi hps hnm har hpr
   simp (disch:=omega) only [go_sem,Aa,hni,hg,hp,hel,F1,zY,yO]
   refine ⟨i+1,⟨k+1,by omega,hlt⟩,by omega,?_⟩
   simp (disch:=omega) only [go_sem,Aa,hni1,hset]
  ·obtain rfl:k=ts.length:=by omega
   have hmz:=ZO sz ts
   have hz0:(BE sz ts 0).1=ts.map (Tl.zrs sz):=by rw [QK s1]
   simp (disch:=omega) only [go_sem,Aa,hni,hmz]
   refine go_loop (α:=Int) (fun i=>⟨slots 69 0 [(0,.arr (cs.map Cl.d)),(4,.ptr 0 0),(11,.ptr 1 0),(57,.int .i64 K),(58,.int .i64 i)],[.box 26 [.int .i64 0,.nil],.box 26 [.int .i64 sz,.ref 2],.row 58 4 (((BE sz ts i).1).map Tl.o)]⟩) (fun i=>∃ k:Nat,i=k∧k≤K.toNat∧Fu sz ts cs (K.toNat-k) k=Fu sz ts cs K.toNat 0) (fun i=>K.toNat-i.toNat) 0 ⟨0,rfl,zD _,by rw [yC]; rfl⟩ (by simp (disch:=omega) only [go_sem,Aa,hz0,hni,hmz]) ?_
   clear hi hni hni1 hk hge hmz hz0
   rintro i ⟨k,hi,hk,hR⟩
   rcases zC k K.toNat with hlt | hge
   ·have q1:dec (i<K)=true:=Ay (by omega)
    rw [Px hlt,← hi] at hR
    have hcf:E 23 [.arr (cs.map Cl.d),.fn 27 [.ptr 0 0]] [.box 26 [.int .i64 sz,.ref 1],.row 58 4 ((BE sz ts i).1.map Tl.o)]=some (.bool (XF (ipN sz ts i) cs),[.box 26 [.int .i64 sz,.ref 1],.row 58 4 ((BE sz ts i).1.map Tl.o)]):=PR (ipN sz ts i) (fun c=>N6 (C3 (ipN sz ts i) c)) cs (by omega) KQ Gd fun c hc=>Qdf _ (Se s1 s3 htb i) (Ud s1 s3 htb i) c (hok c hc) (hnar c hc)
    have hav:=XM sz s1 s3 htb i (by omega)
    cases hb:XF (ipN sz ts i) cs with
    | false =>
     rw [hb] at hcf hR
     rw [cond_false] at hR
     rw [←hR]
     simp (disch:=omega) only [go_sem,Aa,q1,hcf,hav,Tl.ful,Tl.ers,order,toTree,fmI,fmF,ipN,zH,zE,BY,Ac]
     try first | rfl | exact ⟨rfl,rfl⟩
    | true =>
     rw [hb] at hcf hR
     rw [cond_true] at hR
     simp (disch:=omega) only [go_sem,Aa,q1,hcf,hav,Tl.ful,Tl.ers,order,toTree,fmI,fmF,ipN,zH,zE,BY,Ac]
     refine ⟨i+1,⟨k+1,by omega,by omega,?_⟩,by omega,?_⟩
     ·rw [←hR,hi]; rfl
     ·first | trivial | rfl | exact ⟨rfl,rfl⟩
   ·obtain rfl:k=K.toNat:=by omega
    rw [zQ,Fu] at hR
    rw [←hR]
    have q1:dec (i<K)=false:=Aw (by omega)
    show _
    simp (disch:=omega) only [go_sem,Aa,q1,order,toTree,fmI,fmF,zK,zH,zE]
    try first | rfl | exact ⟨rfl,rfl⟩
theorem XN (sz:Int) {ts:List Tl} {j:Nat} (n:Int) (hj:j<ts.length):BE sz (ts.drop j) n=(⟨ts[j].name,ts[j].arity,ts[j].pred,(B8 (kinds sz ts[j]) (pw sz ts[j].arity.toNat).toNat (BE sz (ts.drop (j+1)) n).2).1⟩ :: (BE sz (ts.drop (j+1)) n).1,(B8 (kinds sz ts[j]) (pw sz ts[j].arity.toNat).toNat (BE sz (ts.drop (j+1)) n).2).2):=by
 rw [zA hj,BE]
theorem LL {r:Int} (hr:1≤r):∀ (k:Nat) {n:Int},0≤n→(B8 r k n).2≤n
 | 0,n,h=>Int.le_refl _
 | k+1,n,h=>by
  rw [B8]
  exact Int.le_trans (Int.ediv_le_self _ (D3 hr k h)) (LL hr k h)
theorem WC {sz:Int} (h:1≤sz):∀ (ts:List Tl) {n:Int},0≤n→(BE sz ts n).2≤n
 | [],n,hn=>Int.le_refl _
 | t :: ts,n,hn=>by
  rw [BE]
  exact Int.le_trans (LL (D4 h t) _ (Gv h ts hn)) (WC h ts hn)
theorem ZR (xs:List Tl):((xs.map Tl.o).all fun l=>l.length == 4)=true:=by
 rw [yA]
 intro l hl
 obtain ⟨t,_,rfl⟩:=List.mem_map.1 hl
 rw [Tl.o_eq]; rfl
theorem Rj (vs:List Int):((vs.map fun n=>[OT.int n]).all fun l=>l.length == 1)=true:=by
 rw [yA]
 intro l hl
 obtain ⟨t,_,rfl⟩:=List.mem_map.1 hl
 rfl
def H0:SC:=(.seq (.reg [⟨some 6,none,.alloc 26 [(.int .i64 0),.nil]⟩]) (.seq (.reg [⟨some 12,none,.mv (.t 1)⟩,⟨some 13,none,.build [(.int .i64 0),.nil] [(0,(1,(.t 12)))]⟩,⟨some 7,none,.alloc 26 [(.int .i64 0),.nil]⟩,⟨none,none,(.store 2 (.t 7) (.t 13))⟩]) (.seq (.seq (.reg [⟨some 14,none,.mv (.t 0)⟩,⟨some 15,none,.len false (.t 14)⟩,⟨some 16,none,.bin .sub false (.t 15) (.c (.int .i64 1))⟩,⟨some 8,none,.mv (.t 16)⟩]) (.block 0 (.loop [1,1,1,0,0,0,1,1,1,0,0,0,0,0,0,0,0,0,0,0,0,0,0,0,0,0,0,0,0,0,0,0,0,0,0,0,0,0,0,0,0,0,0,0,0,0,0,0,0,0,0,0,0,0,0,0,0,0,0,0,0,0,0,0,0,0] (.seq (.seq (.reg [⟨some 17,none,.mv (.t 8)⟩,⟨some 18,none,.bin .geq false (.t 17) (.c (.int .i64 0))⟩]) (.cond (.t 18) .skip (.exit 0))) (.seq (.block 1 (.seq (.dreg [[],[],[0,1],[2,0,1],[3,2,0,1],[],[],[5,6],[7,5,6],[8,7,5,6],[],[],[10,11],[12,10,11],[13,12,10,11],[4,3,2,0,1,9,8,7,5,6,14,13,12,10,11],[],[16,15,4,3,2,0,1,9,8,7,5,6,14,13,12,10,11]] [⟨some 21,none,.mv (.t 0)⟩,⟨some 22,none,.mv (.t 8)⟩,⟨some 23,none,.iaddr 4 (.t 21) (.t 22)⟩,⟨some 24,none,.faddr 0 (.t 23)⟩,⟨some 25,none,.load false 1 (.t 24)⟩,⟨some 26,none,.mv (.t 0)⟩,⟨some 27,none,.mv (.t 8)⟩,⟨some 28,none,.iaddr 4 (.t 26) (.t 27)⟩,⟨some 29,none,.faddr 1 (.t 28)⟩,⟨some 30,none,.load false 1 (.t 29)⟩,⟨some 31,none,.mv (.t 0)⟩,⟨some 32,none,.mv (.t 8)⟩,⟨some 33,none,.iaddr 4 (.t 31) (.t 32)⟩,⟨some 34,none,.faddr 2 (.t 33)⟩,⟨some 35,none,.load false 1 (.t 34)⟩,⟨(some 36),none,(.build [(.str ⟨#[]⟩),(.int .i64 0),(.bool false),.nil] [(0,(1,(.t 25))),(1,(1,(.t 30))),(2,(1,(.t 35)))])⟩,⟨(some 9),none,(.alloc 58 [(.str ⟨#[]⟩),(.int .i64 0),(.bool false),.nil])⟩,⟨none,none,(.store 4 (.t 9) (.t 36))⟩]) (.seq (.reg [⟨some 37,none,.mv (.t 1)⟩,⟨some 10,none,.mv (.t 37)⟩]) (.seq (.seq (.reg [⟨some 38,none,.faddr 2 (.t 9)⟩,⟨some 39,none,.load false 1 (.t 38)⟩]) (.cond (.t 39) (.reg [⟨some 10,none,.mv (.c (.int .i64 2))⟩]) .skip)) (.seq (.seq (.reg [⟨some 11,none,.mv (.c (.int .i64 0))⟩]) (.block 2 (.loop [1,1,1,0,0,0,1,1,1,1,1,1,0,0,0,0,0,0,0,0,0,0,0,0,0,0,0,0,0,0,0,0,0,0,0,0,0,0,0,0,0,0,0,0,0,0,0,0,0,0,0,0,0,0,0,0,0,0,0,0,0,0,0,0,0,0] (.seq (.seq (.reg [⟨some 40,none,.mv (.t 11)⟩,⟨some 41,none,.mv (.t 1)⟩,⟨some 42,none,.faddr 1 (.t 9)⟩,⟨some 43,none,.load false 1 (.t 42)⟩,⟨some 44,none,.call 38 [(.t 41),(.t 43)]⟩,⟨some 45,none,.bin .lss false (.t 40) (.t 44)⟩]) (.cond (.t 45) .skip (.exit 2))) (.seq (.block 3 (.seq (.dreg [[],[],[0,1],[2,0,1],[],[4],[3,2,0,1,5,4],[0,1,2,3,4,5,6],[7,0,1,2,3,4,5,6]] [⟨some 48,none,.mv (.t 2)⟩,⟨some 49,none,.mv (.t 10)⟩,⟨some 50,none,.bin .rem false (.t 48) (.t 49)⟩,⟨some 51,none,.mkrow 3 1 [(.int .i64 0)] 1 [(0,(.t 50))]⟩,⟨some 52,none,.faddr 3 (.t 9)⟩,⟨some 53,none,.load false 1 (.t 52)⟩,⟨some 54,none,.append 3 1 8 [(.int .i64 0)] (.t 51) (.t 53)⟩,⟨some 55,none,.faddr 3 (.t 9)⟩,⟨none,none,(.store 1 (.t 55) (.t 54))⟩]) (.reg [⟨some 56,none,.mv (.t 2)⟩,⟨some 57,none,.mv (.t 10)⟩,⟨some 58,none,.bin .quo false (.t 56) (.t 57)⟩,⟨some 2,none,.mv (.t 58)⟩]))) (.reg [⟨some 46,none,.mv (.t 11)⟩,⟨some 47,none,.bin .add false (.t 46) (.c (.int .i64 1))⟩,⟨some 11,none,.mv (.t 47)⟩])))))) (.reg [⟨some 59,none,.load true 4 (.t 9)⟩,⟨(some 60),none,(.mkrow 58 4 [(.str ⟨#[]⟩),(.int .i64 0),(.bool false),.nil] 1 [(0,(.t 59))])⟩,⟨some 61,none,.faddr 1 (.t 7)⟩,⟨some 62,none,.load false 1 (.t 61)⟩,⟨(some 63),none,(.append 58 4 56 [(.str ⟨#[]⟩),(.int .i64 0),(.bool false),.nil] (.t 60) (.t 62))⟩,⟨some 64,none,.faddr 1 (.t 7)⟩,⟨none,none,(.store 1 (.t 64) (.t 63))⟩])))))) (.reg [⟨some 19,none,.mv (.t 8)⟩,⟨some 20,none,.bin .sub false (.t 19) (.c (.int .i64 1))⟩,⟨some 8,none,.mv (.t 20)⟩])))))) (.seq (.reg [⟨some 65,none,.load true 2 (.t 7)⟩,⟨none,none,(.store 2 (.t 6) (.t 65))⟩]) .ret))))
theorem MG:Ad Tryz.prog 18=some ⟨66,H0,[(.cell 6 true 2)]⟩:=by kernel_rfl
theorem EO:modes 18=⟨[],.frz,none,false⟩:=by unfold modes; rfl
theorem Uf (ts:List Tl) (sz n:Int) (hl:ts.length≤1048576) (s1:1≤sz) (s3:sz≤3) (hta:∀ t∈ts,0≤t.arity∧t.arity≤3) (hn:0≤n∧n≤5000):E 18 [.arr (ts.map Tl.d),.int .i64 sz,.int .i64 n] []=some (.agg [.int .i64 sz,.arr ((BE sz ts n).1.map Tl.d)],[]):=by
 have hj10:((0:Int)+1=0)=False:=by simp
 have h10:((1:Int)=0)=False:=by simp
 refine Ab MG EO (of_decide_eq_true rfl) ?_
 simp (maxSteps:=2000000) (disch:=omega) only [H0,go_sem,Aa]
 refine go_loop (α:=Int × Int × List Tl) (fun a=>⟨slots 66 0 [(0,.arr (ts.map Tl.d)),(1,.int .i64 sz),(2,.int .i64 a.2.1),(6,.ptr 0 0),(7,.ptr 1 0),(8,.int .i64 ((ts.length:Int)-1-a.1))],(if a.1=0 then [.box 26 [.int .i64 0,.nil],.box 26 [.int .i64 sz,.nil]] else [.box 26 [.int .i64 0,.nil],.box 26 [.int .i64 sz,.ref 2],.row 58 4 (a.2.2.map Tl.o)])⟩) (fun a=>∃ k:Nat,a.1=k∧k≤ts.length∧a.2.2=(BE sz (ts.drop (ts.length-k)) n).1∧a.2.1=(BE sz (ts.drop (ts.length-k)) n).2) (fun a=>ts.length-a.1.toNat) (0,n,[]) ⟨0,rfl,zD _,by simp [BE],by simp [BE]⟩ (by simp (maxSteps:=2000000) (disch:=omega) only [go_sem,Aa,eq_self,if_true,Int.sub_zero]) ?_
 rintro ⟨i,n1,acc⟩ ⟨k,hi,hk,hacc,hrest⟩
 dsimp only at hi hacc hrest
 rcases zC k ts.length with hlt | hge
 ·obtain ⟨j,hjk⟩:∃ j,j+1+k=ts.length:=⟨ts.length-1-k,by omega⟩
  have hj:j<ts.length:=by omega
  have hji:(ts.length:Int)-1-i=(j:Int):=by omega
  rw [show ts.length-k=j+1 by omega] at hacc hrest
  have hn1:0≤n1∧n1≤5000:=by
   have h1:=Gv s1 (ts.drop (j+1)) hn.1
   have h2:=WC s1 (ts.drop (j+1)) hn.1
   omega
  have hnum:=XN sz n hj
  have hal:acc.length≤1048576:=by rw [hacc,FT,List.length_drop]; omega
  have h4:=ZR acc
  rw [←hrest] at hnum
  have hg:=get_at Tl.d hj
  obtain ⟨a0,a3⟩:=hta _ (zB hj)
  have hkin:kinds sz ts[j]=(if ts[j].pred=true then 2 else sz):=rfl
  rw [Tl.d_eq] at hg
  obtain ⟨nm,hnm⟩:∃ nm,nm=(ts[j]).name:=⟨_,rfl⟩
  obtain ⟨ar,har⟩:∃ ar,ar=(ts[j]).arity:=⟨_,rfl⟩
  obtain ⟨pr,hpr⟩:∃ pr,pr=(ts[j]).pred:=⟨_,rfl⟩
  obtain ⟨r,hr⟩:∃ r,r=kinds sz ts[j]:=⟨_,rfl⟩
  have hr1:1≤r:=by rw [hr]; exact D4 s1 _
  have hr3:r≤3:=by rw [hr]; unfold kinds; split <;> omega
  rw [←hnm,← har,← hpr] at hg
  rw [←har] at a0 a3
  rw [←hr,← hpr] at hkin
  rw [←hnm,← har,← hpr,← hr] at hnum
  have hpw:=KH sz ar s1 s3 a0 (by omega)
  have hps:=DJ s1 s3 (k:=ar.toNat) (by omega)
  obtain ⟨P,hP⟩:∃ P:Nat,P=(pw sz ar.toNat).toNat:=⟨_,rfl⟩
  have hPi:pw sz ar.toNat=(P:Int):=by omega
  have hP1:1≤P:=by omega
  rw [hPi] at hpw
  rw [←hP] at hnum
  have q1:dec ((0:Int)≤(j:Int))=true:=Ay (by omega)
  have hi1:(i+1=0)=False:=by simp; omega
  rcases zX k with hk0 | hk0
  ·subst hk0
   obtain rfl:i=0:=hi
   have ha0:acc=[]:=by rw [hacc,show ts.drop (j+1)=[] from zF (by omega)]; rfl
   subst ha0
   cases hb:pr
   all_goals
    rw [hb] at hkin
    simp only [if_true,if_false,yK] at hkin
    have hkk:=hkin.symm
    simp (maxSteps:=2000000) (disch:=omega) only [go_sem,Aa,q1,hg,hji,eq_self,if_true,yO,hb]
    refine go_loop (α:=Int × Int × List Int) (fun b=>⟨slots 66 0 [(0,.arr (ts.map Tl.d)),(1,.int .i64 sz),(2,.int .i64 b.2.1),(6,.ptr 0 0),(7,.ptr 1 0),(8,.int .i64 (j:Int)),(9,.ptr 2 0),(10,.int .i64 r),(11,.int .i64 b.1)],(if b.1=0 then [.box 26 [.int .i64 0,.nil],.box 26 [.int .i64 sz,.nil],.box 58 [.str nm,.int .i64 ar,.bool pr,.nil]] else [.box 26 [.int .i64 0,.nil],.box 26 [.int .i64 sz,.nil],.box 58 [.str nm,.int .i64 ar,.bool pr,.ref 3],.row 3 1 (b.2.2.map fun n=>[OT.int n])])⟩) (fun b=>∃ u:Nat,b.1=u∧u≤P∧b.2.2=(B8 r u n1).1∧b.2.1=(B8 r u n1).2) (fun b=>P-b.1.toNat) (0,n1,[]) ⟨0,rfl,zD _,rfl,rfl⟩ (by simp (maxSteps:=2000000) (disch:=omega) only [go_sem,Aa,eq_self,if_true,hkin,hb]) ?_
    rintro ⟨q,m,vs⟩ ⟨u,hq,hu,hvs,hm⟩
    dsimp only at hq hvs hm
    have hm0:0≤m:=by rw [hm]; exact D3 hr1 u hn1.1
    have hm1:m≤n1:=by rw [hm]; exact LL hr1 u hn1.1
    have hvl:vs.length=u:=by rw [hvs,JA]
    have hdv:=tdiv_le hm0 hr1
    rcases zC u P with hlt2 | hge2
    ·have q2:dec (q<(P:Int))=true:=Ay (by omega)
     have hr0:dec (r=0)=false:=Aw (by omega)
     have hq1:(q+1=0)=False:=by simp; omega
     have hfd:(B8 r (u+1) n1).1=m.tmod r :: vs:=by rw [B8,← hm,← hvs,yL hm0]
     have hfr:(B8 r (u+1) n1).2=m.tdiv r:=by rw [B8,← hm,yM hm0]
     have hcons:[OT.int (m.tmod r)] :: (vs.map fun n=>[OT.int n])=(m.tmod r :: vs).map fun n=>[OT.int n]:=rfl
     rcases zX u with hu0 | hu0
     ·subst hu0
      obtain rfl:q=0:=hq
      have hv0:vs=[]:=zT hvl
      subst hv0
      simp (maxSteps:=2000000) (disch:=omega) only [go_sem,Aa,q2,hr0,hpw,eq_self,if_true,hcons,zK,AL]
      refine ⟨(0+1,m.tdiv r,[m.tmod r]),⟨1,rfl,by omega,hfd.symm,hfr.symm⟩,by dsimp only; omega,?_⟩
      simp (maxSteps:=2000000) (disch:=omega) only [go_sem,Aa,h10,hj10,if_false,hcons,zZ,zK]
     ·have hq0:(q=0)=False:=by simp; omega
      have h5:=Rj vs
      simp (maxSteps:=2000000) (disch:=omega) only [go_sem,Aa,q2,hr0,hpw,hq0,if_false,h5,AL]
      refine ⟨(q+1,m.tdiv r,m.tmod r :: vs),⟨u+1,by dsimp only; omega,by omega,hfd.symm,hfr.symm⟩,by dsimp only; omega,?_⟩
      simp (maxSteps:=2000000) (disch:=omega) only [go_sem,Aa,hq1,if_false,zZ]
    ·obtain rfl:u=P:=by omega
     have q2:dec (q<(u:Int))=false:=Aw (by omega)
     have hq0:(q=0)=False:=by simp; omega
     have hrow:[OT.str nm,OT.int ar,OT.bool pr,OT.ow (vs.map fun n=>[OT.int n])] :: (([]:List Tl).map Tl.o)=((⟨nm,ar,pr,vs⟩:Tl) :: ([]:List Tl)).map Tl.o:=by rw [zZ,Tl.o_eq]
     simp (maxSteps:=2000000) (disch:=omega) only [go_sem,Aa,q2,hpw,hq0,if_false,h4,AL]
     refine ⟨(0+1,m,(⟨nm,ar,pr,vs⟩:Tl) :: ([]:List Tl)),⟨0+1,by dsimp only; omega,by omega,?_,?_⟩,by dsimp only; omega,?_⟩
     ·dsimp only
      rw [show ts.length-(0+1)=j by omega,hnum,hvs]
      rw [←hacc]
     ·dsimp only
      rw [show ts.length-(0+1)=j by omega,hnum,hm]
     ·have e2:(ts.length:Int)-1-(0+1)=(j:Int)-1:=by omega
      rw [e2]
      simp (maxSteps:=2000000) (disch:=omega) only [go_sem,Aa,h10,hj10,if_false,zZ,zK,Tl.o_eq]
  ·have hi0:(i=0)=False:=by simp; omega
   cases hb:pr
   all_goals
    rw [hb] at hkin
    simp only [if_true,if_false,yK] at hkin
    have hkk:=hkin.symm
    simp (maxSteps:=2000000) (disch:=omega) only [go_sem,Aa,q1,hg,hji,hi0,if_false,yO,hb]
    refine go_loop (α:=Int × Int × List Int) (fun b=>⟨slots 66 0 [(0,.arr (ts.map Tl.d)),(1,.int .i64 sz),(2,.int .i64 b.2.1),(6,.ptr 0 0),(7,.ptr 1 0),(8,.int .i64 (j:Int)),(9,.ptr 2 0),(10,.int .i64 r),(11,.int .i64 b.1)],(if b.1=0 then [.box 26 [.int .i64 0,.nil],.box 26 [.int .i64 sz,.ref 3],.box 58 [.str nm,.int .i64 ar,.bool pr,.nil],.row 58 4 (acc.map Tl.o)] else [.box 26 [.int .i64 0,.nil],.box 26 [.int .i64 sz,.ref 3],.box 58 [.str nm,.int .i64 ar,.bool pr,.ref 4],.row 58 4 (acc.map Tl.o),.row 3 1 (b.2.2.map fun n=>[OT.int n])])⟩) (fun b=>∃ u:Nat,b.1=u∧u≤P∧b.2.2=(B8 r u n1).1∧b.2.1=(B8 r u n1).2) (fun b=>P-b.1.toNat) (0,n1,[]) ⟨0,rfl,zD _,rfl,rfl⟩ (by simp (maxSteps:=2000000) (disch:=omega) only [go_sem,Aa,eq_self,if_true,hkin,hb]) ?_
    rintro ⟨q,m,vs⟩ ⟨u,hq,hu,hvs,hm⟩
    dsimp only at hq hvs hm
    have hm0:0≤m:=by rw [hm]; exact D3 hr1 u hn1.1
    have hm1:m≤n1:=by rw [hm]; exact LL hr1 u hn1.1
    have hvl:vs.length=u:=by rw [hvs,JA]
    have hdv:=tdiv_le hm0 hr1
    rcases zC u P with hlt2 | hge2
    ·have q2:dec (q<(P:Int))=true:=Ay (by omega)
     have hr0:dec (r=0)=false:=Aw (by omega)
     have hq1:(q+1=0)=False:=by simp; omega
     have hfd:(B8 r (u+1) n1).1=m.tmod r :: vs:=by rw [B8,← hm,← hvs,yL hm0]
     have hfr:(B8 r (u+1) n1).2=m.tdiv r:=by rw [B8,← hm,yM hm0]
     have hcons:[OT.int (m.tmod r)] :: (vs.map fun n=>[OT.int n])=(m.tmod r :: vs).map fun n=>[OT.int n]:=rfl
     rcases zX u with hu0 | hu0
     ·subst hu0
      obtain rfl:q=0:=hq
      have hv0:vs=[]:=zT hvl
      subst hv0
      simp (maxSteps:=2000000) (disch:=omega) only [go_sem,Aa,q2,hr0,hpw,eq_self,if_true,hcons,zK,AL]
      refine ⟨(0+1,m.tdiv r,[m.tmod r]),⟨1,rfl,by omega,hfd.symm,hfr.symm⟩,by dsimp only; omega,?_⟩
      simp (maxSteps:=2000000) (disch:=omega) only [go_sem,Aa,h10,hj10,if_false,hcons,zZ,zK]
     ·have hq0:(q=0)=False:=by simp; omega
      have h5:=Rj vs
      simp (maxSteps:=2000000) (disch:=omega) only [go_sem,Aa,q2,hr0,hpw,hq0,if_false,h5,AL]
      refine ⟨(q+1,m.tdiv r,m.tmod r :: vs),⟨u+1,by dsimp only; omega,by omega,hfd.symm,hfr.symm⟩,by dsimp only; omega,?_⟩
      simp (maxSteps:=2000000) (disch:=omega) only [go_sem,Aa,hq1,if_false,zZ]
    ·obtain rfl:u=P:=by omega
     have q2:dec (q<(u:Int))=false:=Aw (by omega)
     have hq0:(q=0)=False:=by simp; omega
     have hrow:[OT.str nm,OT.int ar,OT.bool pr,OT.ow (vs.map fun n=>[OT.int n])] :: (acc.map Tl.o)=((⟨nm,ar,pr,vs⟩:Tl) :: acc).map Tl.o:=by rw [zZ,Tl.o_eq]
     simp (maxSteps:=2000000) (disch:=omega) only [go_sem,Aa,q2,hpw,hq0,if_false,h4,AL]
     refine ⟨(i+1,m,(⟨nm,ar,pr,vs⟩:Tl) :: acc),⟨k+1,by dsimp only; omega,by omega,?_,?_⟩,by dsimp only; omega,?_⟩
     ·dsimp only
      rw [show ts.length-(k+1)=j by omega,hnum,hvs]
      rw [←hacc]
     ·dsimp only
      rw [show ts.length-(k+1)=j by omega,hnum,hm]
     ·have e2:(ts.length:Int)-1-(i+1)=(j:Int)-1:=by omega
      rw [e2]
      simp (maxSteps:=2000000) (disch:=omega) only [go_sem,Aa,h10,hj10,if_false,hrow,hi1]
 ·obtain rfl:k=ts.length:=by omega
  have hji:(ts.length:Int)-1-i=-1:=by omega
  have q1:dec ((0:Int)≤-1)=false:=Aw (by omega)
  rw [zQ,zG] at hacc
  rcases zX ts.length with hz | hz
  ·obtain rfl:i=0:=by omega
   have ht0:ts=[]:=zT hz
   have ha0:acc=[]:=by rw [hacc,ht0]; rfl
   rw [←hacc]
   subst ha0
   simp (maxSteps:=2000000) (disch:=omega) only [go_sem,Aa,q1,hji,eq_self,if_true,zK]
  ·have hi0:(i=0)=False:=by simp; omega
   rw [←hacc]
   simp (maxSteps:=2000000) (disch:=omega) only [go_sem,Aa,q1,hji,hi0,if_false,Tl.ful,Tl.ers]
def D7:SC:=(.seq (.reg [⟨some 4,none,.alloc 26 [(.int .i64 0),.nil]⟩,⟨some 5,none,.mv (.c (.bool false))⟩,⟨some 6,none,.mv (.c (.bool false))⟩]) (.seq (.reg [⟨some 18,none,.mv (.t 0)⟩,⟨some 19,none,.call 14 [(.t 18)]⟩,⟨some 17,none,.mv (.t 19)⟩,⟨some 20,none,.ext (.t 17) 0⟩,⟨some 21,none,.ext (.t 17) 1⟩,⟨some 7,none,.mv (.t 20)⟩,⟨some 8,none,.mv (.t 21)⟩]) (.seq (.seq (.reg [⟨some 22,none,.mv (.t 8)⟩,⟨some 23,none,.un .not (.t 22)⟩,⟨some 24,none,.mv (.t 23)⟩,⟨(some 25),(some (24,false)),(.mv (.t 1))⟩,⟨(some 26),(some (24,false)),(.call 15 [(.t 25),(.c (.int .i64 1)),(.c (.int .i64 3))])⟩,⟨(some 27),(some (24,false)),(.un .not (.t 26))⟩,⟨some 28,none,.pick (.t 24) (.c (.bool true)) (.t 27)⟩]) (.cond (.t 28) (.seq (.reg [⟨some 29,none,.build [(.int .i64 0),.nil] []⟩,⟨none,none,(.store 2 (.t 4) (.t 29))⟩,⟨some 5,none,.mv (.c (.bool false))⟩,⟨some 6,none,.mv (.c (.bool false))⟩]) .ret) .skip)) (.seq (.reg [⟨some 30,none,.mv (.t 7)⟩,⟨some 31,none,.mv (.t 1)⟩,⟨some 32,none,.call 16 [(.t 30),(.t 31)]⟩,⟨some 9,none,.mv (.t 32)⟩]) (.seq (.seq (.reg [⟨some 10,none,.mv (.c (.int .i64 0))⟩]) (.block 0 (.loop [1,1,0,0,1,0,0,1,0,1,1,0,0,0,0,0,0,0,0,0,0,0,0,0,0,0,0,0,0,0,0,0,0,0,0,0,0,0,0,0,0,0,0,0,0,0,0,0,0,0,0,0,0,0,0,0,0,0,0,0,0,0,0,0,0,0,0,0,0,0,0,0,0,0,0,0,0,0,0,0] (.seq (.seq (.reg [⟨some 33,none,.mv (.t 10)⟩,⟨some 34,none,.mv (.t 0)⟩,⟨some 35,none,.len false (.t 34)⟩,⟨some 36,none,.bin .lss false (.t 33) (.t 35)⟩]) (.cond (.t 36) .skip (.exit 0))) (.seq (.block 1 (.seq (.reg [⟨some 39,none,.mv (.t 0)⟩,⟨some 40,none,.mv (.t 10)⟩,⟨some 41,none,.iaddr 1 (.t 39) (.t 40)⟩,⟨some 42,none,.load true 1 (.t 41)⟩,⟨some 43,none,.call 17 [(.t 42)]⟩,⟨some 44,none,.un .not (.t 43)⟩]) (.cond (.t 44) (.reg [⟨some 9,none,.mv (.c (.int .i64 0))⟩]) .skip))) (.reg [⟨some 37,none,.mv (.t 10)⟩,⟨some 38,none,.bin .add false (.t 37) (.c (.int .i64 1))⟩,⟨some 10,none,.mv (.t 38)⟩])))))) (.seq (.seq (.reg [⟨some 45,none,.mv (.t 9)⟩,⟨some 46,none,.bin .eql false (.t 45) (.c (.int .i64 0))⟩]) (.cond (.t 46) (.seq (.reg [⟨some 47,none,.build [(.int .i64 0),.nil] []⟩,⟨none,none,(.store 2 (.t 4) (.t 47))⟩,⟨some 5,none,.mv (.c (.bool false))⟩,⟨some 6,none,.mv (.c (.bool false))⟩]) .ret) .skip)) (.seq (.seq (.reg [⟨some 11,none,.mv (.c (.int .i64 0))⟩]) (.block 2 (.loop [1,1,0,0,1,0,0,1,0,1,0,1,0,0,0,0,0,0,0,0,0,0,0,0,0,0,0,0,0,0,0,0,0,0,0,0,0,0,0,0,0,0,0,0,0,0,0,0,0,0,0,0,0,0,0,0,0,0,0,0,0,0,0,0,0,0,0,0,0,0,0,0,0,0,0,0,0,0,0,0] (.seq (.seq (.reg [⟨some 48,none,.mv (.t 11)⟩,⟨some 49,none,.mv (.t 9)⟩,⟨some 50,none,.bin .lss false (.t 48) (.t 49)⟩]) (.cond (.t 50) .skip (.exit 2))) (.seq (.block 3 (.seq (.reg [⟨some 53,none,.mv (.t 7)⟩,⟨some 54,none,.mv (.t 1)⟩,⟨some 55,none,.mv (.t 11)⟩,⟨some 56,none,.call 18 [(.t 53),(.t 54),(.t 55)]⟩,⟨some 12,none,.alloc 26 [(.int .i64 0),.nil]⟩,⟨none,none,(.store 2 (.t 12) (.t 56))⟩]) (.seq (.reg [⟨some 13,none,.mv (.c (.bool true))⟩]) (.seq (.seq (.reg [⟨some 14,none,.mv (.c (.int .i64 0))⟩]) (.block 4 (.loop [1,1,0,0,1,0,0,1,0,1,0,1,1,1,1,0,0,0,0,0,0,0,0,0,0,0,0,0,0,0,0,0,0,0,0,0,0,0,0,0,0,0,0,0,0,0,0,0,0,0,0,0,0,0,0,0,0,0,0,0,0,0,0,0,0,0,0,0,0,0,0,0,0,0,0,0,0,0,0,0] (.seq (.seq (.reg [⟨some 57,none,.mv (.t 14)⟩,⟨some 58,none,.mv (.t 0)⟩,⟨some 59,none,.len false (.t 58)⟩,⟨some 60,none,.bin .lss false (.t 57) (.t 59)⟩,⟨some 61,none,.mv (.t 60)⟩,⟨(some 62),(some (61,true)),(.mv (.t 13))⟩,⟨some 63,none,.pick (.t 61) (.t 62) (.c (.bool false))⟩]) (.cond (.t 63) .skip (.exit 4))) (.seq (.block 5 (.seq (.dreg [[],[],[],[1,2],[3,1,2],[0,4,3,1,2],[5,0,4,3,1,2],[6,5,0,4,3,1,2],[6,5,0,4,3,1,2],[7,6,5,0,4,3,1,2],[8,6,5,0,4,3,1,2,9,7]] [⟨some 67,none,.load true 2 (.t 12)⟩,⟨some 68,none,.mv (.t 0)⟩,⟨some 69,none,.mv (.t 14)⟩,⟨some 70,none,.iaddr 1 (.t 68) (.t 69)⟩,⟨some 71,none,.load true 1 (.t 70)⟩,⟨some 72,none,.call 19 [(.t 67),(.t 71)]⟩,⟨some 66,none,.mv (.t 72)⟩,⟨some 73,none,.ext (.t 66) 0⟩,⟨some 74,none,.ext (.t 66) 1⟩,⟨some 15,none,.mv (.t 73)⟩,⟨some 16,none,.mv (.t 74)⟩]) (.reg [⟨some 75,none,.mv (.t 16)⟩,⟨some 76,none,.bin .eql false (.t 75) (.c (.int .i64 0))⟩,⟨some 13,none,.mv (.t 76)⟩]))) (.reg [⟨some 64,none,.mv (.t 14)⟩,⟨some 65,none,.bin .add false (.t 64) (.c (.int .i64 1))⟩,⟨some 14,none,.mv (.t 65)⟩])))))) (.seq (.reg [⟨some 77,none,.mv (.t 13)⟩]) (.cond (.t 77) (.seq (.reg [⟨some 78,none,.load true 2 (.t 12)⟩,⟨none,none,(.store 2 (.t 4) (.t 78))⟩,⟨some 5,none,.mv (.c (.bool true))⟩,⟨some 6,none,.mv (.c (.bool true))⟩]) .ret) .skip)))))) (.reg [⟨some 51,none,.mv (.t 11)⟩,⟨some 52,none,.bin .add false (.t 51) (.c (.int .i64 1))⟩,⟨some 11,none,.mv (.t 52)⟩])))))) (.seq (.reg [⟨some 79,none,.build [(.int .i64 0),.nil] []⟩,⟨none,none,(.store 2 (.t 4) (.t 79))⟩,⟨some 5,none,.mv (.c (.bool false))⟩,⟨some 6,none,.mv (.c (.bool true))⟩]) .ret))))))))
theorem EP:Ad Tryz.prog 5=some ⟨80,D7,[(.cell 4 true 2),(.tmp 5),(.tmp 6)]⟩:=by kernel_rfl
theorem BQ:modes 5=⟨[],.frz,none,false⟩:=by unfold modes; rfl
theorem NB (cs:List Cl) (hl:cs.length≤1048576) (hx:∀ x∈cs,x.tame) (sz:Int):E 5 [.arr (cs.map Cl.d),.int .i64 sz] []=some (.tup [.agg [.int .i64 (fmI (fmT cs sz)).size,.arr ((fmI (fmT cs sz)).tables.map Tl.d)],.bool (fmF (fmT cs sz)),.bool (fmT cs sz).isSome],[]):=by
 have h1:=LG cs hl hx
 have h2:=Qc6 sz 1 3
 rw [Qbn] at h1
 cases hs:Ii cs with
 | none =>
  rw [hs] at h1
  have ef:fmT cs sz=none:=by unfold fmT; rw [hs]
  rw [ef]
  show E _ _ _=some (SV.tup [.agg [.int .i64 0,.arr []],.bool false,.bool false],[])
  refine Ab EP BQ (of_decide_eq_true rfl) ?_
  simp (maxSteps:=2000000) (disch:=omega) only [D7,go_sem,Aa,zN,zO,zE,zH,zK,Cq,Ff,DU,h1,h2]
  try first | rfl | exact ⟨rfl,rfl⟩
 | some ts =>
  rw [hs] at h1
  obtain ⟨htb,hts0,hsy⟩:=Pu hs
  obtain ⟨hcl,hok,htl,_,_⟩:=Gy hs
  cases hz:inI sz 1 3 with
  | false =>
   have ef:fmT cs sz=none:=by unfold fmT; rw [hs]; dsimp only; rw [hz]; rfl
   rw [ef]
   rw [hz] at h2
   show E _ _ _=some (SV.tup [.agg [.int .i64 0,.arr []],.bool false,.bool false],[])
   refine Ab EP BQ (of_decide_eq_true rfl) ?_
   simp (maxSteps:=2000000) (disch:=omega) only [D7,go_sem,Aa,zN,zO,zE,zH,zK,Cq,Ff,DU,h1,h2]
   try first | rfl | exact ⟨rfl,rfl⟩
  | true =>
  rw [hz] at h2
  obtain ⟨s1,s3⟩:=Eu.1 hz
  have hta:∀ t∈ts,0≤t.arity∧t.arity≤3:=fun t ht=>Dt htb ht
  have h3:=Vw ts sz (by omega) s1 s3 hta
  obtain ⟨M,hM⟩:∃ M,M=ZM (Ho sz ts 1):=⟨_,rfl⟩
  rw [←hM] at h3
  obtain ⟨bad,hbd⟩:∃ bad,bad=cs.any (fun c=>!c.narrow):=⟨_,rfl⟩
  obtain ⟨fm,hfm⟩:∃ fm,fm=fmT cs sz:=⟨_,rfl⟩
  rw [←hfm]
  refine Ab EP BQ (of_decide_eq_true rfl) ?_
  simp (maxSteps:=2000000) (disch:=omega) only [D7,go_sem,Aa,zN,zO,zE,zH,zK,Cq,Ff,DU,h1,h2,h3]
  refine go_loop (α:=Int × Int) (fun a=>⟨slots 80 0 [(0,.arr (cs.map Cl.d)),(1,.int .i64 sz),(4,.ptr 0 0),(7,.arr (ts.map Tl.d)),(9,.int .i64 a.2),(10,.int .i64 a.1)],[.box 26 [.int .i64 0,.nil]]⟩) (fun a=>∃ k:Nat,a.1=k∧k≤cs.length∧(bif (cs.drop k).any (fun c=>!c.narrow) then 0 else a.2)=(bif bad then 0 else M)) (fun a=>cs.length-a.1.toNat) (0,M) ⟨0,rfl,zD _,by rw [zG,← hbd]⟩ (by simp (maxSteps:=2000000) (disch:=omega) only [go_sem,Aa]) ?_
  rintro ⟨i,m⟩ ⟨k,hi,hk,hR⟩
  dsimp only at hi hR
  have hni:i.toNat=k:=by omega
  rcases zC k cs.length with hlt | hge
  ·have hg:=get_at Cl.d hlt
   rw [Cl.d_eq] at hg
   have hq:=T9 cs[k] (hx _ (zB hlt))
   have hsv:(cs[k]).sv=.agg [.arr ((cs[k]).lits.map Lt.d)]:=rfl
   rw [hok _ (zB hlt),yP,hsv] at hq
   rw [zA hlt,List.any_cons] at hR
   cases hn:(cs[k]).narrow with
   | true =>
    rw [hn] at hq hR
    rw [Bool.not_true,Bool.false_or] at hR
    simp (maxSteps:=2000000) (disch:=omega) only [go_sem,Aa,hni,hg,hq,D5]
    refine ⟨(i+1,m),⟨k+1,by dsimp only; omega,hlt,hR⟩,by dsimp only; omega,?_⟩
    first | trivial | rfl | exact ⟨rfl,rfl⟩
   | false =>
    rw [hn] at hq hR
    rw [yY,Bool.true_or,cond_true] at hR
    have hz0:∀ b:Bool,(bif b then (0:Int) else 0)=0:=fun b=>by cases b <;> rfl
    simp (maxSteps:=2000000) (disch:=omega) only [go_sem,Aa,hni,hg,hq,D5]
    refine ⟨(i+1,0),⟨k+1,by dsimp only; omega,hlt,by dsimp only; rw [hz0]; exact hR⟩,by dsimp only; omega,?_⟩
    first | trivial | rfl | exact ⟨rfl,rfl⟩
  ·obtain rfl:k=cs.length:=by omega
   rw [z7,List.any_nil,cond_false] at hR
   have qe:dec (i<(cs.length:Int))=false:=Aw (by omega)
   clear hni hge hk
   cases hc:Ho sz ts 1 with
   | none =>
    have ef:fmT cs sz=none:=by unfold fmT; rw [hs]; dsimp only; rw [hz,hc]; rfl
    have hM0:M=0:=by rw [hM,hc]; rfl
    have hm0:m=0:=by rw [hR,hM0]; cases bad <;> rfl
    have q0:dec (m=0)=true:=Ay hm0
    rw [hfm,ef]
    simp (maxSteps:=2000000) (disch:=omega) only [go_sem,Aa,qe,q0,fmI,fmF,zK,zE]
    try first | rfl | exact ⟨rfl,rfl⟩
   | some K =>
   obtain ⟨K1,K5⟩:=RJ s1 ts (by omega) hc
   have hMK:M=K:=by rw [hM,hc]; rfl
   cases hb0:bad with
   | true =>
    have ef:fmT cs sz=none:=by unfold fmT; rw [hs]; dsimp only; rw [hz,hc,← hbd,hb0]; rfl
    have hm0:m=0:=by rw [hR,hb0]; rfl
    have q0:dec (m=0)=true:=Ay hm0
    rw [hfm,ef]
    simp (maxSteps:=2000000) (disch:=omega) only [go_sem,Aa,qe,q0,fmI,fmF,zK,zE]
    try first | rfl | exact ⟨rfl,rfl⟩
   | false =>
   have ef:fmT cs sz=some (Fu sz ts cs K.toNat 0):=by unfold fmT; rw [hs]; dsimp only; rw [hz,hc,← hbd,hb0]; rfl
   have hmK:m=K:=by rw [hR,hb0,hMK]; rfl
   rw [hb0] at hbd
   have hnar:∀ c∈cs,c.narrow=true:=fun c hc=>by
    have:=List.any_eq_false.1 hbd.symm c hc
    simpa using this
   rw [hfm,ef]
   clear hfm ef hR hi hM h3
   subst hmK
   have q0:dec (m=0)=false:=Aw (by omega)
   simp (maxSteps:=2000000) (disch:=omega) only [go_sem,Aa,qe,q0,fmI,fmF,zK,zE]
   refine go_loop (α:=Int) (fun i=>⟨slots 80 0 [(0,.arr (cs.map Cl.d)),(1,.int .i64 sz),(4,.ptr 0 0),(7,.arr (ts.map Tl.d)),(9,.int .i64 m),(11,.int .i64 i)],[.box 26 [.int .i64 0,.nil]]⟩) (fun i=>∃ k:Nat,i=k∧k≤m.toNat∧Fu sz ts cs (m.toNat-k) k=Fu sz ts cs m.toNat 0) (fun i=>m.toNat-i.toNat) 0 ⟨0,rfl,zD _,by rw [yC]; rfl⟩ (by simp (maxSteps:=2000000) (disch:=omega) only [go_sem,Aa,q0]) ?_
   rintro i ⟨k,hi,hk,hR⟩
   rcases zC k m.toNat with hlt | hge
   ·have q1:dec (i<m)=true:=Ay (by omega)
    rw [Px hlt,← hi] at hR
    have hnu:=Uf ts sz i (by omega) s1 s3 hta ⟨by omega,by omega⟩
    obtain ⟨bd,hbd2⟩:∃ bd,bd=XF (ipN sz ts i) cs:=⟨_,rfl⟩
    rw [←hbd2] at hR
    have hcx:∀ c∈cs,E 19 [.agg [.int .i64 sz,.arr ((BE sz ts i).1.map Tl.d)],.agg [.arr (c.lits.map Lt.d)]] []=some (.tup [.arr ((M4 (C3 (ipN sz ts i) c)).map Ag.d),.int .i64 (Pg (C3 (ipN sz ts i) c))],[]):=fun c hc=>Sf _ (Se s1 s3 htb i) (Ud s1 s3 htb i) c (hok c hc) (hnar c hc)
    have hco:∀ c∈cs,dec (Pg (C3 (ipN sz ts i) c)=0)=!N6 (C3 (ipN sz ts i) c):=fun c hc=>Qbq (Qbp (hok c hc) fun l hl y hy=>Z5 (hsy c hc l hl y hy))
    obtain ⟨io,hio⟩:∃ io,io=i:=⟨_,rfl⟩
    simp (maxSteps:=2000000) (disch:=omega) only [go_sem,Aa,q1,hnu,EO]
    refine go_loop (α:=Int × Bool) (fun a=>⟨slots 80 0 [(0,.arr (cs.map Cl.d)),(1,.int .i64 sz),(4,.ptr 0 0),(7,.arr (ts.map Tl.d)),(9,.int .i64 m),(11,.int .i64 i),(12,.ptr 1 0),(13,.bool a.2),(14,.int .i64 a.1)],[.box 26 [.int .i64 0,.nil],.box 26 [.int .i64 sz,.arr ((BE sz ts i).1.map Tl.d)]]⟩) (fun a=>∃ j:Nat,a.1=j∧j≤cs.length∧(a.2&&!(cs.drop j).any fun c=>N6 (C3 (ipN sz ts i) c))=!bd) (fun a=>cs.length-a.1.toNat) (0,true) ⟨0,rfl,zD _,by rw [zG,hbd2]; rfl⟩ (by simp (maxSteps:=2000000) (disch:=omega) only [go_sem,Aa,q1,hnu,EO]) ?_
    rintro ⟨p,b⟩ ⟨j,hp,hj,hB⟩
    dsimp only at hp hB
    have hpn:p.toNat=j:=by omega
    have hfin:(b=false∨j=cs.length)→b=!bd:=fun h=>by
     rcases h with h | h
     ·rw [h,yW] at hB; rw [h]; exact hB
     ·rw [h,z7,List.any_nil,yY,Bool.and_true] at hB; exact hB
    rcases zC j cs.length with hjl | hjg
    ·have q2:dec (p<(cs.length:Int))=true:=Ay (by omega)
     cases hb:b with
     | true =>
      rw [hb] at hB
      have hg:=get_at Cl.d hjl
      rw [Cl.d_eq] at hg
      have hcn:=hcx _ (zB hjl)
      have hcd:=hco _ (zB hjl)
      rw [zA hjl,List.any_cons,yP] at hB
      cases hf:N6 (C3 (ipN sz ts i) cs[j]) with
      | true =>
       rw [hf] at hcd hB
       rw [Bool.not_true] at hcd
       simp (maxSteps:=2000000) (disch:=omega) only [go_sem,Aa,q2,hpn,hg,hcn,hcd,E1]
       refine ⟨(p+1,false),⟨j+1,by dsimp only; omega,hjl,by dsimp only; rw [yW,← hB]; rfl⟩,by dsimp only; omega,?_⟩
       first | trivial | rfl | exact ⟨rfl,rfl⟩
      | false =>
       rw [hf] at hcd hB
       rw [yY] at hcd
       simp (maxSteps:=2000000) (disch:=omega) only [go_sem,Aa,q2,hpn,hg,hcn,hcd,E1]
       refine ⟨(p+1,true),⟨j+1,by dsimp only; omega,hjl,by dsimp only; rw [yP,← hB,Bool.false_or]⟩,by dsimp only; omega,?_⟩
       first | trivial | rfl | exact ⟨rfl,rfl⟩
     | false =>
      have hbt:bd=true:=by have:=hfin (.inl hb); rw [hb] at this; cases bd; cases this; rfl
      rw [hbt,cond_true] at hR
      simp (maxSteps:=2000000) (disch:=omega) only [go_sem,Aa,q2,fmI,fmF,ipN,zH,zE]
      refine ⟨i+1,⟨k+1,by omega,by omega,?_⟩,by omega,?_⟩
      ·rw [←hR,hi]; rfl
      ·first | trivial | rfl | exact ⟨rfl,rfl⟩
    ·have q2:dec (p<(cs.length:Int))=false:=Aw (by omega)
     have hbf:=hfin (.inr (by omega))
     cases hb:b with
     | true =>
      have hbt:bd=false:=by rw [hb] at hbf; cases bd; rfl; cases hbf
      rw [hbt,cond_false] at hR
      rw [←hR]
      simp (maxSteps:=2000000) (disch:=omega) only [go_sem,Aa,q2,fmI,fmF,ipN,zH,zE]
      try first | rfl | exact ⟨rfl,rfl⟩
     | false =>
      have hbt:bd=true:=by rw [hb] at hbf; cases bd; cases hbf; rfl
      rw [hbt,cond_true] at hR
      simp (maxSteps:=2000000) (disch:=omega) only [go_sem,Aa,q2,fmI,fmF,ipN,zH,zE]
      refine ⟨i+1,⟨k+1,by omega,by omega,?_⟩,by omega,?_⟩
      ·rw [←hR,hi]; rfl
      ·first | trivial | rfl | exact ⟨rfl,rfl⟩
   ·obtain rfl:k=m.toNat:=by omega
    rw [zQ,Fu] at hR
    rw [←hR]
    have q1:dec (i<m)=false:=Aw (by omega)
    simp (maxSteps:=2000000) (disch:=omega) only [go_sem,Aa,q1,fmI,fmF,zK,zH]
    try first | rfl | exact ⟨rfl,rfl⟩
def Kh:SC:=(.seq (.reg [⟨some 2,none,.boxv 100 2 (.t 0)⟩,⟨some 4,none,.mv (.c (.int .i64 0))⟩]) (.seq (.reg [⟨some 5,none,.mv (.t 1)⟩,⟨some 6,none,.faddr 0 (.t 2)⟩,⟨some 7,none,.load false 1 (.t 6)⟩,⟨some 8,none,.len true (.t 7)⟩,⟨some 9,none,.bin .sub false (.t 5) (.t 8)⟩,⟨some 1,none,.mv (.t 9)⟩]) (.seq (.seq (.reg [⟨some 10,none,.mv (.t 1)⟩,⟨some 11,none,.bin .lss false (.t 10) (.c (.int .i64 0))⟩]) (.cond (.t 11) (.seq (.reg [⟨some 4,none,.mv (.c (.int .i64 (-(0+1))))⟩]) .ret) .skip)) (.seq (.reg [⟨some 12,none,.faddr 1 (.t 2)⟩,⟨some 13,none,.load false 1 (.t 12)⟩,⟨some 14,none,.mv (.t 1)⟩,⟨some 15,none,.call 107 [(.t 13),(.t 14)]⟩,⟨some 1,none,.mv (.t 15)⟩]) (.seq (.seq (.reg [⟨some 16,none,.mv (.t 1)⟩,⟨some 17,none,.bin .lss false (.t 16) (.c (.int .i64 0))⟩]) (.cond (.t 17) (.seq (.reg [⟨some 4,none,.mv (.c (.int .i64 (-(0+1))))⟩]) .ret) .skip)) (.seq (.reg [⟨some 18,none,.mv (.t 1)⟩,⟨some 4,none,.mv (.t 18)⟩]) .ret))))))
theorem PS:Ad Tryz.prog 80=some ⟨19,Kh,[(.tmp 4)]⟩:=by kernel_rfl
theorem EW:modes 80=⟨[],.asis,none,false⟩:=by unfold modes; rfl
def Jf:SC:=(.seq (.reg [⟨some 4,none,.mv (.c (.int .i64 0))⟩]) (.seq (.reg [⟨some 6,none,.mv (.t 1)⟩,⟨some 7,none,.mv (.t 0)⟩,⟨some 8,none,.len false (.t 7)⟩,⟨some 9,none,.bin .sub false (.t 6) (.t 8)⟩,⟨some 1,none,.mv (.t 9)⟩]) (.seq (.seq (.reg [⟨some 10,none,.mv (.t 1)⟩,⟨some 11,none,.bin .lss false (.t 10) (.c (.int .i64 0))⟩]) (.cond (.t 11) (.seq (.reg [⟨some 4,none,.mv (.c (.int .i64 (-(0+1))))⟩]) .ret) .skip)) (.seq (.seq (.reg [⟨some 5,none,.mv (.c (.int .i64 0))⟩]) (.block 0 (.loop [1,1,0,0,0,1,0,0,0,0,0,0,0,0,0,0,0,0,0,0,0,0,0,0,0,0,0] (.seq (.seq (.reg [⟨some 12,none,.mv (.t 5)⟩,⟨some 13,none,.mv (.t 0)⟩,⟨some 14,none,.len false (.t 13)⟩,⟨some 15,none,.bin .lss false (.t 12) (.t 14)⟩]) (.cond (.t 15) .skip (.exit 0))) (.seq (.block 1 (.seq (.reg [⟨some 18,none,.mv (.t 0)⟩,⟨some 19,none,.mv (.t 5)⟩,⟨some 20,none,.iaddr 2 (.t 18) (.t 19)⟩,⟨some 21,none,.load true 2 (.t 20)⟩,⟨some 22,none,.mv (.t 1)⟩,⟨some 23,none,.call 80 [(.t 21),(.t 22)]⟩,⟨some 1,none,.mv (.t 23)⟩]) (.seq (.reg [⟨some 24,none,.mv (.t 1)⟩,⟨some 25,none,.bin .lss false (.t 24) (.c (.int .i64 0))⟩]) (.cond (.t 25) (.seq (.reg [⟨some 4,none,.mv (.c (.int .i64 (-(0+1))))⟩]) .ret) .skip)))) (.reg [⟨some 16,none,.mv (.t 5)⟩,⟨some 17,none,.bin .add false (.t 16) (.c (.int .i64 1))⟩,⟨some 5,none,.mv (.t 17)⟩])))))) (.seq (.reg [⟨some 26,none,.mv (.t 1)⟩,⟨some 4,none,.mv (.t 26)⟩]) .ret)))))
theorem Py:Ad Tryz.prog 107=some ⟨27,Jf,[(.tmp 4)]⟩:=by kernel_rfl
theorem Ge:modes 107=⟨[],.asis,none,false⟩:=by unfold modes; rfl
abbrev LM (x:Tm):Prop:=D.fits x.d→∀ left:Int,0≤left→left≤1048576→E 80 [x.sv,.int .i64 left] []=some (.int .i64 (szR left x.bulk),[])
abbrev Rk (xs:List Tm):Prop:=D.fit (.arr (xs.map Tm.d))→∀ left:Int,0≤left→left≤1048576→E 107 [.arr (xs.map Tm.d),.int .i64 left] []=some (.int .i64 (szR left (xs.length+Tm.sumB xs:Nat)),[])
theorem Sh (xs:List Tm) (h:∀ x∈xs,LM x):Rk xs:=by
 intro hfit left h0 h1
 simp only [D.fit,zI] at hfit
 have q0:=AT left (xs.length+Tm.sumB xs)
 refine Ab Py Ge (of_decide_eq_true rfl) ?_
 simp (disch:=omega) only [Jf,go_sem,Aa]
 repeat' (refine Ci (fun hq=>?_) (fun hq=>?_) <;> (first | replace hq:=Af.1 hq | replace hq:=Be.1 hq) <;> (try simp (disch:=omega) only [go_sem,Aa]))
 ·omega
 refine go_loop (α:=Int × Int) (fun a=>⟨slots 27 0 [(0,.arr (xs.map Tm.d)),(1,.int .i64 a.2),(5,.int .i64 a.1)],[]⟩) (fun a=>∃ k:Nat,a.1=k∧k≤xs.length∧0≤a.2∧a.2≤1048576∧szR a.2 (Tm.sumB (xs.drop k))=szR left (xs.length+Tm.sumB xs:Nat)) (fun a=>xs.length-a.1.toNat) (0,left-xs.length) ⟨0,rfl,zD _,by omega,by omega,?_⟩ (by simp (disch:=omega) only [go_sem,Aa]) ?_
 ·have q1:=AT (left-xs.length) (Tm.sumB xs)
  rw [zG]
  dsimp only
  omega
 ·rintro ⟨i,l⟩ ⟨k,hi,hk,hl0,hl1,hs⟩
  dsimp only at hi hl0 hl1 hs
  rcases zC k xs.length with hlt | hge
  ·have hg:=get_at Tm.d hlt
   rw [Tm.d_eq] at hg
   have hd:Tm.sumB (xs.drop k)=xs[k].bulk+Tm.sumB (xs.drop (k+1)):=by rw [zA hlt,Tm.sumB]
   rw [hd] at hs
   have hc:=h xs[k] (zB hlt) (D.J5 hfit.2 _ (zB hlt)) l hl0 hl1
   have q1:=AT l xs[k].bulk
   have q2:=AT l (xs[k].bulk+Tm.sumB (xs.drop (k+1)))
   have q3:=AT (l-xs[k].bulk) (Tm.sumB (xs.drop (k+1)))
   have hn:i.toNat=k:=by omega
   simp (disch:=omega) only [go_sem,Aa,hn,hg,hc,EW]
   repeat' (refine Ci (fun hq=>?_) (fun hq=>?_) <;> (first | replace hq:=Af.1 hq | replace hq:=Be.1 hq) <;> (try simp (disch:=omega) only [go_sem,Aa]))
   ·omega
   ·refine ⟨(i+1,l-xs[k].bulk),⟨k+1,by dsimp only; omega,hlt,by dsimp only; omega,by dsimp only; omega,by dsimp only; omega⟩,by dsimp only; omega,?_⟩
    have e:szR l xs[k].bulk=l-xs[k].bulk:=by omega
    simp only [e,and_self]
  ·have hd:xs.drop k=[]:=zF hge
   rw [hd] at hs
   have q1:=AT l (Tm.sumB [])
   simp only [Tm.sumB] at hs q1
   simp (disch:=omega) only [go_sem,Aa]
   omega
theorem Ug (x:Tm) (h_args:Rk x.args):LM x:=by
 intro hfit left h0 h1
 rw [Tm.d_eq] at hfit
 simp only [D.fits,D.fit] at hfit
 replace h_args:=h_args (by simp only [D.fit,zI]; simp only [zI] at hfit; simp only [hfit,and_self])
 have q:=AT left x.bulk
 have qb:=Tm.bulk_eq x
 have q0:=AT (left-(x.name.size:Int)) ((x.args.length+Tm.sumB x.args))
 refine Ab PS EW (of_decide_eq_true rfl) ?_
 simp (disch:=omega) only [Kh,go_sem,Aa,h_args,Ge]
 repeat' (refine Ci (fun hq=>?_) (fun hq=>?_) <;> (first | replace hq:=Af.1 hq | replace hq:=Be.1 hq) <;> (try simp (disch:=omega) only [go_sem,Aa,h_args,Ge]))
 all_goals omega
theorem Uh (x:Tm):LM x:=Ug x (Sh x.args fun y hy=>Uh y)
termination_by SizeOf.sizeOf x
decreasing_by exact Tm.Ar hy
def H1:SC:=(.seq (.reg [⟨some 2,none,.boxv 102 3 (.t 0)⟩,⟨some 4,none,.mv (.c (.int .i64 0))⟩]) (.seq (.reg [⟨some 5,none,.faddr 1 (.t 2)⟩,⟨some 6,none,.load true 2 (.t 5)⟩,⟨some 7,none,.mv (.t 1)⟩,⟨some 8,none,.call 80 [(.t 6),(.t 7)]⟩,⟨some 1,none,.mv (.t 8)⟩]) (.seq (.seq (.reg [⟨some 9,none,.mv (.t 1)⟩,⟨some 10,none,.bin .lss false (.t 9) (.c (.int .i64 0))⟩]) (.cond (.t 10) (.seq (.reg [⟨some 4,none,.mv (.c (.int .i64 (-(0+1))))⟩]) .ret) .skip)) (.seq (.reg [⟨some 11,none,.mv (.t 1)⟩,⟨some 4,none,.mv (.t 11)⟩]) .ret))))
theorem MH:Ad Tryz.prog 59=some ⟨12,H1,[(.tmp 4)]⟩:=by kernel_rfl
theorem H2:modes 59=⟨[],.asis,none,false⟩:=by unfold modes; rfl
def G0:SC:=(.seq (.reg [⟨some 4,none,.mv (.c (.int .i64 0))⟩]) (.seq (.reg [⟨some 6,none,.mv (.t 1)⟩,⟨some 7,none,.mv (.t 0)⟩,⟨some 8,none,.len false (.t 7)⟩,⟨some 9,none,.bin .sub false (.t 6) (.t 8)⟩,⟨some 1,none,.mv (.t 9)⟩]) (.seq (.seq (.reg [⟨some 10,none,.mv (.t 1)⟩,⟨some 11,none,.bin .lss false (.t 10) (.c (.int .i64 0))⟩]) (.cond (.t 11) (.seq (.reg [⟨some 4,none,.mv (.c (.int .i64 (-(0+1))))⟩]) .ret) .skip)) (.seq (.seq (.reg [⟨some 5,none,.mv (.c (.int .i64 0))⟩]) (.block 0 (.loop [1,1,0,0,0,1,0,0,0,0,0,0,0,0,0,0,0,0,0,0,0,0,0,0,0,0,0] (.seq (.seq (.reg [⟨some 12,none,.mv (.t 5)⟩,⟨some 13,none,.mv (.t 0)⟩,⟨some 14,none,.len false (.t 13)⟩,⟨some 15,none,.bin .lss false (.t 12) (.t 14)⟩]) (.cond (.t 15) .skip (.exit 0))) (.seq (.block 1 (.seq (.reg [⟨some 18,none,.mv (.t 0)⟩,⟨some 19,none,.mv (.t 5)⟩,⟨some 20,none,.iaddr 3 (.t 18) (.t 19)⟩,⟨some 21,none,.load true 3 (.t 20)⟩,⟨some 22,none,.mv (.t 1)⟩,⟨some 23,none,.call 59 [(.t 21),(.t 22)]⟩,⟨some 1,none,.mv (.t 23)⟩]) (.seq (.reg [⟨some 24,none,.mv (.t 1)⟩,⟨some 25,none,.bin .lss false (.t 24) (.c (.int .i64 0))⟩]) (.cond (.t 25) (.seq (.reg [⟨some 4,none,.mv (.c (.int .i64 (-(0+1))))⟩]) .ret) .skip)))) (.reg [⟨some 16,none,.mv (.t 5)⟩,⟨some 17,none,.bin .add false (.t 16) (.c (.int .i64 1))⟩,⟨some 5,none,.mv (.t 17)⟩])))))) (.seq (.reg [⟨some 26,none,.mv (.t 1)⟩,⟨some 4,none,.mv (.t 26)⟩]) .ret)))))
theorem LN:Ad Tryz.prog 35=some ⟨27,G0,[(.tmp 4)]⟩:=by kernel_rfl
theorem E3:modes 35=⟨[],.asis,none,false⟩:=by unfold modes; rfl
abbrev Jg (x:Lt):Prop:=D.fits x.d→∀ left:Int,0≤left→left≤1048576→E 59 [x.sv,.int .i64 left] []=some (.int .i64 (szR left x.bulk),[])
abbrev LO (xs:List Lt):Prop:=D.fit (.arr (xs.map Lt.d))→∀ left:Int,0≤left→left≤1048576→E 35 [.arr (xs.map Lt.d),.int .i64 left] []=some (.int .i64 (szR left (xs.length+Lt.sumB xs:Nat)),[])
theorem NC (xs:List Lt) (h:∀ x∈xs,Jg x):LO xs:=by
 intro hfit left h0 h1
 simp only [D.fit,zI] at hfit
 have q0:=AT left (xs.length+Lt.sumB xs)
 refine Ab LN E3 (of_decide_eq_true rfl) ?_
 simp (disch:=omega) only [G0,go_sem,Aa]
 repeat' (refine Ci (fun hq=>?_) (fun hq=>?_) <;> (first | replace hq:=Af.1 hq | replace hq:=Be.1 hq) <;> (try simp (disch:=omega) only [go_sem,Aa]))
 ·omega
 refine go_loop (α:=Int × Int) (fun a=>⟨slots 27 0 [(0,.arr (xs.map Lt.d)),(1,.int .i64 a.2),(5,.int .i64 a.1)],[]⟩) (fun a=>∃ k:Nat,a.1=k∧k≤xs.length∧0≤a.2∧a.2≤1048576∧szR a.2 (Lt.sumB (xs.drop k))=szR left (xs.length+Lt.sumB xs:Nat)) (fun a=>xs.length-a.1.toNat) (0,left-xs.length) ⟨0,rfl,zD _,by omega,by omega,?_⟩ (by simp (disch:=omega) only [go_sem,Aa]) ?_
 ·have q1:=AT (left-xs.length) (Lt.sumB xs)
  rw [zG]
  dsimp only
  omega
 ·rintro ⟨i,l⟩ ⟨k,hi,hk,hl0,hl1,hs⟩
  dsimp only at hi hl0 hl1 hs
  rcases zC k xs.length with hlt | hge
  ·have hg:=get_at Lt.d hlt
   rw [Lt.d_eq] at hg
   have hd:Lt.sumB (xs.drop k)=xs[k].bulk+Lt.sumB (xs.drop (k+1)):=by rw [zA hlt,Lt.sumB]
   rw [hd] at hs
   have hc:=h xs[k] (zB hlt) (D.J5 hfit.2 _ (zB hlt)) l hl0 hl1
   have q1:=AT l xs[k].bulk
   have q2:=AT l (xs[k].bulk+Lt.sumB (xs.drop (k+1)))
   have q3:=AT (l-xs[k].bulk) (Lt.sumB (xs.drop (k+1)))
   have hn:i.toNat=k:=by omega
   simp (disch:=omega) only [go_sem,Aa,hn,hg,hc,H2]
   repeat' (refine Ci (fun hq=>?_) (fun hq=>?_) <;> (first | replace hq:=Af.1 hq | replace hq:=Be.1 hq) <;> (try simp (disch:=omega) only [go_sem,Aa]))
   ·omega
   ·refine ⟨(i+1,l-xs[k].bulk),⟨k+1,by dsimp only; omega,hlt,by dsimp only; omega,by dsimp only; omega,by dsimp only; omega⟩,by dsimp only; omega,?_⟩
    have e:szR l xs[k].bulk=l-xs[k].bulk:=by omega
    simp only [e,and_self]
  ·have hd:xs.drop k=[]:=zF hge
   rw [hd] at hs
   have q1:=AT l (Lt.sumB [])
   simp only [Lt.sumB] at hs q1
   simp (disch:=omega) only [go_sem,Aa]
   omega
theorem Pz (x:Lt) (h_atom:LM x.atom):Jg x:=by
 intro hfit left h0 h1
 rw [Lt.d_eq] at hfit
 simp only [D.fits,D.fit] at hfit
 replace h_atom:=h_atom (by rw [Tm.d_eq]; simp only [D.fits,D.fit,hfit,and_self])
 have q:=AT left x.bulk
 have qb:=Lt.bulk_eq x
 have q0:=AT left (x.atom.bulk)
 refine Ab MH H2 (of_decide_eq_true rfl) ?_
 simp (disch:=omega) only [H1,go_sem,Aa,h_atom,EW]
 repeat' (refine Ci (fun hq=>?_) (fun hq=>?_) <;> (first | replace hq:=Af.1 hq | replace hq:=Be.1 hq) <;> (try simp (disch:=omega) only [go_sem,Aa,h_atom,EW]))
 all_goals omega
theorem Ui (x:Lt):Jg x:=Pz x (Uh x.atom)
def Ik:SC:=(.seq (.reg [⟨some 2,none,.boxv 39 1 (.t 0)⟩,⟨some 4,none,.mv (.c (.int .i64 0))⟩]) (.seq (.reg [⟨some 5,none,.faddr 0 (.t 2)⟩,⟨some 6,none,.load false 1 (.t 5)⟩,⟨some 7,none,.mv (.t 1)⟩,⟨some 8,none,.call 35 [(.t 6),(.t 7)]⟩,⟨some 1,none,.mv (.t 8)⟩]) (.seq (.seq (.reg [⟨some 9,none,.mv (.t 1)⟩,⟨some 10,none,.bin .lss false (.t 9) (.c (.int .i64 0))⟩]) (.cond (.t 10) (.seq (.reg [⟨some 4,none,.mv (.c (.int .i64 (-(0+1))))⟩]) .ret) .skip)) (.seq (.reg [⟨some 11,none,.mv (.t 1)⟩,⟨some 4,none,.mv (.t 11)⟩]) .ret))))
theorem ND:Ad Tryz.prog 13=some ⟨12,Ik,[(.tmp 4)]⟩:=by kernel_rfl
theorem Il:modes 13=⟨[],.asis,none,false⟩:=by unfold modes; rfl
def H3:SC:=(.seq (.reg [⟨some 4,none,.mv (.c (.int .i64 0))⟩]) (.seq (.reg [⟨some 6,none,.mv (.t 1)⟩,⟨some 7,none,.mv (.t 0)⟩,⟨some 8,none,.len false (.t 7)⟩,⟨some 9,none,.bin .sub false (.t 6) (.t 8)⟩,⟨some 1,none,.mv (.t 9)⟩]) (.seq (.seq (.reg [⟨some 10,none,.mv (.t 1)⟩,⟨some 11,none,.bin .lss false (.t 10) (.c (.int .i64 0))⟩]) (.cond (.t 11) (.seq (.reg [⟨some 4,none,.mv (.c (.int .i64 (-(0+1))))⟩]) .ret) .skip)) (.seq (.seq (.reg [⟨some 5,none,.mv (.c (.int .i64 0))⟩]) (.block 0 (.loop [1,1,0,0,0,1,0,0,0,0,0,0,0,0,0,0,0,0,0,0,0,0,0,0,0,0,0] (.seq (.seq (.reg [⟨some 12,none,.mv (.t 5)⟩,⟨some 13,none,.mv (.t 0)⟩,⟨some 14,none,.len false (.t 13)⟩,⟨some 15,none,.bin .lss false (.t 12) (.t 14)⟩]) (.cond (.t 15) .skip (.exit 0))) (.seq (.block 1 (.seq (.reg [⟨some 18,none,.mv (.t 0)⟩,⟨some 19,none,.mv (.t 5)⟩,⟨some 20,none,.iaddr 1 (.t 18) (.t 19)⟩,⟨some 21,none,.load true 1 (.t 20)⟩,⟨some 22,none,.mv (.t 1)⟩,⟨some 23,none,.call 13 [(.t 21),(.t 22)]⟩,⟨some 1,none,.mv (.t 23)⟩]) (.seq (.reg [⟨some 24,none,.mv (.t 1)⟩,⟨some 25,none,.bin .lss false (.t 24) (.c (.int .i64 0))⟩]) (.cond (.t 25) (.seq (.reg [⟨some 4,none,.mv (.c (.int .i64 (-(0+1))))⟩]) .ret) .skip)))) (.reg [⟨some 16,none,.mv (.t 5)⟩,⟨some 17,none,.bin .add false (.t 16) (.c (.int .i64 1))⟩,⟨some 5,none,.mv (.t 17)⟩])))))) (.seq (.reg [⟨some 26,none,.mv (.t 1)⟩,⟨some 4,none,.mv (.t 26)⟩]) .ret)))))
theorem MJ:Ad Tryz.prog 4=some ⟨27,H3,[(.tmp 4)]⟩:=by kernel_rfl
theorem Co:modes 4=⟨[],.asis,none,false⟩:=by unfold modes; rfl
abbrev KR (x:Cl):Prop:=D.fits x.d→∀ left:Int,0≤left→left≤1048576→E 13 [x.sv,.int .i64 left] []=some (.int .i64 (szR left x.bulk),[])
abbrev Nu (xs:List Cl):Prop:=D.fit (.arr (xs.map Cl.d))→∀ left:Int,0≤left→left≤1048576→E 4 [.arr (xs.map Cl.d),.int .i64 left] []=some (.int .i64 (szR left (xs.length+Cl.sumB xs:Nat)),[])
theorem P0 (xs:List Cl) (h:∀ x∈xs,KR x):Nu xs:=by
 intro hfit left h0 h1
 simp only [D.fit,zI] at hfit
 have q0:=AT left (xs.length+Cl.sumB xs)
 refine Ab MJ Co (of_decide_eq_true rfl) ?_
 simp (disch:=omega) only [H3,go_sem,Aa]
 repeat' (refine Ci (fun hq=>?_) (fun hq=>?_) <;> (first | replace hq:=Af.1 hq | replace hq:=Be.1 hq) <;> (try simp (disch:=omega) only [go_sem,Aa]))
 ·omega
 refine go_loop (α:=Int × Int) (fun a=>⟨slots 27 0 [(0,.arr (xs.map Cl.d)),(1,.int .i64 a.2),(5,.int .i64 a.1)],[]⟩) (fun a=>∃ k:Nat,a.1=k∧k≤xs.length∧0≤a.2∧a.2≤1048576∧szR a.2 (Cl.sumB (xs.drop k))=szR left (xs.length+Cl.sumB xs:Nat)) (fun a=>xs.length-a.1.toNat) (0,left-xs.length) ⟨0,rfl,zD _,by omega,by omega,?_⟩ (by simp (disch:=omega) only [go_sem,Aa]) ?_
 ·have q1:=AT (left-xs.length) (Cl.sumB xs)
  rw [zG]
  dsimp only
  omega
 ·rintro ⟨i,l⟩ ⟨k,hi,hk,hl0,hl1,hs⟩
  dsimp only at hi hl0 hl1 hs
  rcases zC k xs.length with hlt | hge
  ·have hg:=get_at Cl.d hlt
   rw [Cl.d_eq] at hg
   have hd:Cl.sumB (xs.drop k)=xs[k].bulk+Cl.sumB (xs.drop (k+1)):=by rw [zA hlt,Cl.sumB]
   rw [hd] at hs
   have hc:=h xs[k] (zB hlt) (D.J5 hfit.2 _ (zB hlt)) l hl0 hl1
   have q1:=AT l xs[k].bulk
   have q2:=AT l (xs[k].bulk+Cl.sumB (xs.drop (k+1)))
   have q3:=AT (l-xs[k].bulk) (Cl.sumB (xs.drop (k+1)))
   have hn:i.toNat=k:=by omega
   simp (disch:=omega) only [go_sem,Aa,hn,hg,hc,Il]
   repeat' (refine Ci (fun hq=>?_) (fun hq=>?_) <;> (first | replace hq:=Af.1 hq | replace hq:=Be.1 hq) <;> (try simp (disch:=omega) only [go_sem,Aa]))
   ·omega
   ·refine ⟨(i+1,l-xs[k].bulk),⟨k+1,by dsimp only; omega,hlt,by dsimp only; omega,by dsimp only; omega,by dsimp only; omega⟩,by dsimp only; omega,?_⟩
    have e:szR l xs[k].bulk=l-xs[k].bulk:=by omega
    simp only [e,and_self]
  ·have hd:xs.drop k=[]:=zF hge
   rw [hd] at hs
   have q1:=AT l (Cl.sumB [])
   simp only [Cl.sumB] at hs q1
   simp (disch:=omega) only [go_sem,Aa]
   omega
theorem PT (x:Cl) (h_lits:LO x.lits):KR x:=by
 intro hfit left h0 h1
 rw [Cl.d_eq] at hfit
 simp only [D.fits,D.fit] at hfit
 replace h_lits:=h_lits (by simp only [D.fit,zI]; simp only [zI] at hfit; simp only [hfit,and_self])
 have q:=AT left x.bulk
 have qb:=Cl.bulk_eq x
 have q0:=AT left ((x.lits.length+Lt.sumB x.lits))
 refine Ab ND Il (of_decide_eq_true rfl) ?_
 simp (disch:=omega) only [Ik,go_sem,Aa,h_lits,E3]
 repeat' (refine Ci (fun hq=>?_) (fun hq=>?_) <;> (first | replace hq:=Af.1 hq | replace hq:=Be.1 hq) <;> (try simp (disch:=omega) only [go_sem,Aa,h_lits,E3]))
 all_goals omega
theorem Vy (x:Cl):KR x:=PT x (NC x.lits fun y hy=>Ui y)
theorem Uj (xs:List Cl):Nu xs:=P0 xs fun x _=>Vy x
theorem Cl.XO (x:Cl) (h:x.bulk≤1048576):x.tame:=by
 rw [Cl.bulk_eq] at h
 refine ⟨by omega,fun y hy=>?_⟩
 obtain ⟨k,hk,rfl⟩:=yB hy
 have h1:=Lt.bulk_le x.lits k hk
 have h2:=Tm.OO x.lits[k].atom
 rw [Lt.bulk_eq] at h1
 omega
theorem Cl.XP {cs:List Cl} (h:cs.length+Cl.sumB cs≤1048576):∀ c∈cs,c.tame:=fun c hc=>by
 obtain ⟨k,hk,rfl⟩:=yB hc
 have h1:=Cl.bulk_le cs k hk
 exact Cl.XO _ (by omega)
theorem XQ {x:Tm} (h:x.names=true):x.name.size≤6:=by
 rw [Tm.FL] at h
 split at h
 ·rename_i hv; exact Xq hv
 ·rw [z8,z8] at h; exact Xr h.1.1
theorem Si (x:Tm) (h:x.names=true) (p:Bool) (t:Tl) (ht:t∈x.sgI p):t.name.size≤6:=by
 rw [Tm.GK,yV,Tm.DN] at ht
 rcases ht with ⟨z,hz,ht⟩ | ht
 ·exact Si z (Tm.Eg h hz) false t ht
 ·revert ht
  cases (dec (x.name=⟨#[61]⟩) || AI x.name) with
  | true=>intro h; cases h
  | false =>
   intro ht
   rw [cond_false,List.mem_singleton] at ht
   rw [ht]
   exact XQ h
termination_by SizeOf.sizeOf x
decreasing_by exact Tm.Ar hz
theorem ZS {x:Tm} (h:x.expr=true) (t:Tl) (ht:t∈x.sgI true):t.name.size≤6:=by
 rcases Tm.KB h with h1 | ⟨h1,h2⟩
 ·exact Si x h1 true t ht
 ·have he:dec (x.name=⟨#[61]⟩)=true:=h1
  rw [Tm.GK,he,Bool.true_or,cond_true,zS,Tm.DN] at ht
  obtain ⟨z,hz,ht⟩:=ht
  exact Si z (Tm.OM h hz) false t ht
theorem WD:∀ (ls:List Lt),(∀ l∈ls,l.atom.atom=true)→∀ t∈KI ls,t.name.size≤6
 | [],_,t,h=>by cases h
 | l :: ls,hl,t,h=>by
  rw [KI,yV] at h
  rcases h with h | h
  ·exact ZS (Tm.Hq (hl l (by simp))) t h
  ·exact WD ls (fun m hm=>hl m (by simp [hm])) t h
theorem WE:∀ (cs:List Cl),(∀ c∈cs,c.ok=true)→∀ t∈Hw cs,t.name.size≤6
 | [],_,t,h=>by cases h
 | c :: cs,hc,t,h=>by
  rw [Hw,yV] at h
  rcases h with h | h
  ·refine WD c.lits (fun l hl=>?_) t h
   obtain ⟨k,hk,rfl⟩:=yB hl
   exact Cl.Ww (hc c (by simp)) hk
  ·exact WE cs (fun m hm=>hc m (by simp [hm])) t h
theorem ZT:∀ (ts:List Tl),(∀ t∈ts,t.name.size+t.vals.length≤33)→Tl.sumB ts≤33*ts.length
 | [],_=>by simp [Tl.sumB]
 | t :: ts,h=>by
  have h1:=h t (by simp)
  have h3:=ZT ts fun u hu=>h u (by simp [hu])
  rw [Tl.sumB,Tl.bulk_eq,zJ]
  omega
theorem Uk {sz:Int} {ts:List Tl} {cs:List Cl}:∀ (k:Nat) (n:Int) (m:Ip),Fu sz ts cs k n=some m→∃ q,m=ipN sz ts q
 | 0,n,m,h=>by cases h
 | k+1,n,m,h=>by
  rw [Fu] at h
  cases hb:XF (ipN sz ts n) cs with
  | true=>rw [hb,cond_true] at h; exact Uk k (n+1) m h
  | false=>rw [hb,cond_false] at h; exact ⟨n,(yU h).symm⟩
theorem ZU {sz:Int} (h1:1≤sz) (h3:sz≤3) {ts:List Tl} (h:Dj ts=true) (h6:∀ t∈ts,t.name.size≤6) (n:Int):(ipN sz ts n).bulk≤1048576:=by
 obtain ⟨_,htb,hvb⟩:=Ip.DK (Se h1 h3 h n)
 obtain ⟨ha,_⟩:=ME h1 h3 h n
 have hs:=ZT (BE sz ts n).1 fun t ht=>by
  obtain ⟨k,hk,rfl⟩:=yB ht
  obtain ⟨a0,a3⟩:=Dt htb ht
  have hk':k<ts.length:=by rw [FT] at hk; exact hk
  obtain ⟨e1,_,_⟩:=IS sz ts n k hk' hk
  have hn:=h6 _ (zB hk')
  rw [←e1] at hn
  have hvl:=yA.1 hvb _ ht
  unfold tlB at hvl
  rw [z8,Af] at hvl
  have hl':((BE sz ts n).1[k].vals.length:Int)=pw sz (BE sz ts n).1[k].arity.toNat:=hvl.1
  obtain ⟨_,i2⟩:=Lz h1 h3 (BE sz ts n).1[k].arity.toNat
  have i3:=M1 (show (BE sz ts n).1[k].arity.toNat≤3 by omega)
  have e:(3:Int) ^ 3=27:=by decide
  omega
 rw [Ip.bulk_eq]
 show (BE sz ts n).1.length+Tl.sumB (BE sz ts n).1≤_
 omega
theorem Qb4 (cs:List Cl) (sz:Int):(fmI (fmT cs sz)).bulk≤1048576:=by
 have hz0:(fmI none).bulk≤1048576:=by rw [Ip.bulk_eq]; simp [fmI,Tl.sumB]
 have hz1:(fmI (some none)).bulk≤1048576:=by rw [Ip.bulk_eq]; simp [fmI,Tl.sumB]
 unfold fmT
 cases hs:Ii cs with
 | none=>exact hz0
 | some ts =>
  obtain ⟨htb,_,_⟩:=Pu hs
  obtain ⟨_,hok,_,_,hts⟩:=Gy hs
  have h6:∀ t∈ts,t.name.size≤6:=fun t ht=>by
   rw [hts] at ht
   exact WE cs hok t ((Ws (Hy cs)).sub t ht)
  dsimp only
  cases hz:inI sz 1 3 with
  | false=>exact hz0
  | true =>
   obtain ⟨s1,s3⟩:=Eu.1 hz
   rw [cond_true]
   cases hc:Ho sz ts 1 with
   | none=>exact hz0
   | some K =>
    dsimp only
    cases cs.any fun c=>!c.narrow with
    | true=>exact hz0
    | false =>
     rw [cond_false]
     cases hf:Fu sz ts cs K.toNat 0 with
     | none=>exact hz1
     | some m =>
      obtain ⟨q,rfl⟩:=Uk _ _ _ hf
      exact ZU s1 s3 htb h6 q
def Ki:SC:=(.seq (.reg [⟨some 1,none,.boxv 100 2 (.t 0)⟩,⟨(some 2),none,(.alloc 69 [(.str ⟨#[]⟩),.nil])⟩]) (.seq (.reg [⟨(some 3),none,(.alloc 69 [(.str ⟨#[]⟩),.nil])⟩]) (.seq (.reg [⟨some 4,none,.faddr 0 (.t 1)⟩,⟨some 5,none,.load false 1 (.t 4)⟩,⟨some 6,none,.faddr 0 (.t 3)⟩,⟨none,none,(.store 1 (.t 6) (.t 5))⟩]) (.seq (.reg [⟨some 7,none,.faddr 1 (.t 1)⟩,⟨some 8,none,.load false 1 (.t 7)⟩,⟨some 9,none,.call 111 [(.t 8)]⟩,⟨some 10,none,.faddr 1 (.t 3)⟩,⟨none,none,(.store 1 (.t 10) (.t 9))⟩]) (.seq (.reg [⟨some 11,none,.load true 2 (.t 3)⟩,⟨none,none,(.store 2 (.t 2) (.t 11))⟩]) .ret)))))
theorem PU:Ad Tryz.prog 88=some ⟨12,Ki,[(.cell 2 true 2)]⟩:=by kernel_rfl
theorem GN:modes 88=⟨[],.asis,none,false⟩:=by unfold modes; rfl
def Jh:SC:=(.seq (.reg [⟨some 2,none,.mv (.c .nil)⟩]) (.seq (.reg [⟨some 5,none,.mv (.t 0)⟩,⟨some 6,none,.len false (.t 5)⟩,⟨(some 7),none,(.mkslice 69 2 40 [(.str ⟨#[]⟩),.nil] (.t 6))⟩,⟨some 3,none,.mv (.t 7)⟩]) (.seq (.seq (.reg [⟨some 4,none,.mv (.c (.int .i64 0))⟩]) (.block 0 (.loop [1,0,0,1,1,0,0,0,0,0,0,0,0,0,0,0,0,0,0,0,0,0,0] (.seq (.seq (.reg [⟨some 8,none,.mv (.t 4)⟩,⟨some 9,none,.mv (.t 0)⟩,⟨some 10,none,.len false (.t 9)⟩,⟨some 11,none,.bin .lss false (.t 8) (.t 10)⟩]) (.cond (.t 11) .skip (.exit 0))) (.seq (.block 1 (.reg [⟨some 14,none,.mv (.t 3)⟩,⟨some 15,none,.mv (.t 4)⟩,⟨some 16,none,.mv (.t 0)⟩,⟨some 17,none,.mv (.t 4)⟩,⟨some 18,none,.iaddr 2 (.t 16) (.t 17)⟩,⟨some 19,none,.load true 2 (.t 18)⟩,⟨some 20,none,.call 88 [(.t 19)]⟩,⟨some 21,none,.iaddr 2 (.t 14) (.t 15)⟩,⟨none,none,(.store 2 (.t 21) (.t 20))⟩])) (.reg [⟨some 12,none,.mv (.t 4)⟩,⟨some 13,none,.bin .add false (.t 12) (.c (.int .i64 1))⟩,⟨some 4,none,.mv (.t 13)⟩])))))) (.seq (.reg [⟨some 22,none,.mv (.t 3)⟩,⟨some 2,none,.mv (.t 22)⟩]) .ret))))
theorem P1:Ad Tryz.prog 111=some ⟨23,Jh,[(.tmp 2)]⟩:=by kernel_rfl
theorem Ji:modes 111=⟨[],.asis,none,false⟩:=by unfold modes; rfl
abbrev LP (x:Tm):Prop:=x.bulk≤1048576→E 88 [x.sv] []=some (x.osv,x.obs)
abbrev Rl (xs:List Tm):Prop:=xs.length+Tm.sumB xs≤1048576→E 111 [.arr (xs.map Tm.d)] []=some (.ref 0,[.row 69 2 (xs.map Tm.o)])
theorem Sj (xs:List Tm) (h:∀ x∈xs,LP x):Rl xs:=by
 intro hb
 refine Ab P1 Ji (of_decide_eq_true rfl) ?_
 simp (disch:=omega) only [Jh,go_sem,Aa]
 refine go_loop (α:=Int) (fun i=>⟨slots 23 0 [(0,.arr (xs.map Tm.d)),(3,.ref 0),(4,.int .i64 i)],[.row 69 2 (Gq Tm.o [.str ⟨#[]⟩,.ow []] xs i.toNat)]⟩) (fun i=>∃ k:Nat,i=k∧k≤xs.length) (fun i=>xs.length-i.toNat) 0 ⟨0,rfl,zD _⟩ (by simp (disch:=omega) only [go_sem,Aa,K8,zU]) ?_
 ·rintro i ⟨k,rfl,hk⟩
  obtain ⟨i,hi⟩:∃ i:Int,i=(k:Int):=⟨_,rfl⟩
  rw [←hi]
  have hn:i.toNat=k:=by omega
  have hn1:(i+1).toNat=k+1:=by omega
  rcases zC k xs.length with hlt | hge
  ·have hg:=get_at Tm.d hlt
   rw [Tm.d_eq] at hg
   have hz:=Mv Tm.o [.str ⟨#[]⟩,.ow []] hlt
   have hle:=Tm.bulk_le xs k hlt
   have hc:=h xs[k] (zB hlt) (by omega)
   have hs:=Mw Tm.o [.str ⟨#[]⟩,.ow []] hlt
   rw [Tm.o_eq] at hs
   simp (disch:=omega) only [go_sem,Aa,hn,hg,hc,hz,Mt,GN,Tm.osv,Tm.obs]
   refine ⟨i+1,⟨k+1,by omega,hlt⟩,by omega,?_⟩
   simp (disch:=omega) only [go_sem,Aa,hn1,hs]
  ·obtain rfl:k=xs.length:=by omega
   simp (disch:=omega) only [go_sem,Aa,hn,Mu]
theorem Ul (x:Tm) (h_args:Rl x.args):LP x:=by
 intro hb
 have qb:=Tm.bulk_eq x
 replace h_args:=h_args (by omega)
 refine Ab PU GN (of_decide_eq_true rfl) ?_
 simp (disch:=omega) only [Ki,go_sem,Aa,h_args,Ji]
theorem Um (x:Tm):LP x:=Ul x (Sj x.args fun y hy=>Um y)
termination_by SizeOf.sizeOf x
decreasing_by exact Tm.Ar hy
def H4:SC:=(.seq (.reg [⟨some 1,none,.boxv 102 3 (.t 0)⟩,⟨(some 2),none,(.alloc 71 [(.bool false),(.str ⟨#[]⟩),.nil])⟩]) (.seq (.reg [⟨(some 3),none,(.alloc 71 [(.bool false),(.str ⟨#[]⟩),.nil])⟩]) (.seq (.reg [⟨some 4,none,.faddr 0 (.t 1)⟩,⟨some 5,none,.load false 1 (.t 4)⟩,⟨some 6,none,.faddr 0 (.t 3)⟩,⟨none,none,(.store 1 (.t 6) (.t 5))⟩]) (.seq (.reg [⟨some 7,none,.faddr 1 (.t 1)⟩,⟨some 8,none,.load true 2 (.t 7)⟩,⟨some 9,none,.call 88 [(.t 8)]⟩,⟨some 10,none,.faddr 1 (.t 3)⟩,⟨none,none,(.store 2 (.t 10) (.t 9))⟩]) (.seq (.reg [⟨some 11,none,.load true 3 (.t 3)⟩,⟨none,none,(.store 3 (.t 2) (.t 11))⟩]) .ret)))))
theorem ML:Ad Tryz.prog 65=some ⟨12,H4,[(.cell 2 true 3)]⟩:=by kernel_rfl
theorem H5:modes 65=⟨[],.asis,none,false⟩:=by unfold modes; rfl
def G1:SC:=(.seq (.reg [⟨some 2,none,.mv (.c .nil)⟩]) (.seq (.reg [⟨some 5,none,.mv (.t 0)⟩,⟨some 6,none,.len false (.t 5)⟩,⟨(some 7),none,(.mkslice 71 3 48 [(.bool false),(.str ⟨#[]⟩),.nil] (.t 6))⟩,⟨some 3,none,.mv (.t 7)⟩]) (.seq (.seq (.reg [⟨some 4,none,.mv (.c (.int .i64 0))⟩]) (.block 0 (.loop [1,0,0,1,1,0,0,0,0,0,0,0,0,0,0,0,0,0,0,0,0,0,0] (.seq (.seq (.reg [⟨some 8,none,.mv (.t 4)⟩,⟨some 9,none,.mv (.t 0)⟩,⟨some 10,none,.len false (.t 9)⟩,⟨some 11,none,.bin .lss false (.t 8) (.t 10)⟩]) (.cond (.t 11) .skip (.exit 0))) (.seq (.block 1 (.reg [⟨some 14,none,.mv (.t 3)⟩,⟨some 15,none,.mv (.t 4)⟩,⟨some 16,none,.mv (.t 0)⟩,⟨some 17,none,.mv (.t 4)⟩,⟨some 18,none,.iaddr 3 (.t 16) (.t 17)⟩,⟨some 19,none,.load true 3 (.t 18)⟩,⟨some 20,none,.call 65 [(.t 19)]⟩,⟨some 21,none,.iaddr 3 (.t 14) (.t 15)⟩,⟨none,none,(.store 3 (.t 21) (.t 20))⟩])) (.reg [⟨some 12,none,.mv (.t 4)⟩,⟨some 13,none,.bin .add false (.t 12) (.c (.int .i64 1))⟩,⟨some 4,none,.mv (.t 13)⟩])))))) (.seq (.reg [⟨some 22,none,.mv (.t 3)⟩,⟨some 2,none,.mv (.t 22)⟩]) .ret))))
theorem LQ:Ad Tryz.prog 41=some ⟨23,G1,[(.tmp 2)]⟩:=by kernel_rfl
theorem G2:modes 41=⟨[],.asis,none,false⟩:=by unfold modes; rfl
abbrev Jj (x:Lt):Prop:=x.bulk≤1048576→E 65 [x.sv] []=some (x.osv,x.obs)
abbrev LR (xs:List Lt):Prop:=xs.length+Lt.sumB xs≤1048576→E 41 [.arr (xs.map Lt.d)] []=some (.ref 0,[.row 71 3 (xs.map Lt.o)])
theorem NE (xs:List Lt) (h:∀ x∈xs,Jj x):LR xs:=by
 intro hb
 refine Ab LQ G2 (of_decide_eq_true rfl) ?_
 simp (disch:=omega) only [G1,go_sem,Aa]
 refine go_loop (α:=Int) (fun i=>⟨slots 23 0 [(0,.arr (xs.map Lt.d)),(3,.ref 0),(4,.int .i64 i)],[.row 71 3 (Gq Lt.o [.bool false,.str ⟨#[]⟩,.ow []] xs i.toNat)]⟩) (fun i=>∃ k:Nat,i=k∧k≤xs.length) (fun i=>xs.length-i.toNat) 0 ⟨0,rfl,zD _⟩ (by simp (disch:=omega) only [go_sem,Aa,K8,zU]) ?_
 ·rintro i ⟨k,rfl,hk⟩
  obtain ⟨i,hi⟩:∃ i:Int,i=(k:Int):=⟨_,rfl⟩
  rw [←hi]
  have hn:i.toNat=k:=by omega
  have hn1:(i+1).toNat=k+1:=by omega
  rcases zC k xs.length with hlt | hge
  ·have hg:=get_at Lt.d hlt
   rw [Lt.d_eq] at hg
   have hz:=Mv Lt.o [.bool false,.str ⟨#[]⟩,.ow []] hlt
   have hle:=Lt.bulk_le xs k hlt
   have hc:=h xs[k] (zB hlt) (by omega)
   have hs:=Mw Lt.o [.bool false,.str ⟨#[]⟩,.ow []] hlt
   rw [Lt.o_eq] at hs
   simp (disch:=omega) only [go_sem,Aa,hn,hg,hc,hz,Mt,H5,Lt.osv,Lt.obs]
   refine ⟨i+1,⟨k+1,by omega,hlt⟩,by omega,?_⟩
   simp (disch:=omega) only [go_sem,Aa,hn1,hs]
  ·obtain rfl:k=xs.length:=by omega
   simp (disch:=omega) only [go_sem,Aa,hn,Mu]
theorem P2 (x:Lt) (h_atom:LP x.atom):Jj x:=by
 intro hb
 have qb:=Lt.bulk_eq x
 replace h_atom:=h_atom (by omega)
 refine Ab ML H5 (of_decide_eq_true rfl) ?_
 simp (disch:=omega) only [H4,go_sem,Aa,h_atom,GN]
theorem Un (x:Lt):Jj x:=P2 x (Um x.atom)
def Im:SC:=(.seq (.reg [⟨some 1,none,.boxv 39 1 (.t 0)⟩,⟨some 2,none,.alloc 47 [.nil]⟩]) (.seq (.reg [⟨some 3,none,.alloc 47 [.nil]⟩]) (.seq (.reg [⟨some 4,none,.faddr 0 (.t 1)⟩,⟨some 5,none,.load false 1 (.t 4)⟩,⟨some 6,none,.call 41 [(.t 5)]⟩,⟨some 7,none,.faddr 0 (.t 3)⟩,⟨none,none,(.store 1 (.t 7) (.t 6))⟩]) (.seq (.reg [⟨some 8,none,.load true 1 (.t 3)⟩,⟨none,none,(.store 1 (.t 2) (.t 8))⟩]) .ret))))
theorem NF:Ad Tryz.prog 20=some ⟨9,Im,[(.cell 2 true 1)]⟩:=by kernel_rfl
theorem Io:modes 20=⟨[],.asis,none,false⟩:=by unfold modes; rfl
def H6:SC:=(.seq (.reg [⟨some 2,none,.mv (.c .nil)⟩]) (.seq (.reg [⟨some 5,none,.mv (.t 0)⟩,⟨some 6,none,.len false (.t 5)⟩,⟨some 7,none,.mkslice 47 1 24 [.nil] (.t 6)⟩,⟨some 3,none,.mv (.t 7)⟩]) (.seq (.seq (.reg [⟨some 4,none,.mv (.c (.int .i64 0))⟩]) (.block 0 (.loop [1,0,0,1,1,0,0,0,0,0,0,0,0,0,0,0,0,0,0,0,0,0,0] (.seq (.seq (.reg [⟨some 8,none,.mv (.t 4)⟩,⟨some 9,none,.mv (.t 0)⟩,⟨some 10,none,.len false (.t 9)⟩,⟨some 11,none,.bin .lss false (.t 8) (.t 10)⟩]) (.cond (.t 11) .skip (.exit 0))) (.seq (.block 1 (.reg [⟨some 14,none,.mv (.t 3)⟩,⟨some 15,none,.mv (.t 4)⟩,⟨some 16,none,.mv (.t 0)⟩,⟨some 17,none,.mv (.t 4)⟩,⟨some 18,none,.iaddr 1 (.t 16) (.t 17)⟩,⟨some 19,none,.load true 1 (.t 18)⟩,⟨some 20,none,.call 20 [(.t 19)]⟩,⟨some 21,none,.iaddr 1 (.t 14) (.t 15)⟩,⟨none,none,(.store 1 (.t 21) (.t 20))⟩])) (.reg [⟨some 12,none,.mv (.t 4)⟩,⟨some 13,none,.bin .add false (.t 12) (.c (.int .i64 1))⟩,⟨some 4,none,.mv (.t 13)⟩])))))) (.seq (.reg [⟨some 22,none,.mv (.t 3)⟩,⟨some 2,none,.mv (.t 22)⟩]) .ret))))
theorem MM:Ad Tryz.prog 6=some ⟨23,H6,[(.tmp 2)]⟩:=by kernel_rfl
theorem CD:modes 6=⟨[],.asis,none,false⟩:=by unfold modes; rfl
abbrev KS (x:Cl):Prop:=x.bulk≤1048576→E 20 [x.sv] []=some (x.osv,x.obs)
abbrev Nv (xs:List Cl):Prop:=xs.length+Cl.sumB xs≤1048576→E 6 [.arr (xs.map Cl.d)] []=some (.ref 0,[.row 47 1 (xs.map Cl.o)])
theorem P3 (xs:List Cl) (h:∀ x∈xs,KS x):Nv xs:=by
 intro hb
 refine Ab MM CD (of_decide_eq_true rfl) ?_
 simp (disch:=omega) only [H6,go_sem,Aa]
 refine go_loop (α:=Int) (fun i=>⟨slots 23 0 [(0,.arr (xs.map Cl.d)),(3,.ref 0),(4,.int .i64 i)],[.row 47 1 (Gq Cl.o [.ow []] xs i.toNat)]⟩) (fun i=>∃ k:Nat,i=k∧k≤xs.length) (fun i=>xs.length-i.toNat) 0 ⟨0,rfl,zD _⟩ (by simp (disch:=omega) only [go_sem,Aa,K8,zU]) ?_
 ·rintro i ⟨k,rfl,hk⟩
  obtain ⟨i,hi⟩:∃ i:Int,i=(k:Int):=⟨_,rfl⟩
  rw [←hi]
  have hn:i.toNat=k:=by omega
  have hn1:(i+1).toNat=k+1:=by omega
  rcases zC k xs.length with hlt | hge
  ·have hg:=get_at Cl.d hlt
   rw [Cl.d_eq] at hg
   have hz:=Mv Cl.o [.ow []] hlt
   have hle:=Cl.bulk_le xs k hlt
   have hc:=h xs[k] (zB hlt) (by omega)
   have hs:=Mw Cl.o [.ow []] hlt
   rw [Cl.o_eq] at hs
   simp (disch:=omega) only [go_sem,Aa,hn,hg,hc,hz,Mt,Io,Cl.osv,Cl.obs]
   refine ⟨i+1,⟨k+1,by omega,hlt⟩,by omega,?_⟩
   simp (disch:=omega) only [go_sem,Aa,hn1,hs]
  ·obtain rfl:k=xs.length:=by omega
   simp (disch:=omega) only [go_sem,Aa,hn,Mu]
theorem PV (x:Cl) (h_lits:LR x.lits):KS x:=by
 intro hb
 have qb:=Cl.bulk_eq x
 replace h_lits:=h_lits (by omega)
 refine Ab NF Io (of_decide_eq_true rfl) ?_
 simp (disch:=omega) only [Im,go_sem,Aa,h_lits,G2]
theorem Vz (x:Cl):KS x:=PV x (NE x.lits fun y hy=>Un y)
theorem Uo (xs:List Cl):Nv xs:=P3 xs fun x _=>Vz x
def Kj:SC:=(.seq (.reg [⟨some 4,none,.mv (.c (.bool false))⟩]) (.seq (.seq (.reg [⟨some 6,none,.mv (.t 0)⟩,⟨some 7,none,.len false (.t 6)⟩,⟨some 8,none,.mv (.t 1)⟩,⟨some 9,none,.len false (.t 8)⟩,⟨some 10,none,.bin .neq false (.t 7) (.t 9)⟩]) (.cond (.t 10) (.seq (.reg [⟨some 4,none,.mv (.c (.bool false))⟩]) .ret) .skip)) (.seq (.seq (.reg [⟨some 5,none,.mv (.c (.int .i64 0))⟩]) (.block 0 (.loop [1,1,0,0,0,1,0,0,0,0,0,0,0,0,0,0,0,0,0,0,0,0,0,0,0,0] (.seq (.seq (.reg [⟨some 11,none,.mv (.t 5)⟩,⟨some 12,none,.mv (.t 0)⟩,⟨some 13,none,.len false (.t 12)⟩,⟨some 14,none,.bin .lss false (.t 11) (.t 13)⟩]) (.cond (.t 14) .skip (.exit 0))) (.seq (.block 1 (.seq (.dreg [[],[],[0,1],[2,0,1],[],[],[4,5],[6,4,5],[3,2,0,1,7,6,4,5]] [⟨some 17,none,.mv (.t 0)⟩,⟨some 18,none,.mv (.t 5)⟩,⟨some 19,none,.iaddr 1 (.t 17) (.t 18)⟩,⟨some 20,none,.load false 1 (.t 19)⟩,⟨some 21,none,.mv (.t 1)⟩,⟨some 22,none,.mv (.t 5)⟩,⟨some 23,none,.iaddr 1 (.t 21) (.t 22)⟩,⟨some 24,none,.load false 1 (.t 23)⟩,⟨some 25,none,.bin .neq false (.t 20) (.t 24)⟩]) (.cond (.t 25) (.seq (.reg [⟨some 4,none,.mv (.c (.bool false))⟩]) .ret) .skip))) (.reg [⟨some 15,none,.mv (.t 5)⟩,⟨some 16,none,.bin .add false (.t 15) (.c (.int .i64 1))⟩,⟨some 5,none,.mv (.t 16)⟩])))))) (.seq (.reg [⟨some 4,none,.mv (.c (.bool true))⟩]) .ret))))
theorem PW:Ad Tryz.prog 78=some ⟨26,Kj,[(.tmp 4)]⟩:=by kernel_rfl
theorem Kk:modes 78=⟨[],.asis,none,false⟩:=by unfold modes; rfl
abbrev Up (xs:List Int):Prop:=xs.length≤1048576→E 78 [.arr (xs.map (fun s=>[D.int s])),.arr (xs.map (fun s=>[D.int s]))] []=some (.bool true,[])
theorem ZV (xs:List Int):Up xs:=by
 intro hb
 refine Ab PW Kk (of_decide_eq_true rfl) ?_
 simp (disch:=omega) only [Kj,go_sem,Aa]
 refine go_loop (α:=Int) (fun i=>⟨slots 26 0 [(0,.arr (xs.map (fun s=>[D.int s]))),(1,.arr (xs.map (fun s=>[D.int s]))),(5,.int .i64 i)],[]⟩) (fun i=>∃ k:Nat,i=k∧k≤xs.length) (fun i=>xs.length-i.toNat) 0 ⟨0,rfl,zD _⟩ (by simp (disch:=omega) only [go_sem,Aa]) ?_
 ·rintro i ⟨k,rfl,hk⟩
  obtain ⟨i,hi⟩:∃ i:Int,i=(k:Int):=⟨_,rfl⟩
  rw [←hi]
  have hn:i.toNat=k:=by omega
  rcases zC k xs.length with hlt | hge
  ·have hg:=get_at (fun s=>[D.int s]) hlt
   simp (disch:=omega) only [go_sem,Aa,hn,hg,C9]
   refine ⟨i+1,⟨k+1,by omega,hlt⟩,by omega,?_⟩
   trivial
  ·obtain rfl:k=xs.length:=by omega
   simp (disch:=omega) only [go_sem,Aa,hn]
def Kl:SC:=(.seq (.reg [⟨some 2,none,.boxv 69 2 (.t 0)⟩,⟨some 3,none,.boxv 69 2 (.t 1)⟩,⟨some 4,none,.mv (.c (.bool false))⟩]) (.seq (.seq (.reg [⟨some 5,none,.faddr 0 (.t 2)⟩,⟨some 6,none,.load false 1 (.t 5)⟩,⟨some 7,none,.faddr 0 (.t 3)⟩,⟨some 8,none,.load false 1 (.t 7)⟩,⟨some 9,none,.bin .neq false (.t 6) (.t 8)⟩]) (.cond (.t 9) (.seq (.reg [⟨some 4,none,.mv (.c (.bool false))⟩]) .ret) .skip)) (.seq (.seq (.reg [⟨some 10,none,.faddr 1 (.t 2)⟩,⟨some 11,none,.load false 1 (.t 10)⟩,⟨some 12,none,.faddr 1 (.t 3)⟩,⟨some 13,none,.load false 1 (.t 12)⟩,⟨some 14,none,.call 132 [(.t 11),(.t 13)]⟩,⟨some 15,none,.un .not (.t 14)⟩]) (.cond (.t 15) (.seq (.reg [⟨some 4,none,.mv (.c (.bool false))⟩]) .ret) .skip)) (.seq (.reg [⟨some 4,none,.mv (.c (.bool true))⟩]) .ret))))
theorem PX:Ad Tryz.prog 106=some ⟨16,Kl,[(.tmp 4)]⟩:=by kernel_rfl
theorem GO:modes 106=⟨[],.asis,none,false⟩:=by unfold modes; rfl
def Jk:SC:=(.seq (.reg [⟨some 4,none,.mv (.c (.bool false))⟩]) (.seq (.seq (.reg [⟨some 6,none,.mv (.t 0)⟩,⟨some 7,none,.len false (.t 6)⟩,⟨some 8,none,.mv (.t 1)⟩,⟨some 9,none,.len false (.t 8)⟩,⟨some 10,none,.bin .neq false (.t 7) (.t 9)⟩]) (.cond (.t 10) (.seq (.reg [⟨some 4,none,.mv (.c (.bool false))⟩]) .ret) .skip)) (.seq (.seq (.reg [⟨some 5,none,.mv (.c (.int .i64 0))⟩]) (.block 0 (.loop [1,1,0,0,0,1,0,0,0,0,0,0,0,0,0,0,0,0,0,0,0,0,0,0,0,0,0] (.seq (.seq (.reg [⟨some 11,none,.mv (.t 5)⟩,⟨some 12,none,.mv (.t 0)⟩,⟨some 13,none,.len false (.t 12)⟩,⟨some 14,none,.bin .lss false (.t 11) (.t 13)⟩]) (.cond (.t 14) .skip (.exit 0))) (.seq (.block 1 (.seq (.dreg [[],[],[0,1],[2,0,1],[],[],[4,5],[6,4,5],[3,2,0,1,7,6,4,5],[8,3,2,0,1,7,6,4,5]] [⟨some 17,none,.mv (.t 0)⟩,⟨some 18,none,.mv (.t 5)⟩,⟨some 19,none,.iaddr 2 (.t 17) (.t 18)⟩,⟨some 20,none,.load true 2 (.t 19)⟩,⟨some 21,none,.mv (.t 1)⟩,⟨some 22,none,.mv (.t 5)⟩,⟨some 23,none,.iaddr 2 (.t 21) (.t 22)⟩,⟨some 24,none,.load true 2 (.t 23)⟩,⟨some 25,none,.call 106 [(.t 20),(.t 24)]⟩,⟨some 26,none,.un .not (.t 25)⟩]) (.cond (.t 26) (.seq (.reg [⟨some 4,none,.mv (.c (.bool false))⟩]) .ret) .skip))) (.reg [⟨some 15,none,.mv (.t 5)⟩,⟨some 16,none,.bin .add false (.t 15) (.c (.int .i64 1))⟩,⟨some 5,none,.mv (.t 16)⟩])))))) (.seq (.reg [⟨some 4,none,.mv (.c (.bool true))⟩]) .ret))))
theorem P4:Ad Tryz.prog 132=some ⟨27,Jk,[(.tmp 4)]⟩:=by kernel_rfl
theorem Jl:modes 132=⟨[],.asis,none,false⟩:=by unfold modes; rfl
abbrev LS (x:Tm):Prop:=x.bulk≤1048576→E 106 [x.sv,x.sv] []=some (.bool true,[])
abbrev Rm (xs:List Tm):Prop:=xs.length+Tm.sumB xs≤1048576→E 132 [.arr (xs.map Tm.d),.arr (xs.map Tm.d)] []=some (.bool true,[])
theorem Sk (xs:List Tm) (h:∀ x∈xs,LS x):Rm xs:=by
 intro hb
 refine Ab P4 Jl (of_decide_eq_true rfl) ?_
 simp (disch:=omega) only [Jk,go_sem,Aa]
 refine go_loop (α:=Int) (fun i=>⟨slots 27 0 [(0,.arr (xs.map Tm.d)),(1,.arr (xs.map Tm.d)),(5,.int .i64 i)],[]⟩) (fun i=>∃ k:Nat,i=k∧k≤xs.length) (fun i=>xs.length-i.toNat) 0 ⟨0,rfl,zD _⟩ (by simp (disch:=omega) only [go_sem,Aa]) ?_
 ·rintro i ⟨k,rfl,hk⟩
  obtain ⟨i,hi⟩:∃ i:Int,i=(k:Int):=⟨_,rfl⟩
  rw [←hi]
  have hn:i.toNat=k:=by omega
  rcases zC k xs.length with hlt | hge
  ·have hg:=get_at Tm.d hlt
   rw [Tm.d_eq] at hg
   have hle:=Tm.bulk_le xs k hlt
   have hc:=h xs[k] (zB hlt) (by omega)
   simp (disch:=omega) only [go_sem,Aa,hn,hg,hc,GO]
   refine ⟨i+1,⟨k+1,by omega,hlt⟩,by omega,?_⟩
   trivial
  ·obtain rfl:k=xs.length:=by omega
   simp (disch:=omega) only [go_sem,Aa,hn]
theorem Uq (x:Tm) (h_args:Rm x.args):LS x:=by
 intro hb
 have qb:=Tm.bulk_eq x
 replace h_args:=h_args (by omega)
 refine Ab PX GO (of_decide_eq_true rfl) ?_
 simp (disch:=omega) only [Kl,go_sem,Aa,h_args,Jl,C9]
theorem Ur (x:Tm):LS x:=Uq x (Sk x.args fun y hy=>Ur y)
termination_by SizeOf.sizeOf x
decreasing_by exact Tm.Ar hy
def H7:SC:=(.seq (.reg [⟨some 2,none,.boxv 71 3 (.t 0)⟩,⟨some 3,none,.boxv 71 3 (.t 1)⟩,⟨some 4,none,.mv (.c (.bool false))⟩]) (.seq (.seq (.reg [⟨some 5,none,.faddr 0 (.t 2)⟩,⟨some 6,none,.load false 1 (.t 5)⟩,⟨some 7,none,.faddr 0 (.t 3)⟩,⟨some 8,none,.load false 1 (.t 7)⟩,⟨some 9,none,.bin .neq true (.t 6) (.t 8)⟩]) (.cond (.t 9) (.seq (.reg [⟨some 4,none,.mv (.c (.bool false))⟩]) .ret) .skip)) (.seq (.seq (.reg [⟨some 10,none,.faddr 1 (.t 2)⟩,⟨some 11,none,.load true 2 (.t 10)⟩,⟨some 12,none,.faddr 1 (.t 3)⟩,⟨some 13,none,.load true 2 (.t 12)⟩,⟨some 14,none,.call 106 [(.t 11),(.t 13)]⟩,⟨some 15,none,.un .not (.t 14)⟩]) (.cond (.t 15) (.seq (.reg [⟨some 4,none,.mv (.c (.bool false))⟩]) .ret) .skip)) (.seq (.reg [⟨some 4,none,.mv (.c (.bool true))⟩]) .ret))))
theorem MN:Ad Tryz.prog 79=some ⟨16,H7,[(.tmp 4)]⟩:=by kernel_rfl
theorem H8:modes 79=⟨[],.asis,none,false⟩:=by unfold modes; rfl
def G3:SC:=(.seq (.reg [⟨some 4,none,.mv (.c (.bool false))⟩]) (.seq (.seq (.reg [⟨some 6,none,.mv (.t 0)⟩,⟨some 7,none,.len false (.t 6)⟩,⟨some 8,none,.mv (.t 1)⟩,⟨some 9,none,.len false (.t 8)⟩,⟨some 10,none,.bin .neq false (.t 7) (.t 9)⟩]) (.cond (.t 10) (.seq (.reg [⟨some 4,none,.mv (.c (.bool false))⟩]) .ret) .skip)) (.seq (.seq (.reg [⟨some 5,none,.mv (.c (.int .i64 0))⟩]) (.block 0 (.loop [1,1,0,0,0,1,0,0,0,0,0,0,0,0,0,0,0,0,0,0,0,0,0,0,0,0,0] (.seq (.seq (.reg [⟨some 11,none,.mv (.t 5)⟩,⟨some 12,none,.mv (.t 0)⟩,⟨some 13,none,.len false (.t 12)⟩,⟨some 14,none,.bin .lss false (.t 11) (.t 13)⟩]) (.cond (.t 14) .skip (.exit 0))) (.seq (.block 1 (.seq (.dreg [[],[],[0,1],[2,0,1],[],[],[4,5],[6,4,5],[3,2,0,1,7,6,4,5],[8,3,2,0,1,7,6,4,5]] [⟨some 17,none,.mv (.t 0)⟩,⟨some 18,none,.mv (.t 5)⟩,⟨some 19,none,.iaddr 3 (.t 17) (.t 18)⟩,⟨some 20,none,.load true 3 (.t 19)⟩,⟨some 21,none,.mv (.t 1)⟩,⟨some 22,none,.mv (.t 5)⟩,⟨some 23,none,.iaddr 3 (.t 21) (.t 22)⟩,⟨some 24,none,.load true 3 (.t 23)⟩,⟨some 25,none,.call 79 [(.t 20),(.t 24)]⟩,⟨some 26,none,.un .not (.t 25)⟩]) (.cond (.t 26) (.seq (.reg [⟨some 4,none,.mv (.c (.bool false))⟩]) .ret) .skip))) (.reg [⟨some 15,none,.mv (.t 5)⟩,⟨some 16,none,.bin .add false (.t 15) (.c (.int .i64 1))⟩,⟨some 5,none,.mv (.t 16)⟩])))))) (.seq (.reg [⟨some 4,none,.mv (.c (.bool true))⟩]) .ret))))
theorem LT:Ad Tryz.prog 54=some ⟨27,G3,[(.tmp 4)]⟩:=by kernel_rfl
theorem G4:modes 54=⟨[],.asis,none,false⟩:=by unfold modes; rfl
abbrev Jm (x:Lt):Prop:=x.bulk≤1048576→E 79 [x.sv,x.sv] []=some (.bool true,[])
abbrev LU (xs:List Lt):Prop:=xs.length+Lt.sumB xs≤1048576→E 54 [.arr (xs.map Lt.d),.arr (xs.map Lt.d)] []=some (.bool true,[])
theorem NG (xs:List Lt) (h:∀ x∈xs,Jm x):LU xs:=by
 intro hb
 refine Ab LT G4 (of_decide_eq_true rfl) ?_
 simp (disch:=omega) only [G3,go_sem,Aa]
 refine go_loop (α:=Int) (fun i=>⟨slots 27 0 [(0,.arr (xs.map Lt.d)),(1,.arr (xs.map Lt.d)),(5,.int .i64 i)],[]⟩) (fun i=>∃ k:Nat,i=k∧k≤xs.length) (fun i=>xs.length-i.toNat) 0 ⟨0,rfl,zD _⟩ (by simp (disch:=omega) only [go_sem,Aa]) ?_
 ·rintro i ⟨k,rfl,hk⟩
  obtain ⟨i,hi⟩:∃ i:Int,i=(k:Int):=⟨_,rfl⟩
  rw [←hi]
  have hn:i.toNat=k:=by omega
  rcases zC k xs.length with hlt | hge
  ·have hg:=get_at Lt.d hlt
   rw [Lt.d_eq] at hg
   have hle:=Lt.bulk_le xs k hlt
   have hc:=h xs[k] (zB hlt) (by omega)
   simp (disch:=omega) only [go_sem,Aa,hn,hg,hc,H8]
   refine ⟨i+1,⟨k+1,by omega,hlt⟩,by omega,?_⟩
   trivial
  ·obtain rfl:k=xs.length:=by omega
   simp (disch:=omega) only [go_sem,Aa,hn]
theorem P5 (x:Lt) (h_atom:LS x.atom):Jm x:=by
 intro hb
 have qb:=Lt.bulk_eq x
 replace h_atom:=h_atom (by omega)
 refine Ab MN H8 (of_decide_eq_true rfl) ?_
 simp (disch:=omega) only [H7,go_sem,Aa,h_atom,GO,C9]
theorem Us (x:Lt):Jm x:=P5 x (Ur x.atom)
def Iq:SC:=(.seq (.reg [⟨some 2,none,.boxv 47 1 (.t 0)⟩,⟨some 3,none,.boxv 47 1 (.t 1)⟩,⟨some 4,none,.mv (.c (.bool false))⟩]) (.seq (.seq (.reg [⟨some 5,none,.faddr 0 (.t 2)⟩,⟨some 6,none,.load false 1 (.t 5)⟩,⟨some 7,none,.faddr 0 (.t 3)⟩,⟨some 8,none,.load false 1 (.t 7)⟩,⟨some 9,none,.call 54 [(.t 6),(.t 8)]⟩,⟨some 10,none,.un .not (.t 9)⟩]) (.cond (.t 10) (.seq (.reg [⟨some 4,none,.mv (.c (.bool false))⟩]) .ret) .skip)) (.seq (.reg [⟨some 4,none,.mv (.c (.bool true))⟩]) .ret)))
theorem NH:Ad Tryz.prog 31=some ⟨11,Iq,[(.tmp 4)]⟩:=by kernel_rfl
theorem Ir:modes 31=⟨[],.asis,none,false⟩:=by unfold modes; rfl
def H9:SC:=(.seq (.reg [⟨some 4,none,.mv (.c (.bool false))⟩]) (.seq (.seq (.reg [⟨some 6,none,.mv (.t 0)⟩,⟨some 7,none,.len false (.t 6)⟩,⟨some 8,none,.mv (.t 1)⟩,⟨some 9,none,.len false (.t 8)⟩,⟨some 10,none,.bin .neq false (.t 7) (.t 9)⟩]) (.cond (.t 10) (.seq (.reg [⟨some 4,none,.mv (.c (.bool false))⟩]) .ret) .skip)) (.seq (.seq (.reg [⟨some 5,none,.mv (.c (.int .i64 0))⟩]) (.block 0 (.loop [1,1,0,0,0,1,0,0,0,0,0,0,0,0,0,0,0,0,0,0,0,0,0,0,0,0,0] (.seq (.seq (.reg [⟨some 11,none,.mv (.t 5)⟩,⟨some 12,none,.mv (.t 0)⟩,⟨some 13,none,.len false (.t 12)⟩,⟨some 14,none,.bin .lss false (.t 11) (.t 13)⟩]) (.cond (.t 14) .skip (.exit 0))) (.seq (.block 1 (.seq (.dreg [[],[],[0,1],[2,0,1],[],[],[4,5],[6,4,5],[3,2,0,1,7,6,4,5],[8,3,2,0,1,7,6,4,5]] [⟨some 17,none,.mv (.t 0)⟩,⟨some 18,none,.mv (.t 5)⟩,⟨some 19,none,.iaddr 1 (.t 17) (.t 18)⟩,⟨some 20,none,.load true 1 (.t 19)⟩,⟨some 21,none,.mv (.t 1)⟩,⟨some 22,none,.mv (.t 5)⟩,⟨some 23,none,.iaddr 1 (.t 21) (.t 22)⟩,⟨some 24,none,.load true 1 (.t 23)⟩,⟨some 25,none,.call 31 [(.t 20),(.t 24)]⟩,⟨some 26,none,.un .not (.t 25)⟩]) (.cond (.t 26) (.seq (.reg [⟨some 4,none,.mv (.c (.bool false))⟩]) .ret) .skip))) (.reg [⟨some 15,none,.mv (.t 5)⟩,⟨some 16,none,.bin .add false (.t 15) (.c (.int .i64 1))⟩,⟨some 5,none,.mv (.t 16)⟩])))))) (.seq (.reg [⟨some 4,none,.mv (.c (.bool true))⟩]) .ret))))
theorem MO:Ad Tryz.prog 9=some ⟨27,H9,[(.tmp 4)]⟩:=by kernel_rfl
theorem CE:modes 9=⟨[],.asis,none,false⟩:=by unfold modes; rfl
abbrev KT (x:Cl):Prop:=x.bulk≤1048576→E 31 [x.sv,x.sv] []=some (.bool true,[])
abbrev Nw (xs:List Cl):Prop:=xs.length+Cl.sumB xs≤1048576→E 9 [.arr (xs.map Cl.d),.arr (xs.map Cl.d)] []=some (.bool true,[])
theorem P6 (xs:List Cl) (h:∀ x∈xs,KT x):Nw xs:=by
 intro hb
 refine Ab MO CE (of_decide_eq_true rfl) ?_
 simp (disch:=omega) only [H9,go_sem,Aa]
 refine go_loop (α:=Int) (fun i=>⟨slots 27 0 [(0,.arr (xs.map Cl.d)),(1,.arr (xs.map Cl.d)),(5,.int .i64 i)],[]⟩) (fun i=>∃ k:Nat,i=k∧k≤xs.length) (fun i=>xs.length-i.toNat) 0 ⟨0,rfl,zD _⟩ (by simp (disch:=omega) only [go_sem,Aa]) ?_
 ·rintro i ⟨k,rfl,hk⟩
  obtain ⟨i,hi⟩:∃ i:Int,i=(k:Int):=⟨_,rfl⟩
  rw [←hi]
  have hn:i.toNat=k:=by omega
  rcases zC k xs.length with hlt | hge
  ·have hg:=get_at Cl.d hlt
   rw [Cl.d_eq] at hg
   have hle:=Cl.bulk_le xs k hlt
   have hc:=h xs[k] (zB hlt) (by omega)
   simp (disch:=omega) only [go_sem,Aa,hn,hg,hc,Ir]
   refine ⟨i+1,⟨k+1,by omega,hlt⟩,by omega,?_⟩
   trivial
  ·obtain rfl:k=xs.length:=by omega
   simp (disch:=omega) only [go_sem,Aa,hn]
theorem PY (x:Cl) (h_lits:LU x.lits):KT x:=by
 intro hb
 have qb:=Cl.bulk_eq x
 replace h_lits:=h_lits (by omega)
 refine Ab NH Ir (of_decide_eq_true rfl) ?_
 simp (disch:=omega) only [Iq,go_sem,Aa,h_lits,G4,C9]
theorem V3 (x:Cl):KT x:=PY x (NG x.lits fun y hy=>Us y)
theorem Ut (xs:List Cl):Nw xs:=P6 xs fun x _=>V3 x
def Jn:SC:=(.seq (.reg [⟨some 2,none,.boxv 58 4 (.t 0)⟩,⟨some 3,none,.boxv 58 4 (.t 1)⟩,⟨some 4,none,.mv (.c (.bool false))⟩]) (.seq (.seq (.reg [⟨some 5,none,.faddr 0 (.t 2)⟩,⟨some 6,none,.load false 1 (.t 5)⟩,⟨some 7,none,.faddr 0 (.t 3)⟩,⟨some 8,none,.load false 1 (.t 7)⟩,⟨some 9,none,.bin .neq false (.t 6) (.t 8)⟩]) (.cond (.t 9) (.seq (.reg [⟨some 4,none,.mv (.c (.bool false))⟩]) .ret) .skip)) (.seq (.seq (.reg [⟨some 10,none,.faddr 1 (.t 2)⟩,⟨some 11,none,.load false 1 (.t 10)⟩,⟨some 12,none,.faddr 1 (.t 3)⟩,⟨some 13,none,.load false 1 (.t 12)⟩,⟨some 14,none,.bin .neq false (.t 11) (.t 13)⟩]) (.cond (.t 14) (.seq (.reg [⟨some 4,none,.mv (.c (.bool false))⟩]) .ret) .skip)) (.seq (.seq (.reg [⟨some 15,none,.faddr 2 (.t 2)⟩,⟨some 16,none,.load false 1 (.t 15)⟩,⟨some 17,none,.faddr 2 (.t 3)⟩,⟨some 18,none,.load false 1 (.t 17)⟩,⟨some 19,none,.bin .neq true (.t 16) (.t 18)⟩]) (.cond (.t 19) (.seq (.reg [⟨some 4,none,.mv (.c (.bool false))⟩]) .ret) .skip)) (.seq (.seq (.reg [⟨some 20,none,.faddr 3 (.t 2)⟩,⟨some 21,none,.load false 1 (.t 20)⟩,⟨some 22,none,.faddr 3 (.t 3)⟩,⟨some 23,none,.load false 1 (.t 22)⟩,⟨some 24,none,.call 78 [(.t 21),(.t 23)]⟩,⟨some 25,none,.un .not (.t 24)⟩]) (.cond (.t 25) (.seq (.reg [⟨some 4,none,.mv (.c (.bool false))⟩]) .ret) .skip)) (.seq (.reg [⟨some 4,none,.mv (.c (.bool true))⟩]) .ret))))))
theorem P7:Ad Tryz.prog 53=some ⟨26,Jn,[(.tmp 4)]⟩:=by kernel_rfl
theorem Jo:modes 53=⟨[],.asis,none,false⟩:=by unfold modes; rfl
def Is:SC:=(.seq (.reg [⟨some 4,none,.mv (.c (.bool false))⟩]) (.seq (.seq (.reg [⟨some 6,none,.mv (.t 0)⟩,⟨some 7,none,.len false (.t 6)⟩,⟨some 8,none,.mv (.t 1)⟩,⟨some 9,none,.len false (.t 8)⟩,⟨some 10,none,.bin .neq false (.t 7) (.t 9)⟩]) (.cond (.t 10) (.seq (.reg [⟨some 4,none,.mv (.c (.bool false))⟩]) .ret) .skip)) (.seq (.seq (.reg [⟨some 5,none,.mv (.c (.int .i64 0))⟩]) (.block 0 (.loop [1,1,0,0,0,1,0,0,0,0,0,0,0,0,0,0,0,0,0,0,0,0,0,0,0,0,0] (.seq (.seq (.reg [⟨some 11,none,.mv (.t 5)⟩,⟨some 12,none,.mv (.t 0)⟩,⟨some 13,none,.len false (.t 12)⟩,⟨some 14,none,.bin .lss false (.t 11) (.t 13)⟩]) (.cond (.t 14) .skip (.exit 0))) (.seq (.block 1 (.seq (.dreg [[],[],[0,1],[2,0,1],[],[],[4,5],[6,4,5],[3,2,0,1,7,6,4,5],[8,3,2,0,1,7,6,4,5]] [⟨some 17,none,.mv (.t 0)⟩,⟨some 18,none,.mv (.t 5)⟩,⟨some 19,none,.iaddr 4 (.t 17) (.t 18)⟩,⟨some 20,none,.load true 4 (.t 19)⟩,⟨some 21,none,.mv (.t 1)⟩,⟨some 22,none,.mv (.t 5)⟩,⟨some 23,none,.iaddr 4 (.t 21) (.t 22)⟩,⟨some 24,none,.load true 4 (.t 23)⟩,⟨some 25,none,.call 53 [(.t 20),(.t 24)]⟩,⟨some 26,none,.un .not (.t 25)⟩]) (.cond (.t 26) (.seq (.reg [⟨some 4,none,.mv (.c (.bool false))⟩]) .ret) .skip))) (.reg [⟨some 15,none,.mv (.t 5)⟩,⟨some 16,none,.bin .add false (.t 15) (.c (.int .i64 1))⟩,⟨some 5,none,.mv (.t 16)⟩])))))) (.seq (.reg [⟨some 4,none,.mv (.c (.bool true))⟩]) .ret))))
theorem NI:Ad Tryz.prog 30=some ⟨27,Is,[(.tmp 4)]⟩:=by kernel_rfl
theorem It:modes 30=⟨[],.asis,none,false⟩:=by unfold modes; rfl
abbrev MP (x:Tl):Prop:=x.bulk≤1048576→E 53 [x.sv,x.sv] []=some (.bool true,[])
abbrev P8 (xs:List Tl):Prop:=xs.length+Tl.sumB xs≤1048576→E 30 [.arr (xs.map Tl.d),.arr (xs.map Tl.d)] []=some (.bool true,[])
theorem PZ (xs:List Tl) (h:∀ x∈xs,MP x):P8 xs:=by
 intro hb
 refine Ab NI It (of_decide_eq_true rfl) ?_
 simp (disch:=omega) only [Is,go_sem,Aa]
 refine go_loop (α:=Int) (fun i=>⟨slots 27 0 [(0,.arr (xs.map Tl.d)),(1,.arr (xs.map Tl.d)),(5,.int .i64 i)],[]⟩) (fun i=>∃ k:Nat,i=k∧k≤xs.length) (fun i=>xs.length-i.toNat) 0 ⟨0,rfl,zD _⟩ (by simp (disch:=omega) only [go_sem,Aa]) ?_
 ·rintro i ⟨k,rfl,hk⟩
  obtain ⟨i,hi⟩:∃ i:Int,i=(k:Int):=⟨_,rfl⟩
  rw [←hi]
  have hn:i.toNat=k:=by omega
  rcases zC k xs.length with hlt | hge
  ·have hg:=get_at Tl.d hlt
   rw [Tl.d_eq] at hg
   have hle:=Tl.bulk_le xs k hlt
   have hc:=h xs[k] (zB hlt) (by omega)
   simp (disch:=omega) only [go_sem,Aa,hn,hg,hc,Jo]
   refine ⟨i+1,⟨k+1,by omega,hlt⟩,by omega,?_⟩
   trivial
  ·obtain rfl:k=xs.length:=by omega
   simp (disch:=omega) only [go_sem,Aa,hn]
theorem Sl (x:Tl) (h_vals:Up x.vals):MP x:=by
 intro hb
 have qb:=Tl.bulk_eq x
 replace h_vals:=h_vals (by omega)
 refine Ab P7 Jo (of_decide_eq_true rfl) ?_
 simp (disch:=omega) only [Jn,go_sem,Aa,h_vals,Kk,C9]
theorem XR (x:Tl):MP x:=Sl x (ZV x.vals)
def Ei:SC:=(.seq (.reg [⟨some 2,none,.boxv 26 2 (.t 0)⟩,⟨some 3,none,.boxv 26 2 (.t 1)⟩,⟨some 4,none,.mv (.c (.bool false))⟩]) (.seq (.seq (.reg [⟨some 5,none,.faddr 0 (.t 2)⟩,⟨some 6,none,.load false 1 (.t 5)⟩,⟨some 7,none,.faddr 0 (.t 3)⟩,⟨some 8,none,.load false 1 (.t 7)⟩,⟨some 9,none,.bin .neq false (.t 6) (.t 8)⟩]) (.cond (.t 9) (.seq (.reg [⟨some 4,none,.mv (.c (.bool false))⟩]) .ret) .skip)) (.seq (.seq (.reg [⟨some 10,none,.faddr 1 (.t 2)⟩,⟨some 11,none,.load false 1 (.t 10)⟩,⟨some 12,none,.faddr 1 (.t 3)⟩,⟨some 13,none,.load false 1 (.t 12)⟩,⟨some 14,none,.call 30 [(.t 11),(.t 13)]⟩,⟨some 15,none,.un .not (.t 14)⟩]) (.cond (.t 15) (.seq (.reg [⟨some 4,none,.mv (.c (.bool false))⟩]) .ret) .skip)) (.seq (.reg [⟨some 4,none,.mv (.c (.bool true))⟩]) .ret))))
theorem HA:Ad Tryz.prog 8=some ⟨16,Ei,[(.tmp 4)]⟩:=by kernel_rfl
theorem B0:modes 8=⟨[],.asis,none,false⟩:=by unfold modes; rfl
abbrev Gf (x:Ip):Prop:=x.bulk≤1048576→E 8 [x.sv,x.sv] []=some (.bool true,[])
theorem I4 (x:Ip) (h_tables:P8 x.tables):Gf x:=by
 intro hb
 have qb:=Ip.bulk_eq x
 replace h_tables:=h_tables (by omega)
 refine Ab HA B0 (of_decide_eq_true rfl) ?_
 simp (disch:=omega) only [Ei,go_sem,Aa,h_tables,It,C9]
theorem KU (x:Ip):Gf x:=I4 x (PZ x.tables fun y hy=>XR y)
def In.wtS (xs:List Int):Nat:=xs.length
noncomputable def In.mkS:List Int→Int→List Int × Int
 | [],k=>([],k)
 | _ :: xs,k=>(k :: (In.mkS xs (k+1)).1,(In.mkS xs (k+1)).2)
theorem In.mkS_end:∀ (xs:List Int) (k:Int),(In.mkS xs k).2=k+In.wtS xs
 | [],k=>by simp [In.mkS,In.wtS]
 | x :: xs,k=>by
  have h:=In.mkS_end xs (k+1)
  unfold In.wtS at h ⊢
  rw [In.mkS]
  simp only [zJ]
  omega
theorem In.mkS_len:∀ (xs:List Int) (k:Int),(In.mkS xs k).1.length=xs.length
 | [],k=>by rw [In.mkS]
 | x :: xs,k=>by rw [In.mkS]; simp only [zJ]; rw [In.mkS_len xs]
theorem In.wtS_bulk (xs:List Int):In.wtS xs≤5*xs.length:=by
 unfold In.wtS
 omega
def Iu:SC:=(.seq (.reg [⟨some 4,none,.mv (.c (.int .i64 0))⟩]) (.seq (.seq (.reg [⟨some 5,none,.mv (.c (.int .i64 0))⟩]) (.block 0 (.loop [1,1,0,0,0,1,0,0,0,0,0,0,0,0,0,0,0,0,0] (.seq (.seq (.reg [⟨some 6,none,.mv (.t 5)⟩,⟨some 7,none,.mv (.t 0)⟩,⟨some 8,none,.len false (.t 7)⟩,⟨some 9,none,.bin .lss false (.t 6) (.t 8)⟩]) (.cond (.t 9) .skip (.exit 0))) (.seq (.block 1 (.seq (.reg [⟨some 12,none,.mv (.t 0)⟩,⟨some 13,none,.mv (.t 5)⟩,⟨some 14,none,.mv (.t 1)⟩,⟨some 15,none,.iaddr 1 (.t 12) (.t 13)⟩,⟨none,none,(.store 1 (.t 15) (.t 14))⟩]) (.reg [⟨some 16,none,.mv (.t 1)⟩,⟨some 17,none,.bin .add false (.t 16) (.c (.int .i64 1))⟩,⟨some 1,none,.mv (.t 17)⟩]))) (.reg [⟨some 10,none,.mv (.t 5)⟩,⟨some 11,none,.bin .add false (.t 10) (.c (.int .i64 1))⟩,⟨some 5,none,.mv (.t 11)⟩])))))) (.seq (.reg [⟨some 18,none,.mv (.t 1)⟩,⟨some 4,none,.mv (.t 18)⟩]) .ret)))
theorem NJ:Ad Tryz.prog 57=some ⟨19,Iu,[(.tmp 4)]⟩:=by kernel_rfl
theorem Iv:modes 57=⟨[true],.asis,none,true⟩:=by unfold modes; rfl
abbrev V4 (xs:List Int):Prop:=∀ (k:Int) (ob:List Ob),1≤k→k+In.wtS xs≤1099511627776→toTree ob=[.tree (xs.map (fun s=>[OT.int s])) []]→E 57 [.ref 0,.int .i64 k] ob=some (.int .i64 (In.mkS xs k).2,[.tree ((In.mkS xs k).1.map (fun s=>[OT.int s])) []])
theorem V5 (xs:List Int):V4 xs:=by
 intro k0 ob h1 h2 hob
 have hlen:ob.length=1:=by rw [←DV,hob]; rfl
 have hwt:In.wtS xs=xs.length:=rfl
 refine Ab NJ Iv (of_decide_eq_true rfl) ?_
 simp (disch:=omega) only [Iu,go_sem,Aa,hob,hlen]
 refine go_loop (α:=Int × (Int) × (List Int)) (fun a=>⟨slots 19 0 [(0,.ref 0),(1,.int .i64 (a.2.1)),(5,.int .i64 (a.1))],[.tree (((a.2.2)++xs.drop (a.1).toNat).map (fun s=>[OT.int s])) []]⟩) (fun a=>∃ k:Nat,a.1=k∧k≤(xs).length∧(a.2.2).length=k∧(a.2.1)=k0+k∧In.mkS xs k0=((a.2.2)++(In.mkS (xs.drop k) (a.2.1)).1,(In.mkS (xs.drop k) (a.2.1)).2)) (fun a=>(xs).length-(a.1).toNat) (0,k0,[]) ⟨0,rfl,zD _,rfl,by simp,by simp⟩ (by simp (disch:=omega) only [go_sem,Aa,zU]) ?_
 rintro ⟨i,kk,dn⟩ ⟨k,hi,hk,hR⟩
 dsimp only at hi hR
 have hni:i.toNat=k:=by omega
 have hni1:(i+1).toNat=k+1:=by omega
 rcases zC k (xs).length with hlt | hge
 ·obtain ⟨hd,hk1,hm⟩:=hR
  have hdr:xs.drop k=xs[k] :: xs.drop (k+1):=zA hlt
  have hel:(dn++xs.drop k).length=xs.length:=by simp; omega
  have hg:(yE (fun s=>[OT.int s]) (dn++xs.drop k))[k]?=some [OT.int xs[k]]:=by
   rw [hdr,zV,zL (by omega),hd,zQ]; rfl
  rw [hdr,In.mkS] at hm
  have hs:=Ef (fun s=>[OT.int s]) dn (xs.drop (k+1)) xs[k] (kk) hd
  rw [←hdr] at hs
  have hgs:∀ a,((yE (fun s=>[OT.int s]) (dn++xs.drop k)).set k a)[k]?=some a:=fun a=>zR (by rw [zI,hel]; exact hlt)
  simp (disch:=omega) only [go_sem,Aa,hni,hel,hg,hgs,zY,yJ,hs]
  refine ⟨(i+1,kk+1,dn++[kk]),⟨k+1,by dsimp only; omega,hlt,by dsimp only; simp [hd],by dsimp only; omega,by rw [hm]; simp⟩,by dsimp only; omega,?_⟩
  dsimp only
  rw [hni1]
  try first | rfl | simp only [and_self]
 ·obtain ⟨hd,hk1,hm⟩:=hR
  have hdr:xs.drop k=[]:=zF hge
  rw [hdr,In.mkS] at hm
  rw [hm]
  simp (disch:=omega) only [go_sem,Aa,hni,hdr,zS]
mutual
def Tm.wt:Tm→Nat
 | .mk name args=>1+Tm.wtS args
def Tm.wtS:List Tm→Nat
 | []=>0
 | x :: xs=>Tm.wt x+Tm.wtS xs
end
theorem Tm.wt_eq (x:Tm):x.wt=1+Tm.wtS x.args:=by
 obtain ⟨name,args⟩:=x
 rw [Tm.wt]; rfl
mutual
noncomputable def Tm.mk1:Tm→Int→Tm × Int
 | .mk name args,k=>((Tm.mk (Fq k) ((Tm.mkS args (k+1)).1)),(Tm.mkS args (k+1)).2)
noncomputable def Tm.mkS:List Tm→Int→List Tm × Int
 | [],k=>([],k)
 | x :: xs,k=>((Tm.mk1 x k).1 :: (Tm.mkS xs (Tm.mk1 x k).2).1,(Tm.mkS xs (Tm.mk1 x k).2).2)
end
theorem Tm.mk1_eq (x:Tm) (k:Int):x.mk1 k=((Tm.mk (Fq k) ((Tm.mkS x.args (k+1)).1)),(Tm.mkS x.args (k+1)).2):=by
 obtain ⟨name,args⟩:=x
 rw [Tm.mk1]; rfl
theorem Tm.mk1_o (x:Tm) (k:Int):Tm.o (x.mk1 k).1=[.str (Fq k),.ow ((Tm.mkS x.args (k+1)).1.map Tm.o)]:=by
 rw [Tm.mk1_eq,Tm.o_eq]
 try rfl
theorem Tm.KV:∀ (xs:List Tm) (k:Int),(∀ x∈xs,∀ k,(x.mk1 k).2=k+x.wt)→(Tm.mkS xs k).2=k+Tm.wtS xs
 | [],k,_=>by simp [Tm.mkS,Tm.wtS]
 | x :: xs,k,h=>by
  rw [Tm.mkS,Tm.wtS]
  have h1:=h x (by simp) k
  have h2:=Tm.KV xs (x.mk1 k).2 fun y hy=>h y (by simp [hy])
  dsimp only
  omega
theorem Tm.mk1_end (x:Tm) (k:Int):(x.mk1 k).2=k+x.wt:=by
 rw [Tm.mk1_eq,Tm.wt_eq]
 have h:=fun k=>Tm.KV x.args k fun y hy k=>Tm.mk1_end y k
 simp only [h]
 omega
termination_by SizeOf.sizeOf x
decreasing_by exact Tm.Ar hy
theorem Tm.mkS_end (xs:List Tm) (k:Int):(Tm.mkS xs k).2=k+Tm.wtS xs:=Tm.KV xs k fun x _ k=>Tm.mk1_end x k
theorem Tm.V6:∀ xs:List Tm,(∀ x∈xs,x.wt≤5*(1+x.bulk))→Tm.wtS xs≤5*(xs.length+Tm.sumB xs)
 | [],_=>by simp [Tm.wtS]
 | x :: xs,h=>by
  have h1:=h x (by simp)
  have h2:=Tm.V6 xs fun y hy=>h y (by simp [hy])
  rw [Tm.wtS,Tm.sumB]; simp only [zJ]; omega
theorem Tm.wt_bulk (x:Tm):x.wt≤5*(1+x.bulk):=by
 rw [Tm.wt_eq,Tm.bulk_eq]
 have h:=Tm.V6 x.args fun y hy=>Tm.wt_bulk y
 omega
termination_by SizeOf.sizeOf x
decreasing_by exact Tm.Ar hy
theorem Tm.wtS_bulk (xs:List Tm):Tm.wtS xs≤5*(xs.length+Tm.sumB xs):=Tm.V6 xs fun x _=>Tm.wt_bulk x
theorem Tm.length_wt:∀ xs:List Tm,xs.length≤Tm.wtS xs
 | []=>yG _
 | x :: xs=>by
  have:=Tm.length_wt xs
  have:=Tm.wt_eq x
  rw [Tm.wtS]; simp only [zJ]; omega
def HC:SC:=(.seq (.reg [⟨some 4,none,.mv (.c (.int .i64 0))⟩]) (.seq (.seq (.reg [⟨some 5,none,.mv (.c (.int .i64 0))⟩]) (.block 0 (.loop [1,1,0,0,0,1,0,0,0,0,0,0,0,0,0,0,0,0,0,0,0,0,0,0,0,0,0,0] (.seq (.seq (.reg [⟨some 6,none,.mv (.t 5)⟩,⟨some 7,none,.mv (.t 0)⟩,⟨some 8,none,.len false (.t 7)⟩,⟨some 9,none,.bin .lss false (.t 6) (.t 8)⟩]) (.cond (.t 9) .skip (.exit 0))) (.seq (.block 1 (.seq (.reg [⟨some 12,none,.mv (.t 0)⟩,⟨some 13,none,.mv (.t 5)⟩,⟨some 14,none,.mv (.t 1)⟩,⟨some 15,none,.call 55 [(.t 14)]⟩,⟨some 16,none,.iaddr 2 (.t 12) (.t 13)⟩,⟨some 17,none,.faddr 0 (.t 16)⟩,⟨none,none,(.store 1 (.t 17) (.t 15))⟩]) (.seq (.reg [⟨some 18,none,.mv (.t 1)⟩,⟨some 19,none,.bin .add false (.t 18) (.c (.int .i64 1))⟩,⟨some 1,none,.mv (.t 19)⟩]) (.reg [⟨some 20,none,.mv (.t 0)⟩,⟨some 21,none,.mv (.t 5)⟩,⟨some 22,none,.iaddr 2 (.t 20) (.t 21)⟩,⟨some 23,none,.faddr 1 (.t 22)⟩,⟨some 24,none,.load false 1 (.t 23)⟩,⟨some 25,none,.mv (.t 1)⟩,⟨some 26,none,.call 56 [(.t 24),(.t 25)]⟩,⟨some 1,none,.mv (.t 26)⟩])))) (.reg [⟨some 10,none,.mv (.t 5)⟩,⟨some 11,none,.bin .add false (.t 10) (.c (.int .i64 1))⟩,⟨some 5,none,.mv (.t 11)⟩])))))) (.seq (.reg [⟨some 27,none,.mv (.t 1)⟩,⟨some 4,none,.mv (.t 27)⟩]) .ret)))
theorem MQ:Ad Tryz.prog 56=some ⟨28,HC,[(.tmp 4)]⟩:=by kernel_rfl
theorem EQ:modes 56=⟨[true],.asis,none,true⟩:=by unfold modes; rfl
abbrev G5 (xs:List Tm):Prop:=∀ (k:Int) (ob:List Ob),1≤k→k+Tm.wtS xs≤1099511627776→toTree ob=[.tree (xs.map Tm.o) []]→E 56 [.ref 0,.int .i64 k] ob=some (.int .i64 (Tm.mkS xs k).2,[.tree ((Tm.mkS xs k).1.map Tm.o) []])
theorem Jp (xs:List Tm) (ih:∀ x∈xs,G5 x.args):G5 xs:=by
 intro k0 ob h1 h2 hob
 have hlen:ob.length=1:=by rw [←DV,hob]; rfl
 have hL:=Tm.length_wt xs
 refine Ab MQ EQ (of_decide_eq_true rfl) ?_
 simp (disch:=omega) only [HC,go_sem,Aa,hob,hlen]
 refine go_loop (α:=Int × (Int) × (List Tm)) (fun a=>⟨slots 28 0 [(0,.ref 0),(1,.int .i64 (a.2.1)),(5,.int .i64 (a.1))],[.tree (((a.2.2)++xs.drop (a.1).toNat).map Tm.o) []]⟩) (fun a=>∃ k:Nat,a.1=k∧k≤(xs).length∧(a.2.2).length=k∧1≤(a.2.1)∧(a.2.1)+Tm.wtS (xs.drop k)=k0+Tm.wtS xs∧Tm.mkS xs k0=((a.2.2)++(Tm.mkS (xs.drop k) (a.2.1)).1,(Tm.mkS (xs.drop k) (a.2.1)).2)) (fun a=>(xs).length-(a.1).toNat) (0,k0,[]) ⟨0,rfl,zD _,rfl,h1,by rw [zG],by simp⟩ (by simp (disch:=omega) only [go_sem,Aa,zU]) ?_
 rintro ⟨i,kk,dn⟩ ⟨k,hi,hk,hR⟩
 dsimp only at hi hR
 have hni:i.toNat=k:=by omega
 have hni1:(i+1).toNat=k+1:=by omega
 rcases zC k (xs).length with hlt | hge
 ·obtain ⟨hd,hk1,hkn,hm⟩:=hR
  have hdr:xs.drop k=xs[k] :: xs.drop (k+1):=zA hlt
  have hel:(dn++xs.drop k).length=xs.length:=by simp; omega
  have hg:(yE Tm.o (dn++xs.drop k))[k]?=some [.str xs[k].name,.ow (xs[k].args.map Tm.o)]:=by
   rw [←Tm.o_eq,hdr,zV,zL (by omega),hd,zQ]; rfl
  rw [hdr,Tm.wtS] at hkn
  rw [hdr,Tm.mkS] at hm
  have hn1:=Tm.wt_eq xs[k]
  have e1:=Tm.mkS_end xs[k].args ((kk+1))
  have t0:=HP (k:=kk) (by omega) (by omega)
  have c58:=ih xs[k] (zB hlt) ((kk+1)) [.tree (xs[k].args.map Tm.o) []] (by omega) (by omega) rfl
  have hs:=Ef Tm.o dn (xs.drop (k+1)) xs[k] (xs[k].mk1 kk).1 hd
  rw [Tm.mk1_o,← hdr] at hs
  have hgs:∀ a,((yE Tm.o (dn++xs.drop k)).set k a)[k]?=some a:=fun a=>zR (by rw [zI,hel]; exact hlt)
  have he:=Tm.mk1_end xs[k] kk
  have three:∀ z:Int,dec ((3:Int)=0)=false:=fun _=>Aw (by omega)
  simp (disch:=omega) only [go_sem,Aa,hni,hel,hg,t0,c58,EQ,CS,hgs,zY,yJ,hs,three 0]
  refine ⟨(i+1,(xs[k].mk1 kk).2,dn++[(xs[k].mk1 kk).1]),⟨k+1,by dsimp only; omega,hlt,by dsimp only; simp [hd],by dsimp only; omega,by dsimp only; omega,by rw [hm]; simp⟩,by dsimp only; omega,?_⟩
  dsimp only
  rw [hni1,Tm.mk1_eq]
  refine ⟨⟨?_,rfl⟩,rfl⟩
  first | rfl | omega
 ·obtain ⟨hd,hk1,hkn,hm⟩:=hR
  have hdr:xs.drop k=[]:=zF hge
  rw [hdr,Tm.mkS] at hm
  rw [hm]
  simp (disch:=omega) only [go_sem,Aa,hni,hdr,zS]
theorem LV (x:Tm):G5 x.args:=Jp x.args fun y hy=>LV y
termination_by SizeOf.sizeOf x
decreasing_by exact Tm.Ar hy
theorem Uu (xs:List Tm):G5 xs:=Jp xs fun y _=>LV y
def Lt.wt (x:Lt):Nat:=2+Tm.wtS x.atom.args
theorem Lt.wt_eq (x:Lt):x.wt=2+Tm.wtS x.atom.args:=rfl
noncomputable def Lt.mk1 (x:Lt) (k:Int):Lt × Int:=((Lt.mk (dec (k.tmod 3=0)) (Tm.mk (Fq (k+1)) ((Tm.mkS x.atom.args (k+1+1)).1))),(Tm.mkS x.atom.args (k+1+1)).2)
theorem Lt.mk1_eq (x:Lt) (k:Int):x.mk1 k=((Lt.mk (dec (k.tmod 3=0)) (Tm.mk (Fq (k+1)) ((Tm.mkS x.atom.args (k+1+1)).1))),(Tm.mkS x.atom.args (k+1+1)).2):=rfl
def Lt.wtS:List Lt→Nat
 | []=>0
 | x :: xs=>Lt.wt x+Lt.wtS xs
noncomputable def Lt.mkS:List Lt→Int→List Lt × Int
 | [],k=>([],k)
 | x :: xs,k=>((Lt.mk1 x k).1 :: (Lt.mkS xs (Lt.mk1 x k).2).1,(Lt.mkS xs (Lt.mk1 x k).2).2)
theorem Lt.mk1_o (x:Lt) (k:Int):Lt.o (x.mk1 k).1=[.bool (dec (k.tmod 3=0)),.str (Fq (k+1)),.ow ((Tm.mkS x.atom.args (k+1+1)).1.map Tm.o)]:=by
 rw [Lt.mk1_eq,Lt.o_eq]
 try rfl
theorem Lt.mk1_end (x:Lt) (k:Int):(x.mk1 k).2=k+x.wt:=by
 rw [Lt.mk1_eq,Lt.wt_eq]
 first
  |omega
  |(simp only [Tm.mkS_end]; done)
  |(simp only [Tm.mkS_end]; omega)
  |simp
theorem Lt.mkS_end:∀ (xs:List Lt) (k:Int),(Lt.mkS xs k).2=k+Lt.wtS xs
 | [],k=>by simp [Lt.mkS,Lt.wtS]
 | x :: xs,k=>by
  rw [Lt.mkS,Lt.wtS]
  have h1:=Lt.mk1_end x k
  have h2:=Lt.mkS_end xs (x.mk1 k).2
  dsimp only
  omega
theorem Lt.wt_bulk (x:Lt):x.wt≤5*(1+x.bulk):=by
 rw [Lt.wt_eq,Lt.bulk_eq]
 have h0:=Tm.wtS_bulk x.atom.args
 have q1:=Tm.bulk_eq x.atom
 omega
theorem Lt.wtS_bulk:∀ xs:List Lt,Lt.wtS xs≤5*(xs.length+Lt.sumB xs)
 | []=>by simp [Lt.wtS]
 | x :: xs=>by
  have h1:=Lt.wt_bulk x
  have h2:=Lt.wtS_bulk xs
  rw [Lt.wtS,Lt.sumB]; simp only [zJ]; omega
theorem Lt.length_wt:∀ xs:List Lt,xs.length≤Lt.wtS xs
 | []=>yG _
 | x :: xs=>by
  have:=Lt.length_wt xs
  have:=Lt.wt_eq x
  rw [Lt.wtS]; simp only [zJ]; omega
def Fv:SC:=(.seq (.reg [⟨some 4,none,.mv (.c (.int .i64 0))⟩]) (.seq (.seq (.reg [⟨some 5,none,.mv (.c (.int .i64 0))⟩]) (.block 0 (.loop [1,1,0,0,0,1,0,0,0,0,0,0,0,0,0,0,0,0,0,0,0,0,0,0,0,0,0,0,0,0,0,0,0,0,0,0,0,0,0] (.seq (.seq (.reg [⟨some 6,none,.mv (.t 5)⟩,⟨some 7,none,.mv (.t 0)⟩,⟨some 8,none,.len false (.t 7)⟩,⟨some 9,none,.bin .lss false (.t 6) (.t 8)⟩]) (.cond (.t 9) .skip (.exit 0))) (.seq (.block 1 (.seq (.reg [⟨some 12,none,.mv (.t 0)⟩,⟨some 13,none,.mv (.t 5)⟩,⟨some 14,none,.mv (.t 1)⟩,⟨some 15,none,.bin .rem false (.t 14) (.c (.int .i64 3))⟩,⟨some 16,none,.bin .eql false (.t 15) (.c (.int .i64 0))⟩,⟨some 17,none,.iaddr 3 (.t 12) (.t 13)⟩,⟨some 18,none,.faddr 0 (.t 17)⟩,⟨none,none,(.store 1 (.t 18) (.t 16))⟩]) (.seq (.reg [⟨some 19,none,.mv (.t 1)⟩,⟨some 20,none,.bin .add false (.t 19) (.c (.int .i64 1))⟩,⟨some 1,none,.mv (.t 20)⟩]) (.seq (.reg [⟨some 21,none,.mv (.t 0)⟩,⟨some 22,none,.mv (.t 5)⟩,⟨some 23,none,.mv (.t 1)⟩,⟨some 24,none,.call 55 [(.t 23)]⟩,⟨some 25,none,.iaddr 3 (.t 21) (.t 22)⟩,⟨some 26,none,.faddr 1 (.t 25)⟩,⟨some 27,none,.faddr 0 (.t 26)⟩,⟨none,none,(.store 1 (.t 27) (.t 24))⟩]) (.seq (.reg [⟨some 28,none,.mv (.t 1)⟩,⟨some 29,none,.bin .add false (.t 28) (.c (.int .i64 1))⟩,⟨some 1,none,.mv (.t 29)⟩]) (.reg [⟨some 30,none,.mv (.t 0)⟩,⟨some 31,none,.mv (.t 5)⟩,⟨some 32,none,.iaddr 3 (.t 30) (.t 31)⟩,⟨some 33,none,.faddr 1 (.t 32)⟩,⟨some 34,none,.faddr 1 (.t 33)⟩,⟨some 35,none,.load false 1 (.t 34)⟩,⟨some 36,none,.mv (.t 1)⟩,⟨some 37,none,.call 56 [(.t 35),(.t 36)]⟩,⟨some 1,none,.mv (.t 37)⟩])))))) (.reg [⟨some 10,none,.mv (.t 5)⟩,⟨some 11,none,.bin .add false (.t 10) (.c (.int .i64 1))⟩,⟨some 5,none,.mv (.t 11)⟩])))))) (.seq (.reg [⟨some 38,none,.mv (.t 1)⟩,⟨some 4,none,.mv (.t 38)⟩]) .ret)))
theorem JP:Ad Tryz.prog 32=some ⟨39,Fv,[(.tmp 4)]⟩:=by kernel_rfl
theorem Fw:modes 32=⟨[true],.asis,none,true⟩:=by unfold modes; rfl
abbrev Jq (xs:List Lt):Prop:=∀ (k:Int) (ob:List Ob),1≤k→k+Lt.wtS xs≤1099511627776→toTree ob=[.tree (xs.map Lt.o) []]→E 32 [.ref 0,.int .i64 k] ob=some (.int .i64 (Lt.mkS xs k).2,[.tree ((Lt.mkS xs k).1.map Lt.o) []])
theorem LW (xs:List Lt):Jq xs:=by
 intro k0 ob h1 h2 hob
 have hlen:ob.length=1:=by rw [←DV,hob]; rfl
 have hL:=Lt.length_wt xs
 refine Ab JP Fw (of_decide_eq_true rfl) ?_
 simp (disch:=omega) only [Fv,go_sem,Aa,hob,hlen]
 refine go_loop (α:=Int × (Int) × (List Lt)) (fun a=>⟨slots 39 0 [(0,.ref 0),(1,.int .i64 (a.2.1)),(5,.int .i64 (a.1))],[.tree (((a.2.2)++xs.drop (a.1).toNat).map Lt.o) []]⟩) (fun a=>∃ k:Nat,a.1=k∧k≤(xs).length∧(a.2.2).length=k∧1≤(a.2.1)∧(a.2.1)+Lt.wtS (xs.drop k)=k0+Lt.wtS xs∧Lt.mkS xs k0=((a.2.2)++(Lt.mkS (xs.drop k) (a.2.1)).1,(Lt.mkS (xs.drop k) (a.2.1)).2)) (fun a=>(xs).length-(a.1).toNat) (0,k0,[]) ⟨0,rfl,zD _,rfl,h1,by rw [zG],by simp⟩ (by simp (disch:=omega) only [go_sem,Aa,zU]) ?_
 rintro ⟨i,kk,dn⟩ ⟨k,hi,hk,hR⟩
 dsimp only at hi hR
 have hni:i.toNat=k:=by omega
 have hni1:(i+1).toNat=k+1:=by omega
 rcases zC k (xs).length with hlt | hge
 ·obtain ⟨hd,hk1,hkn,hm⟩:=hR
  have hdr:xs.drop k=xs[k] :: xs.drop (k+1):=zA hlt
  have hel:(dn++xs.drop k).length=xs.length:=by simp; omega
  have hg:(yE Lt.o (dn++xs.drop k))[k]?=some [.bool xs[k].pos,.str xs[k].atom.name,.ow (xs[k].atom.args.map Tm.o)]:=by
   rw [←Lt.o_eq,hdr,zV,zL (by omega),hd,zQ]; rfl
  rw [hdr,Lt.wtS] at hkn
  rw [hdr,Lt.mkS] at hm
  have hn1:=Lt.wt_eq xs[k]
  have e2:=Tm.mkS_end xs[k].atom.args ((kk+1+1))
  have t0:=HP (k:=(kk+1)) (by omega) (by omega)
  have c64:=Uu xs[k].atom.args ((kk+1+1)) [.tree (xs[k].atom.args.map Tm.o) []] (by omega) (by omega) rfl
  have hs:=Ef Lt.o dn (xs.drop (k+1)) xs[k] (xs[k].mk1 kk).1 hd
  rw [Lt.mk1_o,← hdr] at hs
  have hgs:∀ a,((yE Lt.o (dn++xs.drop k)).set k a)[k]?=some a:=fun a=>zR (by rw [zI,hel]; exact hlt)
  have he:=Lt.mk1_end xs[k] kk
  have three:∀ z:Int,dec ((3:Int)=0)=false:=fun _=>Aw (by omega)
  simp (disch:=omega) only [go_sem,Aa,hni,hel,hg,t0,c64,EQ,CS,hgs,zY,yJ,hs,three 0]
  refine ⟨(i+1,(xs[k].mk1 kk).2,dn++[(xs[k].mk1 kk).1]),⟨k+1,by dsimp only; omega,hlt,by dsimp only; simp [hd],by dsimp only; omega,by dsimp only; omega,by rw [hm]; simp⟩,by dsimp only; omega,?_⟩
  dsimp only
  rw [hni1,Lt.mk1_eq]
  refine ⟨⟨?_,rfl⟩,rfl⟩
  first | rfl | omega
 ·obtain ⟨hd,hk1,hkn,hm⟩:=hR
  have hdr:xs.drop k=[]:=zF hge
  rw [hdr,Lt.mkS] at hm
  rw [hm]
  simp (disch:=omega) only [go_sem,Aa,hni,hdr,zS]
theorem P9 (xs:List Lt):Jq xs:=LW xs
def Tl.wt (x:Tl):Nat:=3+In.wtS x.vals
theorem Tl.wt_eq (x:Tl):x.wt=3+In.wtS x.vals:=rfl
noncomputable def Tl.mk1 (x:Tl) (k:Int):Tl × Int:=((Tl.mk (Fq k) ((k+1)) (dec ((k+1+1).tmod 3=0)) ((In.mkS x.vals (k+1+1+1)).1)),(In.mkS x.vals (k+1+1+1)).2)
theorem Tl.mk1_eq (x:Tl) (k:Int):x.mk1 k=((Tl.mk (Fq k) ((k+1)) (dec ((k+1+1).tmod 3=0)) ((In.mkS x.vals (k+1+1+1)).1)),(In.mkS x.vals (k+1+1+1)).2):=rfl
def Tl.wtS:List Tl→Nat
 | []=>0
 | x :: xs=>Tl.wt x+Tl.wtS xs
noncomputable def Tl.mkS:List Tl→Int→List Tl × Int
 | [],k=>([],k)
 | x :: xs,k=>((Tl.mk1 x k).1 :: (Tl.mkS xs (Tl.mk1 x k).2).1,(Tl.mkS xs (Tl.mk1 x k).2).2)
theorem Tl.Qdg (x:Tl) (k:Int):Tl.d (x.mk1 k).1=[.str (Fq k),.int (k+1),.bool (dec ((k+1+1).tmod 3=0)),.arr ((In.mkS x.vals (k+1+1+1)).1.map (fun n=>[D.int n]))]:=by
 rw [Tl.mk1_eq,Tl.d_eq]
 try rfl
theorem Tl.mk1_o (x:Tl) (k:Int):Tl.o (x.mk1 k).1=[.str (Fq k),.int (k+1),.bool (dec ((k+1+1).tmod 3=0)),.ow ((In.mkS x.vals (k+1+1+1)).1.map (fun n=>[OT.int n]))]:=by
 rw [Tl.mk1_eq,Tl.o_eq]
 try rfl
theorem Tl.mk1_end (x:Tl) (k:Int):(x.mk1 k).2=k+x.wt:=by
 rw [Tl.mk1_eq,Tl.wt_eq]
 first
  |omega
  |(simp only [In.mkS_end]; done)
  |(simp only [In.mkS_end]; omega)
  |simp
theorem Tl.mkS_end:∀ (xs:List Tl) (k:Int),(Tl.mkS xs k).2=k+Tl.wtS xs
 | [],k=>by simp [Tl.mkS,Tl.wtS]
 | x :: xs,k=>by
  rw [Tl.mkS,Tl.wtS]
  have h1:=Tl.mk1_end x k
  have h2:=Tl.mkS_end xs (x.mk1 k).2
  dsimp only
  omega
theorem Tl.wt_bulk (x:Tl):x.wt≤5*(1+x.bulk):=by
 rw [Tl.wt_eq,Tl.bulk_eq]
 have h0:=In.wtS_bulk x.vals
 omega
theorem Tl.wtS_bulk:∀ xs:List Tl,Tl.wtS xs≤5*(xs.length+Tl.sumB xs)
 | []=>by simp [Tl.wtS]
 | x :: xs=>by
  have h1:=Tl.wt_bulk x
  have h2:=Tl.wtS_bulk xs
  rw [Tl.wtS,Tl.sumB]; simp only [zJ]; omega
theorem Tl.length_wt:∀ xs:List Tl,xs.length≤Tl.wtS xs
 | []=>yG _
 | x :: xs=>by
  have:=Tl.length_wt xs
  have:=Tl.wt_eq x
  rw [Tl.wtS]; simp only [zJ]; omega
def G6:SC:=(.seq (.reg [⟨some 4,none,.mv (.c (.int .i64 0))⟩]) (.seq (.seq (.reg [⟨some 5,none,.mv (.c (.int .i64 0))⟩]) (.block 0 (.loop [1,1,0,0,0,1,0,0,0,0,0,0,0,0,0,0,0,0,0,0,0,0,0,0,0,0,0,0,0,0,0,0,0,0,0,0,0,0,0,0,0,0,0,0] (.seq (.seq (.reg [⟨some 6,none,.mv (.t 5)⟩,⟨some 7,none,.mv (.t 0)⟩,⟨some 8,none,.len false (.t 7)⟩,⟨some 9,none,.bin .lss false (.t 6) (.t 8)⟩]) (.cond (.t 9) .skip (.exit 0))) (.seq (.block 1 (.seq (.reg [⟨some 12,none,.mv (.t 0)⟩,⟨some 13,none,.mv (.t 5)⟩,⟨some 14,none,.mv (.t 1)⟩,⟨some 15,none,.call 55 [(.t 14)]⟩,⟨some 16,none,.iaddr 4 (.t 12) (.t 13)⟩,⟨some 17,none,.faddr 0 (.t 16)⟩,⟨none,none,(.store 1 (.t 17) (.t 15))⟩]) (.seq (.reg [⟨some 18,none,.mv (.t 1)⟩,⟨some 19,none,.bin .add false (.t 18) (.c (.int .i64 1))⟩,⟨some 1,none,.mv (.t 19)⟩]) (.seq (.reg [⟨some 20,none,.mv (.t 0)⟩,⟨some 21,none,.mv (.t 5)⟩,⟨some 22,none,.mv (.t 1)⟩,⟨some 23,none,.iaddr 4 (.t 20) (.t 21)⟩,⟨some 24,none,.faddr 1 (.t 23)⟩,⟨none,none,(.store 1 (.t 24) (.t 22))⟩]) (.seq (.reg [⟨some 25,none,.mv (.t 1)⟩,⟨some 26,none,.bin .add false (.t 25) (.c (.int .i64 1))⟩,⟨some 1,none,.mv (.t 26)⟩]) (.seq (.reg [⟨some 27,none,.mv (.t 0)⟩,⟨some 28,none,.mv (.t 5)⟩,⟨some 29,none,.mv (.t 1)⟩,⟨some 30,none,.bin .rem false (.t 29) (.c (.int .i64 3))⟩,⟨some 31,none,.bin .eql false (.t 30) (.c (.int .i64 0))⟩,⟨some 32,none,.iaddr 4 (.t 27) (.t 28)⟩,⟨some 33,none,.faddr 2 (.t 32)⟩,⟨none,none,(.store 1 (.t 33) (.t 31))⟩]) (.seq (.reg [⟨some 34,none,.mv (.t 1)⟩,⟨some 35,none,.bin .add false (.t 34) (.c (.int .i64 1))⟩,⟨some 1,none,.mv (.t 35)⟩]) (.reg [⟨some 36,none,.mv (.t 0)⟩,⟨some 37,none,.mv (.t 5)⟩,⟨some 38,none,.iaddr 4 (.t 36) (.t 37)⟩,⟨some 39,none,.faddr 3 (.t 38)⟩,⟨some 40,none,.load false 1 (.t 39)⟩,⟨some 41,none,.mv (.t 1)⟩,⟨some 42,none,.call 57 [(.t 40),(.t 41)]⟩,⟨some 1,none,.mv (.t 42)⟩])))))))) (.reg [⟨some 10,none,.mv (.t 5)⟩,⟨some 11,none,.bin .add false (.t 10) (.c (.int .i64 1))⟩,⟨some 5,none,.mv (.t 11)⟩])))))) (.seq (.reg [⟨some 43,none,.mv (.t 1)⟩,⟨some 4,none,.mv (.t 43)⟩]) .ret)))
theorem LX:Ad Tryz.prog 33=some ⟨44,G6,[(.tmp 4)]⟩:=by kernel_rfl
theorem G7:modes 33=⟨[true],.asis,none,true⟩:=by unfold modes; rfl
abbrev LY (xs:List Tl):Prop:=∀ (k:Int) (ob:List Ob),1≤k→k+Tl.wtS xs≤1099511627776→toTree ob=[.tree (xs.map Tl.o) []]→E 33 [.ref 0,.int .i64 k] ob=some (.int .i64 (Tl.mkS xs k).2,[.tree ((Tl.mkS xs k).1.map Tl.o) []])
theorem NK (xs:List Tl):LY xs:=by
 intro k0 ob h1 h2 hob
 have hlen:ob.length=1:=by rw [←DV,hob]; rfl
 have hL:=Tl.length_wt xs
 refine Ab LX G7 (of_decide_eq_true rfl) ?_
 simp (disch:=omega) only [G6,go_sem,Aa,hob,hlen]
 refine go_loop (α:=Int × (Int) × (List Tl)) (fun a=>⟨slots 44 0 [(0,.ref 0),(1,.int .i64 (a.2.1)),(5,.int .i64 (a.1))],[.tree (((a.2.2)++xs.drop (a.1).toNat).map Tl.o) []]⟩) (fun a=>∃ k:Nat,a.1=k∧k≤(xs).length∧(a.2.2).length=k∧1≤(a.2.1)∧(a.2.1)+Tl.wtS (xs.drop k)=k0+Tl.wtS xs∧Tl.mkS xs k0=((a.2.2)++(Tl.mkS (xs.drop k) (a.2.1)).1,(Tl.mkS (xs.drop k) (a.2.1)).2)) (fun a=>(xs).length-(a.1).toNat) (0,k0,[]) ⟨0,rfl,zD _,rfl,h1,by rw [zG],by simp⟩ (by simp (disch:=omega) only [go_sem,Aa,zU]) ?_
 rintro ⟨i,kk,dn⟩ ⟨k,hi,hk,hR⟩
 dsimp only at hi hR
 have hni:i.toNat=k:=by omega
 have hni1:(i+1).toNat=k+1:=by omega
 rcases zC k (xs).length with hlt | hge
 ·obtain ⟨hd,hk1,hkn,hm⟩:=hR
  have hdr:xs.drop k=xs[k] :: xs.drop (k+1):=zA hlt
  have hel:(dn++xs.drop k).length=xs.length:=by simp; omega
  have hg:(yE Tl.o (dn++xs.drop k))[k]?=some [.str xs[k].name,.int xs[k].arity,.bool xs[k].pred,.ow (xs[k].vals.map fun n=>[OT.int n])]:=by
   rw [←Tl.o_eq,hdr,zV,zL (by omega),hd,zQ]; rfl
  rw [hdr,Tl.wtS] at hkn
  rw [hdr,Tl.mkS] at hm
  have hn1:=Tl.wt_eq xs[k]
  have e3:=In.mkS_end xs[k].vals ((kk+1+1+1))
  have t0:=HP (k:=kk) (by omega) (by omega)
  have c58:=V5 xs[k].vals ((kk+1+1+1)) [.tree (xs[k].vals.map (fun n=>[OT.int n])) []] (by omega) (by omega) rfl
  have hs:=Ef Tl.o dn (xs.drop (k+1)) xs[k] (xs[k].mk1 kk).1 hd
  rw [Tl.mk1_o,← hdr] at hs
  have hgs:∀ a,((yE Tl.o (dn++xs.drop k)).set k a)[k]?=some a:=fun a=>zR (by rw [zI,hel]; exact hlt)
  have he:=Tl.mk1_end xs[k] kk
  have three:∀ z:Int,dec ((3:Int)=0)=false:=fun _=>Aw (by omega)
  simp (disch:=omega) only [go_sem,Aa,hni,hel,hg,t0,c58,Iv,CS,hgs,zY,yJ,hs,three 0]
  refine ⟨(i+1,(xs[k].mk1 kk).2,dn++[(xs[k].mk1 kk).1]),⟨k+1,by dsimp only; omega,hlt,by dsimp only; simp [hd],by dsimp only; omega,by dsimp only; omega,by rw [hm]; simp⟩,by dsimp only; omega,?_⟩
  dsimp only
  rw [hni1,Tl.mk1_eq]
  refine ⟨⟨?_,rfl⟩,rfl⟩
  first | rfl | omega
 ·obtain ⟨hd,hk1,hkn,hm⟩:=hR
  have hdr:xs.drop k=[]:=zF hge
  rw [hdr,Tl.mkS] at hm
  rw [hm]
  simp (disch:=omega) only [go_sem,Aa,hni,hdr,zS]
theorem Sm (xs:List Tl):LY xs:=NK xs
def Iw:SC:=(.seq (.reg [⟨some 4,none,.mv (.c (.int .i64 0))⟩]) (.seq (.seq (.reg [⟨some 5,none,.mv (.c (.int .i64 0))⟩]) (.block 0 (.loop [1,1,0,0,0,1,0,0,0,0,0,0,0,0,0,0,0,0,0,0,0] (.seq (.seq (.reg [⟨some 6,none,.mv (.t 5)⟩,⟨some 7,none,.mv (.t 0)⟩,⟨some 8,none,.len false (.t 7)⟩,⟨some 9,none,.bin .lss false (.t 6) (.t 8)⟩]) (.cond (.t 9) .skip (.exit 0))) (.seq (.block 1 (.seq (.seq (.reg [⟨some 12,none,.mv (.t 0)⟩,⟨some 13,none,.mv (.t 5)⟩,⟨some 14,none,.iaddr 1 (.t 12) (.t 13)⟩,⟨some 15,none,.load false 1 (.t 14)⟩,⟨some 16,none,.mv (.t 1)⟩,⟨some 17,none,.bin .neq false (.t 15) (.t 16)⟩]) (.cond (.t 17) (.seq (.reg [⟨some 4,none,.mv (.c (.int .i64 (-(0+1))))⟩]) .ret) .skip)) (.reg [⟨some 18,none,.mv (.t 1)⟩,⟨some 19,none,.bin .add false (.t 18) (.c (.int .i64 1))⟩,⟨some 1,none,.mv (.t 19)⟩]))) (.reg [⟨some 10,none,.mv (.t 5)⟩,⟨some 11,none,.bin .add false (.t 10) (.c (.int .i64 1))⟩,⟨some 5,none,.mv (.t 11)⟩])))))) (.seq (.reg [⟨some 20,none,.mv (.t 1)⟩,⟨some 4,none,.mv (.t 20)⟩]) .ret)))
theorem NL:Ad Tryz.prog 58=some ⟨21,Iw,[(.tmp 4)]⟩:=by kernel_rfl
theorem Ix:modes 58=⟨[],.asis,none,false⟩:=by unfold modes; rfl
theorem V7 (xs:List Int):∀ k:Int,1≤k→k+In.wtS xs≤1099511627776→E 58 [.arr ((In.mkS xs k).1.map (fun s=>[D.int s])),.int .i64 k] []=some (.int .i64 (In.mkS xs k).2,[]):=by
 intro k0 h1 h2
 obtain ⟨ys,hys⟩:∃ ys,ys=(In.mkS xs k0).1:=⟨_,rfl⟩
 have hyl:ys.length=xs.length:=by rw [hys,In.mkS_len]
 rw [←hys]
 have hwt:In.wtS xs=xs.length:=rfl
 refine Ab NL Ix (of_decide_eq_true rfl) ?_
 simp (disch:=omega) only [Iw,go_sem,Aa]
 refine go_loop (α:=Int × (Int)) (fun a=>⟨slots 21 0 [(0,.arr (ys.map (fun s=>[D.int s]))),(1,.int .i64 (a.2)),(5,.int .i64 (a.1))],[]⟩) (fun a=>∃ k:Nat,a.1=k∧k≤(ys).length∧(a.2)=k0+k∧ys.drop k=(In.mkS (xs.drop k) (a.2)).1∧(In.mkS xs k0).2=(In.mkS (xs.drop k) (a.2)).2) (fun a=>(ys).length-(a.1).toNat) (0,k0) ⟨0,rfl,zD _,by simp,by rw [zG,zG,hys],by rw [zG]⟩ (by simp (disch:=omega) only [go_sem,Aa]) ?_
 rintro ⟨i,kk⟩ ⟨k,hi,hk,hR⟩
 dsimp only at hi hR
 have hni:i.toNat=k:=by omega
 have hni1:(i+1).toNat=k+1:=by omega
 rcases zC k (ys).length with hlt | hge
 ·obtain ⟨hk1,hy,hm⟩:=hR
  have hlx:k<xs.length:=by omega
  have hdr:xs.drop k=xs[k] :: xs.drop (k+1):=zA hlx
  have hdy:=zA hlt
  rw [hdr,In.mkS] at hm
  rw [hdr,In.mkS,hdy] at hy
  dsimp only at hy hm
  obtain ⟨hy1,hy2⟩:=yQ hy
  have hg:=get_at (fun s=>[D.int s]) hlt
  rw [hy1] at hg
  simp (disch:=omega) only [go_sem,Aa,hni,hg,C9]
  exact ⟨(i+1,kk+1),⟨k+1,by dsimp only; omega,hlt,by dsimp only; omega,hy2,hm⟩,by dsimp only; omega,by first | trivial | rfl | exact ⟨rfl,rfl⟩⟩
 ·obtain ⟨hk1,hy,hm⟩:=hR
  have hdr:xs.drop k=[]:=zF (by omega)
  rw [hdr,In.mkS] at hm
  rw [hm]
  simp (disch:=omega) only [go_sem,Aa,hni]
def G8:SC:=(.seq (.reg [⟨some 4,none,.mv (.c (.int .i64 0))⟩]) (.seq (.seq (.reg [⟨some 5,none,.mv (.c (.int .i64 0))⟩]) (.block 0 (.loop [1,1,0,0,0,1,0,0,0,0,0,0,0,0,0,0,0,0,0,0,0,0,0,0,0,0,0,0,0,0,0,0,0,0,0,0,0,0,0,0,0,0,0,0,0,0,0,0,0,0,0,0] (.seq (.seq (.reg [⟨some 6,none,.mv (.t 5)⟩,⟨some 7,none,.mv (.t 0)⟩,⟨some 8,none,.len false (.t 7)⟩,⟨some 9,none,.bin .lss false (.t 6) (.t 8)⟩]) (.cond (.t 9) .skip (.exit 0))) (.seq (.block 1 (.seq (.seq (.dreg [[],[],[0,1],[2,0,1],[3,2,0,1],[],[5],[4,3,2,0,1,6,5]] [⟨some 12,none,.mv (.t 0)⟩,⟨some 13,none,.mv (.t 5)⟩,⟨some 14,none,.iaddr 4 (.t 12) (.t 13)⟩,⟨some 15,none,.faddr 0 (.t 14)⟩,⟨some 16,none,.load false 1 (.t 15)⟩,⟨some 17,none,.mv (.t 1)⟩,⟨some 18,none,.call 55 [(.t 17)]⟩,⟨some 19,none,.bin .neq false (.t 16) (.t 18)⟩]) (.cond (.t 19) (.seq (.reg [⟨some 4,none,.mv (.c (.int .i64 (-(0+1))))⟩]) .ret) .skip)) (.seq (.reg [⟨some 20,none,.mv (.t 1)⟩,⟨some 21,none,.bin .add false (.t 20) (.c (.int .i64 1))⟩,⟨some 1,none,.mv (.t 21)⟩]) (.seq (.seq (.reg [⟨some 22,none,.mv (.t 0)⟩,⟨some 23,none,.mv (.t 5)⟩,⟨some 24,none,.iaddr 4 (.t 22) (.t 23)⟩,⟨some 25,none,.faddr 1 (.t 24)⟩,⟨some 26,none,.load false 1 (.t 25)⟩,⟨some 27,none,.mv (.t 1)⟩,⟨some 28,none,.bin .neq false (.t 26) (.t 27)⟩]) (.cond (.t 28) (.seq (.reg [⟨some 4,none,.mv (.c (.int .i64 (-(0+1))))⟩]) .ret) .skip)) (.seq (.reg [⟨some 29,none,.mv (.t 1)⟩,⟨some 30,none,.bin .add false (.t 29) (.c (.int .i64 1))⟩,⟨some 1,none,.mv (.t 30)⟩]) (.seq (.seq (.reg [⟨some 31,none,.mv (.t 0)⟩,⟨some 32,none,.mv (.t 5)⟩,⟨some 33,none,.iaddr 4 (.t 31) (.t 32)⟩,⟨some 34,none,.faddr 2 (.t 33)⟩,⟨some 35,none,.load false 1 (.t 34)⟩,⟨some 36,none,.mv (.t 1)⟩,⟨some 37,none,.bin .rem false (.t 36) (.c (.int .i64 3))⟩,⟨some 38,none,.bin .eql false (.t 37) (.c (.int .i64 0))⟩,⟨some 39,none,.bin .neq true (.t 35) (.t 38)⟩]) (.cond (.t 39) (.seq (.reg [⟨some 4,none,.mv (.c (.int .i64 (-(0+1))))⟩]) .ret) .skip)) (.seq (.reg [⟨some 40,none,.mv (.t 1)⟩,⟨some 41,none,.bin .add false (.t 40) (.c (.int .i64 1))⟩,⟨some 1,none,.mv (.t 41)⟩]) (.seq (.reg [⟨some 42,none,.mv (.t 0)⟩,⟨some 43,none,.mv (.t 5)⟩,⟨some 44,none,.iaddr 4 (.t 42) (.t 43)⟩,⟨some 45,none,.faddr 3 (.t 44)⟩,⟨some 46,none,.load false 1 (.t 45)⟩,⟨some 47,none,.mv (.t 1)⟩,⟨some 48,none,.call 58 [(.t 46),(.t 47)]⟩,⟨some 1,none,.mv (.t 48)⟩]) (.seq (.reg [⟨some 49,none,.mv (.t 1)⟩,⟨some 50,none,.bin .lss false (.t 49) (.c (.int .i64 0))⟩]) (.cond (.t 50) (.seq (.reg [⟨some 4,none,.mv (.c (.int .i64 (-(0+1))))⟩]) .ret) .skip)))))))))) (.reg [⟨some 10,none,.mv (.t 5)⟩,⟨some 11,none,.bin .add false (.t 10) (.c (.int .i64 1))⟩,⟨some 5,none,.mv (.t 11)⟩])))))) (.seq (.reg [⟨some 51,none,.mv (.t 1)⟩,⟨some 4,none,.mv (.t 51)⟩]) .ret)))
theorem LZ:Ad Tryz.prog 34=some ⟨52,G8,[(.tmp 4)]⟩:=by kernel_rfl
theorem G9:modes 34=⟨[],.asis,none,false⟩:=by unfold modes; rfl
theorem Tl.mkS_len:∀ (xs:List Tl) (k:Int),(Tl.mkS xs k).1.length=xs.length
 | [],k=>by rw [Tl.mkS]
 | x :: xs,k=>by rw [Tl.mkS]; simp only [zJ]; rw [Tl.mkS_len xs]
abbrev Ma (xs:List Tl):Prop:=∀ k:Int,1≤k→k+Tl.wtS xs≤1099511627776→E 34 [.arr ((Tl.mkS xs k).1.map Tl.d),.int .i64 k] []=some (.int .i64 (Tl.mkS xs k).2,[])
theorem NM (xs:List Tl):Ma xs:=by
 intro k0 h1 h2
 obtain ⟨ys,hys⟩:∃ ys,ys=(Tl.mkS xs k0).1:=⟨_,rfl⟩
 have hyl:ys.length=xs.length:=by rw [hys,Tl.mkS_len]
 rw [←hys]
 have hL:=Tl.length_wt xs
 refine Ab LZ G9 (of_decide_eq_true rfl) ?_
 simp (disch:=omega) only [G8,go_sem,Aa]
 refine go_loop (α:=Int × (Int)) (fun a=>⟨slots 52 0 [(0,.arr (ys.map Tl.d)),(1,.int .i64 (a.2)),(5,.int .i64 (a.1))],[]⟩) (fun a=>∃ k:Nat,a.1=k∧k≤(ys).length∧1≤(a.2)∧(a.2)+Tl.wtS (xs.drop k)=k0+Tl.wtS xs∧ys.drop k=(Tl.mkS (xs.drop k) (a.2)).1∧(Tl.mkS xs k0).2=(Tl.mkS (xs.drop k) (a.2)).2) (fun a=>(ys).length-(a.1).toNat) (0,k0) ⟨0,rfl,zD _,h1,by rw [zG],by rw [zG,zG,hys],by rw [zG]⟩ (by simp (disch:=omega) only [go_sem,Aa]) ?_
 rintro ⟨i,kk⟩ ⟨k,hi,hk,hR⟩
 dsimp only at hi hR
 have hni:i.toNat=k:=by omega
 have hni1:(i+1).toNat=k+1:=by omega
 rcases zC k (ys).length with hlt | hge
 ·obtain ⟨hk1,hkn,hy,hm⟩:=hR
  have hlx:k<xs.length:=by omega
  have hdr:xs.drop k=xs[k] :: xs.drop (k+1):=zA hlx
  have hdy:=zA hlt
  rw [hdr,Tl.wtS] at hkn
  rw [hdr,Tl.mkS] at hm
  rw [hdr,Tl.mkS,hdy] at hy
  dsimp only at hy hm
  obtain ⟨hy1,hy2⟩:=yQ hy
  have hg:=get_at Tl.d hlt
  rw [hy1,Tl.Qdg] at hg
  have hn1:=Tl.wt_eq xs[k]
  have e3:=In.mkS_end xs[k].vals ((kk+1+1+1))
  have t0:=HP (k:=kk) (by omega) (by omega)
  have c58:=V7 xs[k].vals ((kk+1+1+1)) (by omega) (by omega)
  have he:=Tl.mk1_end xs[k] kk
  simp (disch:=omega) only [go_sem,Aa,hni,hg,CS,C9,t0,c58,Ix]
  refine ⟨(i+1,(xs[k].mk1 kk).2),⟨k+1,by dsimp only; omega,hlt,by dsimp only; omega,by dsimp only; omega,hy2,hm⟩,by dsimp only; omega,?_⟩
  dsimp only
  rw [Tl.mk1_eq]
  simp only [and_self,and_true,true_and]
  try omega
 ·obtain ⟨hk1,hkn,hy,hm⟩:=hR
  have hdr:xs.drop k=[]:=zF (by omega)
  rw [hdr,Tl.mkS] at hm
  rw [hm]
  simp (disch:=omega) only [go_sem,Aa,hni]
theorem Sn (xs:List Tl):Ma xs:=NM xs
theorem Qb5 {o:Ob} {es:List (List OT)} (h:toTree [o]=[.tree es []]):(∃ a b,o=.row a b es)∨o=.tree es []:=by
 cases o with
 | row a b e=>obtain ⟨h1,h2⟩:=yQ h; cases h1; exact .inl ⟨a,b,rfl⟩
 | tree e hs=>obtain ⟨h1,h2⟩:=yQ h; cases h1; exact .inr rfl
 | _=>simp [toTree] at h
noncomputable def Ip.mkr (x:Ip) (k:Int):Ip × Int:=((Ip.mk (x.size) ((Tl.mkS x.tables k).1)),(Tl.mkS x.tables k).2)
def D8:SC:=(.seq (.reg [⟨some 2,none,.boxv 26 2 (.t 0)⟩,⟨some 4,none,.mv (.c (.int .i64 0))⟩]) (.seq (.reg [⟨some 5,none,.faddr 1 (.t 2)⟩,⟨some 6,none,.load false 1 (.t 5)⟩,⟨some 7,none,.mv (.t 1)⟩,⟨some 8,none,.call 33 [(.t 6),(.t 7)]⟩,⟨some 1,none,.mv (.t 8)⟩]) (.seq (.reg [⟨some 9,none,.mv (.t 1)⟩,⟨some 4,none,.mv (.t 9)⟩]) .ret)))
theorem Gh:Ad Tryz.prog 11=some ⟨10,D8,[(.tmp 4)]⟩:=by kernel_rfl
theorem Bo:modes 11=⟨[true],.asis,none,false⟩:=by unfold modes; rfl
theorem Jr (x:Ip) (k:Int) (o0:Ob) (h1:1≤k) (h2:k+(Tl.wtS x.tables:Nat)≤1099511627776) (t0:toTree [o0]=[.tree (x.tables.map Tl.o) []]):E 11 [.agg [.int .i64 x.size,.ref 0],.int .i64 k] [o0]=some (.int .i64 (x.mkr k).2,[.tree ((Tl.mkS x.tables k).1.map Tl.o) []]):=by
 have e0:=Tl.mkS_end x.tables k
 rw [Ip.mkr]
 dsimp only
 have c0:=Sm x.tables k [o0] (by omega) (by omega) t0
 rcases Qb5 t0 with ⟨a0,b0,rfl⟩ | rfl <;>
  (
  refine Ab Gh Bo (of_decide_eq_true rfl) ?_
  simp (disch:=omega) only [D8,go_sem,Aa,c0,G7])
def D9:SC:=(.seq (.reg [⟨some 2,none,.boxv 26 2 (.t 0)⟩,⟨some 4,none,.mv (.c (.int .i64 0))⟩]) (.seq (.reg [⟨some 5,none,.faddr 1 (.t 2)⟩,⟨some 6,none,.load false 1 (.t 5)⟩,⟨some 7,none,.mv (.t 1)⟩,⟨some 8,none,.call 34 [(.t 6),(.t 7)]⟩,⟨some 1,none,.mv (.t 8)⟩]) (.seq (.seq (.reg [⟨some 9,none,.mv (.t 1)⟩,⟨some 10,none,.bin .lss false (.t 9) (.c (.int .i64 0))⟩]) (.cond (.t 10) (.seq (.reg [⟨some 4,none,.mv (.c (.int .i64 (-(0+1))))⟩]) .ret) .skip)) (.seq (.reg [⟨some 11,none,.mv (.t 1)⟩,⟨some 4,none,.mv (.t 11)⟩]) .ret))))
theorem Gi:Ad Tryz.prog 12=some ⟨12,D9,[(.tmp 4)]⟩:=by kernel_rfl
theorem Bp:modes 12=⟨[],.asis,none,false⟩:=by unfold modes; rfl
theorem Js (x:Ip) (k:Int) (h1:1≤k) (h2:k+(Tl.wtS x.tables:Nat)≤1099511627776):E 12 [.agg [.int .i64 x.size,.arr ((Tl.mkS x.tables k).1.map Tl.d)],.int .i64 k] []=some (.int .i64 (x.mkr k).2,[]):=by
 have e0:=Tl.mkS_end x.tables k
 rw [Ip.mkr]
 dsimp only
 have c0:=Sn x.tables k (by omega) (by omega)
 refine Ab Gi Bp (of_decide_eq_true rfl) ?_
 simp (disch:=omega) only [D9,go_sem,Aa,c0,G9]
def Cl.wt (x:Cl):Nat:=0+Lt.wtS x.lits
theorem Cl.wt_eq (x:Cl):x.wt=0+Lt.wtS x.lits:=rfl
noncomputable def Cl.mk1 (x:Cl) (k:Int):Cl × Int:=((Cl.mk ((Lt.mkS x.lits k).1)),(Lt.mkS x.lits k).2)
theorem Cl.mk1_eq (x:Cl) (k:Int):x.mk1 k=((Cl.mk ((Lt.mkS x.lits k).1)),(Lt.mkS x.lits k).2):=rfl
def Cl.wtS:List Cl→Nat
 | []=>0
 | x :: xs=>Cl.wt x+Cl.wtS xs
noncomputable def Cl.mkS:List Cl→Int→List Cl × Int
 | [],k=>([],k)
 | x :: xs,k=>((Cl.mk1 x k).1 :: (Cl.mkS xs (Cl.mk1 x k).2).1,(Cl.mkS xs (Cl.mk1 x k).2).2)
theorem Cl.mk1_o (x:Cl) (k:Int):Cl.o (x.mk1 k).1=[.ow ((Lt.mkS x.lits k).1.map Lt.o)]:=by
 rw [Cl.mk1_eq,Cl.o_eq]
 try rfl
theorem Cl.mk1_end (x:Cl) (k:Int):(x.mk1 k).2=k+x.wt:=by
 rw [Cl.mk1_eq,Cl.wt_eq]
 first
  |omega
  |(simp only [Lt.mkS_end]; done)
  |(simp only [Lt.mkS_end]; omega)
  |simp
theorem Cl.mkS_end:∀ (xs:List Cl) (k:Int),(Cl.mkS xs k).2=k+Cl.wtS xs
 | [],k=>by simp [Cl.mkS,Cl.wtS]
 | x :: xs,k=>by
  rw [Cl.mkS,Cl.wtS]
  have h1:=Cl.mk1_end x k
  have h2:=Cl.mkS_end xs (x.mk1 k).2
  dsimp only
  omega
theorem Cl.wt_bulk (x:Cl):x.wt≤5*(1+x.bulk):=by
 rw [Cl.wt_eq,Cl.bulk_eq]
 have h0:=Lt.wtS_bulk x.lits
 omega
theorem Cl.wtS_bulk:∀ xs:List Cl,Cl.wtS xs≤5*(xs.length+Cl.sumB xs)
 | []=>by simp [Cl.wtS]
 | x :: xs=>by
  have h1:=Cl.wt_bulk x
  have h2:=Cl.wtS_bulk xs
  rw [Cl.wtS,Cl.sumB]; simp only [zJ]; omega
def Gg:SC:=(.seq (.reg [⟨some 4,none,.mv (.c (.int .i64 0))⟩]) (.seq (.seq (.reg [⟨some 5,none,.mv (.c (.int .i64 0))⟩]) (.block 0 (.loop [1,1,0,0,0,1,0,0,0,0,0,0,0,0,0,0,0,0,0,0] (.seq (.seq (.reg [⟨some 6,none,.mv (.t 5)⟩,⟨some 7,none,.mv (.t 0)⟩,⟨some 8,none,.len false (.t 7)⟩,⟨some 9,none,.bin .lss false (.t 6) (.t 8)⟩]) (.cond (.t 9) .skip (.exit 0))) (.seq (.block 1 (.reg [⟨some 12,none,.mv (.t 0)⟩,⟨some 13,none,.mv (.t 5)⟩,⟨some 14,none,.iaddr 1 (.t 12) (.t 13)⟩,⟨some 15,none,.faddr 0 (.t 14)⟩,⟨some 16,none,.load false 1 (.t 15)⟩,⟨some 17,none,.mv (.t 1)⟩,⟨some 18,none,.call 32 [(.t 16),(.t 17)]⟩,⟨some 1,none,.mv (.t 18)⟩])) (.reg [⟨some 10,none,.mv (.t 5)⟩,⟨some 11,none,.bin .add false (.t 10) (.c (.int .i64 1))⟩,⟨some 5,none,.mv (.t 11)⟩])))))) (.seq (.reg [⟨some 19,none,.mv (.t 1)⟩,⟨some 4,none,.mv (.t 19)⟩]) .ret)))
theorem KW:Ad Tryz.prog 10=some ⟨20,Gg,[(.tmp 4)]⟩:=by kernel_rfl
theorem Cr:modes 10=⟨[true],.asis,none,true⟩:=by unfold modes; rfl
abbrev Km (xs:List Cl):Prop:=∀ (k:Int) (ob:List Ob),1≤k→k+Cl.wtS xs+xs.length≤1099511627776→toTree ob=[.tree (xs.map Cl.o) []]→E 10 [.ref 0,.int .i64 k] ob=some (.int .i64 (Cl.mkS xs k).2,[.tree ((Cl.mkS xs k).1.map Cl.o) []])
theorem MR (xs:List Cl):Km xs:=by
 intro k0 ob h1 h2 hob
 have hlen:ob.length=1:=by rw [←DV,hob]; rfl
 have hL:=yG 0
 refine Ab KW Cr (of_decide_eq_true rfl) ?_
 simp (disch:=omega) only [Gg,go_sem,Aa,hob,hlen]
 refine go_loop (α:=Int × (Int) × (List Cl)) (fun a=>⟨slots 20 0 [(0,.ref 0),(1,.int .i64 (a.2.1)),(5,.int .i64 (a.1))],[.tree (((a.2.2)++xs.drop (a.1).toNat).map Cl.o) []]⟩) (fun a=>∃ k:Nat,a.1=k∧k≤(xs).length∧(a.2.2).length=k∧1≤(a.2.1)∧(a.2.1)+Cl.wtS (xs.drop k)=k0+Cl.wtS xs∧Cl.mkS xs k0=((a.2.2)++(Cl.mkS (xs.drop k) (a.2.1)).1,(Cl.mkS (xs.drop k) (a.2.1)).2)) (fun a=>(xs).length-(a.1).toNat) (0,k0,[]) ⟨0,rfl,zD _,rfl,h1,by rw [zG],by simp⟩ (by simp (disch:=omega) only [go_sem,Aa,zU]) ?_
 rintro ⟨i,kk,dn⟩ ⟨k,hi,hk,hR⟩
 dsimp only at hi hR
 have hni:i.toNat=k:=by omega
 have hni1:(i+1).toNat=k+1:=by omega
 rcases zC k (xs).length with hlt | hge
 ·obtain ⟨hd,hk1,hkn,hm⟩:=hR
  have hdr:xs.drop k=xs[k] :: xs.drop (k+1):=zA hlt
  have hel:(dn++xs.drop k).length=xs.length:=by simp; omega
  have hg:(yE Cl.o (dn++xs.drop k))[k]?=some [.ow (xs[k].lits.map Lt.o)]:=by
   rw [←Cl.o_eq,hdr,zV,zL (by omega),hd,zQ]; rfl
  rw [hdr,Cl.wtS] at hkn
  rw [hdr,Cl.mkS] at hm
  have hn1:=Cl.wt_eq xs[k]
  have e0:=Lt.mkS_end xs[k].lits (kk)
  have c0:=P9 xs[k].lits (kk) [.tree (xs[k].lits.map Lt.o) []] (by omega) (by omega) rfl
  have hs:=Ef Cl.o dn (xs.drop (k+1)) xs[k] (xs[k].mk1 kk).1 hd
  rw [Cl.mk1_o,← hdr] at hs
  have hgs:∀ a,((yE Cl.o (dn++xs.drop k)).set k a)[k]?=some a:=fun a=>zR (by rw [zI,hel]; exact hlt)
  have he:=Cl.mk1_end xs[k] kk
  have three:∀ z:Int,dec ((3:Int)=0)=false:=fun _=>Aw (by omega)
  simp (disch:=omega) only [go_sem,Aa,hni,hel,hg,c0,Fw,CS,hgs,zY,yJ,hs,three 0]
  refine ⟨(i+1,(xs[k].mk1 kk).2,dn++[(xs[k].mk1 kk).1]),⟨k+1,by dsimp only; omega,hlt,by dsimp only; simp [hd],by dsimp only; omega,by dsimp only; omega,by rw [hm]; simp⟩,by dsimp only; omega,?_⟩
  dsimp only
  rw [hni1,Cl.mk1_eq]
  refine ⟨⟨?_,rfl⟩,rfl⟩
  first | rfl | omega
 ·obtain ⟨hd,hk1,hkn,hm⟩:=hR
  have hdr:xs.drop k=[]:=zF hge
  rw [hdr,Cl.mkS] at hm
  rw [hm]
  simp (disch:=omega) only [go_sem,Aa,hni,hdr,zS]
theorem Qa (xs:List Cl):Km xs:=MR xs
def CF:SC:=(.seq (.reg [⟨some 4,none,.mv (.c (.bool false))⟩]) (.seq (.reg [⟨some 5,none,.mv (.c (.int .i64 1048576))⟩]) (.seq (.reg [⟨some 19,none,.mv (.t 0)⟩,⟨some 20,none,.mv (.t 5)⟩,⟨some 21,none,.call 4 [(.t 19),(.t 20)]⟩,⟨some 5,none,.mv (.t 21)⟩]) (.seq (.seq (.reg [⟨some 22,none,.mv (.t 5)⟩,⟨some 23,none,.bin .lss false (.t 22) (.c (.int .i64 0))⟩]) (.cond (.t 23) (.seq (.reg [⟨some 4,none,.mv (.c (.bool true))⟩]) .ret) .skip)) (.seq (.reg [⟨some 25,none,.mv (.t 0)⟩,⟨some 26,none,.call 6 [(.t 25)]⟩,⟨some 27,none,.mv (.t 1)⟩,⟨some 28,none,.call 5 [(.t 26),(.t 27)]⟩,⟨some 24,none,.mv (.t 28)⟩,⟨some 29,none,.ext (.t 24) 0⟩,⟨some 30,none,.ext (.t 24) 1⟩,⟨some 31,none,.ext (.t 24) 2⟩,⟨some 6,none,.alloc 26 [(.int .i64 0),.nil]⟩,⟨none,none,(.store 2 (.t 6) (.t 29))⟩,⟨some 7,none,.mv (.t 30)⟩,⟨some 8,none,.mv (.t 31)⟩]) (.seq (.reg [⟨some 32,none,.mv (.t 0)⟩,⟨some 33,none,.call 6 [(.t 32)]⟩,⟨some 9,none,.mv (.t 33)⟩]) (.seq (.reg [⟨some 35,none,.mv (.t 9)⟩,⟨some 36,none,.mv (.t 1)⟩,⟨some 37,none,.call 7 [(.t 35),(.t 36)]⟩,⟨some 34,none,.mv (.t 37)⟩,⟨some 38,none,.ext (.t 34) 0⟩,⟨some 39,none,.ext (.t 34) 1⟩,⟨some 40,none,.ext (.t 34) 2⟩,⟨some 10,none,.alloc 26 [(.int .i64 0),.nil]⟩,⟨none,none,(.store 2 (.t 10) (.t 38))⟩,⟨some 11,none,.mv (.t 39)⟩,⟨some 12,none,.mv (.t 40)⟩]) (.seq (.seq (.reg [⟨some 41,none,.load true 2 (.t 10)⟩,⟨some 42,none,.load true 2 (.t 6)⟩,⟨some 43,none,.call 8 [(.t 41),(.t 42)]⟩,⟨some 44,none,.un .not (.t 43)⟩,⟨some 45,none,.mv (.t 44)⟩,⟨(some 46),(some (45,false)),(.mv (.t 11))⟩,⟨(some 47),(some (45,false)),(.mv (.t 7))⟩,⟨(some 48),(some (45,false)),(.bin .neq true (.t 46) (.t 47))⟩,⟨some 49,none,.pick (.t 45) (.c (.bool true)) (.t 48)⟩,⟨some 50,none,.mv (.t 49)⟩,⟨(some 51),(some (50,false)),(.mv (.t 12))⟩,⟨(some 52),(some (50,false)),(.mv (.t 8))⟩,⟨(some 53),(some (50,false)),(.bin .neq true (.t 51) (.t 52))⟩,⟨some 54,none,.pick (.t 50) (.c (.bool true)) (.t 53)⟩]) (.cond (.t 54) (.seq (.reg [⟨some 4,none,.mv (.c (.bool false))⟩]) .ret) .skip)) (.seq (.seq (.reg [⟨some 55,none,.mv (.t 9)⟩,⟨some 56,none,.mv (.t 0)⟩,⟨some 57,none,.call 6 [(.t 56)]⟩,⟨some 58,none,.call 9 [(.t 55),(.t 57)]⟩,⟨some 59,none,.un .not (.t 58)⟩]) (.cond (.t 59) (.seq (.reg [⟨some 4,none,.mv (.c (.bool false))⟩]) .ret) .skip)) (.seq (.reg [⟨some 13,none,.mv (.c (.int .i64 1))⟩]) (.seq (.reg [⟨some 60,none,.mv (.t 9)⟩,⟨some 61,none,.mv (.t 13)⟩,⟨some 62,none,.call 10 [(.t 60),(.t 61)]⟩,⟨some 13,none,.mv (.t 62)⟩]) (.seq (.seq (.reg [⟨some 63,none,.mv (.t 13)⟩,⟨some 64,none,.bin .lss false (.t 63) (.c (.int .i64 0))⟩,⟨some 65,none,.mv (.t 64)⟩,⟨(some 66),(some (65,false)),(.load true 2 (.t 10))⟩,⟨(some 67),(some (65,false)),(.load true 2 (.t 6))⟩,⟨(some 68),(some (65,false)),(.call 8 [(.t 66),(.t 67)])⟩,⟨(some 69),(some (65,false)),(.un .not (.t 68))⟩,⟨some 70,none,.pick (.t 65) (.c (.bool true)) (.t 69)⟩,⟨some 71,none,.mv (.t 70)⟩,⟨(some 72),(some (71,false)),(.mv (.t 11))⟩,⟨(some 73),(some (71,false)),(.mv (.t 7))⟩,⟨(some 74),(some (71,false)),(.bin .neq true (.t 72) (.t 73))⟩,⟨some 75,none,.pick (.t 71) (.c (.bool true)) (.t 74)⟩,⟨some 76,none,.mv (.t 75)⟩,⟨(some 77),(some (76,false)),(.mv (.t 12))⟩,⟨(some 78),(some (76,false)),(.mv (.t 8))⟩,⟨(some 79),(some (76,false)),(.bin .neq true (.t 77) (.t 78))⟩,⟨some 80,none,.pick (.t 76) (.c (.bool true)) (.t 79)⟩]) (.cond (.t 80) (.seq (.reg [⟨some 4,none,.mv (.c (.bool false))⟩]) .ret) .skip)) (.seq (.reg [⟨some 14,none,.mv (.c (.int .i64 1))⟩]) (.seq (.reg [⟨some 81,none,.load true 2 (.t 10)⟩,⟨some 82,none,.mv (.t 14)⟩,⟨some 83,none,.call 11 [(.t 81),(.t 82)]⟩,⟨some 14,none,.mv (.t 83)⟩]) (.seq (.reg [⟨some 15,none,.mv (.c (.int .i64 1))⟩]) (.seq (.reg [⟨some 84,none,.load true 2 (.t 10)⟩,⟨some 85,none,.mv (.t 15)⟩,⟨some 86,none,.call 12 [(.t 84),(.t 85)]⟩,⟨some 15,none,.mv (.t 86)⟩]) (.seq (.seq (.reg [⟨some 87,none,.mv (.t 15)⟩,⟨some 88,none,.bin .lss false (.t 87) (.c (.int .i64 0))⟩]) (.cond (.t 88) (.seq (.reg [⟨some 4,none,.mv (.c (.bool false))⟩]) .ret) .skip)) (.seq (.seq (.reg [⟨some 89,none,.mv (.t 15)⟩,⟨some 90,none,.mv (.t 14)⟩,⟨some 91,none,.bin .neq false (.t 89) (.t 90)⟩]) (.cond (.t 91) (.seq (.reg [⟨some 4,none,.mv (.c (.bool false))⟩]) .ret) .skip)) (.seq (.reg [⟨some 93,none,.mv (.t 0)⟩,⟨some 94,none,.call 6 [(.t 93)]⟩,⟨some 95,none,.mv (.t 1)⟩,⟨some 96,none,.call 7 [(.t 94),(.t 95)]⟩,⟨some 92,none,.mv (.t 96)⟩,⟨some 97,none,.ext (.t 92) 0⟩,⟨some 98,none,.ext (.t 92) 1⟩,⟨some 99,none,.ext (.t 92) 2⟩,⟨some 16,none,.alloc 26 [(.int .i64 0),.nil]⟩,⟨none,none,(.store 2 (.t 16) (.t 97))⟩,⟨some 17,none,.mv (.t 98)⟩,⟨some 18,none,.mv (.t 99)⟩]) (.seq (.seq (.reg [⟨some 100,none,.load true 2 (.t 16)⟩,⟨some 101,none,.load true 2 (.t 6)⟩,⟨some 102,none,.call 8 [(.t 100),(.t 101)]⟩,⟨some 103,none,.un .not (.t 102)⟩,⟨some 104,none,.mv (.t 103)⟩,⟨(some 105),(some (104,false)),(.mv (.t 17))⟩,⟨(some 106),(some (104,false)),(.mv (.t 7))⟩,⟨(some 107),(some (104,false)),(.bin .neq true (.t 105) (.t 106))⟩,⟨some 108,none,.pick (.t 104) (.c (.bool true)) (.t 107)⟩,⟨some 109,none,.mv (.t 108)⟩,⟨(some 110),(some (109,false)),(.mv (.t 18))⟩,⟨(some 111),(some (109,false)),(.mv (.t 8))⟩,⟨(some 112),(some (109,false)),(.bin .neq true (.t 110) (.t 111))⟩,⟨some 113,none,.pick (.t 109) (.c (.bool true)) (.t 112)⟩]) (.cond (.t 113) (.seq (.reg [⟨some 4,none,.mv (.c (.bool false))⟩]) .ret) .skip)) (.seq (.reg [⟨some 15,none,.mv (.c (.int .i64 1))⟩]) (.seq (.reg [⟨some 114,none,.load true 2 (.t 10)⟩,⟨some 115,none,.mv (.t 15)⟩,⟨some 116,none,.call 12 [(.t 114),(.t 115)]⟩,⟨some 15,none,.mv (.t 116)⟩]) (.seq (.seq (.reg [⟨some 117,none,.mv (.t 15)⟩,⟨some 118,none,.bin .lss false (.t 117) (.c (.int .i64 0))⟩]) (.cond (.t 118) (.seq (.reg [⟨some 4,none,.mv (.c (.bool false))⟩]) .ret) .skip)) (.seq (.seq (.reg [⟨some 119,none,.mv (.t 15)⟩,⟨some 120,none,.mv (.t 14)⟩,⟨some 121,none,.bin .neq false (.t 119) (.t 120)⟩]) (.cond (.t 121) (.seq (.reg [⟨some 4,none,.mv (.c (.bool false))⟩]) .ret) .skip)) (.seq (.reg [⟨some 4,none,.mv (.c (.bool true))⟩]) .ret)))))))))))))))))))))))))
theorem Ej:Ad Tryz.prog 3=some ⟨122,CF,[(.tmp 4)]⟩:=by kernel_rfl
theorem Ek:modes 3=⟨[],.asis,none,false⟩:=by unfold modes; rfl
theorem Qb6 (cs:List Cl) (sz:Int) (hfcs:D.fit (.arr (cs.map Cl.d))) (hfsz:-9223372036854775808≤sz∧sz≤9223372036854775807):E 3 [.arr (cs.map Cl.d),.int .i64 sz] []=some (.bool true,[]):=by
 have s0:=Uj cs hfcs 1048576 (by omega) (by omega)
 have q0:=AT 1048576 (cs.length+Cl.sumB cs)
 obtain ⟨l0,hl0⟩:∃ l,l=szR 1048576 ((cs.length+Cl.sumB cs):Nat):=⟨_,rfl⟩
 rw [←hl0] at s0 q0
 rcases Int.lt_or_le l0 0 with h0 | h0_0
 ·refine Ab Ej Ek (of_decide_eq_true rfl) ?_
  simp (disch:=omega) only [CF,go_sem,Aa,s0,Co]
 have hb_cs:(cs.length+Cl.sumB cs)≤1048576:=by omega
 have t_cs:=Uo cs hb_cs
 have hct:=Cl.XP hb_cs
 have a1:=NB cs (by omega) hct sz
 have a2:=Ue cs (by omega) hct sz
 have hb_r:=Qb4 cs sz
 obtain ⟨r,hr_r⟩:∃ r,r=fmI (fmT cs sz):=⟨_,rfl⟩
 rw [←hr_r] at a1 a2 hb_r
 obtain ⟨f,hr_f⟩:∃ r,r=fmF (fmT cs sz):=⟨_,rfl⟩
 rw [←hr_f] at a1 a2
 obtain ⟨o,hr_o⟩:∃ r,r=(fmT cs sz).isSome:=⟨_,rfl⟩
 rw [←hr_o] at a1 a2
 have eq_cs:=Ut cs (by omega)
 have w_cs:=Cl.wtS_bulk cs
 have eq_r:=KU r (by omega)
 have be_r:=Ip.bulk_eq r
 have w_r_tables:=Tl.wtS_bulk r.tables
 have k_cs:=Cl.mkS_end cs (1)
 have m_cs:=Qa cs (1) [.row 47 1 (cs.map Cl.o)] (by omega) (by omega) rfl
 obtain ⟨n_cs,hn_cs⟩:∃ n1,n1=(Cl.mkS cs (1)).2:=⟨_,rfl⟩
 rw [←hn_cs] at k_cs m_cs
 have k_r_0:=Tl.mkS_end r.tables (1)
 have m_r:=Jr r (1) (.tree (r.tables.map Tl.o) []) (by omega) (by omega) rfl
 have hd_r:=Js r (1) (by omega) (by omega)
 obtain ⟨n_r,hn_r⟩:∃ n1,n1=(r.mkr (1)).2:=⟨_,rfl⟩
 have hn'_r:n_r=(Tl.mkS r.tables (1)).2:=hn_r
 rw [←hn_r] at m_r hd_r
 refine Ab Ej Ek (of_decide_eq_true rfl) ?_
 simp (disch:=omega) only [CF,go_sem,s0,t_cs,a1,a2,eq_cs,eq_r,m_cs,hd_r,m_r,C9,Co,CD,CE,B0,Cr,Bp,Bo,BQ,AW,Cl.osv,Cl.obs,Lt.osv,Lt.obs,Tm.osv,Tm.obs,Ip.osv,Ip.obs,Tl.osv,Tl.obs,Cl.erss,Cl.noss,Tl.erss,Tl.noss]
 repeat ((first | (refine YL ?_ ?_; (focus (simp (disch:=omega) only [go_sem,s0,t_cs,a1,a2,eq_cs,eq_r,m_cs,hd_r,m_r,C9,Co,CD,CE,B0,Cr,Bp,Bo,BQ,AW,Cl.osv,Cl.obs,Lt.osv,Lt.obs,Tm.osv,Tm.obs,Ip.osv,Ip.obs,Tl.osv,Tl.obs,Cl.erss,Cl.noss,Tl.erss,Tl.noss]; done))) | (refine YM ?_ ?_; (focus (simp (disch:=omega) only [go_sem,s0,t_cs,a1,a2,eq_cs,eq_r,m_cs,hd_r,m_r,C9,Co,CD,CE,B0,Cr,Bp,Bo,BQ,AW,Cl.osv,Cl.obs,Lt.osv,Lt.obs,Tm.osv,Tm.obs,Ip.osv,Ip.obs,Tl.osv,Tl.obs,Cl.erss,Cl.noss,Tl.erss,Tl.noss]; done)))); (try simp (disch:=omega) only [go_sem,s0,t_cs,a1,a2,eq_cs,eq_r,m_cs,hd_r,m_r,C9,Co,CD,CE,B0,Cr,Bp,Bo,BQ,AW,Cl.osv,Cl.obs,Lt.osv,Lt.obs,Tm.osv,Tm.obs,Ip.osv,Ip.obs,Tl.osv,Tl.obs,Cl.erss,Cl.noss,Tl.erss,Tl.noss]))
end Go.Proofs.YtjkpbnbkofnajaaGreat
set_option maxRecDepth 100000
set_option linter.unusedSimpArgs false
set_option linter.unusedVariables false
set_option linter.unusedSectionVars false
namespace Go.Proofs.YtjkpbnbkofnajaaGreat
open Go.RowKit Go.ChangeShapes Go.WideShapes Go.ChangeAt Go.Deep
section
variable {H:Type} {enc:TypeId × Value→H} {P:Program} {w:World} {base:Nat} {spare:Nat→Bool} {held:Bool}
theorem Jt {b o k:Nat}:(⟨b,o,none⟩:Addr).add k=⟨b,o+k,none⟩:=by
 unfold Addr.add; split
 ·subst_vars; rfl
 ·rfl
theorem Qb7 {a:Addr} {v:Value} (h:w.cell? a=some v):a.block<w.heap.size:=by
 unfold World.cell? at h
 cases hb:w.heap[a.block]? with
 | none=>rw [hb] at h; cases h
 | some o=>exact (z6.1 hb).1
end
section
variable {H:Type} {enc:TypeId × Value→H} {w:World} {base:Nat} {spare:Nat→Bool} {held:Bool}
end
end Go.Proofs.YtjkpbnbkofnajaaGreat
set_option maxRecDepth 100000
set_option linter.unusedSimpArgs false
set_option linter.unusedVariables false
set_option linter.unusedSectionVars false
namespace Go.Proofs.YtjkpbnbkofnajaaGreat
open Go.RowKit Go.ChangeShapes Go.WideShapes Go.ChangeAt Go.Deep
section
variable {H:Type} {enc:TypeId × Value→H} {P:Program} {w:World} {base:Nat} {spare:Nat→Bool} {held:Bool}
theorem PA {t e:TypeId} {fuel:Nat} {v:Value} {x:DataW H × List MemPlace} (sz:Nat) (hsz:P.cellsOf e=sz) (h0:0<sz) (ht:P.underlying t=some (.slice e)) (h:DataW.trod enc P w base spare held fuel t [v]=some x) :
  ∃ (a:Option Addr) (len cap:Nat) (f:Nat→Nat→Value),v=.slice a len cap∧len≤cap∧cap≤9223372036854775807∧SlA w 0 sz len f a ∧
   ∀ i,i<len→∃ n x',n<fuel∧DataW.trod enc P w base spare held n e ((yF sz).map (f i))=some x':=by
 rcases DataW.trod_slice ht h with ⟨hcs,_⟩ | ⟨a,len,cap,elems,rest,n,hf,hcs,hx,hb,hl,hm,hlen,hel,_,_⟩
 ·simp only [List.cons.injEq,and_true] at hcs
  exact ⟨none,0,0,fun _ _=>undef,hcs,yG _,by omega,.inl rfl,fun i hi=>absurd hi (by omega)⟩
 ·have hi:∀ i,i<len→∃ cs' x',w.cells? base (a.add (i*sz)) sz=some cs'∧DataW.trod enc P w base spare held n e cs'=some x':=by
   intro i hi
   have h1:=hel i hi
   rw [hsz,zM (by omega)] at h1
   obtain ⟨cs',h2,h3⟩:=Option.bind_eq_some_iff.1 h1
   exact ⟨cs',_,h2,h3⟩
  have hcell:∀ i j,i<len→j<sz→∃ v,w.cell? (a.add (i*sz+j))=some v:=by
   intro i j hil hj
   obtain ⟨cs',x',hc,_⟩:=hi i hil
   obtain ⟨_,hcl,hat⟩:=World.cells?_some hc
   have h1:=hat j hj
   rw [Go.Deep.add_add,zM (by omega)] at h1
   exact ⟨_,h1⟩
  simp only [List.cons.injEq,and_true] at hcs
  refine ⟨some a,len,cap,fun i j=>(w.cell? (a.add (i*sz+j))).getD undef,hcs,hl,hm,?_,?_⟩
  ·rcases zX len with h | h
   ·exact .inl h
   ·obtain ⟨v,hv⟩:=hcell 0 0 h h0
    rw [Nat.zero_mul,Nat.zero_add] at hv
    have hsp:a.spot=none:=by simpa [Addr.add] using World.cell?_spot hv
    have hlt:=Qb7 hv
    obtain ⟨b,off,spot⟩:=a
    simp only at hsp
    subst hsp
    refine .inr ⟨b,off,rfl,zD _,by simpa [Addr.add] using hlt,fun i j hil hj=>?_⟩
    obtain ⟨v',hv'⟩:=hcell i j hil hj
    rw [Jt] at hv'
    show _=some ((w.cell? ((⟨b,off,none⟩:Addr).add (i*sz+j))).getD undef)
    rw [Jt,Nat.add_assoc,hv']
    rfl
  ·intro i hil
   obtain ⟨cs',x',hc,ht'⟩:=hi i hil
   obtain ⟨_,hcl,hat⟩:=World.cells?_some hc
   refine ⟨n,x',by omega,?_⟩
   have hcs':(yF sz).map (fun j=>(w.cell? (a.add (i*sz+j))).getD undef)=cs':=by
    apply List.ext_getElem?
    intro j
    by_cases hj:j<sz
    ·rw [zV,List.getElem?_range hj]
     have h1:=hat j hj
     rw [Go.Deep.add_add] at h1
     rw [zM (by omega:j<cs'.length)] at h1 ⊢
     simp [h1]
    ·rw [List.getElem?_eq_none (by simp; omega),List.getElem?_eq_none (by omega)]
   rw [hcs']
   exact ht'
theorem PB {t:TypeId} {fs:Array Field} {fuel:Nat} {cs:List Value} {x:DataW H × List MemPlace} (ht:P.underlying t=some (.struct fs)) (h:DataW.trod enc P w base spare held fuel t cs=some x) :
  ∃ n,n<fuel∧cs.length=P.cellsOf t∧∀ (i:Nat) (f:Field),fs[i]?=some f→∃ y,DataW.trod enc P w base spare held n f.type ((cs.drop f.offset).take (P.cellsOf f.type))=some y:=by
 obtain ⟨xs,n,hn,hx,hlen,hxl,hf⟩:=DataW.trod_struct ht h
 refine ⟨n,by omega,hlen,fun i f hi=>?_⟩
 have hil:i<fs.size:=(z6.1 hi).1
 have h1:=hf i f hi
 rw [zM (by omega:i<xs.length)] at h1
 exact ⟨_,h1⟩
end
inductive Lvs (w:World):List D→List Value→Prop
 |nil:Lvs w [] []
 |cons {d:D} {v:Value} {ds:List D} {vs:List Value} (h:DAt w d v) (hs:Lvs w ds vs):Lvs w (d :: ds) (v :: vs)
theorem Lvs.len {w:World} {ds:List D} {vs:List Value} (h:Lvs w ds vs):ds.length=vs.length:=by
 induction h with
 | nil=>rfl
 | cons h hs ih=>simp [ih]
theorem Lvs.get {w:World} {ds:List D} {vs:List Value} (h:Lvs w ds vs):∀ j (h1:j<ds.length) (h2:j<vs.length),DAt w ds[j] vs[j]:=by
 induction h with
 | nil=>intro j h1; simp at h1
 | cons h hs ih =>
  intro j h1 h2
  cases j with
  | zero=>exact h
  | succ j=>exact ih j (by simpa using h1) (by simpa using h2)
theorem PC {α:Type} [Inhabited α] (dd:α→List D) {w:World} {m len cap:Nat} {f:Nat→Nat→Value} {a:Option Addr} (hl:len≤cap) (hm:cap≤9223372036854775807) (hS:SlA w 0 m len f a)
  (hel:∀ i,i<len→∃ X:α,Lvs w (dd X) ((yF m).map (f i))):∃ xs:List α,DAt w (.arr (xs.map dd)) (.slice a len cap):=by
 obtain ⟨g,hg⟩:∃ g:Nat→α,∀ i,i<len→Lvs w (dd (g i)) ((yF m).map (f i)) :=
  ⟨fun i=>if h:i<len then (hel i h).choose else default,fun i hi=>by simp only [hi,dif_pos]; exact (hel i hi).choose_spec⟩
 refine ⟨(yF len).map g,?_⟩
 have hlen:(((yF len).map g).map dd).length=len:=by simp
 have:=DAt.QbJ (w:=w) (es:=((yF len).map g).map dd) (sz:=m) (cap:=cap) (a:=a) (f:=f) (by rw [hlen]; exact hl) hm (by rw [hlen]; exact hS) (fun i hi=>by
  rw [hlen] at hi
  have:=(hg i hi).len
  simpa using this) (fun i j hi hj=>by
  rw [hlen] at hi
  have h1:=hg i hi
  have h2:=h1.len
  simp only [zI,List.length_range] at h2
  simp only [yR,List.getElem_range] at hj ⊢
  have:=h1.get j hj (by simp; omega)
  simpa using this)
 rw [hlen] at this
 exact this
instance:Inhabited Tm:=⟨Tm.zero⟩
instance:Inhabited Fm:=⟨Fm.zero⟩
section
variable {H:Type} {enc:TypeId × Value→H} {w:World} {base:Nat} {spare:Nat→Bool} {held:Bool}
end
end Go.Proofs.YtjkpbnbkofnajaaGreat
set_option maxRecDepth 100000
set_option linter.unusedSimpArgs false
set_option linter.unusedVariables false
set_option linter.unusedSectionVars false
namespace Go.Proofs.YtjkpbnbkofnajaaGreat
open Go.RowKit
theorem DRep.lt_ {own:Bool} {w:World} {S:Nat→Prop} {d:D} {v:Value} (h:DRep own w S d v):DRep own w (fun b=>S b∧b<w.heap.size) d v:=by
 induction h with
 | int S n=>exact .int _ n
 | byte S n=>exact .byte _ n
 | nl S=>exact .nl _
 | bool S b=>exact .bool _ b
 | str S s h=>exact .str _ s h
 | arr S sz es a cap f Sub h1 h2 h3 h4 h5 h6 h7 ih =>
  refine .arr _ sz es a cap f (fun i j x=>Sub i j x∧x<w.heap.size) h1 h2 ?_ h4 (fun i j x h=>⟨h5 i j x h.1,h.2⟩) (fun ho i j i' j' x h h'=>h6 ho i j i' j' x h.1 h'.1) ih
  rcases h3 with h3 | ⟨b,off,ha,hS,hl,hc,ho⟩
  ·exact .inl h3
  ·exact .inr ⟨b,off,ha,⟨hS,hl⟩,hl,hc,fun h=>⟨fun i j hx=>(ho h).1 i j hx.1,(ho h).2⟩⟩
theorem DAt.rep {w:World} {es:List (List D)} {v:Value} (h:DAt w (.arr es) v):RepV w (fun b=>b<w.heap.size) (fun _=>none) (.arr es) v:=by
 simp only [RepV]
 exact (DRep.lt_ h).up fun b hb=>hb.2
theorem Fun.yes {f:FuncId} {args:List SV} (h:Fun Tryz.prog f args [] (.bool true) []) {w:World} {vs:List Value} (hgl:GL w fun b=>b<w.heap.size) (hvs:RepVs w (fun b=>b<w.heap.size) (fun _=>none) args vs):Calls Tryz.prog f vs.toArray w (Ret w (.bool true)):=by
 have nl:∀ g,¬ (Ae [] g).live:=fun g hg=>by simp [Ae,Ob.live] at hg
 refine (h w (fun b=>b<w.heap.size) (fun _=>none) (fun _ _=>False) vs ⟨fun b hb=>hb,fun g hg=>absurd hg (nl g),fun g b hg=>absurd hg (nl g),fun g b hg=>absurd hg (nl g),fun g g' b hg=>absurd hg (nl g),fun g _=>rfl,hgl⟩ hvs).mono ?_
 rintro e w' ⟨v,I',V',B',rfl,hr,hp⟩
 simp only [RepV] at hr
 subst hr
 exact ⟨rfl,hp.fr.os,hp.fr.tape.1,hp.fr.output,hp.fr.size,fun b hb=>hp.fr.block b hb fun ⟨g,hg,_⟩=>absurd hg (nl g)⟩
theorem Uv {w:World} {d:D} {ds:List D} {v:Value} {vs:List Value} (h:Lvs w (d :: ds) (v :: vs)):DAt w d v∧Lvs w ds vs:=by
 cases h with
 | cons h1 h2=>exact ⟨h1,h2⟩
theorem DAt.fit {w:World} {d:D} {v:Value} (h:DAt w d v):D.fit d:=DRep.fit h
theorem ZW {w:World} {I:Nat→Prop} {V:Nat→Option Value}:RepVs w I V [] []:=by simp [RepVs]
theorem Rn {w:World} {I:Nat→Prop} {V:Nat→Option Value} {x:SV} {xs:List SV} {v:Value} {vs:List Value} (h:RepV w I V x v) (hs:RepVs w I V xs vs):RepVs w I V (x :: xs) (v :: vs):=by
 simp only [RepVs]; exact ⟨v,vs,rfl,h,hs⟩
instance:Inhabited Lt:=⟨Lt.zero⟩
instance:Inhabited Cl:=⟨Cl.zero⟩
section
variable {H:Type} {enc:TypeId × Value→H} {w:World} {base:Nat} {spare:Nat→Bool} {held:Bool}
theorem Nx {fuel:Nat} (ih:∀ n,n<fuel→∀ v x,DataW.trod enc Tryz.prog w base spare held n 98 [v]=some x→∃ xs:List Tm,DAt w (.arr (xs.map Tm.d)) v) {cs:List Value} {x:DataW H × List MemPlace} (h:DataW.trod enc Tryz.prog w base spare held fuel 100 cs=some x):∃ X:Tm,Lvs w X.d cs:=by
 obtain ⟨n,hn,hlen,hf⟩:=PB Tryz.underlying100 h
 rw [show Tryz.prog.cellsOf 100=2 by kernel_rfl] at hlen
 match cs,hlen with
 | [c0,c1],_ =>
  obtain ⟨y0,k0⟩:=hf 0 _ rfl
  have e0:(([c0,c1].drop 0).take (Tryz.prog.cellsOf 9))=[c0]:=by rw [show Tryz.prog.cellsOf 9=1 by kernel_rfl]; rfl
  obtain ⟨z0,q0,_,s0⟩:=DataW.trod_string Tryz.underlying9 k0
  have q0':c0=.string z0:=by
   have:[c0]=[.string z0]:=by rw [←e0]; exact q0
   simpa using this
  obtain ⟨y1,k1⟩:=hf 1 _ rfl
  have e1:(([c0,c1].drop 1).take (Tryz.prog.cellsOf 98))=[c1]:=by rw [show Tryz.prog.cellsOf 98=1 by kernel_rfl]; rfl
  have k1':DataW.trod enc Tryz.prog w base spare held n 98 [c1]=some y1:=by rw [←e1]; exact k1
  obtain ⟨z1,g1⟩:=ih n hn c1 y1 k1'
  subst q0'
  exact ⟨.mk z0 z1,by rw [Tm.d_eq]; exact (.cons (.str _ z0 s0) (.cons g1 .nil))⟩
theorem Qb:∀ (fuel:Nat) (v:Value) (x:DataW H × List MemPlace),DataW.trod enc Tryz.prog w base spare held fuel 98 [v]=some x→∃ xs:List Tm,DAt w (.arr (xs.map Tm.d)) v:=by
 intro fuel
 induction fuel using Nat.strongRecOn with
 | _ fuel ih =>
  intro v x h
  obtain ⟨a,len,cap,f,rfl,hl,hm,hS,hr⟩:=PA (P:=Tryz.prog) 2 (by kernel_rfl) (by omega) Tryz.underlying98 h
  exact PC Tm.d hl hm hS fun i hi=>by
   obtain ⟨n,x',hn,h1⟩:=hr i hi
   exact Nx (fun n' hn'=>ih n' (by omega)) h1
theorem ZX {fuel:Nat} {cs:List Value} {x:DataW H × List MemPlace} (h:DataW.trod enc Tryz.prog w base spare held fuel 100 cs=some x):∃ X:Tm,Lvs w X.d cs :=
 Nx (fun n _=>Qb n) h
theorem Uw {fuel:Nat} {cs:List Value} {x:DataW H × List MemPlace} (h:DataW.trod enc Tryz.prog w base spare held fuel 102 cs=some x):∃ X:Lt,Lvs w X.d cs:=by
 obtain ⟨n,hn,hlen,hf⟩:=PB Tryz.underlying102 h
 rw [show Tryz.prog.cellsOf 102=3 by kernel_rfl] at hlen
 match cs,hlen with
 | [c0,c1,c2],_ =>
  obtain ⟨y0,k0⟩:=hf 0 _ rfl
  have e0:(([c0,c1,c2].drop 0).take (Tryz.prog.cellsOf 4))=[c0]:=by rw [show Tryz.prog.cellsOf 4=1 by kernel_rfl]; rfl
  obtain ⟨z0,q0,_⟩:=DataW.trod_bool Tryz.underlying4 k0
  have q0':c0=.bool z0:=by
   have:[c0]=[.bool z0]:=by rw [←e0]; exact q0
   simpa using this
  obtain ⟨y1,k1⟩:=hf 1 _ rfl
  have e1:(([c0,c1,c2].drop 1).take (Tryz.prog.cellsOf 100))=[c1,c2]:=by rw [show Tryz.prog.cellsOf 100=2 by kernel_rfl]; rfl
  have k1':DataW.trod enc Tryz.prog w base spare held n 100 [c1,c2]=some y1:=by rw [←e1]; exact k1
  obtain ⟨z1,g1⟩:=ZX k1'
  rw [Tm.d_eq] at g1
  obtain ⟨g1_0,g1⟩:=Uv g1
  obtain ⟨g1_1,g1⟩:=Uv g1
  subst q0'
  exact ⟨⟨z0,z1⟩,by rw [Lt.d_eq]; exact (.cons (.bool _ z0) (.cons g1_0 (.cons g1_1 .nil)))⟩
theorem So {fuel:Nat} {v:Value} {x:DataW H × List MemPlace} (h:DataW.trod enc Tryz.prog w base spare held fuel 37 [v]=some x):∃ xs:List Lt,DAt w (.arr (xs.map Lt.d)) v:=by
 obtain ⟨a,len,cap,f,rfl,hl,hm,hS,hr⟩:=PA (P:=Tryz.prog) 3 (by kernel_rfl) (by omega) Tryz.underlying37 h
 exact PC Lt.d hl hm hS fun i hi=>by
  obtain ⟨n,x',hn,h1⟩:=hr i hi
  exact Uw h1
theorem V8 {fuel:Nat} {cs:List Value} {x:DataW H × List MemPlace} (h:DataW.trod enc Tryz.prog w base spare held fuel 39 cs=some x):∃ X:Cl,Lvs w X.d cs:=by
 obtain ⟨n,hn,hlen,hf⟩:=PB Tryz.underlying39 h
 rw [show Tryz.prog.cellsOf 39=1 by kernel_rfl] at hlen
 match cs,hlen with
 | [c0],_ =>
  obtain ⟨y0,k0⟩:=hf 0 _ rfl
  have e0:(([c0].drop 0).take (Tryz.prog.cellsOf 37))=[c0]:=by rw [show Tryz.prog.cellsOf 37=1 by kernel_rfl]; rfl
  have k0':DataW.trod enc Tryz.prog w base spare held n 37 [c0]=some y0:=by rw [←e0]; exact k0
  obtain ⟨z0,g0⟩:=So k0'
  exact ⟨⟨z0⟩,by rw [Cl.d_eq]; exact (.cons g0 .nil)⟩
theorem Ux {fuel:Nat} {v:Value} {x:DataW H × List MemPlace} (h:DataW.trod enc Tryz.prog w base spare held fuel 22 [v]=some x):∃ xs:List Cl,DAt w (.arr (xs.map Cl.d)) v:=by
 obtain ⟨a,len,cap,f,rfl,hl,hm,hS,hr⟩:=PA (P:=Tryz.prog) 1 (by kernel_rfl) (by omega) Tryz.underlying22 h
 exact PC Cl.d hl hm hS fun i hi=>by
  obtain ⟨n,x',hn,h1⟩:=hr i hi
  exact V8 h1
end
end Go.Proofs.YtjkpbnbkofnajaaGreat
